/-
  FeedPlays, walked.
-/
import Derived.Test.YtkeicoadpdfkkaaFeedStart
namespace Go.Proofs.Ytkeicoadpdfkkaa
open Go.RowKit

set_option maxRecDepth 100000 in
set_option maxHeartbeats 8000000 in
theorem plays_walk (a0 : Option Addr) (cap0 : Nat) (xs : List Int) (a1 : Option Addr) (len1 cap1 : Nat) (A : Nat → Nat → Int) (w : World) (hX : LB w (.slice a0 xs.length cap0) xs) (hx : xs.length ≤ 200) (hu : ∀ x ∈ xs, 0 ≤ x ∧ x < 256) (hA : ActsAt w a1 len1 A) (hl1 : len1 ≤ 60) :
    Calls Try.prog 4 #[.slice a0 xs.length cap0, .slice a1 len1 cap1] w fun e w' => e = .returned (.bool true) ∧ w.grownBy w' none := by
  obtain ⟨i0, hi, hz0, hz1, hz2⟩ := info_parts info_byte
  obtain ⟨ao, cc, he, _, hcp0, hcm0, _⟩ := id hX
  cases he
  have h20 : ¬ (200 < (xs.length : Int)) := by omega
  have h60 : ¬ (60 < (len1 : Int)) := by omega
  have hrow : (w.alloc (.cells #[] 5)).ownsRow w.heap.size 5 1 (.slice (some ⟨w.heap.size, 0, none⟩) 0 0) 0 [] := World.ownsRow_made w #[] 0 (Nat.le_refl _) (by simp [maxLen]) rfl
  have h' := hX.keptN (g_alloc (g_refl w none) (.cells #[] 5))
  have HX := hid hX
  have HA := hid hA
  have HU := hid hu
  clear hX hA hu
  go_enter Try.func4, Try.ntmps4
  go_wp2_with (at_builtin; first | (refine wpList_append_LB rfl _ _ rfl w.heap.size w.heap.size rfl hrow _ xs rfl h' (by simp) ?_; intro v1 w1 hown1 hg1) | (refine wpList_append_lies _ rfl _ _ 22 rfl w.heap.size 5 i0 (.int .u8 0) 1 1 Try.underlying22 hi hz0 hz1 hz2 rfl (by decide) v1 xs.length (fb xs) rfl (hown1.alloc _) ⟨w1.heap.size, 0, none⟩ 1 1 [.int .u8 77] rfl rfl (cells_newB w1 [.int .u8 77] _) (by simp [Value.oneCell']) (by decide) (by unfold maxLen; omega) (by omega) (by have := hg1.size; simp at this ⊢; omega) _ rfl ?_; intro g cap w2 hown2 hg2 hat hlt; have hlc := row_more rfl hown2; obtain ⟨tail, hbg, hlc1, hlc2, hlc3⟩ := hlc))
  have hgA := g_alloc (g_new (g_alloc (g_refl w none) (.cells #[] 5)) hg1 (Nat.le_refl _)) (.cells #[.int .u8 77] 5)
  have hgB := g_trans hgA hg2 (fun r e => .inr (row_base hown1 r e).1)
  have hm2 := LB.ofBlk hbg (by omega) (by omega) hlc2
  clear hrow h' hg1 hg2 hat hlt hown1 hown2 hgA
  refine (new_any _ xs (by omega) w2 hm2).mono ?_
  rintro e w3 ⟨p, v, rfl, hF3, hg3, hp3, hv3⟩
  have gg3 := g_none hgB hg3
  have hb3 := hbg.keptN hg3
  have hgp : g < p := by have := hbg.lt; omega
  have hgv : ∀ r, v.ownBlock = some r → g < r := fun r e => by have := hbg.lt; have := (hv3 r e).1; omega
  have HV := hid hgv
  have B3 := hid hb3
  have F3 := hid hF3
  clear hg3 hm2 hgB hbg hb3 hF3 hv3 hgv
  go_wp2_with fail
  go_loopw [7] (fun i wr => ∃ (j : Nat) (zs : List Int), j ≤ xs.length ∧ i = .int .i64 j ∧ zs.length = xs.length ∧ Blk wr g 5 (fb zs ++ (.int .u8 77 :: tail)) ∧ FeedAt wr p v xs 0 ∧ w.grownBy wr none) (fun i _ => xs.length - (intOf i).toNat)
  case atStart => exact ⟨0, xs, by omega, rfl, rfl, B3.out, F3.out, gg3⟩
  case round =>
    obtain ⟨j, zs, hj, rfl, hzl, hbz, hF, hgr⟩ := hrel
    clear B3 F3 gg3
    by_cases hlt : j < xs.length
    · have HZ := hid hzl
      obtain ⟨z, hz⟩ : ∃ z, zs[j]? = some z := ⟨zs[j]'(by omega), List.getElem?_eq_getElem _⟩
      have hzf := fb_get hz
      have hcz : wr.cell? ⟨g, j, none⟩ = some (.int .u8 z) := hbz.cellOf (by rw [List.getElem?_append_left (List.getElem?_eq_some_iff.1 hzf).1]; exact hzf)
      have hfz := hbz.frozen j
      have HN1 := hid (blk_setB (IntKind.u8.wrap (z + 1)) hbz (by omega : j < zs.length))
      have HN2 := hid (hF.kept (grownBy_setCell'' wr g j (.int .u8 (IntKind.u8.wrap (z + 1)))) (by simp; omega) (.inl (fun e => by have := HV.out g e; omega)))
      have HN3 := hid (g_set hgr (a := ⟨g, j, none⟩) (.int .u8 (IntKind.u8.wrap (z + 1))) (.inr hlc3))
      clear hzf hbz hF hgr hz hzl
      go_wp2_with fail
      go_roundw
      case rel => exact ⟨j + 1, _, by omega, by go_num, by rw [List.length_set]; exact HZ.out, HN1.out, HN2.out, HN3.out⟩
      case measure => simp [intOf]; omega
    · obtain rfl : j = xs.length := by omega
      have hstr : (convert 22 9 (.slice a0 xs.length cap0)).run Try.prog wr = .ok (.string (strOfNums xs)) wr := LB.str (HX.out.keptN hgr)
      have BZ := hid (hbz.alloc (.cells #[.string (strOfNums xs), .int .i64 (0 : Int)] 41))
      have FZ := hid (hF.keptN (g_alloc (g_refl wr none) (.cells #[.string (strOfNums xs), .int .i64 (0 : Int)] 41)))
      have GZ := hid (g_alloc hgr (.cells #[.string (strOfNums xs), .int .i64 (0 : Int)] 41))
      have b8 := Blk.new wr [.string (strOfNums xs), .int .i64 (0 : Int)] 41
      have hgb := hbz.lt
      have hpb := hF.facts.2.2.2
      have hvb := hF.vlt
      clear hbz hF hgr
      go_wp2_with fail
      obtain ⟨b, hb⟩ : ∃ b, wr.heap.size = b := ⟨_, rfl⟩
      rw [hb] at b8 hgb hpb hvb ⊢
      obtain ⟨W0, hW0⟩ : ∃ W0, W0 = wr.alloc (.cells #[.string (strOfNums xs), .int .i64 (0 : Int)] 41) := ⟨_, rfl⟩
      rw [← hW0] at BZ FZ GZ b8 ⊢
      have B8 := hid b8
      have hpn : w.heap.size ≤ p := by omega
      clear hW0 hb hstr b8
      go_loopw [6, 9] (fun v6 v9 wq => ∃ (i p k : Nat) (v : Value), i ≤ len1 ∧ v9 = .int .i64 i ∧ v6 = .pointer (some ⟨p, 0, none⟩) ∧ FeedAt wq p v xs k ∧ Blk wq b 41 [.string (strOfNums xs), .int .i64 (k : Int)] ∧ Blk wq g 5 (fb zs ++ (.int .u8 77 :: tail)) ∧ w.grownBy wq none ∧ w.heap.size ≤ p ∧ g ≠ p ∧ b ≠ p ∧ v.ownBlock ≠ some b) (fun _ v9 _ => len1 - (intOf v9).toNat)
      case atStart => exact ⟨0, p, 0, v, by omega, rfl, rfl, FZ.out, by simpa using B8.out, BZ.out, GZ.out, hpn, by omega, by omega, fun e => by have := hvb b e; omega⟩
      case round =>
        clear hgp HV hpb hvb BZ FZ GZ B8 hpn hp3
        obtain ⟨i, p, k, v, hil, rfl, rfl, hF, b8, bz, hg, hpn, hgp, hbp, hvb⟩ := hrel
        by_cases hlt2 : i < len1
        · obtain ⟨lb, off, hla, hcell⟩ := (HA.out.kept hg) (by omega)
          subst hla
          obtain ⟨e0, e1⟩ := hcell i hlt2
          have k0 := b8.cellOf (i := 0) rfl
          have k1 := b8.cellOf (i := 1) rfl
          have hpw := hF.facts.2.2.2
          have hvl := hF.vlt
          have hblt := b8.lt
          have hglt := bz.lt
          have ea0 : ∀ o, (wr.alloc o).cell? ⟨lb, off + i * 2, none⟩ = some (.int .i64 (A i 0)) := fun o => g_cellN (g_alloc (g_refl _ none) o) e0
          have ea1 : ∀ o, (wr.alloc o).cell? ⟨lb, off + i * 2 + 1, none⟩ = some (.int .i64 (A i 1)) := fun o => g_cellN (g_alloc (g_refl _ none) o) e1
          have ka0 : ∀ o, (wr.alloc o).cell? ⟨b, 0, none⟩ = some (.string (strOfNums xs)) := fun o => g_cellN (g_alloc (g_refl _ none) o) k0
          have ka1 : ∀ o, (wr.alloc o).cell? ⟨b, 1, none⟩ = some (.int .i64 (k : Int)) := fun o => g_cellN (g_alloc (g_refl _ none) o) k1
          have hsd : wr.drew.heap.size = wr.heap.size := rfl
          have HF := hid hF
          have Hb8 := hid b8
          have Hbz := hid bz
          have Hg := hid hg
          clear hcell hF b8 bz
          go_wp2_with fail
          go_region_with (first | (go_at_call 16; refine (act_any p v xs HU.out k (A i 0) (A i 1) _ (HF.out.keptN (by first | exact g_drew (g_refl _ none) | exact g_alloc (g_drew (g_refl _ none)) _))).mono ?_; rintro e w6 ⟨p', v', k', rfl, hF6, hor, hg6⟩; try (have bn := (Blk.new wr.drew [.string { data := #[] }, .int .i64 0] 41).kept hg6 (by simp [hsd]; omega); rw [hsd] at bn; have f0 := bn.frozen 0; have f1 := (bn.set 0 (.string (strOfNums xs))).frozen 1; have c0 := bn.cellOf (i := 0) rfl; have c1 := (bn.set 0 (.string (strOfNums xs))).cellOf (i := 1) rfl)) | fail)
          all_goals first
          | (
            have hbn := bn
            go_must (
              have bB := (Hb8.out.alloc (.cells #[.string { data := #[] }, .int .i64 0] 41)).drew.kept hg6 (by simp; omega)
              have bG := (Hbz.out.alloc (.cells #[.string { data := #[] }, .int .i64 0] 41)).drew.kept hg6 (by simp; omega)
              have gW := g_new (g_drew (g_alloc Hg.out (.cells #[.string { data := #[] }, .int .i64 0] 41))) hg6 hpn
              have hsk : ((wr.alloc (.cells #[.string { data := #[] }, .int .i64 0] 41)).drew).heap.size = wr.heap.size + 1 := by show (wr.alloc _).heap.size = _; simp
              have hsw : wr.heap.size + 1 ≤ w6.heap.size := by have := hg6.size; omega
              rw [hsk] at hor
              obtain ⟨t, ht⟩ : ∃ t, wr.heap.size = t := ⟨_, rfl⟩
              have bT := (bn.set 0 (.string (strOfNums xs))).set 1 (.int .i64 (k' : Int))
              rw [ht] at bT ⊢
              replace bB := (bB.other (a := ⟨t, 0, none⟩) (by show b ≠ t; omega) (.string (strOfNums xs))).other (a := ⟨t, 1, none⟩) (by show b ≠ t; omega) (.int .i64 (k' : Int))
              replace bG := (bG.other (a := ⟨t, 0, none⟩) (by show g ≠ t; omega) (.string (strOfNums xs))).other (a := ⟨t, 1, none⟩) (by show g ≠ t; omega) (.int .i64 (k' : Int))
              replace gW := g_set (g_set gW (a := ⟨t, 0, none⟩) (.string (strOfNums xs)) (.inr (by show w.heap.size ≤ t; omega))) (a := ⟨t, 1, none⟩) (.int .i64 (k' : Int)) (.inr (by show w.heap.size ≤ t; omega))
              have hpt : p' ≠ t := by rcases hor with ⟨h1, _⟩ | ⟨h1, _⟩ <;> omega
              have hvt : v'.ownBlock ≠ some t := fun e => by
                rcases hor with ⟨_, h1⟩ | ⟨_, h1⟩
                · rw [h1] at e; have := hvl t e; omega
                · have := h1 t e; omega
              have hF7 := (hF6.kept (grownBy_setCell'' w6 t 0 (.string (strOfNums xs))) (by simp; omega) (.inl hvt)).kept (grownBy_setCell'' _ t 1 (.int .i64 (k' : Int))) (by simp; omega) (.inl hvt)
              obtain ⟨W6, hW6⟩ : ∃ W6, W6 = (w6.setCell ⟨t, 0, none⟩ (.string (strOfNums xs))).setCell ⟨t, 1, none⟩ (.int .i64 (k' : Int)) := ⟨_, rfl⟩
              rw [← hW6] at bT bB bG gW hF7
              have hbp2 : b ≠ p' := by rcases hor with ⟨h1, _⟩ | ⟨h1, _⟩ <;> omega
              have hgp2 : g ≠ p' := by rcases hor with ⟨h1, _⟩ | ⟨h1, _⟩ <;> omega
              have hpn2 : w.heap.size ≤ p' := by rcases hor with ⟨h1, _⟩ | ⟨h1, _⟩ <;> omega
              have hvb2 : v'.ownBlock ≠ some b := fun e => by
                rcases hor with ⟨_, h1⟩ | ⟨_, h1⟩
                · rw [h1] at e; exact hvb e
                · have := h1 b e; omega
              have htb : t ≠ b := by omega
              have f0 := bB.frozen 0
              have f1 := (bB.set 0 (.string (strOfNums xs))).frozen 1
              have c0 := bB.cellOf (i := 0) rfl
              have c1 := (bB.set 0 (.string (strOfNums xs))).cellOf (i := 1) rfl
              have q0 := bT.cellOf (i := 0) rfl
              have q1 := bT.cellOf (i := 1) rfl
              have bB2 := (bB.set 0 (.string (strOfNums xs))).set 1 (.int .i64 (k' : Int))
              have r0 := bB2.cellOf (i := 0) rfl
              have r1 := bB2.cellOf (i := 1) rfl
              have bG2 := (bG.other (a := ⟨b, 0, none⟩) (by show g ≠ b; omega) (.string (strOfNums xs))).other (a := ⟨b, 1, none⟩) (by show g ≠ b; omega) (.int .i64 (k' : Int))
              have gW2 := g_drew (g_set (g_set gW (a := ⟨b, 0, none⟩) (.string (strOfNums xs)) (.inr (by show w.heap.size ≤ b; omega))) (a := ⟨b, 1, none⟩) (.int .i64 (k' : Int)) (.inr (by show w.heap.size ≤ b; omega)))
              have hF8 := (hF7.kept (grownBy_setCell'' W6 b 0 (.string (strOfNums xs))) (by simp; omega) (.inl hvb2)).kept (grownBy_setCell'' _ b 1 (.int .i64 (k' : Int))) (by simp; omega) (.inl hvb2)
              have kS0 : ∀ u v, ((W6.drew.setCell ⟨b, 0, none⟩ u).setCell ⟨b, 1, none⟩ v).cell? ⟨t, 0, none⟩ = some (.string (strOfNums xs)) := fun u v => ((bT.drew.other (a := ⟨b, 0, none⟩) htb u).other (a := ⟨b, 1, none⟩) htb v).cellOf rfl
              have kS1 : ∀ u v, ((W6.drew.setCell ⟨b, 0, none⟩ u).setCell ⟨b, 1, none⟩ v).cell? ⟨t, 1, none⟩ = some (.int .i64 k') := fun u v => ((bT.drew.other (a := ⟨b, 0, none⟩) htb u).other (a := ⟨b, 1, none⟩) htb v).cellOf rfl
              have HB2 := hid bB2
              have HG2 := hid bG2
              have HW2 := hid gW2
              have HF8 := hid hF8
              clear bB bG gW bT hF7 hF6 hg6 HF Hb8 Hbz Hg bB2 bG2 gW2 hF8 ea0 ea1 ka0 ka1 e0 e1 k0 k1 hor hsd
              go_wp2_with fail
              rw [← hW6]
              clear hW6
              go_region_held3 (fun w' => w'.cell? ⟨t, 0, none⟩ = some (.string (strOfNums xs)) ∧ w'.cell? ⟨t, 1, none⟩ = some (.int .i64 k')) (first | assumption | exact ⟨q0, q1⟩ | exact ⟨kS0 _ _, kS1 _ _⟩) (fail)
              all_goals
                go_wp2_with fail
                refine (is_ok p' v' xs k' _ (HF8.out.keptN (g_drew (g_refl _ none)))).mono ?_
                rintro e w9 ⟨rfl, hg9⟩
                go_wp2_with fail
                go_roundw
                case rel => exact ⟨i + 1, p', k', v', by omega, by go_num, rfl, (HF8.out.keptN (g_drew (g_refl _ none))).keptN hg9, HB2.out.drew.keptN hg9, HG2.out.drew.keptN hg9, g_none HW2.out hg9, hpn2, hgp2, hbp2, hvb2⟩
                case measure => simp [intOf]; omega
              )
            )
          | (
            have bB := Hb8.out.drew.kept hg6 (by simp; omega)
            have bG := Hbz.out.drew.kept hg6 (by simp; omega)
            have gW := g_new (g_drew Hg.out) hg6 hpn
            have hsw : wr.heap.size ≤ w6.heap.size := hg6.size
            have hsk : wr.drew.heap.size = wr.heap.size := rfl
            rw [hsk] at hor
            obtain ⟨t, ht⟩ : ∃ t, w6.heap.size = t := ⟨_, rfl⟩
            have bT := Blk.new w6 [.string (strOfNums xs), .int .i64 (k' : Int)] 41
            rw [ht] at bT ⊢
            replace bB := bB.alloc (.cells #[.string (strOfNums xs), .int .i64 (k' : Int)] 41)
            replace bG := bG.alloc (.cells #[.string (strOfNums xs), .int .i64 (k' : Int)] 41)
            replace gW := g_alloc gW (.cells #[.string (strOfNums xs), .int .i64 (k' : Int)] 41)
            have hF7 := hF6.keptN (g_alloc (g_refl w6 none) (.cells #[.string (strOfNums xs), .int .i64 (k' : Int)] 41))
            obtain ⟨W6, hW6⟩ : ∃ W6, W6 = w6.alloc (.cells #[.string (strOfNums xs), .int .i64 (k' : Int)] 41) := ⟨_, rfl⟩
            rw [← hW6] at bT bB bG gW hF7
            have hbp2 : b ≠ p' := by rcases hor with ⟨h1, _⟩ | ⟨h1, _⟩ <;> omega
            have hgp2 : g ≠ p' := by rcases hor with ⟨h1, _⟩ | ⟨h1, _⟩ <;> omega
            have hpn2 : w.heap.size ≤ p' := by rcases hor with ⟨h1, _⟩ | ⟨h1, _⟩ <;> omega
            have hvb2 : v'.ownBlock ≠ some b := fun e => by
              rcases hor with ⟨_, h1⟩ | ⟨_, h1⟩
              · rw [h1] at e; exact hvb e
              · have := h1 b e; omega
            have htb : t ≠ b := by omega
            have f0 := bB.frozen 0
            have f1 := (bB.set 0 (.string (strOfNums xs))).frozen 1
            have c0 := bB.cellOf (i := 0) rfl
            have c1 := (bB.set 0 (.string (strOfNums xs))).cellOf (i := 1) rfl
            have q0 := bT.cellOf (i := 0) rfl
            have q1 := bT.cellOf (i := 1) rfl
            have bB2 := (bB.set 0 (.string (strOfNums xs))).set 1 (.int .i64 (k' : Int))
            have r0 := bB2.cellOf (i := 0) rfl
            have r1 := bB2.cellOf (i := 1) rfl
            have bG2 := (bG.other (a := ⟨b, 0, none⟩) (by show g ≠ b; omega) (.string (strOfNums xs))).other (a := ⟨b, 1, none⟩) (by show g ≠ b; omega) (.int .i64 (k' : Int))
            have gW2 := g_drew (g_set (g_set gW (a := ⟨b, 0, none⟩) (.string (strOfNums xs)) (.inr (by show w.heap.size ≤ b; omega))) (a := ⟨b, 1, none⟩) (.int .i64 (k' : Int)) (.inr (by show w.heap.size ≤ b; omega)))
            have hF8 := (hF7.kept (grownBy_setCell'' W6 b 0 (.string (strOfNums xs))) (by simp; omega) (.inl hvb2)).kept (grownBy_setCell'' _ b 1 (.int .i64 (k' : Int))) (by simp; omega) (.inl hvb2)
            have kS0 : ∀ u v, ((W6.drew.setCell ⟨b, 0, none⟩ u).setCell ⟨b, 1, none⟩ v).cell? ⟨t, 0, none⟩ = some (.string (strOfNums xs)) := fun u v => ((bT.drew.other (a := ⟨b, 0, none⟩) htb u).other (a := ⟨b, 1, none⟩) htb v).cellOf rfl
            have kS1 : ∀ u v, ((W6.drew.setCell ⟨b, 0, none⟩ u).setCell ⟨b, 1, none⟩ v).cell? ⟨t, 1, none⟩ = some (.int .i64 k') := fun u v => ((bT.drew.other (a := ⟨b, 0, none⟩) htb u).other (a := ⟨b, 1, none⟩) htb v).cellOf rfl
            have HB2 := hid bB2
            have HG2 := hid bG2
            have HW2 := hid gW2
            have HF8 := hid hF8
            clear bB bG gW bT hF7 hF6 hg6 HF Hb8 Hbz Hg bB2 bG2 gW2 hF8 ea0 ea1 ka0 ka1 e0 e1 k0 k1 hor hsd
            go_wp2_with fail
            rw [← hW6]
            clear hW6
            go_region_held3 (fun w' => w'.cell? ⟨t, 0, none⟩ = some (.string (strOfNums xs)) ∧ w'.cell? ⟨t, 1, none⟩ = some (.int .i64 k')) (first | assumption | exact ⟨q0, q1⟩ | exact ⟨kS0 _ _, kS1 _ _⟩) (fail)
            all_goals
              go_wp2_with fail
              refine (is_ok p' v' xs k' _ (HF8.out.keptN (g_drew (g_refl _ none)))).mono ?_
              rintro e w9 ⟨rfl, hg9⟩
              go_wp2_with fail
              go_roundw
              case rel => exact ⟨i + 1, p', k', v', by omega, by go_num, rfl, (HF8.out.keptN (g_drew (g_refl _ none))).keptN hg9, HB2.out.drew.keptN hg9, HG2.out.drew.keptN hg9, g_none HW2.out hg9, hpn2, hgp2, hbp2, hvb2⟩
              case measure => simp [intOf]; omega
            )
        · obtain rfl : i = len1 := by omega
          have h77 := blk_last bz hzl
          have HF := hid hF
          clear bz hF b8
          go_wp2_with fail
          refine (none_any2 _ _).mono ?_
          rintro e w6 ⟨rfl, hg6⟩
          have hF6 := HF.out.keptN hg6
          go_wp2_with fail
          refine (same_sn p v xs k none _ hF6 (.inl rfl)).mono ?_
          rintro e w7 ⟨rfl, rfl⟩
          go_wp2_with fail
          refine (same_ns none p v xs k _ (.inl rfl) hF6).mono ?_
          rintro e w7 ⟨rfl, rfl⟩
          have h776 := g_cellN hg6 h77
          go_wp2_with fail
          refine (works_true _).mono ?_
          rintro e w8 ⟨rfl, hg8⟩
          go_wp2_with fail
          go_ret
          exact ⟨rfl, g_none (g_none hg hg6) hg8⟩
end Go.Proofs.Ytkeicoadpdfkkaa
