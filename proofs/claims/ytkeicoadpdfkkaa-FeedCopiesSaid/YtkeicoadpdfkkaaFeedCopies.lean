/-
  FeedCopies, walked.
-/
import Derived.Test.YtkeicoadpdfkkaaFeedStart
import Derived.Laws.Strings
namespace Go.Proofs.Ytkeicoadpdfkkaa
open Go.RowKit

theorem str_ne {a b : List Int} (ha : ∀ x ∈ a, 0 ≤ x ∧ x < 256) (hb : ∀ x ∈ b, 0 ≤ x ∧ x < 256) (h : a ≠ b) : ((strOfNums a).toList == (strOfNums b).toList) = false := by
  rw [beq_eq_false_iff_ne]
  intro he
  rw [ByteArray.toList_eq, ByteArray.toList_eq, strOfNums_data, strOfNums_data] at he
  apply h
  have inj : ∀ (l m : List Int), (∀ x ∈ l, 0 ≤ x ∧ x < 256) → (∀ x ∈ m, 0 ≤ x ∧ x < 256) → l.map (fun n => UInt8.ofNat n.toNat) = m.map (fun n => UInt8.ofNat n.toNat) → l = m := by
    intro l
    induction l with
    | nil =>
      intro m _ _ he
      cases m with
      | nil => rfl
      | cons y m => simp at he
    | cons x l ih =>
      intro m hl hm he
      cases m with
      | nil => simp at he
      | cons y m =>
        simp only [List.map_cons, List.cons.injEq] at he
        have h1 := congrArg UInt8.toNat he.1
        have hx := hl x (by simp)
        have hy := hm y (by simp)
        simp at h1
        have : x = y := by omega
        rw [this, ih m (fun z hz => hl z (by simp [hz])) (fun z hz => hm z (by simp [hz])) he.2]
  exact inj a b ha hb he

abbrev CopS (xs : List Int) (k1 k2 t t2 : Nat) (w w' : World) : Prop := w'.cell? ⟨t, 0, none⟩ = some (.string (strOfNums xs)) ∧ w'.cell? ⟨t, 1, none⟩ = some (.int .i64 k1) ∧ w'.cell? ⟨t2, 0, none⟩ = some (.string (strOfNums xs)) ∧ w'.cell? ⟨t2, 1, none⟩ = some (.int .i64 k2) ∧ w.grownBy w' none
theorem CopS.more {xs : List Int} {k1 k2 t t2 : Nat} {w w1 w2 : World} (h : CopS xs k1 k2 t t2 w w1) (hg : w1.grownBy w2 none) : CopS xs k1 k2 t t2 w w2 := ⟨g_cellN hg h.1, g_cellN hg h.2.1, g_cellN hg h.2.2.1, g_cellN hg h.2.2.2.1, g_none h.2.2.2.2 hg⟩

set_option maxRecDepth 100000 in
set_option maxHeartbeats 8000000 in
theorem copies_walk (a0 : Option Addr) (cap0 : Nat) (xs : List Int) (a1 : Option Addr) (len1 cap1 : Nat) (A : Nat → Nat → Int) (B : Nat → Int) (w : World) (hX : LB w (.slice a0 xs.length cap0) xs) (hx : xs.length ≤ 100) (hu : ∀ x ∈ xs, 0 ≤ x ∧ x < 256) (hA : ActsAt w a1 len1 A) (hl1 : len1 ≤ 20) :
    Calls Try.prog 5 #[.slice a0 xs.length cap0, .slice a1 len1 cap1, .agg #[.int .i64 (B 0), .int .i64 (B 1), .int .i64 (B 2), .int .i64 (B 3)]] w fun e w' => e = .returned (.bool true) ∧ w.grownBy w' none := by
  have h20 : ¬ (100 < (xs.length : Int)) := by omega
  have h60 : ¬ (20 < (len1 : Int)) := by omega
  have hgA := g_alloc (g_refl w none) (.cells #[.int .i64 (B 0), .int .i64 (B 1), .int .i64 (B 2), .int .i64 (B 3)] 49)
  have b0 := Blk.new w [.int .i64 (B 0), .int .i64 (B 1), .int .i64 (B 2), .int .i64 (B 3)] 49
  have HX := hid hX
  have HA := hid hA
  have HU := hid hu
  clear hX hA hu
  go_enter Try.func5, Try.ntmps5
  go_wp2_with fail
  refine (new_any _ xs (by omega) _ (HX.out.keptN hgA)).mono ?_
  rintro e w3 ⟨p, v, rfl, hF3, hg3, hp3, hv3⟩
  rw [World.size_alloc] at hp3
  have gg3 := g_none hgA hg3
  have hb3 := b0.keptN hg3
  have hstr : (convert 22 9 (.slice a0 xs.length cap0)).run Try.prog w3 = .ok (.string (strOfNums xs)) w3 := LB.str (HX.out.keptN gg3)
  have BZ := hid (hb3.alloc (.cells #[.string (strOfNums xs), .int .i64 (0 : Int)] 41))
  have FZ := hid (hF3.keptN (g_alloc (g_refl w3 none) (.cells #[.string (strOfNums xs), .int .i64 (0 : Int)] 41)))
  have GZ := hid (g_alloc gg3 (.cells #[.string (strOfNums xs), .int .i64 (0 : Int)] 41))
  have b8 := Blk.new w3 [.string (strOfNums xs), .int .i64 (0 : Int)] 41
  have hpb := hF3.facts.2.2.2
  have hvb := hF3.vlt
  have hsw : w.heap.size + 1 ≤ w3.heap.size := by have := hg3.size; simpa using this
  clear hF3 hg3 gg3 hb3 b0 hgA hv3
  go_wp2_with fail
  obtain ⟨b, hb⟩ : ∃ b, w3.heap.size = b := ⟨_, rfl⟩
  rw [hb] at b8 hpb hvb hsw ⊢
  obtain ⟨W0, hW0⟩ : ∃ W0, W0 = w3.alloc (.cells #[.string (strOfNums xs), .int .i64 (0 : Int)] 41) := ⟨_, rfl⟩
  rw [← hW0] at BZ FZ GZ b8 ⊢
  have B8 := hid b8
  clear hW0 hb hstr b8
  go_loopw [7, 9] (fun v7 v9 wq => ∃ (i p k : Nat) (v : Value), i ≤ len1 ∧ v9 = .int .i64 i ∧ v7 = .pointer (some ⟨p, 0, none⟩) ∧ FeedAt wq p v xs k ∧ Blk wq b 41 [.string (strOfNums xs), .int .i64 (k : Int)] ∧ Blk wq w.heap.size 49 [.int .i64 (B 0), .int .i64 (B 1), .int .i64 (B 2), .int .i64 (B 3)] ∧ w.grownBy wq none ∧ w.heap.size < p ∧ b ≠ p ∧ v.ownBlock ≠ some b) (fun _ v9 _ => len1 - (intOf v9).toNat)
  case atStart => exact ⟨0, p, 0, v, by omega, rfl, rfl, FZ.out, by simpa using B8.out, BZ.out, GZ.out, by omega, by omega, fun e => by have := hvb b e; omega⟩
  case round =>
    clear hpb hvb BZ FZ GZ B8 hp3
    obtain ⟨i, p, k, v, hil, rfl, rfl, hF, b8, bz, hg, hpn, hbp, hvb⟩ := hrel
    have k0 := b8.cellOf (i := 0) rfl
    have k1 := b8.cellOf (i := 1) rfl
    have hpw := hF.facts.2.2.2
    have hvl := hF.vlt
    have hblt := b8.lt
    have hglt := bz.lt
    have HF := hid hF
    have Hb8 := hid b8
    have Hbz := hid bz
    have Hg := hid hg
    by_cases hlt2 : i < len1
    · obtain ⟨lb, off, hla, hcell⟩ := (HA.out.kept hg) (by omega)
      subst hla
      obtain ⟨e0, e1⟩ := hcell i hlt2
      have hsd : wr.drew.heap.size = wr.heap.size := rfl
      clear hcell hF b8 bz hg
      go_wp2_with fail
      go_region_with (first | (go_at_call 16; refine (act_any p v xs HU.out k (A i 0) (A i 1) _ (HF.out.keptN (by exact g_drew (g_refl _ none)))).mono ?_; rintro e w6 ⟨p', v', k', rfl, hF6, hor, hg6⟩; have bB := Hb8.out.drew.kept hg6 (by simp; omega); have f0 := bB.frozen 0; have f1 := (bB.set 0 (.string (strOfNums xs))).frozen 1; have c0 := bB.cellOf (i := 0) rfl; have c1 := (bB.set 0 (.string (strOfNums xs))).cellOf (i := 1) rfl) | fail)
      all_goals
        rw [hsd] at hor
        have hsw6 : wr.heap.size ≤ w6.heap.size := hg6.size
        have hbp2 : b ≠ p' := by rcases hor with ⟨h1, _⟩ | ⟨h1, _⟩ <;> omega
        have hpn2 : w.heap.size < p' := by rcases hor with ⟨h1, _⟩ | ⟨h1, _⟩ <;> omega
        have hvb2 : v'.ownBlock ≠ some b := fun e => by
          rcases hor with ⟨_, h1⟩ | ⟨_, h1⟩
          · rw [h1] at e; exact hvb e
          · have := h1 b e; omega
        have bB2 := (bB.set 0 (.string (strOfNums xs))).set 1 (.int .i64 (k' : Int))
        have bG := Hbz.out.drew.kept hg6 (by simp; omega)
        have bG2 := (bG.other (a := ⟨b, 0, none⟩) (by show w.heap.size ≠ b; omega) (.string (strOfNums xs))).other (a := ⟨b, 1, none⟩) (by show w.heap.size ≠ b; omega) (.int .i64 (k' : Int))
        have gW := g_new (g_drew Hg.out) hg6 (by omega)
        have gW2 := g_set (g_set gW (a := ⟨b, 0, none⟩) (.string (strOfNums xs)) (.inr (by show w.heap.size ≤ b; omega))) (a := ⟨b, 1, none⟩) (.int .i64 (k' : Int)) (.inr (by show w.heap.size ≤ b; omega))
        have hF8 := (hF6.kept (grownBy_setCell'' w6 b 0 (.string (strOfNums xs))) (by simp; omega) (.inl hvb2)).kept (grownBy_setCell'' _ b 1 (.int .i64 (k' : Int))) (by simp; omega) (.inl hvb2)
        have HB2 := hid bB2
        have HG2 := hid bG2
        have HW2 := hid gW2
        have HF8 := hid hF8
        clear bB bG bB2 bG2 gW gW2 hF8 hF6 hg6 HF Hb8 Hbz Hg f0 f1 c0 c1 e0 e1 k0 k1
        go_wp2_with fail
        go_roundw
        case rel => exact ⟨i + 1, p', k', v', by omega, by go_num, rfl, HF8.out, HB2.out, HG2.out, HW2.out, hpn2, hbp2, hvb2⟩
        case measure => simp [intOf]; omega
    · obtain rfl : i = len1 := by omega
      clear hF b8 bz hg
      go_wp2_with fail
      refine (copy_some p v xs k _ HF.out).mono ?_
      rintro e w4 ⟨q, u, rfl, hQ, hgc, hq, hub⟩
      have hF4 := HF.out.keptN hgc
      have b4 := Hb8.out.keptN hgc
      have z4 := Hbz.out.keptN hgc
      have g4 := g_none Hg.out hgc
      have l0 := b4.cellOf (i := 0) rfl
      have l1 := b4.cellOf (i := 1) rfl
      have z0 := z4.cellOf (i := 0) rfl
      have z1 := z4.cellOf (i := 1) rfl
      have hs4 : wr.heap.size ≤ w4.heap.size := hgc.size
      have hq4 := hQ.facts.2.2.2
      have HQ := hid hQ
      have B4 := hid b4
      have Z4 := hid z4
      have G4 := hid g4
      clear hgc hQ b4 z4 g4 k0 k1 HF Hb8 Hbz Hg
      go_wp2_with fail
      refine (act_any p v xs HU.out k (B 0) (B 1) _ hF4).mono ?_
      rintro e w5 ⟨p1, v1, k1', rfl, hF5, hor5, hg5⟩
      have hs5 : w4.heap.size ≤ w5.heap.size := hg5.size
      have hp1q : p1 ≠ q := by rcases hor5 with ⟨h1, _⟩ | ⟨h1, _⟩ <;> omega
      have hv1q : v1.ownBlock ≠ some q := fun e => by
        rcases hor5 with ⟨_, h1⟩ | ⟨_, h1⟩
        · rw [h1] at e; have := hvl q e; omega
        · have := h1 q e; omega
      have huq : u.ownBlock ≠ some p := fun e => by have := (hub p e).1; omega
      have Q5 := hid ((HQ.out.kept hg5 (by simp; omega) (.inl huq)).keptN (g_alloc (g_refl w5 none) (.cells #[.string (strOfNums xs), .int .i64 (k1' : Int)] 41)))
      have F5 := hid (hF5.keptN (g_alloc (g_refl w5 none) (.cells #[.string (strOfNums xs), .int .i64 (k1' : Int)] 41)))
      have b5 := (B4.out.kept hg5 (by simp; omega)).alloc (.cells #[.string (strOfNums xs), .int .i64 (k1' : Int)] 41)
      have z5 := (Z4.out.kept hg5 (by simp; omega)).alloc (.cells #[.string (strOfNums xs), .int .i64 (k1' : Int)] 41)
      have T5 := hid (Blk.new w5 [.string (strOfNums xs), .int .i64 (k1' : Int)] 41)
      have G5 := hid (g_alloc (g_new G4.out hg5 (by omega)) (.cells #[.string (strOfNums xs), .int .i64 (k1' : Int)] 41))
      have m0 := b5.cellOf (i := 0) rfl
      have m1 := b5.cellOf (i := 1) rfl
      have z2 := z5.cellOf (i := 2) rfl
      have z3 := z5.cellOf (i := 3) rfl
      have hk1 := hF5.2.2.2.1
      have hl := hF5.2.2.1
      have hp1w5 := hF5.facts.2.2.2
      have hv1w5 := hF5.vlt
      clear hg5 hF5 hF4 HQ B4 Z4 G4 b5 z5 l0 l1 z0 z1
      go_wp2_with fail
      obtain ⟨t, ht⟩ : ∃ t, w5.heap.size = t := ⟨_, rfl⟩
      obtain ⟨W5, hW5⟩ : ∃ W5, W5 = w5.alloc (.cells #[.string (strOfNums xs), .int .i64 (k1' : Int)] 41) := ⟨_, rfl⟩
      have hsW5 : W5.heap.size = t + 1 := by rw [hW5, World.size_alloc, ht]
      rw [← hW5, ht] at T5
      rw [← hW5] at Q5 F5 G5 m0 m1 z2 z3 ⊢
      rw [ht] at hs5 hp1w5 hv1w5 ⊢
      clear hW5 ht
      refine (act_any q u xs HU.out k (B 2) (B 3) _ Q5.out).mono ?_
      rintro e w6 ⟨p2, v2, k2', rfl, hF6, hor6, hg6⟩
      have hs6 : W5.heap.size ≤ w6.heap.size := hg6.size
      have F6 := hid ((F5.out.kept hg6 (by simp; omega) (.inl hv1q)).keptN (g_alloc (g_refl w6 none) (.cells #[.string (strOfNums xs), .int .i64 (k2' : Int)] 41)))
      have Q6 := hid (hF6.keptN (g_alloc (g_refl w6 none) (.cells #[.string (strOfNums xs), .int .i64 (k2' : Int)] 41)))
      have t6 := (T5.out.kept hg6 (by simp; omega)).alloc (.cells #[.string (strOfNums xs), .int .i64 (k2' : Int)] 41)
      have t7 := Blk.new w6 [.string (strOfNums xs), .int .i64 (k2' : Int)] 41
      have G6 := hid (g_alloc (g_new G5.out hg6 (by omega)) (.cells #[.string (strOfNums xs), .int .i64 (k2' : Int)] 41))
      have hk2 := hF6.2.2.2.1
      have n0 := t6.cellOf (i := 0) rfl
      have n1 := t6.cellOf (i := 1) rfl
      have n2 := t7.cellOf (i := 0) rfl
      have n3 := t7.cellOf (i := 1) rfl
      clear hg6 hF6 Q5 F5 T5 G5 t6 t7 m0 m1 z2 z3 hor6 hor5
      have cL1 := refLeft_any xs k1' hk1 hl
      have cL2 := refLeft_any xs k2' hk2 hl
      obtain ⟨r, hr⟩ : ∃ r, r = decide (xs.drop k1' = xs.drop k2') := ⟨_, rfl⟩
      have hSr : ((strOfNums (xs.drop k1')).toList == (strOfNums (xs.drop k2')).toList) = r := by
        by_cases hd : xs.drop k1' = xs.drop k2'
        · rw [hr, hd]; simp
        · rw [hr, str_ne (fun x hx => HU.out x (List.mem_of_mem_drop hx)) (fun x hx => HU.out x (List.mem_of_mem_drop hx)) hd]; simp [hd]
      have cS1 : ∀ w, FeedAt w p1 v1 xs k1' → FeedAt w p2 v2 xs k2' → Calls Try.prog 13 #[.pointer (some ⟨p1, 0, none⟩), .pointer (some ⟨p2, 0, none⟩)] w fun e w' => e = .returned (.bool r) ∧ ∃ n, w.drewN n = w' := fun w h1 h2 => by rw [hr]; exact same_some p1 p2 v1 v2 xs xs k1' k2' w h1 h2
      have cS2 : ∀ w, FeedAt w p1 v1 xs k1' → FeedAt w p2 v2 xs k2' → Calls Try.prog 13 #[.pointer (some ⟨p2, 0, none⟩), .pointer (some ⟨p1, 0, none⟩)] w fun e w' => e = .returned (.bool r) ∧ ∃ n, w.drewN n = w' := fun w h1 h2 => by
        have h3 := same_some p2 p1 v2 v1 xs xs k2' k1' w h2 h1
        rw [show decide (xs.drop k2' = xs.drop k1') = r by rw [hr]; simp [eq_comm]] at h3
        exact h3
      generalize strOfNums (xs.drop k1') = S1 at *
      generalize strOfNums (xs.drop k2') = S2 at *
      clear hr
      go_wp2_with fail
      obtain ⟨t2, ht2⟩ : ∃ t2, w6.heap.size = t2 := ⟨_, rfl⟩
      obtain ⟨W6, hW6⟩ : ∃ W6, W6 = w6.alloc (.cells #[.string (strOfNums xs), .int .i64 (k2' : Int)] 41) := ⟨_, rfl⟩
      rw [← hW6, ht2] at n2 n3
      rw [← hW6] at F6 Q6 G6 n0 n1 ⊢
      rw [ht2]
      clear hW6 ht2
      have hS0 : CopS xs k1' k2' t t2 W6 W6 := ⟨n0, n1, n2, n3, g_refl _ _⟩
      have hS1 : CopS xs k1' k2' t t2 W6 W6.drew := ⟨n0, n1, n2, n3, g_drew (g_refl _ _)⟩
      go_region_held3 (fun w' => w'.cell? ⟨t, 0, none⟩ = some (.string (strOfNums xs)) ∧ w'.cell? ⟨t, 1, none⟩ = some (.int .i64 k1') ∧ w'.cell? ⟨t2, 0, none⟩ = some (.string (strOfNums xs)) ∧ w'.cell? ⟨t2, 1, none⟩ = some (.int .i64 k2') ∧ W6.grownBy w' none)
        (first | assumption | exact CopS.more (by assumption) hgL)
        (first
          | (go_at_call 19; first | (refine (cL1 _).mono ?_; rintro e w7 ⟨rfl, hgL⟩) | (refine (cL2 _).mono ?_; rintro e w7 ⟨rfl, hgL⟩))
          | fail)
      all_goals
        obtain ⟨o0, o1, o2, o3, hg7⟩ := (show CopS xs k1' k2' t t2 W6 _ by assumption)
        have F7 := F6.out.keptN hg7
        have Q7 := Q6.out.keptN hg7
        have G7 := g_none G6.out hg7
        clear hS0 hS1 n0 n1 n2 n3 cL1 cL2
        go_wp2_with fail
        refine (is_ok p1 v1 xs k1' _ F7).mono ?_
        rintro e w8 ⟨rfl, hg8⟩
        have F8 := F7.keptN hg8
        have Q8 := Q7.keptN hg8
        have G8 := g_none G7 hg8
        have o4 := g_cellN hg8 o2
        have o5 := g_cellN hg8 o3
        clear F7 Q7 G7 hg8 o0 o1 o2 o3
        go_wp2_with fail
        refine (is_ok p2 v2 xs k2' _ Q8).mono ?_
        rintro e w9 ⟨rfl, hg9⟩
        have F9 := F8.keptN hg9
        have Q9 := Q8.keptN hg9
        have G9 := g_none G8 hg9
        clear F8 Q8 G8 hg9 o4 o5
        go_wp2_with fail
        refine (cS1 _ F9 Q9).mono ?_
        rintro e w10 ⟨rfl, m1, rfl⟩
        have F10 := F9.keptN (g_drewM (g_refl w9 none) m1)
        have Q10 := Q9.keptN (g_drewM (g_refl w9 none) m1)
        clear F9 Q9
        go_wp2_with fail
        refine (cS2 _ F10 Q10).mono ?_
        rintro e w11 ⟨rfl, m2, rfl⟩
        clear F10 Q10
        go_wp2_with fail
        refine (works_true _).mono ?_
        rintro e w12 ⟨rfl, hg12⟩
        go_wp2_with fail
        go_ret
        exact ⟨rfl, g_none (g_drewM G9 (m1 + m2)) hg12⟩
end Go.Proofs.Ytkeicoadpdfkkaa
