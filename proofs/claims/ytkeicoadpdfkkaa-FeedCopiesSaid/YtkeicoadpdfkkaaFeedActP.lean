/-
  A call by both, that picks, or that copies.
-/
import Derived.Test.YtkeicoadpdfkkaaFeedActT
import Derived.Laws.Strings
namespace Go.Proofs.Ytkeicoadpdfkkaa
open Go.RowKit

set_option maxRecDepth 100000 in
set_option maxHeartbeats 8000000 in
theorem act_picks_no (p : Nat) (v : Value) (xs : List Int) (k k' : Nat) (what N : Int) (hw : what = 4) (hN : N < 1 ∨ 256 < N) (hk' : k' = k)
    (w : World) (h : FeedAt w p v xs k) :
    Calls Try.prog 16 #[.pointer (some ⟨p, 0, none⟩), RF xs k, .agg #[.int .i64 what, .int .i64 N]] w (ActPost p v xs w) := by
  subst hw hk'
  have hpw := h.facts.2.2.2
  have hvw := h.vlt
  obtain ⟨b1, b2, b3, hgA⟩ := act_cells xs k' 4 N w
  have h0 := h.keptN hgA
  have x0 := b2.cellOf (i := 0) rfl
  have x1 := b2.cellOf (i := 1) rfl
  have a0 := b1.cellOf (i := 0) rfl
  have a1 := b1.cellOf (i := 1) rfl
  have hpk := picksL_no p v xs k' N hN 2 (by omega) (by omega) _ h0
  have HF := hid h0
  clear h h0
  by_cases hN1 : N < 1
  all_goals
    try have hN2 : 256 < N := hN.resolve_left hN1
    clear hN
    go_enter Try.func16, Try.ntmps16
    go_wp2_with fail
    refine hpk.mono ?_
    rintro e w3 ⟨vl, rfl, hL, hg3⟩
    obtain ⟨al, cl, hvl, _⟩ := hL.len
    subst hvl
    have hs1 : w.heap.size + 3 ≤ w3.heap.size := by have := hg3.size; simpa using this
    have gg := g_alloc (g_none hgA hg3) (.cells #[.string (strOfNums xs), .int .i64 k'] 41)
    have gg3 : w.grownBy _ (some p) := g_weak gg
    have a2 := (b1.keptN hg3).cellOf (i := 0) rfl
    have a3 := (b1.keptN hg3).cellOf (i := 1) rfl
    have b7 := Blk.new w3 [.string (strOfNums xs), .int .i64 (k' : Int)] 41
    have b8 := (b3.keptN hg3).alloc (.cells #[.string (strOfNums xs), .int .i64 k'] 41)
    have x2 := ((b2.keptN hg3).alloc (.cells #[.string (strOfNums xs), .int .i64 k'] 41)).cellOf (i := 1) rfl
    have hFR := (HF.out.keptN hg3).keptN (g_alloc (g_refl w3 none) (.cells #[.string (strOfNums xs), .int .i64 k'] 41))
    obtain ⟨W, hW⟩ : ∃ W, W = w3.alloc (.cells #[.string (strOfNums xs), .int .i64 k'] 41) := ⟨_, rfl⟩
    rw [← hW] at gg gg3 b7 b8 x2 hFR
    clear b1 b2 b3 a0 a1 x0 x1 HF hgA hpk hg3 gg
    go_wp2_with fail
    rw [← hW]
    clear hW a2 a3
    go_loopw [32] (fun i wr => i = .int .i64 0 ∧ W = wr) (fun _ _ => 0)
    case atStart => exact ⟨rfl, rfl⟩
    case round =>
      obtain ⟨rfl, rfl⟩ := hrel
      have b9 := b8.set 0 (.string (strOfNums xs))
      have b10 := b9.set 1 (.int .i64 (k' : Int))
      have f0 := b8.frozen 0
      have f1 := b9.frozen 1
      have c0 := b8.cellOf (i := 0) rfl
      have c1 := b9.cellOf (i := 1) rfl
      have k2 := b7.cellOf (i := 0) rfl
      have k3 := b7.cellOf (i := 1) rfl
      have hne3 : w3.heap.size ≠ w.heap.size + 2 := by omega
      have kS0 : ∀ u v, ((W.drew.setCell ⟨w.heap.size + 2, 0, none⟩ u).setCell ⟨w.heap.size + 2, 1, none⟩ v).cell? ⟨w3.heap.size, 0, none⟩ = some (.string (strOfNums xs)) := fun u v => ((b7.drew.other (a := ⟨w.heap.size + 2, 0, none⟩) hne3 u).other (a := ⟨w.heap.size + 2, 1, none⟩) hne3 v).cellOf rfl
      have kS1 : ∀ u v, ((W.drew.setCell ⟨w.heap.size + 2, 0, none⟩ u).setCell ⟨w.heap.size + 2, 1, none⟩ v).cell? ⟨w3.heap.size, 1, none⟩ = some (.int .i64 k') := fun u v => ((b7.drew.other (a := ⟨w.heap.size + 2, 0, none⟩) hne3 u).other (a := ⟨w.heap.size + 2, 1, none⟩) hne3 v).cellOf rfl
      clear b7 b8 b9
      go_wp2_with fail
      go_region_held3 (fun w' => w'.cell? ⟨w3.heap.size, 0, none⟩ = some (.string (strOfNums xs)) ∧ w'.cell? ⟨w3.heap.size, 1, none⟩ = some (.int .i64 k')) (first | assumption | exact ⟨k2, k3⟩ | exact ⟨kS0 _ _, kS1 _ _⟩) (fail)
      all_goals
        go_wp2
        obtain ⟨hFf, hgf⟩ := act_fin (d := 1) (x := .string (strOfNums xs)) (y := .int .i64 (k' : Int)) hFR gg3 hpw hvw (show w.heap.size ≤ w.heap.size + 2 by omega)
        refine bodyPost_ret (results_trt rfl _ _ (w.heap.size + 2) _ _ _ _ rfl b10 Try.underlying41 rfl (by kernel_rfl)) rfl ?_
        exact ⟨p, v, k', rfl, hFf, .inl ⟨rfl, rfl⟩, hgf⟩

set_option maxRecDepth 100000 in
set_option maxHeartbeats 8000000 in
theorem act_picks_ok (p : Nat) (v : Value) (xs : List Int) (hu : ∀ x ∈ xs, 0 ≤ x ∧ x < 256) (k : Nat) (what N : Int) (hw : what = 4) (hN1 : 1 ≤ N) (hN2 : N ≤ 256)
    (w : World) (h : FeedAt w p v xs k) :
    Calls Try.prog 16 #[.pointer (some ⟨p, 0, none⟩), RF xs k, .agg #[.int .i64 what, .int .i64 N]] w (ActPost p v xs w) := by
  subst hw
  have hl := h.2.2.1
  have hkl := h.2.2.2.1
  have hpw := h.facts.2.2.2
  have hvw := h.vlt
  obtain ⟨b1, b2, b3, hgA⟩ := act_cells xs k 4 N w
  have h0 := h.keptN hgA
  have x0 := b2.cellOf (i := 0) rfl
  have x1 := b2.cellOf (i := 1) rfl
  have a0 := b1.cellOf (i := 0) rfl
  have a1 := b1.cellOf (i := 1) rfl
  have hpk := picksL_ok p v xs hu k N hN1 hN2 2 (by omega) (by omega) _ h0
  have HU := hid hu
  clear h h0 hu
  go_enter Try.func16, Try.ntmps16
  go_wp2_with fail
  refine hpk.mono ?_
  rintro e w3 ⟨vl, c, rfl, hc, hL, hF3, hg3⟩
  obtain ⟨al, cl, hvl, _, hlc, hlm⟩ := hL.len
  subst hvl
  rw [pickL_length] at *
  have hc2 : c ≤ 2 := by omega
  have HC : Hid (c = min 2 (xs.length - k)) := hid hc
  obtain ⟨k', hk'⟩ : ∃ k', k' = k + c := ⟨_, rfl⟩
  rw [← hk'] at hF3
  have HK : Hid (k' = k + c) := hid hk'
  have HL := hid hL
  have hs1 : w.heap.size + 3 ≤ w3.heap.size := by have := hg3.size; simpa using this
  have gg := g_trans (g_weak hgA) hg3 (fun r e => .inl e)
  have B1 := b1.kept hg3 (by simp; omega)
  have a2 := B1.cellOf (i := 0) rfl
  have a3 := B1.cellOf (i := 1) rfl
  have B2 := hid (b2.kept hg3 (by simp; omega))
  have B3 := hid (b3.kept hg3 (by simp; omega))
  have F3 := hid hF3
  have GG := hid gg
  have b7 := Blk.new w3 [.string (strOfNums xs), .int .i64 (k : Int)] 41
  have gW := g_alloc (g_refl w3 none) (.cells #[.string (strOfNums xs), .int .i64 k] 41)
  obtain ⟨W, hW⟩ : ∃ W, W = w3.alloc (.cells #[.string (strOfNums xs), .int .i64 k] 41) := ⟨_, rfl⟩
  rw [← hW] at b7 gW
  clear b1 b2 b3 a0 a1 x0 x1 hgA hpk hg3 gg hc hk' hL hF3 B1
  go_wp2_with fail
  rw [← hW]
  clear hW a2 a3
  go_loopw [32] (fun i wr => ∃ j : Nat, j ≤ c ∧ i = .int .i64 j ∧ w3.grownBy wr none ∧ Blk wr w3.heap.size 41 [.string (strOfNums xs), .int .i64 ((k + j : Nat) : Int)]) (fun i _ => c - (intOf i).toNat)
  case atStart => exact ⟨0, by omega, rfl, gW, b7⟩
  case round =>
    obtain ⟨j, hj, rfl, hgr, b7⟩ := hrel
    have x2 := (B2.out.keptN hgr).cellOf (i := 1) rfl
    have hkj : k + j ≤ xs.length := by have := HC.out; omega
    have hRL := refLeft_any xs (k + j) hkj hl
    obtain ⟨kj, hkje⟩ : ∃ kj, kj = k + j := ⟨_, rfl⟩
    rw [← hkje] at b7 hkj hRL
    have HKJ := hid hkje
    have e0 := b7.cellOf (i := 0) rfl
    have e1 := b7.cellOf (i := 1) rfl
    clear hkje
    by_cases hlt : j < c
    · have hkjl : kj < xs.length := by have h1 := HC.out; have h2 := HKJ.out; omega
      obtain ⟨x, hx⟩ : ∃ x, xs[kj]? = some x := ⟨xs[kj], List.getElem?_eq_getElem hkjl⟩
      have hRP := refPick_ok xs HU.out kj x hx N hN1 hN2 hl
      have hne : ¬ ((strOfNums (xs.drop kj)).toList = []) := by
        rw [ByteArray.toList_eq, strOfNums_data]
        intro he
        have h1 := congrArg List.length he
        rw [List.length_map, List.length_drop, List.length_nil] at h1
        omega
      have hne2 : (strOfNums (xs.drop kj)).toList.isEmpty = false := by
        rw [Bool.eq_false_iff]
        intro he
        exact hne (List.isEmpty_iff.1 he)
      have hpy : pickV ((xs.drop kj).take 1) N = x % N := by
        rw [List.drop_eq_getElem_cons hkjl, (List.getElem?_eq_some_iff.1 hx).2]
        rfl
      have hly := HL.out.keptN hgr
      obtain ⟨g, cl', he, hd⟩ := hly.at (by have := pickL_get (xs := xs) (k := k) (n := N) hlt; rw [← HKJ.out, hpy] at this; exact this)
      rw [pickL_length] at he
      cases he
      rw [Nat.zero_add] at hd
      have hj2 : (j : Int) < 2 := by omega
      have hjc : ¬ ((c : Int) ≤ (j : Int)) := by omega
      obtain ⟨kn, hkn⟩ : ∃ kn, kn = kj + 1 := ⟨_, rfl⟩
      rw [← hkn] at hRP
      have HKN := hid hkn
      clear hx hpy hly hkn hkjl hkj
      go_wp2_with fail
      refine (hRL _).mono ?_
      rintro e w4 ⟨rfl, hg4⟩
      have e2 := g_cellN hg4 e0
      have e3 := g_cellN hg4 e1
      have x3 := g_cellN hg4 x2
      have hd4 := g_cellN hg4 hd
      have hgr4 := g_none hgr hg4
      have b74 := b7.keptN hg4
      clear b7 hgr hg4 e0 e1 x2 hd
      go_wp2_with fail
      refine (hRP _).mono ?_
      rintro e w5 ⟨rfl, hg5⟩
      have hd5 := g_cellN (g_alloc hg5 (.cells #[.string (strOfNums xs), .int .i64 kn] 41)) hd4
      have hgr5 := g_alloc (g_none hgr4 hg5) (.cells #[.string (strOfNums xs), .int .i64 kn] 41)
      have bn := Blk.new w5 [.string (strOfNums xs), .int .i64 (kn : Int)] 41
      have n0 := bn.cellOf (i := 0) rfl
      have n1 := bn.cellOf (i := 1) rfl
      have q1 := (b74.keptN hg5).alloc (.cells #[.string (strOfNums xs), .int .i64 kn] 41)
      have q2 := q1.set 0 (.string (strOfNums xs))
      have q3 := q2.set 1 (.int .i64 (kn : Int))
      have f0 := q1.frozen 0
      have f1 := q2.frozen 1
      have c0 := q1.cellOf (i := 0) rfl
      have c1 := q2.cellOf (i := 1) rfl
      have hgn := g_set (g_set hgr5 (a := ⟨w3.heap.size, 0, none⟩) (.string (strOfNums xs)) (.inr (Nat.le_refl _))) (a := ⟨w3.heap.size, 1, none⟩) (.int .i64 (kn : Int)) (.inr (Nat.le_refl _))
      have HGN := hid hgn
      have Q3 := hid q3
      clear b74 hgr4 hgr5 hg5 bn q1 q2 q3 hgn e2 e3 x3 hd4
      go_wp2_with fail
      go_roundw
      case rel => exact ⟨j + 1, by omega, by go_num, HGN.out, by have h1 := HKN.out; have h2 := HKJ.out; have h3 := Q3.out; rw [show k + (j + 1) = kn by omega]; exact h3⟩
      case measure => simp [intOf]; omega
    · obtain rfl : j = c := by omega
      obtain rfl : kj = k' := by have h1 := HKJ.out; have h2 := HK.out; omega
      by_cases hc2' : j = 2
      · subst hc2'
        have b8 := B3.out.keptN hgr
        have hFR := F3.out.keptN hgr
        have gg3 := g_none GG.out hgr
        clear hgr e0 e1 x2 hRL HKJ HK HC
        have b9 := b8.set 0 (.string (strOfNums xs))
        have b10 := b9.set 1 (.int .i64 (kj : Int))
        have f0 := b8.frozen 0
        have f1 := b9.frozen 1
        have c0 := b8.cellOf (i := 0) rfl
        have c1 := b9.cellOf (i := 1) rfl
        have k2 := b7.cellOf (i := 0) rfl
        have k3 := b7.cellOf (i := 1) rfl
        have hne3 : w3.heap.size ≠ w.heap.size + 2 := by omega
        have kS0 : ∀ u v, ((wr.drew.setCell ⟨w.heap.size + 2, 0, none⟩ u).setCell ⟨w.heap.size + 2, 1, none⟩ v).cell? ⟨w3.heap.size, 0, none⟩ = some (.string (strOfNums xs)) := fun u v => ((b7.drew.other (a := ⟨w.heap.size + 2, 0, none⟩) hne3 u).other (a := ⟨w.heap.size + 2, 1, none⟩) hne3 v).cellOf rfl
        have kS1 : ∀ u v, ((wr.drew.setCell ⟨w.heap.size + 2, 0, none⟩ u).setCell ⟨w.heap.size + 2, 1, none⟩ v).cell? ⟨w3.heap.size, 1, none⟩ = some (.int .i64 kj) := fun u v => ((b7.drew.other (a := ⟨w.heap.size + 2, 0, none⟩) hne3 u).other (a := ⟨w.heap.size + 2, 1, none⟩) hne3 v).cellOf rfl
        clear b7 b8 b9
        go_wp2_with fail
        go_region_held3 (fun w' => w'.cell? ⟨w3.heap.size, 0, none⟩ = some (.string (strOfNums xs)) ∧ w'.cell? ⟨w3.heap.size, 1, none⟩ = some (.int .i64 kj)) (first | assumption | exact ⟨k2, k3⟩ | exact ⟨kS0 _ _, kS1 _ _⟩) (fail)
        all_goals
          go_wp2
          obtain ⟨hFf, hgf⟩ := act_fin (d := 1) (x := .string (strOfNums xs)) (y := .int .i64 (kj : Int)) hFR gg3 hpw hvw (show w.heap.size ≤ w.heap.size + 2 by omega)
          refine bodyPost_ret (results_trt rfl _ _ (w.heap.size + 2) _ _ _ _ rfl b10 Try.underlying41 rfl (by kernel_rfl)) rfl ?_
          exact ⟨p, v, kj, rfl, hFf, .inl ⟨rfl, rfl⟩, hgf⟩
      · have hend : xs.drop kj = [] := by
          apply List.drop_of_length_le
          have h1 := HC.out
          have h2 := HKJ.out
          omega
        rw [hend, show strOfNums [] = ({ data := #[] } : ByteArray) by decide] at hRL
        have hj2 : (j : Int) < 2 := by omega
        clear hend
        go_wp2_with fail
        refine (hRL _).mono ?_
        rintro e w4 ⟨rfl, hg4⟩
        have hgr4 := g_none hgr hg4
        replace b7 := b7.keptN hg4
        have b8 := B3.out.keptN hgr4
        have hFR := F3.out.keptN hgr4
        have gg3 := g_none GG.out hgr4
        clear hgr hgr4 hg4 e0 e1 x2 hRL HKJ HK HC
        have b9 := b8.set 0 (.string (strOfNums xs))
        have b10 := b9.set 1 (.int .i64 (kj : Int))
        have f0 := b8.frozen 0
        have f1 := b9.frozen 1
        have c0 := b8.cellOf (i := 0) rfl
        have c1 := b9.cellOf (i := 1) rfl
        have k2 := b7.cellOf (i := 0) rfl
        have k3 := b7.cellOf (i := 1) rfl
        have hne3 : w3.heap.size ≠ w.heap.size + 2 := by omega
        have kS0 : ∀ u v, ((w4.drew.setCell ⟨w.heap.size + 2, 0, none⟩ u).setCell ⟨w.heap.size + 2, 1, none⟩ v).cell? ⟨w3.heap.size, 0, none⟩ = some (.string (strOfNums xs)) := fun u v => ((b7.drew.other (a := ⟨w.heap.size + 2, 0, none⟩) hne3 u).other (a := ⟨w.heap.size + 2, 1, none⟩) hne3 v).cellOf rfl
        have kS1 : ∀ u v, ((w4.drew.setCell ⟨w.heap.size + 2, 0, none⟩ u).setCell ⟨w.heap.size + 2, 1, none⟩ v).cell? ⟨w3.heap.size, 1, none⟩ = some (.int .i64 kj) := fun u v => ((b7.drew.other (a := ⟨w.heap.size + 2, 0, none⟩) hne3 u).other (a := ⟨w.heap.size + 2, 1, none⟩) hne3 v).cellOf rfl
        clear b7 b8 b9
        go_wp2_with fail
        go_region_held3 (fun w' => w'.cell? ⟨w3.heap.size, 0, none⟩ = some (.string (strOfNums xs)) ∧ w'.cell? ⟨w3.heap.size, 1, none⟩ = some (.int .i64 kj)) (first | assumption | exact ⟨k2, k3⟩ | exact ⟨kS0 _ _, kS1 _ _⟩) (fail)
        all_goals
          go_wp2
          obtain ⟨hFf, hgf⟩ := act_fin (d := 1) (x := .string (strOfNums xs)) (y := .int .i64 (kj : Int)) hFR gg3 hpw hvw (show w.heap.size ≤ w.heap.size + 2 by omega)
          refine bodyPost_ret (results_trt rfl _ _ (w.heap.size + 2) _ _ _ _ rfl b10 Try.underlying41 rfl (by kernel_rfl)) rfl ?_
          exact ⟨p, v, kj, rfl, hFf, .inl ⟨rfl, rfl⟩, hgf⟩
end Go.Proofs.Ytkeicoadpdfkkaa
