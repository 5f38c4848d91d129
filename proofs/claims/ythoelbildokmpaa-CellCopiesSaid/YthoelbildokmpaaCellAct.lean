/-
  A call by both; do cells stand as the document's; cell.Same.
-/
import Derived.Test.YthoelbildokmpaaCellRef
namespace Go.Proofs.Ythoelbildokmpaa
open Go.RowKit

/-- Which list stands behind a call. -/
def actL (xs : List (Int × Int)) (q0 q1 q2 q3 : Int) : List (Int × Int) :=
  if q0 == 0 then upd xs q1 q3 else if q0 == 1 then swp xs q1 q2 q3 else xs
theorem actL_length (xs : List (Int × Int)) (q0 q1 q2 q3 : Int) : (actL xs q0 q1 q2 q3).length = xs.length := by
  unfold actL; split
  · exact upd_length _ _ _
  · split
    · exact swp_length _ _ _ _
    · rfl
theorem Small.act {xs : List (Int × Int)} {K : Nat} (h : Small xs K) (q0 q1 q2 q3 : Int) : Small (actL xs q0 q1 q2 q3) (K + 1) := by
  unfold actL; split
  · exact h.upd _ _
  · split
    · exact h.swp _ _ _
    · exact h.more (by omega)

theorem ListAt.kept_cells {w w' : World} {v : Value} {xs ys : List (Int × Int)} {p g : Nat} (h : ListAt w 82 v xs) (hc : CellsAt w p g ys) (hg : w.grownBy w' (some g)) : ListAt w' 82 v xs := by
  refine h.kept hg (fun r e => ?_)
  cases e
  obtain ⟨g', cap, tail, rfl, hb, _⟩ := h
  obtain ⟨cap2, tail2, _, hb2, _⟩ := hc
  intro e
  have : g' = g := by simpa [Value.ownBlock] using e
  subst this
  have := (show w.heap[g']? = _ from hb).symm.trans hb2
  simp at this

set_option maxHeartbeats 1000000 in
theorem is_true (p g : Nat) (v : Value) (xs : List (Int × Int)) (hx : xs.length ≤ 1024) (w : World) (hc : CellsAt w p g xs) (hl : ListAt w 82 v xs) :
    Calls Try.prog 19 #[.pointer (some ⟨p, 0, none⟩), v] w fun e w' => e = .returned (.bool true) ∧ w.grownBy w' none := by
  have HS := hid (SliceOf.list hl (by omega))
  obtain ⟨gv, cap, rfl, _, _, hcells⟩ := hl.facts
  have HC := hid hcells
  clear hcells
  go_enter Try.func19, Try.ntmps19
  go_wp2
  go_loopw [5] (fun v wr => ∃ (k : Nat), k ≤ xs.length ∧ v = .int .i64 k ∧ wr = w) (fun v _ => xs.length - (intOf v).toNat)
  case atStart => exact ⟨0, Nat.zero_le _, rfl, rfl⟩
  case round =>
    obtain ⟨k, hk, rfl, rfl⟩ := hrel
    by_cases hlt : k < xs.length
    · obtain ⟨⟨u, c⟩, hxk⟩ : ∃ x, xs[k]? = some x := ⟨xs[k], List.getElem?_eq_getElem hlt⟩
      obtain ⟨d1, e1⟩ := HC.out k u c hxk
      have HX := hid hxk
      clear hxk
      go_wp2_with fail
      refine (load_in p g xs k u c HX.out _ hc).mono ?_
      rintro e _ ⟨rfl, rfl⟩
      go_wp2_with fail
      refine (count_in p g xs k u c HX.out _ hc).mono ?_
      rintro e _ ⟨rfl, rfl⟩
      go_wp2_with (go_at_call 8; refine (num_any _ _).mono ?_; rintro e _ ⟨rfl, rfl⟩)
      go_roundw
      case rel => exact ⟨k + 1, by omega, by go_num, trivial⟩
      case measure => simp [intOf]; omega
    · obtain rfl : k = xs.length := by omega
      go_wp2_with fail
      refine (len_some p g xs _ hc).mono ?_
      rintro e _ ⟨rfl, rfl⟩
      go_wp2_with fail
      refine (all_any _ xs (by omega) 2000 (by omega) (by omega) _ (.inr ⟨p, g, rfl, hc⟩)).mono ?_
      rintro e w1 ⟨v1, rfl, hs1, hg1⟩
      go_wp2_with fail
      refine (rows_any _ xs (by omega) w1 (hl.keptN hg1)).mono ?_
      rintro e w2 ⟨v2, rfl, hs2, hg2, _⟩
      go_wp2_with fail
      refine (lawSame_any _ _ _ _ w2 (hs1.keptN hg2) hs2).mono ?_
      rintro e w3 ⟨rfl, n3, rfl⟩
      have hfin : decide (pairs ((nz 0 xs).take 2000) = pairs (nz 0 xs)) = true := by
        rw [List.take_of_length_le (by have := nz_length xs 0; omega)]; simp
      have HF := hid hfin
      clear hfin
      simp only [HF.out]
      go_wp2
      go_ret
      exact ⟨rfl, g_drewN (g_none hg1 hg2) n3⟩

theorem same_nn (v1 v2 : Option Addr) (w : World) (h1 : IsNone w v1) (h2 : IsNone w v2) :
    Calls Try.prog 17 #[.pointer v1, .pointer v2] w fun e w' => e = .returned (.bool true) ∧ w = w' := by
  go_enter Try.func17, Try.ntmps17
  go_wp2_with fail
  refine (none_none v1 _ h1).mono ?_
  rintro e _ ⟨rfl, rfl⟩
  go_wp2_with fail
  refine (none_none v1 _ h1).mono ?_
  rintro e _ ⟨rfl, rfl⟩
  go_wp2_with fail
  refine (none_none v2 _ h2).mono ?_
  rintro e _ ⟨rfl, rfl⟩
  go_wp2_with fail
  go_ret
  exact ⟨rfl, rfl⟩
theorem same_ns (v1 : Option Addr) (p g : Nat) (xs : List (Int × Int)) (w : World) (h1 : IsNone w v1) (h2 : CellsAt w p g xs) :
    Calls Try.prog 17 #[.pointer v1, .pointer (some ⟨p, 0, none⟩)] w fun e w' => e = .returned (.bool false) ∧ w = w' := by
  go_enter Try.func17, Try.ntmps17
  go_wp2_with fail
  refine (none_none v1 _ h1).mono ?_
  rintro e _ ⟨rfl, rfl⟩
  go_wp2_with fail
  refine (none_none v1 _ h1).mono ?_
  rintro e _ ⟨rfl, rfl⟩
  go_wp2_with fail
  refine (none_some p _ _ _ h2).mono ?_
  rintro e _ ⟨rfl, rfl⟩
  go_wp2_with fail
  go_ret
  exact ⟨rfl, rfl⟩
theorem same_sn (v2 : Option Addr) (p g : Nat) (xs : List (Int × Int)) (w : World) (h1 : CellsAt w p g xs) (h2 : IsNone w v2) :
    Calls Try.prog 17 #[.pointer (some ⟨p, 0, none⟩), .pointer v2] w fun e w' => e = .returned (.bool false) ∧ w = w' := by
  go_enter Try.func17, Try.ntmps17
  go_wp2_with fail
  refine (none_some p _ _ _ h1).mono ?_
  rintro e _ ⟨rfl, rfl⟩
  go_wp2_with fail
  refine (none_none v2 _ h2).mono ?_
  rintro e _ ⟨rfl, rfl⟩
  go_wp2_with fail
  refine (none_some p _ _ _ h1).mono ?_
  rintro e _ ⟨rfl, rfl⟩
  go_wp2_with fail
  go_ret
  exact ⟨rfl, rfl⟩
theorem same_ss (p1 g1 p2 g2 : Nat) (xs ys : List (Int × Int)) (hx : xs.length ≤ 1000000) (hy : ys.length ≤ 1000000) (w : World) (h1 : CellsAt w p1 g1 xs) (h2 : CellsAt w p2 g2 ys) :
    Calls Try.prog 17 #[.pointer (some ⟨p1, 0, none⟩), .pointer (some ⟨p2, 0, none⟩)] w fun e w' => e = .returned (.bool (decide (xs = ys))) ∧ w.grownBy w' none := by
  obtain ⟨cap1, c1, hl1⟩ := h1.list
  obtain ⟨cap2, c2, hl2⟩ := h2.list
  have S1 := hid (SliceOf.list hl1 hx)
  have S2 := hid (SliceOf.list hl2 hy)
  clear hl1 hl2
  go_enter Try.func17, Try.ntmps17
  go_wp2_with fail
  refine (none_some p1 _ _ _ h1).mono ?_
  rintro e _ ⟨rfl, rfl⟩
  go_wp2_with fail
  refine (none_some p2 _ _ _ h2).mono ?_
  rintro e _ ⟨rfl, rfl⟩
  go_wp2_with fail
  go_still_tail 8, (by kernel_rfl)
  change wpList _ _ _ _ _ w.drew
  go_wp2_with fail
  refine (equal_any _ _ xs ys w.drew S1.out S2.out).mono ?_
  rintro e w1 ⟨rfl, n1, rfl⟩
  go_wp2
  go_ret
  exact ⟨rfl, g_drewN (g_refl w none) _⟩

theorem there_in (a : Option Addr) (xs : List (Int × Int)) (c k : Nat) (hk : k < xs.length) (w : World) :
    Calls Try.prog 35 #[.slice a xs.length c, .int .i64 k] w fun e w' => e = .returned (.bool true) ∧ w = w' := by
  have := there_any a xs.length c k w
  rwa [show decide (0 ≤ (k : Int) ∧ (k : Int) < (xs.length : Nat)) = true by simp; omega] at this
theorem there_out (a : Option Addr) (xs : List (Int × Int)) (c : Nat) (i : Int) (hi : i < 0 ∨ xs.length ≤ i) (w : World) :
    Calls Try.prog 35 #[.slice a xs.length c, .int .i64 i] w fun e w' => e = .returned (.bool false) ∧ w = w' := by
  have := there_any a xs.length c i w
  rwa [show decide (0 ≤ i ∧ i < (xs.length : Nat)) = false by simp; omega] at this
theorem actL_0 {xs : List (Int × Int)} {q0 q1 q2 q3 : Int} (h : (q0 == 0) = true) : actL xs q0 q1 q2 q3 = upd xs q1 q3 := by simp only [actL, h, if_true]
theorem actL_1 {xs : List (Int × Int)} {q0 q1 q2 q3 : Int} (h0 : (q0 == 0) = false) (h : (q0 == 1) = true) : actL xs q0 q1 q2 q3 = swp xs q1 q2 q3 := by simp [actL, h0, h]
theorem actL_2 {xs : List (Int × Int)} {q0 q1 q2 q3 : Int} (h0 : (q0 == 0) = false) (h : (q0 == 1) = false) : actL xs q0 q1 q2 q3 = xs := by simp [actL, h0, h]
theorem upd_out {xs : List (Int × Int)} {i : Int} (h : inR xs i = false) (n : Int) : upd xs i n = xs := by simp [upd, h]
theorem swp_out {xs : List (Int × Int)} {i : Int} (h : inR xs i = false) (fr to : Int) : swp xs i fr to = xs := by simp [swp, swB, h]
theorem swp_yes {xs : List (Int × Int)} {k : Nat} {u c : Int} (h : xs[k]? = some (u, c)) (to : Int) : swp xs k u to = xs.set k (to, c + 1) := by
  rw [swp, if_pos (by simp [swB, inR_of h, wordOf_of h]), upd_of h]
theorem swp_no {xs : List (Int × Int)} {k : Nat} {u c fr : Int} (h : xs[k]? = some (u, c)) (hne : (u == fr) = false) (to : Int) : swp xs k fr to = xs := by
  rw [swp, if_neg (by simp [swB, inR_of h, wordOf_of h]; simpa using hne)]

/-- What a call leaves. -/
def ActPost (p g : Nat) (ys : List (Int × Int)) (w : World) (e : Ending) (w' : World) : Prop :=
  ∃ p' g' v', e = .returned (.tuple #[.pointer (some ⟨p', 0, none⟩), v', .bool true]) ∧ CellsAt w' p' g' ys ∧ ListAt w' 82 v' ys ∧ w.grownBy w' (some g) ∧ ((p' = p ∧ g' = g) ∨ (w.heap.size ≤ p' ∧ w.heap.size ≤ g'))

set_option maxRecDepth 100000 in
set_option maxHeartbeats 1000000 in
theorem act0_in (p g : Nat) (v : Value) (xs : List (Int × Int)) (hx : xs.length ≤ 1024) (K : Nat) (hK : K ≤ 1000) (hs : Small xs K) (q0 q1 q2 q3 : Int) (h0 : (q0 == 0) = true) (k : Nat) (u c : Int) (hq : q1 = k) (hxk : xs[k]? = some (u, c)) (w : World) (hc : CellsAt w p g xs) (hl : ListAt w 82 v xs) :
    Calls Try.prog 18 #[.pointer (some ⟨p, 0, none⟩), v, .agg #[.int .i64 q0, .int .i64 q1, .int .u64 q2, .int .u64 q3]] w (ActPost p g (xs.set k (q3, c + 1)) w) := by
  obtain ⟨gv, cap, rfl, _, _, hcells⟩ := hl.facts
  have hgl := hc.lt
  have hgA : w.grownBy (w.alloc (.cells #[.int .i64 q0, .int .i64 q1, .int .u64 q2, .int .u64 q3] 36)) none := g_alloc (g_refl w _) _
  have hb := Blk.new w [.int .i64 q0, .int .i64 q1, .int .u64 q2, .int .u64 q3] 36
  replace hc := hc.keptN hgA
  replace hl := hl.keptN hgA
  subst hq
  have hbs := hs.get hxk
  have hk : k < xs.length := (List.getElem?_eq_some_iff.1 hxk).1
  have HX := hid hxk
  clear hxk hcells
  go_enter Try.func18, Try.ntmps18
  go_wp2_with fail
  refine (there_in _ xs cap k hk _).mono ?_
  rintro e _ ⟨rfl, rfl⟩
  go_wp2_with fail
  refine (store_in p g xs k u c q3 HX.out (by omega) (by omega) _ hc).mono ?_
  rintro e w2 ⟨rfl, hc2, hg2⟩
  have hl2 := hl.kept_cells hc hg2
  have hb2 := hb.kept hg2 (fun e => by simp at e; omega)
  have e0 := hb2.cellOf (i := 0) rfl
  have e1 := hb2.cellOf (i := 1) rfl
  have e2 := hb2.cellOf (i := 2) rfl
  have e3 := hb2.cellOf (i := 3) rfl
  go_wp2_with fail
  refine (refStore_any _ xs k u c q3 HX.out (by omega) (by omega) (by omega) w2 hl2).mono ?_
  rintro e w3 ⟨v3, rfl, hl3, hg3⟩
  go_wp2_with (go_at_call 8; refine (num_any _ _).mono ?_; rintro e _ ⟨rfl, rfl⟩)
  go_ret3
  exact ⟨p, g, v3, rfl, hc2.keptN hg3, hl3, g_none (g_trans (g_weak hgA) hg2 (fun r e => .inl e)) hg3, .inl ⟨rfl, rfl⟩⟩

set_option maxRecDepth 100000 in
set_option maxHeartbeats 1000000 in
theorem act0_out (p g : Nat) (v : Value) (xs : List (Int × Int)) (hx : xs.length ≤ 1024) (K : Nat) (hK : K ≤ 1000) (hs : Small xs K) (q0 q1 q2 q3 : Int) (h0 : (q0 == 0) = true) (hi : q1 < 0 ∨ xs.length ≤ q1) (w : World) (hc : CellsAt w p g xs) (hl : ListAt w 82 v xs) :
    Calls Try.prog 18 #[.pointer (some ⟨p, 0, none⟩), v, .agg #[.int .i64 q0, .int .i64 q1, .int .u64 q2, .int .u64 q3]] w (ActPost p g (xs) w) := by
  obtain ⟨gv, cap, rfl, _, _, hcells⟩ := hl.facts
  have hgl := hc.lt
  have hgA : w.grownBy (w.alloc (.cells #[.int .i64 q0, .int .i64 q1, .int .u64 q2, .int .u64 q3] 36)) none := g_alloc (g_refl w _) _
  have hb := Blk.new w [.int .i64 q0, .int .i64 q1, .int .u64 q2, .int .u64 q3] 36
  replace hc := hc.keptN hgA
  replace hl := hl.keptN hgA
  clear hcells
  go_enter Try.func18, Try.ntmps18
  go_wp2_with fail
  refine (there_out _ xs cap q1 hi _).mono ?_
  rintro e _ ⟨rfl, rfl⟩
  go_wp2_with fail
  refine (store_out p g xs q1 hi q3 _ hc).mono ?_
  rintro e w2 ⟨rfl, hc2, hg2⟩
  have hl2 := hl.keptN hg2
  go_wp2_with (go_at_call 8; refine (num_any _ _).mono ?_; rintro e _ ⟨rfl, rfl⟩)
  go_ret3
  exact ⟨p, g, _, rfl, hc2, hl2, g_weak (g_none hgA hg2), .inl ⟨rfl, rfl⟩⟩

set_option maxRecDepth 100000 in
set_option maxHeartbeats 1000000 in
theorem act1_yes (p g : Nat) (v : Value) (xs : List (Int × Int)) (hx : xs.length ≤ 1024) (K : Nat) (hK : K ≤ 1000) (hs : Small xs K) (q0 q1 q2 q3 : Int) (h0 : (q0 == 0) = false) (h1 : (q0 == 1) = true) (k : Nat) (c : Int) (hq : q1 = k) (hxk : xs[k]? = some (q2, c)) (w : World) (hc : CellsAt w p g xs) (hl : ListAt w 82 v xs) :
    Calls Try.prog 18 #[.pointer (some ⟨p, 0, none⟩), v, .agg #[.int .i64 q0, .int .i64 q1, .int .u64 q2, .int .u64 q3]] w (ActPost p g (xs.set k (q3, c + 1)) w) := by
  obtain ⟨gv, cap, rfl, _, _, hcells⟩ := hl.facts
  have hgl := hc.lt
  have hgA : w.grownBy (w.alloc (.cells #[.int .i64 q0, .int .i64 q1, .int .u64 q2, .int .u64 q3] 36)) none := g_alloc (g_refl w _) _
  have hb := Blk.new w [.int .i64 q0, .int .i64 q1, .int .u64 q2, .int .u64 q3] 36
  replace hc := hc.keptN hgA
  replace hl := hl.keptN hgA
  subst hq
  have hbs := hs.get hxk
  have hk : k < xs.length := (List.getElem?_eq_some_iff.1 hxk).1
  have HX := hid hxk
  clear hxk hcells
  go_enter Try.func18, Try.ntmps18
  go_wp2_with fail
  refine (there_in _ xs cap k hk _).mono ?_
  rintro e _ ⟨rfl, rfl⟩
  go_wp2_with fail
  refine (swap_yes p g xs k q2 c q3 HX.out (by omega) (by omega) _ hc).mono ?_
  rintro e w2 ⟨rfl, hc2, hg2⟩
  have hl2 := hl.kept_cells hc hg2
  have hb2 := hb.kept hg2 (fun e => by simp at e; omega)
  have e0 := hb2.cellOf (i := 0) rfl
  have e1 := hb2.cellOf (i := 1) rfl
  have e2 := hb2.cellOf (i := 2) rfl
  have e3 := hb2.cellOf (i := 3) rfl
  obtain ⟨gv', cap', eq1, _, _, hcells⟩ := hl2.facts
  cases eq1
  obtain ⟨d0, d1⟩ := hcells k q2 c HX.out
  clear hcells
  go_wp2_with fail
  go_quiet (fail)
  have hl2d := hl2.keptN (g_drewN (g_refl w2 none) nq)
  have hc2d := hc2.keptN (g_drewN (g_refl w2 none) nq)
  go_wp2_with fail
  refine (refStore_any _ xs k q2 c q3 HX.out (by omega) (by omega) (by omega) _ hl2d).mono ?_
  rintro e w3 ⟨v3, rfl, hl3, hg3⟩
  go_wp2_with (go_at_call 8; refine (num_any _ _).mono ?_; rintro e _ ⟨rfl, rfl⟩)
  go_ret3
  exact ⟨p, g, v3, rfl, hc2d.keptN hg3, hl3, g_none (g_drewN (g_trans (g_weak hgA) hg2 (fun r e => .inl e)) nq) hg3, .inl ⟨rfl, rfl⟩⟩

set_option maxRecDepth 100000 in
set_option maxHeartbeats 1000000 in
theorem act1_no (p g : Nat) (v : Value) (xs : List (Int × Int)) (hx : xs.length ≤ 1024) (K : Nat) (hK : K ≤ 1000) (hs : Small xs K) (q0 q1 q2 q3 : Int) (h0 : (q0 == 0) = false) (h1 : (q0 == 1) = true) (k : Nat) (u c : Int) (hq : q1 = k) (hxk : xs[k]? = some (u, c)) (hne : (u == q2) = false) (w : World) (hc : CellsAt w p g xs) (hl : ListAt w 82 v xs) :
    Calls Try.prog 18 #[.pointer (some ⟨p, 0, none⟩), v, .agg #[.int .i64 q0, .int .i64 q1, .int .u64 q2, .int .u64 q3]] w (ActPost p g (xs) w) := by
  obtain ⟨gv, cap, rfl, _, _, hcells⟩ := hl.facts
  have hgl := hc.lt
  have hgA : w.grownBy (w.alloc (.cells #[.int .i64 q0, .int .i64 q1, .int .u64 q2, .int .u64 q3] 36)) none := g_alloc (g_refl w _) _
  have hb := Blk.new w [.int .i64 q0, .int .i64 q1, .int .u64 q2, .int .u64 q3] 36
  replace hc := hc.keptN hgA
  replace hl := hl.keptN hgA
  subst hq
  have hbs := hs.get hxk
  have hk : k < xs.length := (List.getElem?_eq_some_iff.1 hxk).1
  have HX := hid hxk
  clear hxk hcells
  go_enter Try.func18, Try.ntmps18
  go_wp2_with fail
  refine (there_in _ xs cap k hk _).mono ?_
  rintro e _ ⟨rfl, rfl⟩
  go_wp2_with fail
  refine (swap_no p g xs k u c q2 q3 HX.out hne _ hc).mono ?_
  rintro e w2 ⟨rfl, hc2, hg2⟩
  have hl2 := hl.keptN hg2
  have hb2 := hb.keptN hg2
  have e0 := hb2.cellOf (i := 0) rfl
  have e1 := hb2.cellOf (i := 1) rfl
  have e2 := hb2.cellOf (i := 2) rfl
  have e3 := hb2.cellOf (i := 3) rfl
  obtain ⟨gv', cap', eq1, _, _, hcells⟩ := hl2.facts
  cases eq1
  obtain ⟨d0, d1⟩ := hcells k u c HX.out
  clear hcells
  go_wp2_with fail
  go_quiet (fail)
  go_wp2_with (go_at_call 8; refine (num_any _ _).mono ?_; rintro e _ ⟨rfl, rfl⟩)
  go_ret3
  exact ⟨p, g, _, rfl, hc2.keptN (g_drewN (g_refl w2 none) nq), hl2.keptN (g_drewN (g_refl w2 none) nq), g_weak (g_drewN (g_none hgA hg2) nq), .inl ⟨rfl, rfl⟩⟩

set_option maxRecDepth 100000 in
set_option maxHeartbeats 1000000 in
theorem act1_out (p g : Nat) (v : Value) (xs : List (Int × Int)) (hx : xs.length ≤ 1024) (K : Nat) (hK : K ≤ 1000) (hs : Small xs K) (q0 q1 q2 q3 : Int) (h0 : (q0 == 0) = false) (h1 : (q0 == 1) = true) (hi : q1 < 0 ∨ xs.length ≤ q1) (w : World) (hc : CellsAt w p g xs) (hl : ListAt w 82 v xs) :
    Calls Try.prog 18 #[.pointer (some ⟨p, 0, none⟩), v, .agg #[.int .i64 q0, .int .i64 q1, .int .u64 q2, .int .u64 q3]] w (ActPost p g (xs) w) := by
  obtain ⟨gv, cap, rfl, _, _, hcells⟩ := hl.facts
  have hgl := hc.lt
  have hgA : w.grownBy (w.alloc (.cells #[.int .i64 q0, .int .i64 q1, .int .u64 q2, .int .u64 q3] 36)) none := g_alloc (g_refl w _) _
  have hb := Blk.new w [.int .i64 q0, .int .i64 q1, .int .u64 q2, .int .u64 q3] 36
  replace hc := hc.keptN hgA
  replace hl := hl.keptN hgA
  clear hcells
  go_enter Try.func18, Try.ntmps18
  go_wp2_with fail
  refine (there_out _ xs cap q1 hi _).mono ?_
  rintro e _ ⟨rfl, rfl⟩
  go_wp2_with fail
  refine (swap_out p g xs q1 hi q2 q3 _ hc).mono ?_
  rintro e w2 ⟨rfl, hc2, hg2⟩
  have hl2 := hl.keptN hg2
  have hb2 := hb.keptN hg2
  have e0 := hb2.cellOf (i := 0) rfl
  have e1 := hb2.cellOf (i := 1) rfl
  have e2 := hb2.cellOf (i := 2) rfl
  have e3 := hb2.cellOf (i := 3) rfl
  go_wp2_with fail
  go_quiet (fail)
  go_wp2_with (go_at_call 8; refine (num_any _ _).mono ?_; rintro e _ ⟨rfl, rfl⟩)
  go_ret3
  exact ⟨p, g, _, rfl, hc2.keptN (g_drewN (g_refl w2 none) nq), hl2.keptN (g_drewN (g_refl w2 none) nq), g_weak (g_drewN (g_none hgA hg2) nq), .inl ⟨rfl, rfl⟩⟩

set_option maxRecDepth 100000 in
set_option maxHeartbeats 1000000 in
theorem act2_in (p g : Nat) (v : Value) (xs : List (Int × Int)) (hx : xs.length ≤ 1024) (K : Nat) (hK : K ≤ 1000) (hs : Small xs K) (q0 q1 q2 q3 : Int) (h0 : (q0 == 0) = false) (h1 : (q0 == 1) = false) (h2 : (q0 == 2) = true) (k : Nat) (u c : Int) (hq : q1 = k) (hxk : xs[k]? = some (u, c)) (w : World) (hc : CellsAt w p g xs) (hl : ListAt w 82 v xs) :
    Calls Try.prog 18 #[.pointer (some ⟨p, 0, none⟩), v, .agg #[.int .i64 q0, .int .i64 q1, .int .u64 q2, .int .u64 q3]] w (ActPost p g (xs) w) := by
  obtain ⟨gv, cap, rfl, _, _, hcells⟩ := hl.facts
  have hgl := hc.lt
  have hgA : w.grownBy (w.alloc (.cells #[.int .i64 q0, .int .i64 q1, .int .u64 q2, .int .u64 q3] 36)) none := g_alloc (g_refl w _) _
  have hb := Blk.new w [.int .i64 q0, .int .i64 q1, .int .u64 q2, .int .u64 q3] 36
  replace hc := hc.keptN hgA
  replace hl := hl.keptN hgA
  subst hq
  have hbs := hs.get hxk
  have hk : k < xs.length := (List.getElem?_eq_some_iff.1 hxk).1
  have HX := hid hxk
  clear hcells
  obtain ⟨gv', cap', eq1, _, _, hcells⟩ := hl.facts
  cases eq1
  obtain ⟨d0, d1⟩ := hcells k u c hxk
  clear hcells hxk
  go_enter Try.func18, Try.ntmps18
  go_wp2_with fail
  refine (there_in _ xs cap k hk _).mono ?_
  rintro e _ ⟨rfl, rfl⟩
  go_wp2_with fail
  refine (load_in p g xs k u c HX.out _ hc).mono ?_
  rintro e _ ⟨rfl, rfl⟩
  go_wp2_with fail
  refine (count_in p g xs k u c HX.out _ hc).mono ?_
  rintro e _ ⟨rfl, rfl⟩
  go_wp2_with (go_at_call 8; refine (num_any _ _).mono ?_; rintro e _ ⟨rfl, rfl⟩)
  go_ret3
  exact ⟨p, g, _, rfl, hc, hl, g_weak hgA, .inl ⟨rfl, rfl⟩⟩

set_option maxRecDepth 100000 in
set_option maxHeartbeats 1000000 in
theorem act2_out (p g : Nat) (v : Value) (xs : List (Int × Int)) (hx : xs.length ≤ 1024) (K : Nat) (hK : K ≤ 1000) (hs : Small xs K) (q0 q1 q2 q3 : Int) (h0 : (q0 == 0) = false) (h1 : (q0 == 1) = false) (h2 : (q0 == 2) = true) (hi : q1 < 0 ∨ xs.length ≤ q1) (w : World) (hc : CellsAt w p g xs) (hl : ListAt w 82 v xs) :
    Calls Try.prog 18 #[.pointer (some ⟨p, 0, none⟩), v, .agg #[.int .i64 q0, .int .i64 q1, .int .u64 q2, .int .u64 q3]] w (ActPost p g (xs) w) := by
  obtain ⟨gv, cap, rfl, _, _, hcells⟩ := hl.facts
  have hgl := hc.lt
  have hgA : w.grownBy (w.alloc (.cells #[.int .i64 q0, .int .i64 q1, .int .u64 q2, .int .u64 q3] 36)) none := g_alloc (g_refl w _) _
  have hb := Blk.new w [.int .i64 q0, .int .i64 q1, .int .u64 q2, .int .u64 q3] 36
  replace hc := hc.keptN hgA
  replace hl := hl.keptN hgA
  clear hcells
  go_enter Try.func18, Try.ntmps18
  go_wp2_with fail
  refine (there_out _ xs cap q1 hi _).mono ?_
  rintro e _ ⟨rfl, rfl⟩
  go_wp2_with fail
  refine (load_out p g xs q1 hi _ hc).mono ?_
  rintro e _ ⟨rfl, rfl⟩
  go_wp2_with fail
  refine (count_out p g xs q1 hi _ hc).mono ?_
  rintro e _ ⟨rfl, rfl⟩
  go_wp2_with (go_at_call 8; refine (num_any _ _).mono ?_; rintro e _ ⟨rfl, rfl⟩)
  go_ret3
  exact ⟨p, g, _, rfl, hc, hl, g_weak hgA, .inl ⟨rfl, rfl⟩⟩

set_option maxRecDepth 100000 in
set_option maxHeartbeats 1000000 in
theorem act3_in (p g : Nat) (v : Value) (xs : List (Int × Int)) (hx : xs.length ≤ 1024) (K : Nat) (hK : K ≤ 1000) (hs : Small xs K) (q0 q1 q2 q3 : Int) (h0 : (q0 == 0) = false) (h1 : (q0 == 1) = false) (h2 : (q0 == 2) = false) (k : Nat) (u c : Int) (hq : q1 = k) (hxk : xs[k]? = some (u, c)) (w : World) (hc : CellsAt w p g xs) (hl : ListAt w 82 v xs) :
    Calls Try.prog 18 #[.pointer (some ⟨p, 0, none⟩), v, .agg #[.int .i64 q0, .int .i64 q1, .int .u64 q2, .int .u64 q3]] w (ActPost p g (xs) w) := by
  obtain ⟨gv, cap, rfl, _, _, hcells⟩ := hl.facts
  have hgl := hc.lt
  have hgA : w.grownBy (w.alloc (.cells #[.int .i64 q0, .int .i64 q1, .int .u64 q2, .int .u64 q3] 36)) none := g_alloc (g_refl w _) _
  have hb := Blk.new w [.int .i64 q0, .int .i64 q1, .int .u64 q2, .int .u64 q3] 36
  replace hc := hc.keptN hgA
  replace hl := hl.keptN hgA
  subst hq
  have hbs := hs.get hxk
  have hk : k < xs.length := (List.getElem?_eq_some_iff.1 hxk).1
  have HX := hid hxk
  clear hxk hcells
  go_enter Try.func18, Try.ntmps18
  go_wp2_with fail
  refine (there_in _ xs cap k hk _).mono ?_
  rintro e _ ⟨rfl, rfl⟩
  go_wp2_with fail
  refine (copy_some p g xs (by omega) _ hc).mono ?_
  rintro e w2 ⟨p2, g2, rfl, hc2, hg2, hp2, hgg2⟩
  go_wp2_with fail
  go_ret3
  have hsA := hgA.size
  exact ⟨p2, g2, _, rfl, hc2, hl.keptN hg2, g_weak (g_none hgA hg2), .inr ⟨Nat.le_trans hsA hp2, Nat.le_trans hsA hgg2⟩⟩

set_option maxRecDepth 100000 in
set_option maxHeartbeats 1000000 in
theorem act3_out (p g : Nat) (v : Value) (xs : List (Int × Int)) (hx : xs.length ≤ 1024) (K : Nat) (hK : K ≤ 1000) (hs : Small xs K) (q0 q1 q2 q3 : Int) (h0 : (q0 == 0) = false) (h1 : (q0 == 1) = false) (h2 : (q0 == 2) = false) (hi : q1 < 0 ∨ xs.length ≤ q1) (w : World) (hc : CellsAt w p g xs) (hl : ListAt w 82 v xs) :
    Calls Try.prog 18 #[.pointer (some ⟨p, 0, none⟩), v, .agg #[.int .i64 q0, .int .i64 q1, .int .u64 q2, .int .u64 q3]] w (ActPost p g (xs) w) := by
  obtain ⟨gv, cap, rfl, _, _, hcells⟩ := hl.facts
  have hgl := hc.lt
  have hgA : w.grownBy (w.alloc (.cells #[.int .i64 q0, .int .i64 q1, .int .u64 q2, .int .u64 q3] 36)) none := g_alloc (g_refl w _) _
  have hb := Blk.new w [.int .i64 q0, .int .i64 q1, .int .u64 q2, .int .u64 q3] 36
  replace hc := hc.keptN hgA
  replace hl := hl.keptN hgA
  clear hcells
  go_enter Try.func18, Try.ntmps18
  go_wp2_with fail
  refine (there_out _ xs cap q1 hi _).mono ?_
  rintro e _ ⟨rfl, rfl⟩
  go_wp2_with fail
  refine (copy_some p g xs (by omega) _ hc).mono ?_
  rintro e w2 ⟨p2, g2, rfl, hc2, hg2, hp2, hgg2⟩
  go_wp2_with fail
  go_ret3
  have hsA := hgA.size
  exact ⟨p2, g2, _, rfl, hc2, hl.keptN hg2, g_weak (g_none hgA hg2), .inr ⟨Nat.le_trans hsA hp2, Nat.le_trans hsA hgg2⟩⟩

theorem act_any (p g : Nat) (v : Value) (xs : List (Int × Int)) (hx : xs.length ≤ 1024) (K : Nat) (hK : K ≤ 1000) (hs : Small xs K) (q0 q1 q2 q3 : Int) (w : World) (hc : CellsAt w p g xs) (hl : ListAt w 82 v xs) :
    Calls Try.prog 18 #[.pointer (some ⟨p, 0, none⟩), v, .agg #[.int .i64 q0, .int .i64 q1, .int .u64 q2, .int .u64 q3]] w (ActPost p g (actL xs q0 q1 q2 q3) w) := by
  cases h0 : (q0 == 0) with
  | true =>
    rw [actL_0 h0]
    rcases inR_cases xs q1 with ⟨hi, ho⟩ | ⟨hi, k, rfl, u, c, hxk⟩
    · rw [upd_out hi]; exact act0_out p g v xs hx K hK hs q0 q1 q2 q3 h0 ho w hc hl
    · rw [upd_of hxk]; exact act0_in p g v xs hx K hK hs q0 k q2 q3 h0 k u c rfl hxk w hc hl
  | false =>
    cases h1 : (q0 == 1) with
    | true =>
      rw [actL_1 h0 h1]
      rcases inR_cases xs q1 with ⟨hi, ho⟩ | ⟨hi, k, rfl, u, c, hxk⟩
      · rw [swp_out hi]; exact act1_out p g v xs hx K hK hs q0 q1 q2 q3 h0 h1 ho w hc hl
      · by_cases hu : u = q2
        · subst hu
          rw [swp_yes hxk]; exact act1_yes p g v xs hx K hK hs q0 k u q3 h0 h1 k c rfl hxk w hc hl
        · have hne : (u == q2) = false := by simpa using hu
          rw [swp_no hxk hne]; exact act1_no p g v xs hx K hK hs q0 k q2 q3 h0 h1 k u c rfl hxk hne w hc hl
    | false =>
      rw [actL_2 h0 h1]
      cases h2 : (q0 == 2) with
      | true =>
        rcases inR_cases xs q1 with ⟨hi, ho⟩ | ⟨hi, k, rfl, u, c, hxk⟩
        · exact act2_out p g v xs hx K hK hs q0 q1 q2 q3 h0 h1 h2 ho w hc hl
        · exact act2_in p g v xs hx K hK hs q0 k q2 q3 h0 h1 h2 k u c rfl hxk w hc hl
      | false =>
        rcases inR_cases xs q1 with ⟨hi, ho⟩ | ⟨hi, k, rfl, u, c, hxk⟩
        · exact act3_out p g v xs hx K hK hs q0 q1 q2 q3 h0 h1 h2 ho w hc hl
        · exact act3_in p g v xs hx K hK hs q0 k q2 q3 h0 h1 h2 k u c rfl hxk w hc hl
end Go.Proofs.Ythoelbildokmpaa
