/-
  A call by both, that clears, or that copies; whatever it is.
-/
import Derived.Test.YtjjkhbipeehljaaFifoAct
namespace Go.Proofs.Ytjjkhbipeehljaa
open Go.RowKit

def ClrK (p b2 : Nat) (M Y : Int) (m u : Value) (xs : List T3) (w w' : World) : Prop := (ActK p M Y (.slice none 0 0) (.slice none 0 0) [] w w' ∧ L3 w' m xs ∧ L3 w' u xs) ∧ p ≠ b2 ∧ m.ownBlock ≠ some b2 ∧ u.ownBlock ≠ some b2 ∧ w.heap.size ≤ b2
theorem ClrK.grown {p b2 : Nat} {M Y : Int} {m u : Value} {xs : List T3} {w w1 w2 : World} (h : ClrK p b2 M Y m u xs w w1) (hg : w1.grownBy w2 none) : ClrK p b2 M Y m u xs w w2 := ⟨⟨h.1.1.grown hg, h.1.2.1.keptN hg, h.1.2.2.keptN hg⟩, h.2⟩
theorem ClrK.set {p b2 i : Nat} {M Y : Int} {m u : Value} {xs : List T3} {w w1 : World} (h : ClrK p b2 M Y m u xs w w1) (x : Value) : ClrK p b2 M Y m u xs w (w1.setCell ⟨b2, i, none⟩ x) := by
  obtain ⟨⟨h1, h2, h3⟩, hp, hm, hu, hb⟩ := h
  exact ⟨⟨h1.set hp (by simp [Value.ownBlock]) (by simp [Value.ownBlock]) hb x, h2.kept (grownBy_setCell'' w1 b2 i x) (fun r e => by cases e; exact hm), h3.kept (grownBy_setCell'' w1 b2 i x) (fun r e => by cases e; exact hu)⟩, hp, hm, hu, hb⟩
abbrev ClrS (b p b2 : Nat) (M Y : Int) (m u : Value) (xs : List T3) (w w' : World) : Prop := w'.cell? ⟨b, 0, none⟩ = some (.int .i64 M) ∧ w'.cell? ⟨b, 1, none⟩ = some (.int .i64 Y) ∧ w'.cell? ⟨b, 2, none⟩ = some u ∧ ClrK p b2 M Y m u xs w w'
theorem ClrS.more {b p b2 : Nat} {M Y : Int} {m u : Value} {xs : List T3} {w w1 w2 : World} (h : ClrS b p b2 M Y m u xs w w1) (hg : w1.grownBy w2 none) : ClrS b p b2 M Y m u xs w w2 := ⟨g_cellN hg h.1, g_cellN hg h.2.1, g_cellN hg h.2.2.1, h.2.2.2.grown hg⟩
theorem ClrS.put {b p b2 : Nat} {M Y : Int} {m u : Value} {xs : List T3} {w w1 : World} (h : ClrS b p b2 M Y m u xs w w1) (hb : b ≠ b2) (x0 x1 x2 : Value) : ClrS b p b2 M Y m u xs w (((w1.setCell ⟨b2, 0, none⟩ x0).setCell ⟨b2, 1, none⟩ x1).setCell ⟨b2, 2, none⟩ x2) :=
  ⟨set3_cell h.1 hb _ _ _, set3_cell h.2.1 hb _ _ _, set3_cell h.2.2.1 hb _ _ _, ((h.2.2.2.set x0).set x1).set x2⟩

theorem ClrS.lm {b p b2 : Nat} {M Y : Int} {m u : Value} {xs : List T3} {w w1 : World} (h : ClrS b p b2 M Y m u xs w w1) : L3 w1 m xs := h.2.2.2.1.2.1
theorem ClrS.lu {b p b2 : Nat} {M Y : Int} {m u : Value} {xs : List T3} {w w1 : World} (h : ClrS b p b2 M Y m u xs w w1) : L3 w1 u xs := h.2.2.2.1.2.2

set_option maxRecDepth 100000 in
set_option maxHeartbeats 8000000 in
theorem act_clear (p : Nat) (M Y : Int) (v u : Value) (xs : List T3) (a b c : Int) (w : World) (h : FifoAt w p M Y v xs) (hL : L3 w u xs) (hu : ∀ r, u.ownBlock = some r → r < w.heap.size ∧ r ≠ p) :
    Calls Try.prog 13 #[.pointer (some ⟨p, 0, none⟩), RQ M Y u, .agg #[.int .i64 1, .int .i64 a, .int .i64 b, .int .i64 c]] w (ActPost p M Y v u [] w) := by
  have hpw := h.facts.2.2.2.2
  obtain ⟨a1, c1, rfl, hl1, _⟩ := id hL
  obtain ⟨b1, b2, b3, hgA⟩ := act_cells M Y a1 xs.length c1 1 a b c w
  obtain ⟨W, hW⟩ : ∃ W, W = (((w.alloc (.cells #[.int .i64 M, .int .i64 Y, .slice a1 xs.length c1] 39)).alloc (.cells #[.int .i64 1, .int .i64 a, .int .i64 b, .int .i64 c] 46)).alloc (.cells #[.int .i64 0, .int .i64 0, .slice none 0 0] 39)) := ⟨_, rfl⟩
  have hF0 := h.keptN hgA
  have hL0 := hL.keptN hgA
  have x0 := b2.cellOf (i := 0) rfl
  clear h hL
  go_enter Try.func13, Try.ntmps13
  go_wp2_with fail
  rw [← hW] at b1 b3 hgA hF0 hL0 ⊢
  have hsW : W.heap.size = w.heap.size + 3 := by rw [hW]; simp
  clear hW x0 b2
  refine (clear_some p M Y v xs _ hF0).mono ?_
  rintro e w2 ⟨am, nm, cm, rfl, hF2, hr2, hg2⟩
  obtain ⟨hLm, rfl, hbm⟩ := outL3 hl1 hr2
  have hL2 := hL0.kept hg2 (fun r e hr => by cases e; exact (hu _ hr).2 rfl)
  have hb1 := b1.kept hg2 (by simp; omega)
  have hb3 := b3.kept hg2 (by simp; omega)
  have a0 := hb1.cellOf (i := 0) rfl
  have a1' := hb1.cellOf (i := 1) rfl
  have a2' := hb1.cellOf (i := 2) rfl
  have hs2 := hg2.size
  have hK : ClrK p (w.heap.size + 2) M Y (.slice am xs.length cm) (.slice a1 xs.length c1) xs w w2 := ⟨⟨⟨hF2, L3.nil _, g_same (g_weak hgA) hg2⟩, hLm, hL2⟩, by omega, fun e => by have := hbm _ e; omega, fun e => by have := (hu _ e).1; omega, by omega⟩
  have hS1 : ClrS w.heap.size p (w.heap.size + 2) M Y (.slice am xs.length cm) (.slice a1 xs.length c1) xs w w2.drew := ⟨a0, a1', a2', hK.grown (g_drewN (g_refl w2 none) rfl)⟩
  have hb3' := hb3.keptN (g_drewN (g_refl w2 none) rfl)
  have HB3 := hid hb3'
  have hbne : w.heap.size ≠ w.heap.size + 2 := by omega
  clear a0 a1' a2' hK hb1 hb3 hb3' b1 b3 hLm hL2 hL0 hF0 hF2 hr2 hg2 hgA hu hbm
  go_wp2_with fail
  go_region_held3 (fun w' => w'.cell? ⟨w.heap.size, 0, none⟩ = some (.int .i64 M) ∧ w'.cell? ⟨w.heap.size, 1, none⟩ = some (.int .i64 Y) ∧ w'.cell? ⟨w.heap.size, 2, none⟩ = some (.slice a1 xs.length c1) ∧ ClrK p (w.heap.size + 2) M Y (.slice am xs.length cm) (.slice a1 xs.length c1) xs w w')
    (first | assumption | exact ClrS.more (by assumption) hg9 | exact ClrS.put (by assumption) hbne _ _ _)
    (first
      | (go_at_call 18; refine (refSame_g _ _ xs _ (ClrS.lm (by assumption)) (ClrS.lu (by assumption))).mono ?_; rintro e w9 ⟨rfl, hg9⟩; have b8 := HB3.out.keptN hg9; have f0 := b8.frozen 0; have f1 := (b8.set 0 (.int .i64 M)).frozen 1; have f2 := ((b8.set 0 (.int .i64 M)).set 1 (.int .i64 Y)).frozen 2; have z0 := b8.cellOf (i := 0) rfl; have z1 := (b8.set 0 (.int .i64 M)).cellOf (i := 1) rfl; have z2 := ((b8.set 0 (.int .i64 M)).set 1 (.int .i64 Y)).cellOf (i := 2) rfl)
      | (go_at_call 8; refine (num_any _ _).mono ?_; rintro e _ ⟨rfl, rfl⟩)
      | fail)
  all_goals
    go_wp2
    have b11 := ((b8.set 0 (.int .i64 M)).set 1 (.int .i64 Y)).set 2 (.slice none 0 0)
    have hS9 : ClrS w.heap.size p (w.heap.size + 2) M Y (.slice am xs.length cm) (.slice a1 xs.length c1) xs w (((w9.setCell ⟨w.heap.size + 2, 0, none⟩ (.int .i64 M)).setCell ⟨w.heap.size + 2, 1, none⟩ (.int .i64 Y)).setCell ⟨w.heap.size + 2, 2, none⟩ (.slice none 0 0)) := by assumption
    obtain ⟨r1, r2, r3⟩ := hS9.2.2.2.1.1
    refine bodyPost_ret (results_trt rfl _ _ (w.heap.size + 2) _ _ _ _ rfl b11 Try.underlying39 rfl (by kernel_rfl)) rfl ?_
    exact ⟨p, _, _, rfl, r1, r2, r3, .inl rfl, fun r hr => by simp [Value.ownBlock] at hr, fun r hr => by simp [Value.ownBlock] at hr⟩

abbrev CpS (M Y : Int) (u : Value) (b : Nat) (w w' : World) : Prop := w'.cell? ⟨b, 0, none⟩ = some (.int .i64 M) ∧ w'.cell? ⟨b, 1, none⟩ = some (.int .i64 Y) ∧ w'.cell? ⟨b, 2, none⟩ = some u ∧ w.grownBy w' none
theorem CpS.more {M Y : Int} {u : Value} {b : Nat} {w w1 w2 : World} (h : CpS M Y u b w w1) (hg : w1.grownBy w2 none) : CpS M Y u b w w2 := ⟨g_cellN hg h.1, g_cellN hg h.2.1, g_cellN hg h.2.2.1, g_none h.2.2.2 hg⟩
theorem CpS.put {M Y : Int} {u : Value} {b b' : Nat} {w w1 : World} (h : CpS M Y u b w w1) (hb : b ≠ b') (hw : w.heap.size ≤ b') (x0 x1 x2 : Value) : CpS M Y u b w (((w1.setCell ⟨b', 0, none⟩ x0).setCell ⟨b', 1, none⟩ x1).setCell ⟨b', 2, none⟩ x2) :=
  ⟨set3_cell h.1 hb _ _ _, set3_cell h.2.1 hb _ _ _, set3_cell h.2.2.1 hb _ _ _, g_set (g_set (g_set h.2.2.2 _ (.inr hw)) _ (.inr hw)) _ (.inr hw)⟩

set_option maxRecDepth 100000 in
set_option maxHeartbeats 8000000 in
theorem act_copy (p : Nat) (M Y : Int) (v u : Value) (xs : List T3) (what a b c : Int) (h0' : ¬ what = 0) (h1' : ¬ what = 1) (w : World) (h : FifoAt w p M Y v xs) (hL : L3 w u xs) (hu : ∀ r, u.ownBlock = some r → r < w.heap.size ∧ r ≠ p) :
    Calls Try.prog 13 #[.pointer (some ⟨p, 0, none⟩), RQ M Y u, .agg #[.int .i64 what, .int .i64 a, .int .i64 b, .int .i64 c]] w (ActPost p M Y v u xs w) := by
  have q0 : (what == 0) = false := by simpa using h0'
  have q1 : (what == 1) = false := by simpa using h1'
  have hpw := h.facts.2.2.2.2
  obtain ⟨a1, c1, rfl, hl1, _⟩ := id hL
  obtain ⟨b1, b2, b3, hgA⟩ := act_cells M Y a1 xs.length c1 what a b c w
  obtain ⟨W, hW⟩ : ∃ W, W = (((w.alloc (.cells #[.int .i64 M, .int .i64 Y, .slice a1 xs.length c1] 39)).alloc (.cells #[.int .i64 what, .int .i64 a, .int .i64 b, .int .i64 c] 46)).alloc (.cells #[.int .i64 0, .int .i64 0, .slice none 0 0] 39)) := ⟨_, rfl⟩
  have H : Hid (∀ w1, w.grownBy w1 none → FifoAt w1 p M Y v xs ∧ L3 w1 (.slice a1 xs.length c1) xs) := hid fun w1 hg => ⟨h.keptN hg, hL.keptN hg⟩
  have x0 := b2.cellOf (i := 0) rfl
  have a0 := b1.cellOf (i := 0) rfl
  have a1' := b1.cellOf (i := 1) rfl
  have a2' := b1.cellOf (i := 2) rfl
  clear h hL h0' h1'
  go_enter Try.func13, Try.ntmps13
  go_wp2_with fail
  rw [← hW] at b1 b2 b3 hgA x0 a0 a1' a2' ⊢
  have hsW : W.heap.size = w.heap.size + 3 := by rw [hW]; simp
  clear hW
  have hS1 : CpS M Y (.slice a1 xs.length c1) w.heap.size w W.drew := ⟨a0, a1', a2', g_drew hgA⟩
  have hb3' := b3.keptN (g_drewN (g_refl W none) rfl)
  have HB3 := hid hb3'
  have hbne : w.heap.size ≠ w.heap.size + 2 := by omega
  clear b1 b2 b3 x0 a0 a1' a2' hb3'
  go_region_held3 (fun w' => w'.cell? ⟨w.heap.size, 0, none⟩ = some (.int .i64 M) ∧ w'.cell? ⟨w.heap.size, 1, none⟩ = some (.int .i64 Y) ∧ w'.cell? ⟨w.heap.size, 2, none⟩ = some (.slice a1 xs.length c1) ∧ w.grownBy w' none)
    (first | assumption | exact CpS.more (by assumption) hg9 | exact CpS.put (by assumption) hbne (by omega) _ _ _)
    (first
      | (go_at_call 16; refine (copy_some p M Y v xs _ (H.out _ (by assumption : CpS M Y _ _ w _).2.2.2).1).mono ?_; rintro e w9 ⟨p', v', rfl, hF2, hg9, hp2, hv2⟩; have b8 := HB3.out.keptN hg9; have f0 := b8.frozen 0; have f1 := (b8.set 0 (.int .i64 M)).frozen 1; have f2 := ((b8.set 0 (.int .i64 M)).set 1 (.int .i64 Y)).frozen 2; have z0 := b8.cellOf (i := 0) rfl; have z1 := (b8.set 0 (.int .i64 M)).cellOf (i := 1) rfl; have z2 := ((b8.set 0 (.int .i64 M)).set 1 (.int .i64 Y)).cellOf (i := 2) rfl)
      | fail)
  all_goals
    go_wp2
    have hsd : W.drew.heap.size = w.heap.size + 3 := hsW
    rw [hsd] at hp2 hv2
    have b11 := ((b8.set 0 (.int .i64 M)).set 1 (.int .i64 Y)).set 2 (.slice a1 xs.length c1)
    have h1 := hF2.kept (grownBy_setCell'' w9 (w.heap.size + 2) 0 (.int .i64 M)) (by simp; omega) (fun r e hr => by cases e; have := (hv2 _ hr).1; omega)
    have h2 := h1.kept (grownBy_setCell'' _ (w.heap.size + 2) 1 (.int .i64 Y)) (by simp; omega) (fun r e hr => by cases e; have := (hv2 _ hr).1; omega)
    have h3 := h2.kept (grownBy_setCell'' _ (w.heap.size + 2) 2 (.slice a1 xs.length c1)) (by simp; omega) (fun r e hr => by cases e; have := (hv2 _ hr).1; omega)
    have hS9 : CpS M Y (.slice a1 xs.length c1) w.heap.size w (((w9.setCell ⟨w.heap.size + 2, 0, none⟩ (.int .i64 M)).setCell ⟨w.heap.size + 2, 1, none⟩ (.int .i64 Y)).setCell ⟨w.heap.size + 2, 2, none⟩ (.slice a1 xs.length c1)) := by assumption
    have hgf := hS9.2.2.2
    have hszF : (((w9.setCell ⟨w.heap.size + 2, 0, none⟩ (.int .i64 M)).setCell ⟨w.heap.size + 2, 1, none⟩ (.int .i64 Y)).setCell ⟨w.heap.size + 2, 2, none⟩ (.slice a1 xs.length c1)).heap.size = w9.heap.size := by simp [World.setCell]
    have hszG := hgf.size
    refine bodyPost_ret (results_trt rfl _ _ (w.heap.size + 2) _ _ _ _ rfl b11 Try.underlying39 rfl (by kernel_rfl)) rfl ?_
    exact ⟨p', _, v', rfl, h3, (H.out _ hgf).2, g_weak hgf, .inr (by omega), fun r hr => ⟨.inr (by have := (hv2 r hr).1; omega), Nat.lt_of_lt_of_eq (hv2 r hr).2 hszF.symm⟩, fun r hr => ⟨.inl hr, Nat.lt_of_lt_of_le (hu r hr).1 hszG, by have := (hu r hr).1; omega⟩⟩

/-- What stands behind a call. -/
def nextX (M Y : Int) (xs : List T3) (what : Int) (x : T3) : List T3 := if what = 0 then pushL M Y xs x else if what = 1 then [] else xs
theorem act_any (p : Nat) (M Y : Int) (hM : 0 ≤ M) (hY : 0 ≤ Y) (v u : Value) (xs : List T3) (hG : Good xs) (hx : xs.length < 1000) (what a b c : Int) (w : World) (h : FifoAt w p M Y v xs) (hL : L3 w u xs)
    (hv : ∀ r, v.ownBlock = some r → r < w.heap.size) (hu : ∀ r, u.ownBlock = some r → r < w.heap.size ∧ r ≠ p) :
    Calls Try.prog 13 #[.pointer (some ⟨p, 0, none⟩), RQ M Y u, .agg #[.int .i64 what, .int .i64 a, .int .i64 b, .int .i64 c]] w (ActPost p M Y v u (nextX M Y xs what (a, b, c)) w) := by
  by_cases h0 : what = 0
  · subst h0
    exact act_push p M Y hM hY v u xs hG hx a b c w h hL hv hu
  · by_cases h1 : what = 1
    · subst h1
      exact act_clear p M Y v u xs a b c w h hL hu
    · rw [nextX, if_neg h0, if_neg h1]
      exact act_copy p M Y v u xs what a b c h0 h1 w h hL hu
theorem pushL_good {M Y : Int} {xs : List T3} {x y z : Int} (hG : Good xs) : Good (pushL M Y xs (x, y, z)) := by
  unfold pushL
  split
  · rename_i he
    rcases pushE_cases xs x y z with ⟨_, h⟩ | ⟨_, _, h⟩ | ⟨hr, _, _⟩
    · omega
    · omega
    · refine Good.drop (fun t ht => ?_) _
      rcases List.mem_append.1 ht with ht | ht
      · exact hG t ht
      · simp at ht; subst ht
        exact right_good hr
  · exact hG
theorem pushL_length {M Y : Int} {xs : List T3} {x : T3} : (pushL M Y xs x).length ≤ xs.length + 1 := by
  unfold pushL
  split
  · simp only [List.length_drop, List.length_append, List.length_cons, List.length_nil]; omega
  · omega
theorem nextX_good {M Y : Int} {xs : List T3} {what : Int} {x y z : Int} (hG : Good xs) : Good (nextX M Y xs what (x, y, z)) := by
  unfold nextX
  split
  · exact pushL_good hG
  · split
    · exact fun t ht => by simp at ht
    · exact hG
theorem nextX_length {M Y : Int} {xs : List T3} {what : Int} {x : T3} : (nextX M Y xs what x).length ≤ xs.length + 1 := by
  unfold nextX
  split
  · exact pushL_length
  · split
    · simp
    · omega
end Go.Proofs.Ytjjkhbipeehljaa
