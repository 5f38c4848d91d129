/-
  A quarantine in memory: a list with one more; whether what is held may be.
-/
import Derived.Test.YtjjkhbipeehljaaFifoList
import Derived.Deep.RegionHeld3
import Derived.Deep.AppendLies
namespace Go.Proofs.Ytjjkhbipeehljaa
open Go.RowKit

theorem g_drewN {w w1 : World} {row : Option Nat} (h : w.grownBy w1 none) (_ : row = row) : w.grownBy w1.drew row := ⟨h.os, h.tape, h.output, h.size, fun i hi _ => h.block i hi (by simp)⟩

theorem cells_new3 (W : World) (xs : List Value) (t : TypeId) : ∀ j u, xs[j]? = some u → (W.alloc (.cells xs.toArray t)).cell? ((⟨W.heap.size, 0, none⟩ : Addr).add j) = some u := by
  intro j u hj
  have h := (Blk.new W xs t).cellOf hj
  unfold Addr.add
  split
  · rename_i h0; subst h0; exact h
  · simpa using h

theorem cells_new4 (w : World) (o : Obj) (xs : List Value) (t : TypeId) : ∀ j u, xs[j]? = some u → (((w.alloc o).drew).alloc (.cells xs.toArray t)).cell? ((⟨w.heap.size + 1, 0, none⟩ : Addr).add j) = some u := by
  intro j u hj
  have := cells_new3 ((w.alloc o).drew) xs t j u hj
  have e : ((w.alloc o).drew).heap.size = w.heap.size + 1 := by show (w.alloc o).heap.size = _; simp
  rw [e] at this
  exact this

abbrev BehindS (w : World) (x y z : Int) (w' : World) : Prop :=
  w'.cell? ⟨w.heap.size, 0, none⟩ = some (.int .i64 x) ∧ w'.cell? ⟨w.heap.size, 1, none⟩ = some (.int .i64 y) ∧ w'.cell? ⟨w.heap.size, 2, none⟩ = some (.int .i64 z) ∧ w.grownBy w' none
theorem BehindS.row {w : World} {x y z : Int} {w1 w2 : World} {row : Option Nat} (h : BehindS w x y z w1) (hg : w1.grownBy w2 row) (hr : ∀ r, row = some r → w.heap.size + 1 ≤ r) : BehindS w x y z w2 := by
  have hne : some w.heap.size ≠ row := fun e => by have := hr _ e.symm; omega
  have hl := cell_lt h.1
  exact ⟨(g_cell (a := ⟨w.heap.size, 0, none⟩) hg hl hne).trans h.1, (g_cell (a := ⟨w.heap.size, 1, none⟩) hg hl hne).trans h.2.1, (g_cell (a := ⟨w.heap.size, 2, none⟩) hg hl hne).trans h.2.2.1, g_trans h.2.2.2 hg (fun r e => .inr (by have := hr r e; omega))⟩
theorem BehindS.more {w : World} {x y z : Int} {w1 w2 : World} (h : BehindS w x y z w1) (hg : w1.grownBy w2 none) : BehindS w x y z w2 := h.row hg (fun r e => by cases e)
theorem BehindS.l3 {w : World} {x y z : Int} {v : Value} {xs : List T3} (hL : Hid (L3 w v xs)) {w1 : World} (h : BehindS w x y z w1) : L3 w1 v xs := hL.out.keptN h.2.2.2
theorem row_base {w : World} {base size n : Nat} {e : TypeId} {v : Value} {xs : List Value} (h : w.ownsRow base e size v n xs) (r : Nat) (hr : v.ownBlock = some r) : base ≤ r ∧ r < w.heap.size := by
  rcases h.2 with ⟨rfl, _⟩ | ⟨g, cap, cur, rfl, hb, hg, _⟩
  · simp [Value.ownBlock] at hr
  · simp [Value.ownBlock] at hr
    subst hr
    exact ⟨hb, (Array.getElem?_eq_some_iff.1 hg).1⟩
theorem BehindS.grown {w : World} {x y z : Int} {w1 : World} (h : BehindS w x y z w1) : w.grownBy w1 none := h.2.2.2

theorem behindR {w2 : World} {base size n : Nat} {e : TypeId} {v : Value} {xs : List Value} (h : w2.ownsRow base e size v n xs) (base' : Nat) (hb : base' ≤ base) : w2.ownsRow base' e size v n xs := by
  refine ⟨h.1, h.2.imp id ?_⟩
  rintro ⟨g, cap, cur, rfl, hb', h3⟩
  exact ⟨g, cap, cur, rfl, by omega, h3⟩

theorem behind_any (v : Value) (xs : List T3) (x y z : Int) (hx : xs.length < 1000) (w : World) (h : L3 w v xs) :
    Calls Try.prog 24 #[v, .agg #[.int .i64 x, .int .i64 y, .int .i64 z]] w fun e w' => ∃ v', e = .returned v' ∧ w'.ownsRow w.heap.size 33 3 v' (xs.length + 1) (flat3 (xs ++ [(x, y, z)])) ∧ w.grownBy w' none := by
  obtain ⟨i0, hi, hz0, hz1, hz2⟩ := info_parts info_held
  have hfl := flat3_length xs
  have hgA := g_alloc (g_refl w none) (.cells #[.int .i64 x, .int .i64 y, .int .i64 z] 33)
  have b0 := Blk.new w [.int .i64 x, .int .i64 y, .int .i64 z] 33
  obtain ⟨a, cap, hv, hl, hcp, hm, _⟩ := id h
  subst hv
  go_enter Try.func24, Try.ntmps24
  go_wp2_with fail
  have hS0 : BehindS w x y z (w.alloc (.cells #[.int .i64 x, .int .i64 y, .int .i64 z] 33)) := ⟨b0.cellOf rfl, b0.cellOf rfl, b0.cellOf rfl, hgA⟩
  have hS1 := BehindS.more hS0 (g_drew (g_refl _ none))
  have HL := hid h
  clear hgA h hS0
  go_region_held3 (fun w' => w'.cell? ⟨w.heap.size, 0, none⟩ = some (.int .i64 x) ∧ w'.cell? ⟨w.heap.size, 1, none⟩ = some (.int .i64 y) ∧ w'.cell? ⟨w.heap.size, 2, none⟩ = some (.int .i64 z) ∧ w.grownBy w' none)
    (first | assumption | exact BehindS.row (by assumption) hg3 (fun r e => by have := (row_base hr2 r e).1; simp at this; omega) | exact BehindS.more (by assumption) hg2 | exact BehindS.more (by assumption) (g_alloc (g_refl _ none) _))
    (first
      | (go_at_call 34; refine (clone3_any _ xs _ (BehindS.l3 HL (by assumption))).mono ?_; rintro e w2 ⟨v2, rfl, hr2, hg2⟩)
      | (refine step_append_lies _ (by rfl) _ _ _ (by rfl) w.heap.size 33 i0 _ 3 24 Try.underlying23 hi hz0 hz1 hz2 rfl (by omega) _ xs.length (flat3 xs) (by rfl) ((behindR hr2 w.heap.size (by first | (simp; done) | (simp; omega))).alloc _)
          ⟨w2.heap.size, 0, none⟩ 1 1 [.int .i64 x, .int .i64 y, .int .i64 z] (by rfl) (by rfl) (cells_new3 w2 [.int .i64 x, .int .i64 y, .int .i64 z] 33) (by simp [Value.oneCell'])
          (by omega) (by unfold maxLen at *; omega) (by omega) (by have := hg2.size; simp at *; omega) (w2.heap.size + 1) (by simp) ?_; intro g3 cap3 w3 hown3 hg3 hat3 hlt3)
      | (refine step_append_lies _ (by rfl) _ _ _ (by rfl) w.heap.size 33 i0 _ 3 24 Try.underlying23 hi hz0 hz1 hz2 rfl (by omega) _ xs.length (flat3 xs) (by rfl) (behindR hr2 w.heap.size (by first | (simp; done) | (simp; omega)))
          ⟨w.heap.size + 1, 0, none⟩ 1 1 [.int .i64 x, .int .i64 y, .int .i64 z] (by rfl) (by rfl) (fun j u hj => g_cellN hg2 (cells_new4 w _ [.int .i64 x, .int .i64 y, .int .i64 z] 33 j u hj)) (by simp [Value.oneCell'])
          (by omega) (by unfold maxLen at *; omega) (by omega) (by have := hg2.size; simp at *; omega) w2.heap.size (by simp) ?_; intro g3 cap3 w3 hown3 hg3 hat3 hlt3)
      | fail)
  all_goals go_wp2
  all_goals go_ret
  all_goals exact ⟨_, rfl, by rw [flat3_append]; exact hown3, BehindS.grown (by assumption)⟩

abbrev LeftS (fb p : Nat) (M Y : Int) (v : Value) (xs : List T3) (w w' : World) : Prop :=
  w'.cell? ⟨fb, 0, none⟩ = some (.pointer (some ⟨p, 0, none⟩)) ∧ w'.cell? ⟨p, 0, none⟩ = some (.int .i64 M) ∧ w'.cell? ⟨p, 1, none⟩ = some (.int .i64 Y) ∧ L3 w' v xs ∧ w.grownBy w' none
theorem LeftS.more {fb p : Nat} {M Y : Int} {v : Value} {xs : List T3} {w w1 w2 : World} (h : LeftS fb p M Y v xs w w1) (hg : w1.grownBy w2 none) : LeftS fb p M Y v xs w w2 :=
  ⟨g_cellN hg h.1, g_cellN hg h.2.1, g_cellN hg h.2.2.1, h.2.2.2.1.keptN hg, g_none h.2.2.2.2 hg⟩
theorem LeftS.l3 {fb p : Nat} {M Y : Int} {v : Value} {xs : List T3} {w w1 : World} (h : LeftS fb p M Y v xs w w1) : L3 w1 v xs := h.2.2.2.1
theorem LeftS.grown {fb p : Nat} {M Y : Int} {v : Value} {xs : List T3} {w w1 : World} (h : LeftS fb p M Y v xs w w1) : w.grownBy w1 none := h.2.2.2.2

theorem left1_any (fb p : Nat) (M Y : Int) (v : Value) (xs : List T3) (w : World) (h : L3 w v xs) (hG : Good xs) (h1 : w.cell? ⟨fb, 0, none⟩ = some (.pointer (some ⟨p, 0, none⟩))) (h2 : w.cell? ⟨p, 0, none⟩ = some (.int .i64 M)) (h3 : w.cell? ⟨p, 1, none⟩ = some (.int .i64 Y)) :
    Calls Try.prog 42 #[v, .pointer (some ⟨fb, 0, none⟩)] w fun e w' => e = .returned (.bool (fitB M Y xs.length (sum3 xs))) ∧ w.grownBy w' none := by
  obtain ⟨a, cap, hv, hl, hcp, hm, _⟩ := id h
  subst hv
  go_enter Try.func42, Try.ntmps42
  go_wp2_with fail
  have hS1 : LeftS fb p M Y (.slice a xs.length cap) xs w w.drew := ⟨h1, h2, h3, h, g_drew (g_refl _ _)⟩
  clear h h1 h2 h3
  go_region_held3 (fun w' => w'.cell? ⟨fb, 0, none⟩ = some (.pointer (some ⟨p, 0, none⟩)) ∧ w'.cell? ⟨p, 0, none⟩ = some (.int .i64 M) ∧ w'.cell? ⟨p, 1, none⟩ = some (.int .i64 Y) ∧ L3 w' (.slice a xs.length cap) xs ∧ w.grownBy w' none)
    (first | assumption | exact LeftS.more (by assumption) hg2 | exact LeftS.more (by assumption) (g_alloc (g_refl _ none) _))
    (first
      | (go_at_call 26; refine (sum_any xs _ _ (LeftS.l3 (by assumption)) hG).mono ?_; rintro e w2 ⟨rfl, hg2⟩)
      | (go_at_call 43; refine (fit_any M Y _ _ _).mono ?_; rintro e w2 ⟨rfl, hg2⟩)
      | fail)
  go_wp2
  go_ret
  exact ⟨rfl, LeftS.grown (by assumption)⟩
end Go.Proofs.Ytjjkhbipeehljaa
