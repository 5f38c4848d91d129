/-
  Lists of two numbers each, read: are two the same?
-/
import Derived.Test.YtnpimkigiioiaaaCellMore
import Derived.BigQuiet
namespace Go.Proofs.Ytnpimkigiioiaaa
open Go.RowKit
set_option maxRecDepth 100000

/-- A slice that reads as a list of two numbers each. -/
def SliceOf (w : World) (k1 k2 : IntKind) (v : Value) (xs : List (Int × Int)) : Prop :=
  ∃ (a : Option Addr) (cap : Nat), v = .slice a xs.length cap ∧ xs.length ≤ 1000000 ∧ (0 < xs.length → ∃ g, a = some ⟨g, 0, none⟩ ∧
    ∀ i u c, xs[i]? = some (u, c) → w.cell? ⟨g, i * 2, none⟩ = some (.int k1 u) ∧ w.cell? ⟨g, i * 2 + 1, none⟩ = some (.int k2 c))

theorem drewN_cell (w : World) (n : Nat) (a : Addr) : (w.drewN n).cell? a = w.cell? a := rfl
theorem drewN_frozen (w : World) (n : Nat) (a : Addr) : (w.drewN n).frozen? a = w.frozen? a := rfl
theorem g_drewN {w w1 : World} {row : Option Nat} (h : w.grownBy w1 row) (n : Nat) : w.grownBy (w1.drewN n) row := ⟨h.os, h.tape, h.output, h.size, h.block⟩
theorem SliceOf.drewN {w : World} {k1 k2 : IntKind} {v : Value} {xs : List (Int × Int)} (h : SliceOf w k1 k2 v xs) (n : Nat) : SliceOf (w.drewN n) k1 k2 v xs := h
theorem SliceOf.keptN {w w' : World} {k1 k2 : IntKind} {v : Value} {xs : List (Int × Int)} (h : SliceOf w k1 k2 v xs) (hg : w.grownBy w' none) : SliceOf w' k1 k2 v xs := by
  obtain ⟨a, cap, hv, hl, hc⟩ := h
  refine ⟨a, cap, hv, hl, fun h0 => ?_⟩
  obtain ⟨g, ha, hx⟩ := hc h0
  exact ⟨g, ha, fun i u c hi => ⟨g_cellN hg (hx i u c hi).1, g_cellN hg (hx i u c hi).2⟩⟩
theorem SliceOf.list {w : World} {e : TypeId} {v : Value} {xs : List (Int × Int)} (h : ListAt w e v xs) (hx : xs.length ≤ 1000000) : SliceOf w .u64 .i64 v xs := by
  obtain ⟨g, cap, rfl, _, _, hc⟩ := h.facts
  exact ⟨_, cap, rfl, hx, fun _ => ⟨g, rfl, fun i u c hi => hc i u c hi⟩⟩

/-- The first so many are the same. -/
theorem take_step {xs ys : List (Int × Int)} {k : Nat} {u c u' c' : Int} (hx : xs[k]? = some (u, c)) (hy : ys[k]? = some (u', c')) (h : xs.take k = ys.take k) (hu : u = u') (hc : c = c') : xs.take (k + 1) = ys.take (k + 1) := by
  rw [List.take_add_one, List.take_add_one, hx, hy, h, hu, hc]
theorem not_same {xs ys : List (Int × Int)} {k : Nat} {u c u' c' : Int} (hx : xs[k]? = some (u, c)) (hy : ys[k]? = some (u', c')) (h : ¬ (u = u' ∧ c = c')) : decide (xs = ys) = false := by
  simp only [decide_eq_false_iff_not]
  rintro rfl
  rw [hx] at hy; cases hy
  exact h ⟨rfl, rfl⟩

end Go.Proofs.Ytnpimkigiioiaaa
