/-
  A struct within a struct, as numbers in a row.
-/
import Derived.Test.YtjjkhbipeehljaaProg
import Derived.Test.YtjjkhbipeehljaaRow
namespace Go.Proofs.Ytjjkhbipeehljaa
open Go.ChangeShapes Go.WideShapes Go.ChangeAt Go.RowKit

theorem flat_nest {P : Program} {t : TypeId} {ks : List IntKind} {fs : Array Field} (ht : P.underlying t = some (.struct fs)) (hc : P.cellsOf t = ks.length)
    (hf : ∀ (j : Nat) (k : IntKind), ks[j]? = some k → ∃ (i : Nat) (f : Field) (ks' : List IntKind), fs[i]? = some f ∧ FlatV P f.type ks' ∧ P.cellsOf f.type = ks'.length ∧ f.offset ≤ j ∧ ks'[j - f.offset]? = some k) : FlatV P t ks := fun H enc w base spare held fuel cs x h => by
  obtain ⟨xs, n, _, _, hl, hx, hfs⟩ := DataW.trod_struct ht h
  refine ⟨hl.trans hc, fun j k hj => ?_⟩
  obtain ⟨i, f, ks', h1, h2, h3, h4, h5⟩ := hf j k hj
  have := hfs i f h1
  have hjl : i < fs.size := (Array.getElem?_eq_some_iff.1 h1).1
  obtain ⟨y, hy⟩ : ∃ y, xs[i]? = some y := ⟨xs[i]'(by omega), List.getElem?_eq_getElem _⟩
  rw [hy] at this
  obtain ⟨_, h6⟩ := h2 _ _ _ _ _ _ _ _ _ this
  obtain ⟨m, h7, h8⟩ := h6 (j - f.offset) k h5
  refine ⟨m, ?_, h8⟩
  rw [List.getElem?_take] at h7
  split at h7
  · rw [List.getElem?_drop] at h7
    rwa [show f.offset + (j - f.offset) = j by omega] at h7
  · cases h7

theorem flatInt : FlatV Try.prog 3 [.i64] := flat_int Try.underlying3
theorem flatHeld : FlatV Try.prog 33 [.i64, .i64, .i64] := by
  refine flat_struct Try.underlying33 (by kernel_rfl) fun j k hj => ?_
  match j, hj with
  | 0, hj =>
    obtain rfl : IntKind.i64 = k := by simpa using hj
    exact ⟨_, rfl, rfl, by kernel_rfl, by kernel_rfl⟩
  | 1, hj =>
    obtain rfl : IntKind.i64 = k := by simpa using hj
    exact ⟨_, rfl, rfl, by kernel_rfl, by kernel_rfl⟩
  | 2, hj =>
    obtain rfl : IntKind.i64 = k := by simpa using hj
    exact ⟨_, rfl, rfl, by kernel_rfl, by kernel_rfl⟩
  | j + 3, hj => simp at hj
theorem flatAct : FlatV Try.prog 46 [.i64, .i64, .i64, .i64] := by
  refine flat_nest Try.underlying46 (by kernel_rfl) fun j k hj => ?_
  match j, hj with
  | 0, hj =>
    obtain rfl : IntKind.i64 = k := by simpa using hj
    exact ⟨0, _, _, rfl, flatInt, by kernel_rfl, by decide, rfl⟩
  | 1, hj =>
    obtain rfl : IntKind.i64 = k := by simpa using hj
    exact ⟨1, _, _, rfl, flatHeld, by kernel_rfl, by decide, rfl⟩
  | 2, hj =>
    obtain rfl : IntKind.i64 = k := by simpa using hj
    exact ⟨1, _, _, rfl, flatHeld, by kernel_rfl, by decide, rfl⟩
  | 3, hj =>
    obtain rfl : IntKind.i64 = k := by simpa using hj
    exact ⟨1, _, _, rfl, flatHeld, by kernel_rfl, by decide, rfl⟩
  | j + 4, hj => simp at hj
end Go.Proofs.Ytjjkhbipeehljaa
