/-
  CellHolds at whatever arguments can be read.
-/
import Derived.Test.YthoelbildokmpaaCellHolds
import Derived.Test.YthoelbildokmpaaRow
namespace Go.Proofs.Ythoelbildokmpaa
open Go.RowKit

theorem acts_of_row {w : World} {a : Option Addr} {len : Nat} {A : Nat → Nat → Int} (h : RowAt w a len [.i64, .i64, .u64, .u64] A) : ActsAt w a len A := fun hl => by
  obtain ⟨b, off, ha, _, hc⟩ := h hl
  refine ⟨b, off, ha, fun i hi => ⟨?_, ?_, ?_, ?_⟩⟩
  · simpa using (hc i hi 0 _ rfl).1
  · simpa using (hc i hi 1 _ rfl).1
  · simpa using (hc i hi 2 _ rfl).1
  · simpa using (hc i hi 3 _ rfl).1
theorem words_of_row {w : World} {a : Option Addr} {len : Nat} {A : Nat → Nat → Int} (h : RowAt w a len [.u64] A) : WordsAt w a len (fun i => A i 0) := fun hl => by
  obtain ⟨b, off, ha, _, hc⟩ := h hl
  exact ⟨b, off, ha, fun i hi => by simpa using (hc i hi 0 _ rfl).1⟩

theorem holds_law (a0 : Option Addr) (len0 cap0 : Nat) (A : Nat → Nat → Int) (i : Int) (a2 : Option Addr) (len2 cap2 : Nat) (V : Nat → Nat → Int) (w : World)
    (_ : len0 ≤ cap0) (_ : cap0 ≤ 9223372036854775807) (hA : RowAt w a0 len0 [.i64, .i64, .u64, .u64] A) (_ : (Lit.int .i64 i).wf = true) (_ : len2 ≤ cap2) (_ : cap2 ≤ 9223372036854775807) (hV : RowAt w a2 len2 [.u64] V) :
    Calls Try.prog 3 #[.slice a0 len0 cap0, .int .i64 i, .slice a2 len2 cap2] w fun e w' => e = .returned (.bool true) ∧ w.grownBy w' none := by
  by_cases h : 40 < len0 ∨ 10 < len2 ∨ i < 0 ∨ 5 < i
  · exact holds_else a0 len0 cap0 i a2 len2 cap2 w h
  · exact holds_walk a0 len0 cap0 A i a2 len2 cap2 (fun i => V i 0) w (acts_of_row hA) (words_of_row hV) (by omega) (by omega) (by omega) (by omega)
end Go.Proofs.Ythoelbildokmpaa
