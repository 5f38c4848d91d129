/-
  FifoHolds at whatever arguments can be read.
-/
import Derived.Test.YtjjkhbipeehljaaFifoHolds
import Derived.Test.YtjjkhbipeehljaaRow
namespace Go.Proofs.Ytjjkhbipeehljaa
open Go.RowKit

theorem held_of_row {w : World} {a : Option Addr} {len : Nat} {A : Nat → Nat → Int} (h : RowAt w a len [.i64, .i64, .i64] A) : HeldAt w a len A := fun hl => by
  obtain ⟨b, off, ha, hb, hc⟩ := h hl
  refine ⟨b, off, ha, hb, fun i hi => ⟨?_, ?_, ?_⟩⟩
  · simpa using (hc i hi 0 _ rfl).1
  · simpa using (hc i hi 1 _ rfl).1
  · simpa using (hc i hi 2 _ rfl).1

set_option maxRecDepth 100000 in
set_option maxHeartbeats 1000000 in
theorem holds_else (M Y : Int) (a0 : Option Addr) (len0 cap0 : Nat) (w : World) (hl : len0 ≤ 9223372036854775807) (h : 60 < len0 ∨ boundB M Y = false) :
    Calls Try.prog 3 #[.agg #[.int .i64 M, .int .i64 Y], .slice a0 len0 cap0] w fun e w' => e = .returned (.bool true) ∧ w.grownBy w' none := by
  have hgA := g_alloc (g_refl w none) (.cells #[.int .i64 M, .int .i64 Y] 22)
  have bB := Blk.new w [.int .i64 M, .int .i64 Y] 22
  have kb0 := bB.cellOf (i := 0) rfl
  have kb1 := bB.cellOf (i := 1) rfl
  by_cases h0 : 60 < len0
  · go_enter Try.func3, Try.ntmps3
    go_wp2_with fail
    refine (works_true _).mono ?_
    rintro e w1 ⟨rfl, hg⟩
    go_wp2
    go_ret
    exact ⟨rfl, g_none hgA hg⟩
  have hb : boundB M Y = false := h.resolve_left h0
  clear h
  go_enter Try.func3, Try.ntmps3
  go_wp2_with fail
  refine (new_no M Y _ hb).mono ?_
  rintro e w1 ⟨rfl, hg1⟩
  go_wp2_with (go_at_call 8; refine (num_any _ _).mono ?_; rintro e _ ⟨rfl, rfl⟩)
  refine (works_true _).mono ?_
  rintro e w2 ⟨rfl, hg⟩
  go_wp2
  go_ret
  exact ⟨rfl, g_none (g_none hgA hg1) hg⟩

theorem holds_law (B : Nat → Int) (a0 : Option Addr) (len0 cap0 : Nat) (A : Nat → Nat → Int) (w : World)
    (_ : ∀ (j : Nat) (k : IntKind), [IntKind.i64, IntKind.i64][j]? = some k → (Lit.int k (B j)).wf = true) (h0 : len0 ≤ cap0) (h1 : cap0 ≤ 9223372036854775807) (hA : RowAt w a0 len0 [.i64, .i64, .i64] A) :
    Calls Try.prog 3 #[.agg #[.int .i64 (B 0), .int .i64 (B 1)], .slice a0 len0 cap0] w fun e w' => e = .returned (.bool true) ∧ w.grownBy w' none := by
  by_cases h : 60 < len0 ∨ boundB (B 0) (B 1) = false
  · exact holds_else _ _ a0 len0 cap0 w (by omega) h
  · exact holds_walk _ _ a0 len0 cap0 A w (held_of_row hA) (by omega) (by cases hb : boundB (B 0) (B 1) with
      | true => rfl
      | false => exact absurd (Or.inr hb) h)
end Go.Proofs.Ytjjkhbipeehljaa
