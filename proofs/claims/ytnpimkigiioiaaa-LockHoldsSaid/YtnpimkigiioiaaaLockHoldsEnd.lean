/-
  LockHolds at whatever arguments can be read.
-/
import Derived.Test.YtnpimkigiioiaaaLockHolds
namespace Go.Proofs.Ytnpimkigiioiaaa
open Go.RowKit
set_option maxRecDepth 100000

theorem holds_else (a0 : Option Addr) (len0 cap0 : Nat) (B : Nat → Int) (w : World) (h : 50 < len0) (_ : len0 ≤ 9223372036854775807) :
    Calls Try.prog 4 #[.slice a0 len0 cap0, .agg #[.int .i64 (B 0), .int .i64 (B 1), .int .i64 (B 2), .int .i64 (B 3)]] w fun e w' => e = .returned (.bool true) ∧ w.grownBy w' none := by
  have hgA := g_alloc (g_refl w none) (.cells #[.int .i64 (B 0), .int .i64 (B 1), .int .i64 (B 2), .int .i64 (B 3)] 41)
  go_enter Try.func4, Try.ntmps4
  go_wp2_with fail
  refine (works_any _).mono ?_
  rintro e w1 ⟨rfl, hg⟩
  go_wp2
  go_ret
  exact ⟨rfl, g_none hgA hg⟩

theorem holds_law (a0 : Option Addr) (len0 cap0 : Nat) (A : Nat → Nat → Int) (B : Nat → Int) (w : World)
    (h0 : len0 ≤ cap0) (h1 : cap0 ≤ 9223372036854775807) (hA : RowAt w a0 len0 [.i64, .i64, .i64] A)
    (hB : ∀ (j : Nat) (k : IntKind), [IntKind.i64, IntKind.i64, IntKind.i64, IntKind.i64][j]? = some k → (Lit.int k (B j)).wf = true) :
    Calls Try.prog 4 #[.slice a0 len0 cap0, .agg #[.int .i64 (B 0), .int .i64 (B 1), .int .i64 (B 2), .int .i64 (B 3)]] w fun e w' => e = .returned (.bool true) ∧ w.grownBy w' none := by
  by_cases h : 50 < len0
  · exact holds_else a0 len0 cap0 B w h (by omega)
  · exact holds_walk a0 len0 cap0 A B w (acts_of_row hA) (by omega) (fun i hi => hB i .i64 (by match i, hi with | 0, _ => rfl | 1, _ => rfl | 2, _ => rfl | 3, _ => rfl))
end Go.Proofs.Ytnpimkigiioiaaa
