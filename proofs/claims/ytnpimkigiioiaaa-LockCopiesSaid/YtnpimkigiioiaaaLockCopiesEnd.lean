/-
  LockCopies at whatever arguments can be read.
-/
import Derived.Test.YtnpimkigiioiaaaLockCopies
namespace Go.Proofs.Ytnpimkigiioiaaa
open Go.RowKit
set_option maxRecDepth 100000

theorem copies_else (a0 : Option Addr) (len0 cap0 : Nat) (B : Nat → Int) (w : World) (h : 30 < len0) (_ : len0 ≤ 9223372036854775807) :
    Calls Try.prog 6 #[.slice a0 len0 cap0, .agg #[.int .i64 (B 0), .int .i64 (B 1), .int .i64 (B 2), .int .i64 (B 3), .int .i64 (B 4), .int .i64 (B 5)]] w fun e w' => e = .returned (.bool true) ∧ w.grownBy w' none := by
  have hgA := g_alloc (g_alloc (g_refl w none) (.cells #[.int .i64 (B 0), .int .i64 (B 1), .int .i64 (B 2), .int .i64 (B 3), .int .i64 (B 4), .int .i64 (B 5)] 54)) (.cells #[.bool false] 4)
  have hbR := Boxed.new (w.alloc (.cells #[.int .i64 (B 0), .int .i64 (B 1), .int .i64 (B 2), .int .i64 (B 3), .int .i64 (B 4), .int .i64 (B 5)] 54)) 4 (.bool false)
  rw [World.size_alloc] at hbR
  go_enter Try.func6, Try.ntmps6
  go_wp2_with fail
  refine (works_any _).mono ?_
  rintro e w1 ⟨rfl, hg⟩
  have hb1 := hbR.kept hg (by simp)
  have hf := hb1.frozen
  have hc := hb1.cell
  have hb2 := hb1.set (.bool true)
  have hgR := grownBy_setCell' w1 (w.heap.size + 1) (.bool true)
  go_wp2
  refine bodyPost_ret (results_box rfl _ _ (w.heap.size + 1) _ _ rfl Try.underlying4 rfl hb2.cell) rfl ?_
  exact ⟨rfl, g_new (g_none hgA hg) hgR (by omega)⟩

theorem copies_law (a0 : Option Addr) (len0 cap0 : Nat) (A : Nat → Nat → Int) (B : Nat → Int) (w : World)
    (h0 : len0 ≤ cap0) (h1 : cap0 ≤ 9223372036854775807) (hA : RowAt w a0 len0 [.i64, .i64, .i64] A)
    (_ : ∀ (j : Nat) (k : IntKind), [IntKind.i64, IntKind.i64, IntKind.i64, IntKind.i64, IntKind.i64, IntKind.i64][j]? = some k → (Lit.int k (B j)).wf = true) :
    Calls Try.prog 6 #[.slice a0 len0 cap0, .agg #[.int .i64 (B 0), .int .i64 (B 1), .int .i64 (B 2), .int .i64 (B 3), .int .i64 (B 4), .int .i64 (B 5)]] w fun e w' => e = .returned (.bool true) ∧ w.grownBy w' none := by
  by_cases h : 30 < len0
  · exact copies_else a0 len0 cap0 B w h (by omega)
  · exact copies_walk a0 len0 cap0 A B w (acts_of_row hA) (by omega)
end Go.Proofs.Ytnpimkigiioiaaa
