/-
  CellCopies at whatever arguments can be read.
-/
import Derived.Test.YthoelbildokmpaaCellCopies
import Derived.Test.YthoelbildokmpaaCellHoldsEnd
namespace Go.Proofs.Ythoelbildokmpaa
open Go.RowKit

set_option maxRecDepth 100000 in
set_option maxHeartbeats 1000000 in
theorem copies_else (a0 : Option Addr) (len0 cap0 : Nat) (B : Nat → Int) (i : Int) (w : World) (h : 40 < len0 ∨ i < 1 ∨ 9 < i) (_ : len0 ≤ 9223372036854775807) :
    Calls Try.prog 5 #[.slice a0 len0 cap0, .agg #[.int .i64 (B 0), .int .i64 (B 1), .int .u64 (B 2), .int .u64 (B 3), .int .i64 (B 4), .int .i64 (B 5), .int .u64 (B 6), .int .u64 (B 7)], .int .i64 i] w fun e w' => e = .returned (.bool true) ∧ w.grownBy w' none := by
  have hgA : w.grownBy ((w.alloc (.cells #[.int .i64 (B 0), .int .i64 (B 1), .int .u64 (B 2), .int .u64 (B 3), .int .i64 (B 4), .int .i64 (B 5), .int .u64 (B 6), .int .u64 (B 7)] 57)).alloc (.cells #[.int .i64 i] 3)) none := g_alloc (g_alloc (g_refl w _) _) _
  have key : ∀ w', w.grownBy w' none → Calls Try.prog 6 #[] w' fun e w2 => e = .returned (.bool true) ∧ w.grownBy w2 none := fun w' hg => (works_true w').mono fun e w2 ⟨he, hg2⟩ => ⟨he, g_none hg hg2⟩
  by_cases h0 : 40 < len0
  · go_enter Try.func5, Try.ntmps5
    go_wp2_with fail
    refine (key _ hgA).mono ?_
    rintro e w1 ⟨rfl, hg⟩
    go_wp2
    go_ret
    exact ⟨rfl, hg⟩
  by_cases h1 : i < 1
  · go_enter Try.func5, Try.ntmps5
    go_wp2_with fail
    refine (key _ hgA).mono ?_
    rintro e w1 ⟨rfl, hg⟩
    go_wp2
    go_ret
    exact ⟨rfl, hg⟩
  have h2 : 9 < i := by omega
  go_enter Try.func5, Try.ntmps5
  go_wp2_with fail
  refine (key _ hgA).mono ?_
  rintro e w1 ⟨rfl, hg⟩
  go_wp2
  go_ret
  exact ⟨rfl, hg⟩

theorem copies_law (a0 : Option Addr) (len0 cap0 : Nat) (A : Nat → Nat → Int) (B : Nat → Int) (i : Int) (w : World)
    (h0 : len0 ≤ cap0) (h1 : cap0 ≤ 9223372036854775807) (hA : RowAt w a0 len0 [.i64, .i64, .u64, .u64] A) (_ : ∀ (j : Nat) (k : IntKind), [IntKind.i64, IntKind.i64, IntKind.u64, IntKind.u64, IntKind.i64, IntKind.i64, IntKind.u64, IntKind.u64][j]? = some k → (Lit.int k (B j)).wf = true) (_ : (Lit.int .i64 i).wf = true) :
    Calls Try.prog 5 #[.slice a0 len0 cap0, .agg #[.int .i64 (B 0), .int .i64 (B 1), .int .u64 (B 2), .int .u64 (B 3), .int .i64 (B 4), .int .i64 (B 5), .int .u64 (B 6), .int .u64 (B 7)], .int .i64 i] w fun e w' => e = .returned (.bool true) ∧ w.grownBy w' none := by
  by_cases h : 40 < len0 ∨ i < 1 ∨ 9 < i
  · exact copies_else a0 len0 cap0 B i w h (by omega)
  · obtain ⟨m, rfl⟩ := Int.eq_ofNat_of_zero_le (show 0 ≤ i by omega)
    exact copies_walk a0 len0 cap0 A B m w (acts_of_row hA) (by omega) (by omega) (by omega)
end Go.Proofs.Ythoelbildokmpaa
