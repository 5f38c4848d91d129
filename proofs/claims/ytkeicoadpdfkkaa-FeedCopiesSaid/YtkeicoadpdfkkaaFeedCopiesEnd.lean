/-
  FeedCopies at whatever arguments can be read.
-/
import Derived.Test.YtkeicoadpdfkkaaFeedCopies
namespace Go.Proofs.Ytkeicoadpdfkkaa
open Go.RowKit

set_option maxRecDepth 100000 in
theorem copies_else (a0 : Option Addr) (len0 cap0 : Nat) (a1 : Option Addr) (len1 cap1 : Nat) (B : Nat → Int) (w : World) (h : 100 < len0 ∨ 20 < len1) (_ : len0 ≤ 9223372036854775807) (_ : len1 ≤ 9223372036854775807) :
    Calls Try.prog 5 #[.slice a0 len0 cap0, .slice a1 len1 cap1, .agg #[.int .i64 (B 0), .int .i64 (B 1), .int .i64 (B 2), .int .i64 (B 3)]] w fun e w' => e = .returned (.bool true) ∧ w.grownBy w' none := by
  have hgA := g_alloc (g_refl w none) (.cells #[.int .i64 (B 0), .int .i64 (B 1), .int .i64 (B 2), .int .i64 (B 3)] 49)
  by_cases h0 : 100 < len0
  all_goals
    try have h1 : 20 < len1 := h.resolve_left h0
    clear h
    go_enter Try.func5, Try.ntmps5
    go_wp2_with fail
    refine (works_true _).mono ?_
    rintro e w1 ⟨rfl, hg⟩
    go_wp2
    go_ret
    exact ⟨rfl, g_none hgA hg⟩

theorem copies_law (a0 : Option Addr) (len0 cap0 : Nat) (A : Nat → Nat → Int) (a1 : Option Addr) (len1 cap1 : Nat) (C : Nat → Nat → Int) (B : Nat → Int) (w : World)
    (h0 : len0 ≤ cap0) (h1 : cap0 ≤ 9223372036854775807) (hA : RowAt w a0 len0 [.u8] A) (h2 : len1 ≤ cap1) (h3 : cap1 ≤ 9223372036854775807) (hC : RowAt w a1 len1 [.i64, .i64] C)
    (_ : ∀ (j : Nat) (k : IntKind), [IntKind.i64, IntKind.i64, IntKind.i64, IntKind.i64][j]? = some k → (Lit.int k (B j)).wf = true) :
    Calls Try.prog 5 #[.slice a0 len0 cap0, .slice a1 len1 cap1, .agg #[.int .i64 (B 0), .int .i64 (B 1), .int .i64 (B 2), .int .i64 (B 3)]] w fun e w' => e = .returned (.bool true) ∧ w.grownBy w' none := by
  by_cases h : 100 < len0 ∨ 20 < len1
  · exact copies_else a0 len0 cap0 a1 len1 cap1 B w h (by omega) (by omega)
  · have := copies_walk a0 cap0 (bytesOf len0 A) a1 len1 cap1 C B w (bytes_of_row (by omega) h0 h1 hA) (by rw [bytesOf_length]; omega) (bytes_u8 hA) (acts_of_row hC) (by omega)
    rwa [bytesOf_length] at this
end Go.Proofs.Ytkeicoadpdfkkaa
