/-
  FeedPlays at whatever arguments can be read.
-/
import Derived.Test.YtkeicoadpdfkkaaFeedPlays
namespace Go.Proofs.Ytkeicoadpdfkkaa
open Go.RowKit

set_option maxRecDepth 100000 in
theorem plays_else (a0 : Option Addr) (len0 cap0 : Nat) (a1 : Option Addr) (len1 cap1 : Nat) (w : World) (h : 200 < len0 ∨ 60 < len1) (_ : len0 ≤ 9223372036854775807) (_ : len1 ≤ 9223372036854775807) :
    Calls Try.prog 4 #[.slice a0 len0 cap0, .slice a1 len1 cap1] w fun e w' => e = .returned (.bool true) ∧ w.grownBy w' none := by
  by_cases h0 : 200 < len0
  · clear h
    go_enter Try.func4, Try.ntmps4
    go_wp2_with fail
    refine (works_true _).mono ?_
    rintro e w1 ⟨rfl, hg⟩
    go_wp2
    go_ret
    exact ⟨rfl, hg⟩
  have h1 : 60 < len1 := h.resolve_left h0
  clear h
  go_enter Try.func4, Try.ntmps4
  go_wp2_with fail
  refine (works_true _).mono ?_
  rintro e w1 ⟨rfl, hg⟩
  go_wp2
  go_ret
  exact ⟨rfl, hg⟩

theorem plays_law (a0 : Option Addr) (len0 cap0 : Nat) (A : Nat → Nat → Int) (a1 : Option Addr) (len1 cap1 : Nat) (C : Nat → Nat → Int) (w : World)
    (h0 : len0 ≤ cap0) (h1 : cap0 ≤ 9223372036854775807) (hA : RowAt w a0 len0 [.u8] A) (h2 : len1 ≤ cap1) (h3 : cap1 ≤ 9223372036854775807) (hC : RowAt w a1 len1 [.i64, .i64] C) :
    Calls Try.prog 4 #[.slice a0 len0 cap0, .slice a1 len1 cap1] w fun e w' => e = .returned (.bool true) ∧ w.grownBy w' none := by
  by_cases h : 200 < len0 ∨ 60 < len1
  · exact plays_else a0 len0 cap0 a1 len1 cap1 w h (by omega) (by omega)
  · have := plays_walk a0 cap0 (bytesOf len0 A) a1 len1 cap1 C w (bytes_of_row (by omega) h0 h1 hA) (by rw [bytesOf_length]; omega) (bytes_u8 hA) (acts_of_row hC) (by omega)
    rwa [bytesOf_length] at this
end Go.Proofs.Ytkeicoadpdfkkaa
