/-
  LockChains at whatever arguments can be read.
-/
import Derived.Test.YtnpimkigiioiaaaLockChains
namespace Go.Proofs.Ytnpimkigiioiaaa
open Go.RowKit
set_option maxRecDepth 100000

theorem chains_else (a0 : Option Addr) (len0 cap0 : Nat) (t : Int) (a1 : Option Addr) (len1 cap1 : Nat) (w : World) (h : 40 < len0 ∨ 6 < len1) (_ : len0 ≤ 9223372036854775807) (_ : len1 ≤ 9223372036854775807) :
    Calls Try.prog 3 #[.slice a0 len0 cap0, .int .i64 t, .slice a1 len1 cap1] w fun e w' => e = .returned (.bool true) ∧ w.grownBy w' none := by
  by_cases h0 : 40 < len0
  all_goals
    try have h1 : 6 < len1 := h.resolve_left h0
    clear h
    go_enter Try.func3, Try.ntmps3
    go_wp2_with fail
    refine (works_any _).mono ?_
    rintro e w1 ⟨rfl, hg⟩
    go_wp2
    go_ret
    exact ⟨rfl, hg⟩

theorem chains_law (a0 : Option Addr) (len0 cap0 : Nat) (A : Nat → Nat → Int) (t : Int) (a1 : Option Addr) (len1 cap1 : Nat) (C : Nat → Nat → Int) (w : World)
    (h0 : len0 ≤ cap0) (h1 : cap0 ≤ 9223372036854775807) (hA : RowAt w a0 len0 [.i64, .i64, .i64] A) (_ : (Lit.int .i64 t).wf = true) (h2 : len1 ≤ cap1) (h3 : cap1 ≤ 9223372036854775807) (hC : RowAt w a1 len1 [.i64] C) :
    Calls Try.prog 3 #[.slice a0 len0 cap0, .int .i64 t, .slice a1 len1 cap1] w fun e w' => e = .returned (.bool true) ∧ w.grownBy w' none := by
  by_cases h : 40 < len0 ∨ 6 < len1
  · exact chains_else a0 len0 cap0 t a1 len1 cap1 w h (by omega) (by omega)
  · have := chains_walk a0 len0 cap0 A t (.slice a1 (numsOf len1 C).length cap1) (numsOf len1 C) w (acts_of_row hA) (by omega) (nums_of_row (by omega) h2 h3 hC) (by rw [numsOf_length]; omega) (nums_wf hC)
    rwa [numsOf_length] at this
end Go.Proofs.Ytnpimkigiioiaaa
