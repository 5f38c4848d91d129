/-
  RoundSums at whatever arguments can be read.
-/
import Derived.Test.YtgdnafafojiabaaDoorRoundSumsAll
namespace Go.Proofs.YtgdnafafojiabaaDoor
open Go.RowKit

def numsOf (len : Nat) (A : Nat → Nat → Int) : List Nat := (List.range len).map fun i => (A i 0).toNat
theorem numsOf_length (len : Nat) (A : Nat → Nat → Int) : (numsOf len A).length = len := by simp [numsOf]
theorem nums_of_row {w : World} {a : Option Addr} {len cap : Nat} {A : Nat → Nat → Int} (hl : len ≤ 1000) (hc : len ≤ cap) (hm : cap ≤ 9223372036854775807) (h : RowAt w a len [.u64] A) : LU w (.slice a (numsOf len A).length cap) (numsOf len A) := by
  refine ⟨a, cap, rfl, by rw [numsOf_length]; exact hl, by rw [numsOf_length]; exact hc, by unfold maxLen; exact hm, fun x hx => ?_, fun h0 => ?_⟩
  · obtain ⟨i, hi, rfl⟩ := List.mem_map.1 hx
    have hil := List.mem_range.1 hi
    obtain ⟨b, off, _, _, hx⟩ := h (by omega)
    have := u64_of_wf (hx i hil 0 _ rfl).2
    omega
  · rw [numsOf_length] at h0
    obtain ⟨b, off, ha, _, hx⟩ := h h0
    refine ⟨b, off, ha, fun i x hi => ?_⟩
    have hil : i < len := by have := (List.getElem?_eq_some_iff.1 hi).1; rwa [numsOf_length] at this
    have hxi : x = (A i 0).toNat := by
      simp [numsOf, hil] at hi
      exact hi.symm
    have h2 := u64_of_wf (hx i hil 0 _ rfl).2
    have h3 : ((A i 0).toNat : Int) = A i 0 := by omega
    rw [hxi, h3]
    simpa using (hx i hil 0 _ rfl).1

set_option maxRecDepth 100000 in
theorem sums_else (a0 : Option Addr) (len0 cap0 : Nat) (w : World) (h : 20 < len0) (_ : len0 ≤ 9223372036854775807) (hT : Tab w) :
    Calls Tryd.prog 3 #[.slice a0 len0 cap0] w fun e w' => e = .returned (.bool true) ∧ w.grownBy w' none := by
  have h20 : (20 : Int) < (len0 : Int) := by omega
  go_enter Tryd.func3, Tryd.ntmps3
  go_wp2_with fail
  refine (works_true _ hT).mono ?_
  rintro e w1 ⟨rfl, hg⟩
  go_wp2
  go_ret
  exact ⟨rfl, hg⟩

theorem sums_law (a0 : Option Addr) (len0 cap0 : Nat) (A : Nat → Nat → Int) (w : World) (h0 : len0 ≤ cap0) (h1 : cap0 ≤ 9223372036854775807) (hA : RowAt w a0 len0 [.u64] A) (hT : Tab w) :
    Calls Tryd.prog 3 #[.slice a0 len0 cap0] w fun e w' => e = .returned (.bool true) ∧ w.grownBy w' none := by
  by_cases h : 20 < len0
  · exact sums_else a0 len0 cap0 w h (by omega) hT
  · have := sums_walk a0 cap0 (numsOf len0 A) w (nums_of_row (by omega) h0 h1 hA) (by rw [numsOf_length]; omega) hT
    rwa [numsOf_length] at this
end Go.Proofs.YtgdnafafojiabaaDoor
