/-
  FeedHolds at whatever arguments can be read.
-/
import Derived.Test.YtkeicoadpdfkkaaFeedHolds
import Derived.Test.YtkeicoadpdfkkaaRow
namespace Go.Proofs.Ytkeicoadpdfkkaa
open Go.RowKit

def bytesOf (len : Nat) (A : Nat → Nat → Int) : List Int := (List.range len).map fun i => A i 0
theorem bytesOf_length (len : Nat) (A : Nat → Nat → Int) : (bytesOf len A).length = len := by simp [bytesOf]
theorem bytes_of_row {w : World} {a : Option Addr} {len cap : Nat} {A : Nat → Nat → Int} (hl : len ≤ 20000) (hc : len ≤ cap) (hm : cap ≤ 9223372036854775807) (h : RowAt w a len [.u8] A) : LB w (.slice a (bytesOf len A).length cap) (bytesOf len A) := by
  refine ⟨a, cap, rfl, by rw [bytesOf_length]; exact hl, by rw [bytesOf_length]; exact hc, by unfold maxLen; exact hm, fun h0 => ?_⟩
  rw [bytesOf_length] at h0
  obtain ⟨b, off, ha, _, hx⟩ := h h0
  refine ⟨b, off, ha, fun i x hi => ?_⟩
  have hil : i < len := by have := (List.getElem?_eq_some_iff.1 hi).1; rwa [bytesOf_length] at this
  have hxi : x = A i 0 := by
    simp [bytesOf, hil] at hi
    exact hi.symm
  subst hxi
  simpa using (hx i hil 0 _ rfl).1
theorem bytes_u8 {w : World} {a : Option Addr} {len : Nat} {A : Nat → Nat → Int} (h : RowAt w a len [.u8] A) : ∀ y ∈ bytesOf len A, 0 ≤ y ∧ y < 256 := fun y hy => by
  obtain ⟨i, hi, rfl⟩ := List.mem_map.1 hy
  have hil := List.mem_range.1 hi
  obtain ⟨b, off, _, _, hx⟩ := h (by omega)
  exact u8_of_wf (hx i hil 0 _ rfl).2

set_option maxRecDepth 100000 in
set_option maxHeartbeats 1000000 in
theorem holds_else (a0 : Option Addr) (len0 cap0 : Nat) (a1 : Option Addr) (len1 cap1 : Nat) (w : World) (h : 300 < len0 ∨ 40 < len1) (_ : len0 ≤ 9223372036854775807) (_ : len1 ≤ 9223372036854775807) :
    Calls Try.prog 3 #[.slice a0 len0 cap0, .slice a1 len1 cap1] w fun e w' => e = .returned (.bool true) ∧ w.grownBy w' none := by
  by_cases h0 : 300 < len0
  · clear h
    go_enter Try.func3, Try.ntmps3
    go_wp2_with fail
    refine (works_true _).mono ?_
    rintro e w1 ⟨rfl, hg⟩
    go_wp2
    go_ret
    exact ⟨rfl, hg⟩
  have h1 : 40 < len1 := h.resolve_left h0
  clear h
  go_enter Try.func3, Try.ntmps3
  go_wp2_with fail
  refine (works_true _).mono ?_
  rintro e w1 ⟨rfl, hg⟩
  go_wp2
  go_ret
  exact ⟨rfl, hg⟩

theorem holds_law (a0 : Option Addr) (len0 cap0 : Nat) (A : Nat → Nat → Int) (a1 : Option Addr) (len1 cap1 : Nat) (C : Nat → Nat → Int) (w : World)
    (h0 : len0 ≤ cap0) (h1 : cap0 ≤ 9223372036854775807) (hA : RowAt w a0 len0 [.u8] A) (h2 : len1 ≤ cap1) (h3 : cap1 ≤ 9223372036854775807) (hC : RowAt w a1 len1 [.u8] C) :
    Calls Try.prog 3 #[.slice a0 len0 cap0, .slice a1 len1 cap1] w fun e w' => e = .returned (.bool true) ∧ w.grownBy w' none := by
  by_cases h : 300 < len0 ∨ 40 < len1
  · exact holds_else a0 len0 cap0 a1 len1 cap1 w h (by omega) (by omega)
  · have := holds_walk a0 cap0 (bytesOf len0 A) a1 cap1 (bytesOf len1 C) w (bytes_of_row (by omega) h0 h1 hA) (bytes_of_row (by omega) h2 h3 hC) (by rw [bytesOf_length]; omega) (by rw [bytesOf_length]; omega) (bytes_u8 hC)
    rwa [bytesOf_length, bytesOf_length] at this
end Go.Proofs.Ytkeicoadpdfkkaa
