/-
  RoundHolds at whatever arguments.
-/
import Derived.Test.YtgdnafafojiabaaDoorRoundPowers
namespace Go.Proofs.YtgdnafafojiabaaDoor
open Go.RowKit

theorem add3 (a b c : Nat) : addO [a, b, c] = if a + b + c < 18446744073709551616 then some (a + b + c) else none := by
  unfold addO
  simp only [foldN, Nat.zero_add]
  by_cases h : a + b + c < 18446744073709551616
  · rw [if_pos (by omega), if_pos (by omega), if_pos h]
  · rw [if_neg h]
    split
    · split
      · rfl
      · rfl
    · rfl
theorem add_turn (a b c : Nat) : addO [c, a, b] = addO [a, b, c] := by
  rw [add3, add3, show c + a + b = a + b + c by omega]
theorem mul3 (a b c : Nat) (ha : a ≠ 0) (hb : b ≠ 0) (hc : c ≠ 0) : mulO [a, b, c] = if a * b * c < 18446744073709551616 then some (a * b * c) else none := by
  unfold mulO
  rw [if_neg (by simp; omega)]
  simp only [foldN, Nat.one_mul]
  have h1 : a ≤ a * b := Nat.le_mul_of_pos_right _ (by omega)
  have h2 : a * b ≤ a * b * c := Nat.le_mul_of_pos_right _ (by omega)
  by_cases h : a * b * c < 18446744073709551616
  · rw [if_pos (by omega), if_pos (by omega), if_pos h]
  · rw [if_neg h]
    split
    · split
      · rfl
      · rfl
    · rfl
theorem mul_turn (a b c : Nat) : mulO [b, c, a] = mulO [a, b, c] := by
  by_cases h : 0 ∈ [a, b, c]
  · have h' : 0 ∈ [b, c, a] := by simp at h ⊢; omega
    unfold mulO
    rw [if_pos h, if_pos h']
  · have h1 : a ≠ 0 ∧ b ≠ 0 ∧ c ≠ 0 := by simp at h; omega
    rw [mul3 _ _ _ h1.1 h1.2.1 h1.2.2, mul3 _ _ _ h1.2.1 h1.2.2 h1.1, show b * c * a = a * b * c by rw [Nat.mul_comm (b * c) a, Nat.mul_assoc]]
theorem mul2 (a b : Nat) (ha : a < 18446744073709551616) (h : a * b < 18446744073709551616) : mulO [a, b] = some (a * b) := by
  unfold mulO
  by_cases h0 : 0 ∈ [a, b]
  · rw [if_pos h0]
    simp at h0
    rcases h0 with rfl | rfl <;> simp
  · rw [if_neg h0]
    simp only [foldN, Nat.one_mul]
    rw [if_pos ha, if_pos h]
theorem mem_three {a b c : Nat} (ha : a < 18446744073709551616) (hb : b < 18446744073709551616) (hc : c < 18446744073709551616) : ∀ x, x ∈ [a, b, c] → x < 18446744073709551616 := by
  intro x hx
  simp at hx
  rcases hx with rfl | rfl | rfl <;> assumption

/-- What the three tell of a number. -/
inductive Tells (a s : Nat) : Nat → Nat → Nat → Int → Prop
  | same (h : a % s = 0) : Tells a s a a (a / s) 0
  | up (D : Nat) (h : D < a) (h1 : a < D + s) (h2 : D % s = 0) (h3 : D + s < 18446744073709551616) (M : Nat) (h4 : M < 18446744073709551616) (h5 : mulO [M, s] = some (D + s)) : Tells a s (D + s) D M 0
  | over (D : Nat) (h : D < a) (h1 : a < D + s) (h2 : D % s = 0) (M : Nat) (h4 : M < 18446744073709551616) : Tells a s 0 D M 120
theorem tells (a s : Nat) (ha : a < 18446744073709551616) (hs : 1 ≤ s) (hs2 : s < 18446744073709551616) : Tells a s (valO (upO a s)) (dnV a s) (manyV a s) (errO (upO a s)) := by
  have hm := dn_mod a s
  have hlt := Nat.mod_lt a (by omega : s > 0)
  have hle := Nat.mod_le a s
  by_cases h : dnV a s = a
  · rw [show upO a s = some a by simp [upO, h], show manyV a s = a / s by simp [manyV, h], h]
    exact .same (by omega)
  · have h2 : dnV a s % s = 0 := by simp [dnV]
    have hM := many_lt a s hs ha h
    rw [show manyV a s = a / s + 1 by simp [manyV, h], show upO a s = foldN (fun x y => x + y) (dnV a s) [s] by simp [upO, h], foldN_one]
    by_cases hf : dnV a s + s < 18446744073709551616
    · rw [if_pos hf]
      have h5 : (a / s + 1) * s = dnV a s + s := by rw [Nat.add_mul]; simp [dnV]
      refine .up _ (by omega) (by omega) h2 hf _ hM ?_
      rw [mul2 _ _ hM (by rw [h5]; exact hf), h5]
    · rw [if_neg hf]
      exact .over _ (by omega) (by omega) h2 _ hM

theorem nmod (a s : Nat) (h : a % s = 0) : (a : Int) % (s : Int) = 0 := by omega
end Go.Proofs.YtgdnafafojiabaaDoor
