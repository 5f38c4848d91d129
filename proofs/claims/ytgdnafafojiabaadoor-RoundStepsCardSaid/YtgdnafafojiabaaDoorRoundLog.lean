/-
  Powers of two: which they are; the code's and the document's.
-/
import Derived.Test.YtgdnafafojiabaaDoorRoundUp
namespace Go.Proofs.YtgdnafafojiabaaDoor
open Go.RowKit

/-- Which power a number is. -/
def lg (n : Nat) : Option Nat := (List.range 64).find? fun k => 2 ^ k == n
theorem lg_pow : ∀ k : Fin 64, lg (2 ^ k.1) = some k.1 := by decide +kernel
theorem lg_some {n k : Nat} (h : k < 64) (e : n = 2 ^ k) : lg n = some k := by subst e; exact lg_pow ⟨k, h⟩
theorem lg_none {n : Nat} (h : ∀ k : Nat, k < 64 → n ≠ 2 ^ k) : lg n = none := by
  unfold lg
  rw [List.find?_eq_none]
  intro k hk he
  exact h k (by simpa using hk) (by simpa using (beq_iff_eq.1 he).symm)
theorem lg_cases (n : Nat) : (∃ k : Nat, k < 64 ∧ n = 2 ^ k ∧ lg n = some k) ∨ ((∀ k : Nat, k < 64 → n ≠ 2 ^ k) ∧ lg n = none) := by
  by_cases h : ∃ k : Nat, k < 64 ∧ n = 2 ^ k
  · obtain ⟨k, h1, h2⟩ := h
    exact .inl ⟨k, h1, h2, lg_some h1 h2⟩
  · have h' : ∀ k : Nat, k < 64 → n ≠ 2 ^ k := fun k hk e => h ⟨k, hk, e⟩
    exact .inr ⟨h', lg_none h'⟩

theorem ones_any (n : Nat) (hn2 : n < 18446744073709551616) (w : World) :
    Calls Tryd.prog 35 #[.int .u64 (n : Int)] w fun e w' => e = .returned (.int .i64 (popV n)) ∧ w = w' := by
  have hn : (0 : Int) ≤ n := Int.natCast_nonneg n
  have hn3 : (n : Int) < 18446744073709551616 := by omega
  generalize (n : Int) = m at *
  go_enter Tryd.func35, Tryd.ntmps35
  go_wp2
  go_ret
  exact ⟨rfl, rfl⟩
theorem power_any (n : Nat) (hn2 : n < 18446744073709551616) (w : World) :
    Calls Tryd.prog 22 #[.int .u64 (n : Int)] w fun e w' => e = .returned (.bool (lg n).isSome) ∧ w = w' := by
  have ho := ones_any n hn2 w
  have he : (lg n).isSome = (popV (n : Int) == 1) := by
    rcases lg_cases n with ⟨k, hk, e, h⟩ | ⟨hno, h⟩
    · rw [h, e, pow_pop ⟨k, hk⟩]
      rfl
    · rw [h]
      symm
      simp only [Option.isSome_none, beq_eq_false_iff_ne, ne_eq]
      intro h1
      obtain ⟨k, hk, e⟩ := pop_pow n hn2 h1
      exact hno k hk e
  rw [he]
  clear he
  generalize popV (n : Int) = P at *
  go_enter Tryd.func22, Tryd.ntmps22
  go_wp2_with fail
  refine ho.mono ?_
  rintro e w1 ⟨rfl, rfl⟩
  go_wp2
  go_ret
  exact ⟨rfl, rfl⟩

/-- The library's table, in its variable. -/
def Tab (w : World) : Prop := ∀ j, j < 64 → w.cell? ⟨0, j, none⟩ = some (.int .u8 ((Lib.deBruijn64tab.getD j 0 : Nat) : Int))
theorem Tab.keptN {w w' : World} (h : Tab w) (hg : w.grownBy w' none) : Tab w' := fun j hj => g_cellN hg (h j hj)
theorem tz_key : ∀ k : Fin 64, IntKind.u64.wrap (bits BinOp.and IntKind.u64 ((2 ^ k.1 : Nat) : Int) (IntKind.u64.wrap (-((2 ^ k.1 : Nat) : Int))) * 285870213051353865) / 288230376151711744 = ((2 ^ k.1 * 285870213051353865 % 18446744073709551616 / 288230376151711744 : Nat) : Int) := by decide +kernel
theorem tz_core (x : Int) (k idx : Nat) (w : World) (hx0 : (x == 0) = false)
    (key : IntKind.u64.wrap (bits BinOp.and IntKind.u64 x (IntKind.u64.wrap (-x)) * 285870213051353865) / 288230376151711744 = (idx : Int))
    (hi : idx < 64) (hk : k < 64) (hcell : w.cell? ⟨0, idx, none⟩ = some (.int .u8 k)) :
    Calls Tryd.prog 34 #[.int .u64 x] w fun e w' => e = .returned (.int .i64 k) ∧ w = w' := by
  go_enter Tryd.func34, Tryd.ntmps34
  go_wp2_with (simp only [key])
  go_ret
  exact ⟨rfl, rfl⟩
theorem tz_any (k : Nat) (hk : k < 64) (w : World) (hT : Tab w) :
    Calls Tryd.prog 34 #[.int .u64 ((2 ^ k : Nat) : Int)] w fun e w' => e = .returned (.int .i64 k) ∧ w = w' := by
  obtain ⟨hi, htab⟩ := Lib.deBruijn64_at k hk
  have hc := hT _ hi
  rw [htab] at hc
  have h0 : 0 < 2 ^ k := Nat.pow_pos (by decide)
  exact tz_core _ k _ w (by rw [beq_eq_false_iff_ne]; omega) (tz_key ⟨k, hk⟩) hi hk hc

def lgV (o : Option Nat) : Nat := o.getD 0
def lgE : Option Nat → Int
  | some _ => 0
  | none => 2
def lgR : Option Nat → Int
  | some k => k
  | none => -1
theorem log_any (n : Nat) (hn2 : n < 18446744073709551616) (w : World) (hT : Tab w) :
    Calls Tryd.prog 20 #[.int .u64 (n : Int)] w fun e w' => e = .returned (.tuple #[.int .i64 (lgV (lg n) : Nat), .int .i64 (lgE (lg n))]) ∧ w = w' := by
  have hp := power_any n hn2 w
  rcases lg_cases n with ⟨k, hk, e, h⟩ | ⟨hno, h⟩
  · rw [h] at hp ⊢
    have ht := tz_any k hk w hT
    rw [← e] at ht
    rw [show (some k).isSome = true from rfl] at hp
    rw [show lgV (some k) = k from rfl, show lgE (some k) = 0 from rfl]
    clear e h
    go_enter Tryd.func20, Tryd.ntmps20
    go_wp2_with fail
    refine hp.mono ?_
    rintro e w1 ⟨rfl, rfl⟩
    go_wp2_with fail
    refine ht.mono ?_
    rintro e w1 ⟨rfl, rfl⟩
    go_wp2
    go_ret2
    exact ⟨rfl, rfl⟩
  · rw [h] at hp ⊢
    rw [show (none : Option Nat).isSome = false from rfl] at hp
    clear hno h
    go_enter Tryd.func20, Tryd.ntmps20
    go_wp2_with fail
    refine hp.mono ?_
    rintro e w1 ⟨rfl, rfl⟩
    go_wp2
    go_ret2
    exact ⟨rfl, rfl⟩

theorem refLog_any (n : Nat) (w : World) :
    Calls Tryd.prog 21 #[.int .u64 (n : Int)] w fun e w' => e = .returned (.int .i64 (lgR (lg n))) ∧ w = w' := by
  obtain ⟨R, hR⟩ : ∃ R, R = lgR (lg n) := ⟨_, rfl⟩
  rw [← hR]
  have HR := hid hR
  clear hR
  go_enter Tryd.func21, Tryd.ntmps21
  go_wp2
  go_loopw [3, 4] (fun u v wr => ∃ (k : Nat), k ≤ 64 ∧ v = .int .i64 k ∧ (k < 64 → u = .int .u64 ((2 ^ k : Nat) : Int)) ∧ (∃ x, u = .int .u64 x) ∧ (∀ j : Nat, j < k → n ≠ 2 ^ j) ∧ w = wr) (fun _ v _ => 64 - (intOf v).toNat)
  case atStart => exact ⟨0, by omega, rfl, fun _ => rfl, ⟨_, rfl⟩, fun j hj => by omega, rfl⟩
  case round =>
    obtain ⟨k, hk, rfl, hu, ⟨x, rfl⟩, hn, rfl⟩ := hrel
    have HN := hid hn
    have HU := hid hu
    clear hn hu
    by_cases hlt : k < 64
    · have hux := HU.out hlt
      obtain rfl : x = ((2 ^ k : Nat) : Int) := by simpa using hux
      obtain ⟨X, hX⟩ : ∃ X : Nat, X = 2 ^ k := ⟨_, rfl⟩
      rw [← hX]
      have HX := hid hX
      clear hX hux HU
      by_cases he : ((X : Int) == (n : Int)) = true
      · have hR := HR.out
        have he2 : n = X := by have := beq_iff_eq.1 he; omega
        rw [lg_some hlt (he2.trans HX.out)] at hR
        have hR2 : R = (k : Int) := hR
        clear hR he2 HR
        subst hR2
        go_wp2
        go_ret
        exact ⟨rfl, rfl⟩
      · have he' : ((X : Int) == (n : Int)) = false := by simpa using he
        clear he
        go_wp2
        go_roundw
        case rel =>
          refine ⟨k + 1, by omega, by go_num, fun h => ?_, ⟨_, rfl⟩, fun j hj => ?_, trivial⟩
          · have hX := HX.out
            have h1 : (2 : Nat) ^ (k + 1) = 2 ^ k * 2 := Nat.pow_succ 2 k
            have h2 : (2 : Nat) ^ (k + 1) ≤ 9223372036854775808 := Nat.le_trans (Nat.pow_le_pow_right (by omega) (show k + 1 ≤ 63 by omega)) (by decide)
            rw [h1, ← hX] at h2 ⊢
            have h3 : ((X * 2 : Nat) : Int) = (X : Int) * 2 := by push_cast; rfl
            rw [h3, IntKind.wrap_u64, Int.emod_eq_of_lt (by omega) (by omega)]
          · by_cases hjk : j < k
            · exact HN.out j hjk
            · obtain rfl : j = k := by omega
              rw [← HX.out]
              intro e
              rw [e] at he'
              simp at he'
        case measure => simp [intOf]; omega
    · obtain rfl : k = 64 := by omega
      have hR := HR.out
      rw [lg_none HN.out] at hR
      have hR2 : R = -1 := hR
      clear hR HR
      subst hR2
      go_wp2
      go_ret
      exact ⟨rfl, rfl⟩
end Go.Proofs.YtgdnafafojiabaaDoor
