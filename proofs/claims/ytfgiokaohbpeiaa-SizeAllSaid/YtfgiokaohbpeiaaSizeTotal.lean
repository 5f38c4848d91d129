/-
  So many times each: the code's and the document's.
-/
import Derived.Test.YtfgiokaohbpeiaaSizeMul
namespace Go.Proofs.Ytfgiokaohbpeiaa
open Go.RowKit

def mulE (a b : Nat) : Int := if prB a b then 0 else 120
theorem told2_any (a b : Nat) (w : World) :
    Calls Try.prog 42 #[.int .u64 ((prV a b : Nat) : Int), .bool (prB a b)] w fun e w' => e = .returned (.tuple #[.int .u64 ((prV a b : Nat) : Int), .int .i64 (mulE a b)]) ∧ w = w' := by
  refine (told_any _ _ w).mono fun e w' ⟨he, hw⟩ => ⟨?_, hw⟩
  rw [he, mulE]
  by_cases h : a * b < 18446744073709551616
  · simp [prB, prV, h]
  · simp [prB, prV, h]

theorem mul_any (a b : Nat) (ha : a < 18446744073709551616) (hb : b < 18446744073709551616) (g : Nat) (w : World) (h : U2 w g a b) :
    Calls Try.prog 34 #[.slice (some ⟨g, 0, none⟩) 2 2] w fun e w' => e = .returned (.tuple #[.int .u64 ((prV a b : Nat) : Int), .int .i64 (mulE a b)]) ∧ w.grownBy w' none := by
  obtain ⟨d0, d1⟩ := id h
  by_cases hz : a = 0
  · subst hz
    rw [show prV 0 b = 0 by simp [prV], show mulE 0 b = 0 by simp [mulE, prB]]
    go_enter Try.func34, Try.ntmps34
    go_wp2
    go_loopw [8] (fun v wr => v = .int .i64 0 ∧ w = wr) (fun v _ => 0)
    case atStart => exact ⟨rfl, rfl⟩
    case round =>
      obtain ⟨rfl, rfl⟩ := hrel
      go_wp2
      go_ret2
      exact ⟨rfl, g_refl _ _⟩
  · by_cases hy : b = 0
    · subst hy
      have hz1 : (((a : Int)) == 0) = false := by simp; omega
      rw [show prV a 0 = 0 by simp [prV], show mulE a 0 = 0 by simp [mulE, prB]]
      clear hz
      go_enter Try.func34, Try.ntmps34
      go_wp2
      go_loopw [8] (fun v wr => ∃ k : Nat, k ≤ 1 ∧ v = .int .i64 k ∧ w = wr) (fun v _ => 2 - (intOf v).toNat)
      case atStart => exact ⟨0, by omega, rfl, rfl⟩
      case round =>
        obtain ⟨k, hk, rfl, rfl⟩ := hrel
        match k, hk with
        | 0, _ =>
          go_wp2
          go_roundw
          case rel => exact ⟨1, by omega, by go_num, trivial⟩
          case measure => simp [intOf]
        | 1, _ =>
          go_wp2
          go_ret2
          exact ⟨rfl, g_refl _ _⟩
        | k + 2, hk => omega
    · have hz1 : (((a : Int)) == 0) = false := by simp; omega
      have hz2 : (((b : Int)) == 0) = false := by simp; omega
      clear hz hy
      have hfo := folded_any a b ha hb g w h
      have hto := told2_any a b
      obtain ⟨V, hV⟩ : ∃ V, V = prV a b := ⟨_, rfl⟩
      obtain ⟨B, hB⟩ : ∃ B, B = prB a b := ⟨_, rfl⟩
      obtain ⟨E, hE⟩ : ∃ E, E = mulE a b := ⟨_, rfl⟩
      rw [← hV, ← hB] at hfo
      rw [← hV, ← hB, ← hE] at hto
      rw [← hV, ← hE]
      have HFO := hid hfo
      have HTO := hid hto
      clear hV hB hE hfo hto
      go_enter Try.func34, Try.ntmps34
      go_wp2
      go_loopw [8] (fun v wr => ∃ k : Nat, k ≤ 2 ∧ v = .int .i64 k ∧ w = wr) (fun v _ => 2 - (intOf v).toNat)
      case atStart => exact ⟨0, by omega, rfl, rfl⟩
      case round =>
        obtain ⟨k, hk, rfl, rfl⟩ := hrel
        match k, hk with
        | 0, _ =>
          go_wp2
          go_roundw
          case rel => exact ⟨1, by omega, by go_num, trivial⟩
          case measure => simp [intOf]
        | 1, _ =>
          go_wp2
          go_roundw
          case rel => exact ⟨2, by omega, by go_num, trivial⟩
          case measure => simp [intOf]
        | 2, _ =>
          go_wp2_with fail
          refine HFO.out.mono ?_
          rintro e w1 ⟨rfl, hg1⟩
          go_wp2_with fail
          refine (HTO.out _).mono ?_
          rintro e w2 ⟨rfl, rfl⟩
          go_wp2_with fail
          go_ret2
          exact ⟨rfl, hg1⟩
        | k + 3, hk => omega

/-- So many times each, and the error. -/
def totV (a b : Nat) : Int := if a * b ≤ 262144 then ((a * b : Nat) : Int) else 0
def totE (a b : Nat) : Int := if a * b ≤ 262144 then 0 else 2
theorem total_any (a b : Nat) (ha : a < 18446744073709551616) (hb : b < 18446744073709551616) (w : World) :
    Calls Try.prog 21 #[.int .u64 a, .int .u64 b] w fun e w' => e = .returned (.tuple #[.int .u64 (totV a b), .int .i64 (totE a b)]) ∧ w.grownBy w' none := by
  have hgA := g_alloc (g_refl w none) (.cells #[.int .u64 (a : Int), .int .u64 (b : Int)] 31)
  have hm := mul_any a b ha hb w.heap.size _ (U2.new w a b 31 _ rfl)
  by_cases h1 : a * b < 18446744073709551616
  · rw [show prV a b = a * b by simp [prV, h1], show mulE a b = 0 by simp [mulE, prB, h1]] at hm
    by_cases h2 : a * b ≤ 262144
    · rw [show totV a b = ((a * b : Nat) : Int) by simp [totV, h2], show totE a b = 0 by simp [totE, h2]]
      generalize a * b = M at *
      have h3 : (M : Int) ≤ 262144 := by omega
      go_enter Try.func21, Try.ntmps21
      go_wp2_with fail
      refine hm.mono ?_
      rintro e w1 ⟨rfl, hg1⟩
      go_wp2
      go_ret2
      exact ⟨rfl, g_none hgA hg1⟩
    · rw [show totV a b = 0 by simp [totV, h2], show totE a b = 2 by simp [totE, h2]]
      generalize a * b = M at *
      have h3 : (262144 : Int) < (M : Int) := by omega
      go_enter Try.func21, Try.ntmps21
      go_wp2_with fail
      refine hm.mono ?_
      rintro e w1 ⟨rfl, hg1⟩
      go_wp2
      go_ret2
      exact ⟨rfl, g_none hgA hg1⟩
  · rw [show prV a b = 0 by simp [prV, h1], show mulE a b = 120 by simp [mulE, prB, h1]] at hm
    have h2 : ¬ a * b ≤ 262144 := by omega
    rw [show totV a b = 0 by simp [totV, h2], show totE a b = 2 by simp [totE, h2]]
    clear h1 h2
    go_enter Try.func21, Try.ntmps21
    go_wp2_with fail
    refine hm.mono ?_
    rintro e w1 ⟨rfl, hg1⟩
    go_wp2
    go_ret2
    exact ⟨rfl, g_none hgA hg1⟩

/-! ### The document's -/
theorem times_any (a b : Nat) (ha0 : a ≠ 0) (ha : a < 18446744073709551616) (hb : b < 18446744073709551616) (w : World) :
    Calls Try.prog 46 #[.int .u64 a, .int .u64 b] w fun e w' => e = .returned (.tuple #[.int .u64 ((prV a b : Nat) : Int), .bool (prB a b)]) ∧ w = w' := by
  have hz1 : ¬ ((a : Int) = 0) := by omega
  by_cases hf : a * b < 18446744073709551616
  · have hle : (b : Int) ≤ 18446744073709551615 / (a : Int) := by
      refine Int.le_ediv_of_mul_le (by omega) ?_
      have : b * a ≤ 18446744073709551615 := by rw [Nat.mul_comm]; omega
      rw [← Int.natCast_mul]
      omega
    rw [show prV a b = a * b by simp [prV, hf], show prB a b = true by simp [prB, hf]]
    have hw : IntKind.u64.wrap ((a : Int) * (b : Int)) = ((a * b : Nat) : Int) := by
      rw [← Int.natCast_mul, IntKind.wrap_u64]
      omega
    obtain ⟨Q, hQ⟩ : ∃ Q : Int, Q = 18446744073709551615 / (a : Int) := ⟨_, rfl⟩
    rw [← hQ] at hle
    have hnQ : ¬ (Q < (b : Int)) := by omega
    clear hf
    go_enter Try.func46, Try.ntmps46
    go_wp2
    go_ret2
    exact ⟨rfl, rfl⟩
  · have hlt : 18446744073709551615 / (a : Int) < (b : Int) := by
      refine Int.ediv_lt_of_lt_mul (by omega) ?_
      have : 18446744073709551616 ≤ b * a := by rw [Nat.mul_comm]; omega
      rw [← Int.natCast_mul]
      omega
    rw [show prV a b = 0 by simp [prV, hf], show prB a b = false by simp [prB, hf]]
    have hd : decide (18446744073709551615 / (a : Int) < (b : Int)) = true := by simpa using hlt
    have hz2 : (((a : Int)) != 0) = true := by simp; omega
    clear hf ha0
    go_enter Try.func46, Try.ntmps46
    go_wp2
    go_ret2
    exact ⟨rfl, rfl⟩

def stepM (a M : Nat) : Nat → Nat
  | 0 => 1
  | 1 => a
  | _ => M
set_option maxHeartbeats 1000000 in
theorem refMul_any (a b : Nat) (ha : a < 18446744073709551616) (hb : b < 18446744073709551616) (g : Nat) (w : World) (h : U2 w g a b) :
    Calls Try.prog 35 #[.slice (some ⟨g, 0, none⟩) 2 2] w fun e w' => e = .returned (.tuple #[.int .u64 ((prV a b : Nat) : Int), .int .i64 (mulE a b)]) ∧ w = w' := by
  obtain ⟨d0, d1⟩ := id h
  by_cases hz : a = 0
  · subst hz
    rw [show prV 0 b = 0 by simp [prV], show mulE 0 b = 0 by simp [mulE, prB]]
    go_enter Try.func35, Try.ntmps35
    go_wp2
    go_loopw [4] (fun v wr => v = .int .i64 0 ∧ w = wr) (fun v _ => 0)
    case atStart => exact ⟨rfl, rfl⟩
    case round =>
      obtain ⟨rfl, rfl⟩ := hrel
      go_wp2
      go_ret2
      exact ⟨rfl, rfl⟩
  · by_cases hy : b = 0
    · subst hy
      have hz1 : (((a : Int)) == 0) = false := by simp; omega
      rw [show prV a 0 = 0 by simp [prV], show mulE a 0 = 0 by simp [mulE, prB]]
      clear hz
      go_enter Try.func35, Try.ntmps35
      go_wp2
      go_loopw [4] (fun v wr => ∃ k : Nat, k ≤ 1 ∧ v = .int .i64 k ∧ w = wr) (fun v _ => 2 - (intOf v).toNat)
      case atStart => exact ⟨0, by omega, rfl, rfl⟩
      case round =>
        obtain ⟨k, hk, rfl, rfl⟩ := hrel
        match k, hk with
        | 0, _ =>
          go_wp2
          go_roundw
          case rel => exact ⟨1, by omega, by go_num, trivial⟩
          case measure => simp [intOf]
        | 1, _ =>
          go_wp2
          go_ret2
          exact ⟨rfl, rfl⟩
        | k + 2, hk => omega
    · have hz1 : (((a : Int)) == 0) = false := by simp; omega
      have hz2 : (((b : Int)) == 0) = false := by simp; omega
      have ht1 := times_any 1 a (by omega) (by omega) ha
      rw [show prV 1 a = a by simp [prV, ha], show prB 1 a = true by simp [prB, ha]] at ht1
      have ht2 := times_any a b hz ha hb
      have HA := hid hz
      clear hz hy
      by_cases hf : a * b < 18446744073709551616
      · rw [show prV a b = a * b by simp [prV, hf], show prB a b = true by simp [prB, hf]] at ht2
        rw [show prV a b = a * b by simp [prV, hf], show mulE a b = 0 by simp [mulE, prB, hf]]
        generalize a * b = M at *
        clear hf
        have HT1 := hid ht1
        have HT2 := hid ht2
        clear ht1 ht2
        go_enter Try.func35, Try.ntmps35
        go_wp2
        go_loopw [4] (fun v wr => ∃ k : Nat, k ≤ 2 ∧ v = .int .i64 k ∧ w = wr) (fun v _ => 2 - (intOf v).toNat)
        case atStart => exact ⟨0, by omega, rfl, rfl⟩
        case round =>
          obtain ⟨k, hk, rfl, rfl⟩ := hrel
          match k, hk with
          | 0, _ =>
            go_wp2
            go_roundw
            case rel => exact ⟨1, by omega, by go_num, trivial⟩
            case measure => simp [intOf]
          | 1, _ =>
            go_wp2
            go_roundw
            case rel => exact ⟨2, by omega, by go_num, trivial⟩
            case measure => simp [intOf]
          | 2, _ =>
            rw [show ((2 : Nat) : Int) = 2 from rfl]
            go_wp2
            go_loopw [5, 6] (fun u v wr => ∃ k : Nat, k ≤ 2 ∧ v = .int .i64 k ∧ u = .int .u64 ((stepM a M k : Nat) : Int) ∧ w = wr) (fun _ v _ => 2 - (intOf v).toNat)
            case atStart => exact ⟨0, by omega, rfl, rfl, rfl⟩
            case round =>
              obtain ⟨k, hk, rfl, rfl, rfl⟩ := hrel
              obtain rfl | rfl | rfl : k = 0 ∨ k = 1 ∨ k = 2 := by omega
              all_goals simp only [stepM]
              · go_wp2_with fail
                refine (HT1.out _).mono ?_
                rintro e w1 ⟨rfl, rfl⟩
                go_wp2_with fail
                go_roundw
                case rel => exact ⟨1, by omega, by go_num, rfl, trivial⟩
                case measure => simp [intOf]
              · go_wp2_with fail
                refine (HT2.out _).mono ?_
                rintro e w1 ⟨rfl, rfl⟩
                go_wp2_with fail
                go_roundw
                case rel => exact ⟨2, by omega, by go_num, rfl, trivial⟩
                case measure => simp [intOf]
              · go_wp2
                go_ret2
                exact ⟨rfl, rfl⟩
          | k + 3, hk => omega
      · rw [show prV a b = 0 by simp [prV, hf], show prB a b = false by simp [prB, hf]] at ht2
        rw [show prV a b = 0 by simp [prV, hf], show mulE a b = 120 by simp [mulE, prB, hf]]
        clear hf
        have HT1 := hid ht1
        have HT2 := hid ht2
        clear ht1 ht2
        go_enter Try.func35, Try.ntmps35
        go_wp2
        go_loopw [4] (fun v wr => ∃ k : Nat, k ≤ 2 ∧ v = .int .i64 k ∧ w = wr) (fun v _ => 2 - (intOf v).toNat)
        case atStart => exact ⟨0, by omega, rfl, rfl⟩
        case round =>
          obtain ⟨k, hk, rfl, rfl⟩ := hrel
          match k, hk with
          | 0, _ =>
            go_wp2
            go_roundw
            case rel => exact ⟨1, by omega, by go_num, trivial⟩
            case measure => simp [intOf]
          | 1, _ =>
            go_wp2
            go_roundw
            case rel => exact ⟨2, by omega, by go_num, trivial⟩
            case measure => simp [intOf]
          | 2, _ =>
            rw [show ((2 : Nat) : Int) = 2 from rfl]
            go_wp2
            go_loopw [5, 6] (fun u v wr => ∃ k : Nat, k ≤ 1 ∧ v = .int .i64 k ∧ u = .int .u64 ((stepM a 0 k : Nat) : Int) ∧ w = wr) (fun _ v _ => 2 - (intOf v).toNat)
            case atStart => exact ⟨0, by omega, rfl, rfl, rfl⟩
            case round =>
              obtain ⟨k, hk, rfl, rfl, rfl⟩ := hrel
              obtain rfl | rfl : k = 0 ∨ k = 1 := by omega
              all_goals simp only [stepM]
              · go_wp2_with fail
                refine (HT1.out _).mono ?_
                rintro e w1 ⟨rfl, rfl⟩
                go_wp2_with fail
                go_roundw
                case rel => exact ⟨1, by omega, by go_num, rfl, trivial⟩
                case measure => simp [intOf]
              · go_wp2_with fail
                refine (HT2.out _).mono ?_
                rintro e w1 ⟨rfl, rfl⟩
                go_wp2_with fail
                go_ret2
                exact ⟨rfl, rfl⟩
          | k + 3, hk => omega

theorem refTotal_any (a b : Nat) (ha : a < 18446744073709551616) (hb : b < 18446744073709551616) (w : World) :
    Calls Try.prog 22 #[.int .u64 a, .int .u64 b] w fun e w' => e = .returned (.tuple #[.int .u64 (totV a b), .int .i64 (totE a b)]) ∧ w.grownBy w' none := by
  have hgA := g_alloc (g_refl w none) (.cells #[.int .u64 (a : Int), .int .u64 (b : Int)] 31)
  have hm := refMul_any a b ha hb w.heap.size _ (U2.new w a b 31 _ rfl)
  by_cases h1 : a * b < 18446744073709551616
  · rw [show prV a b = a * b by simp [prV, h1], show mulE a b = 0 by simp [mulE, prB, h1]] at hm
    by_cases h2 : a * b ≤ 262144
    · rw [show totV a b = ((a * b : Nat) : Int) by simp [totV, h2], show totE a b = 0 by simp [totE, h2]]
      generalize a * b = M at *
      have h3 : (M : Int) ≤ 262144 := by omega
      go_enter Try.func22, Try.ntmps22
      go_wp2_with fail
      refine hm.mono ?_
      rintro e w1 ⟨rfl, rfl⟩
      go_wp2
      go_ret2
      exact ⟨rfl, hgA⟩
    · rw [show totV a b = 0 by simp [totV, h2], show totE a b = 2 by simp [totE, h2]]
      generalize a * b = M at *
      have h3 : (262144 : Int) < (M : Int) := by omega
      go_enter Try.func22, Try.ntmps22
      go_wp2_with fail
      refine hm.mono ?_
      rintro e w1 ⟨rfl, rfl⟩
      go_wp2
      go_ret2
      exact ⟨rfl, hgA⟩
  · rw [show prV a b = 0 by simp [prV, h1], show mulE a b = 120 by simp [mulE, prB, h1]] at hm
    have h2 : ¬ a * b ≤ 262144 := by omega
    rw [show totV a b = 0 by simp [totV, h2], show totE a b = 2 by simp [totE, h2]]
    clear h1 h2
    go_enter Try.func22, Try.ntmps22
    go_wp2_with fail
    refine hm.mono ?_
    rintro e w1 ⟨rfl, rfl⟩
    go_wp2
    go_ret2
    exact ⟨rfl, hgA⟩
end Go.Proofs.Ytfgiokaohbpeiaa
