/-
  Classes and sizes in memory: the document's classes; the class of a size.
-/
import Derived.Test.YtfgiokaohbpeiaaSize
namespace Go.Proofs.Ytfgiokaohbpeiaa
open Go.RowKit

theorem refPay_0 (w : World) : Calls Try.prog 12 #[.int .i64 0] w fun e w' => e = .returned (.int .i64 (pay 0)) ∧ w = w' := by
  go_enter Try.func12, Try.ntmps12
  go_wp2
  go_ret
  exact ⟨rfl, rfl⟩
theorem refPay_1 (w : World) : Calls Try.prog 12 #[.int .i64 1] w fun e w' => e = .returned (.int .i64 (pay 1)) ∧ w = w' := by
  go_enter Try.func12, Try.ntmps12
  go_wp2
  go_ret
  exact ⟨rfl, rfl⟩
theorem refPay_2 (w : World) : Calls Try.prog 12 #[.int .i64 2] w fun e w' => e = .returned (.int .i64 (pay 2)) ∧ w = w' := by
  go_enter Try.func12, Try.ntmps12
  go_wp2
  go_ret
  exact ⟨rfl, rfl⟩
theorem refPay_3 (w : World) : Calls Try.prog 12 #[.int .i64 3] w fun e w' => e = .returned (.int .i64 (pay 3)) ∧ w = w' := by
  go_enter Try.func12, Try.ntmps12
  go_wp2
  go_ret
  exact ⟨rfl, rfl⟩
theorem refPay_4 (w : World) : Calls Try.prog 12 #[.int .i64 4] w fun e w' => e = .returned (.int .i64 (pay 4)) ∧ w = w' := by
  go_enter Try.func12, Try.ntmps12
  go_wp2
  go_ret
  exact ⟨rfl, rfl⟩
theorem refPay_5 (w : World) : Calls Try.prog 12 #[.int .i64 5] w fun e w' => e = .returned (.int .i64 (pay 5)) ∧ w = w' := by
  go_enter Try.func12, Try.ntmps12
  go_wp2
  go_ret
  exact ⟨rfl, rfl⟩
theorem refPay_6 (w : World) : Calls Try.prog 12 #[.int .i64 6] w fun e w' => e = .returned (.int .i64 (pay 6)) ∧ w = w' := by
  go_enter Try.func12, Try.ntmps12
  go_wp2
  go_ret
  exact ⟨rfl, rfl⟩
theorem refPay_7 (w : World) : Calls Try.prog 12 #[.int .i64 7] w fun e w' => e = .returned (.int .i64 (pay 7)) ∧ w = w' := by
  go_enter Try.func12, Try.ntmps12
  go_wp2
  go_ret
  exact ⟨rfl, rfl⟩
theorem refPay_in (k : Nat) (hk : k < 8) (w : World) : Calls Try.prog 12 #[.int .i64 (k : Int)] w fun e w' => e = .returned (.int .i64 (pay k)) ∧ w = w' := by
  rcases eight hk with rfl | rfl | rfl | rfl | rfl | rfl | rfl | rfl
  · exact refPay_0 w
  · exact refPay_1 w
  · exact refPay_2 w
  · exact refPay_3 w
  · exact refPay_4 w
  · exact refPay_5 w
  · exact refPay_6 w
  · exact refPay_7 w
theorem refPay_out (n : Int) (hn : isB n = false) (w : World) : Calls Try.prog 12 #[.int .i64 n] w fun e w' => e = .returned (.int .i64 (-1)) ∧ w = w' := by
  have h : n < 0 ∨ 8 ≤ n := by
    simp [isB] at hn
    omega
  have e0 : (n == 0) = false := by simp; omega
  have e1 : (n == 1) = false := by simp; omega
  have e2 : (n == 2) = false := by simp; omega
  have e3 : (n == 3) = false := by simp; omega
  have e4 : (n == 4) = false := by simp; omega
  have e5 : (n == 5) = false := by simp; omega
  have e6 : (n == 6) = false := by simp; omega
  have e7 : (n == 7) = false := by simp; omega
  clear h hn
  go_enter Try.func12, Try.ntmps12
  go_wp2
  go_ret
  exact ⟨rfl, rfl⟩
theorem pay_bounds (k : Nat) (hk : k < 8) : 16 ≤ pay k ∧ pay k ≤ 256 := by rcases eight hk with rfl | rfl | rfl | rfl | rfl | rfl | rfl | rfl <;> decide
theorem refSlot_in (k : Nat) (hk : k < 8) (w : World) : Calls Try.prog 15 #[.int .i64 (k : Int)] w fun e w' => e = .returned (.int .i64 (16 + pay k + 16)) ∧ w = w' := by
  have hp := refPay_in k hk w
  have hb := pay_bounds k hk
  obtain ⟨P, hP⟩ : ∃ P, P = pay k := ⟨_, rfl⟩
  rw [← hP] at hp hb ⊢
  clear hP
  go_enter Try.func15, Try.ntmps15
  go_wp2_with fail
  refine hp.mono ?_
  rintro e w1 ⟨rfl, rfl⟩
  go_wp2
  go_ret
  exact ⟨rfl, rfl⟩
theorem wrap64_own (n : Int) (h : -9223372036854775808 ≤ n ∧ n ≤ 9223372036854775807) : wrap64 n = n := by unfold wrap64; omega
theorem refCount_in (k : Nat) (hk : k < 8) (w : World) : Calls Try.prog 16 #[.int .i64 (k : Int)] w fun e w' => e = .returned (.int .i64 (4096 / (16 + pay k + 16))) ∧ w = w' := by
  have hp := refSlot_in k hk w
  have hb := pay_bounds k hk
  obtain ⟨S, hS⟩ : ∃ S, S = 16 + pay k + 16 := ⟨_, rfl⟩
  rw [← hS] at hp ⊢
  have hS1 : 48 ≤ S ∧ S ≤ 288 := by omega
  have HP := hid hp
  clear hS hp hb
  go_enter Try.func16, Try.ntmps16
  go_wp2
  go_loopw [3] (fun v wr => ∃ (n : Nat), v = .int .i64 n ∧ n ≤ 4096 / S ∧ w = wr) (fun v _ => 4096 - (intOf v).toNat)
  case atStart => exact ⟨0, rfl, Int.ediv_nonneg (by omega) (by omega), rfl⟩
  case round =>
    obtain ⟨n, rfl, hn, rfl⟩ := hrel
    have hn1 : n * S ≤ 4096 := by
      have := Int.mul_le_of_le_ediv (by omega : 0 < S) hn
      exact this
    have hn2 : (n : Int) ≤ 85 := by
      have : (n : Int) * 48 ≤ n * S := Int.mul_le_mul_of_nonneg_left (by omega) (by omega)
      omega
    obtain ⟨M, hM⟩ : ∃ M, M = ((n : Int) + 1) * S := ⟨_, rfl⟩
    have hM1 : 0 ≤ M ∧ M ≤ 4384 := by
      have e : ((n : Int) + 1) * S = n * S + S := by rw [Int.add_mul, Int.one_mul]
      have h0 : (0 : Int) ≤ n * S := Int.mul_nonneg (by omega) (by omega)
      omega
    have hwr : wrap64 (((n : Int) + 1) * S) = M := by rw [← hM, wrap64_own _ (by omega)]
    have HM := hid hM
    have HN1 := hid hn1
    have HN := hid hn
    clear hM hn1 hn
    by_cases hM4 : M ≤ 4096
    · go_wp2_with fail
      refine HP.out.mono ?_
      rintro e w1 ⟨rfl, rfl⟩
      go_wp2_with fail
      go_roundw
      case rel =>
        refine ⟨n + 1, by go_num, ?_, trivial⟩
        have := HM.out
        rw [this] at hM4
        have := Int.le_ediv_of_mul_le (by omega : 0 < S) hM4
        omega
      case measure => simp [intOf]; omega
    · have hEq : (n : Int) = 4096 / S := by
        have h1 := HN.out
        have h2 : 4096 / S < (n : Int) + 1 := Int.ediv_lt_of_lt_mul (by omega) (by rw [← HM.out]; omega)
        omega
      have HE := hid hEq
      clear hEq
      go_wp2_with fail
      refine HP.out.mono ?_
      rintro e w1 ⟨rfl, rfl⟩
      go_wp2_with fail
      go_ret
      exact ⟨by rw [← HE.out]; rfl, rfl⟩

/-! ### The class of a size -/
/-- A slice that reads as a list of numbers. -/
def L1 (w : World) (v : Value) (ns : List Int) : Prop :=
  ∃ (g off cap : Nat), v = .slice (some ⟨g, off, none⟩) ns.length cap ∧ ns.length ≤ 1000 ∧ ns.length ≤ cap ∧ cap ≤ maxLen ∧ ∀ (i : Nat) (n : Int), ns[i]? = some n → w.cell? ⟨g, off + i, none⟩ = some (.int .i64 n)
def cB (n p : Int) : Bool := decide (0 ≤ n) && decide (n ≤ p)
def classV (n : Int) : Int := match pays.findIdx? (cB n) with | some k => k | none => -1
theorem classV_bounds (n : Int) : -1 ≤ classV n ∧ classV n < 8 := by
  unfold classV
  split
  · rename_i k hk
    rw [List.findIdx?_eq_some_iff_getElem] at hk
    obtain ⟨h, _⟩ := hk
    simp [pays] at h
    omega
  · omega

theorem class1_any (n p : Int) (nb : Nat) (w : World) (h : w.cell? ⟨nb, 0, none⟩ = some (.int .i64 n)) :
    Calls Try.prog 30 #[.int .i64 p, .pointer (some ⟨nb, 0, none⟩)] w fun e w' => e = .returned (.bool (cB n p)) ∧ w = w' := by
  by_cases h0 : 0 ≤ n
  · go_enter Try.func30, Try.ntmps30
    go_wp2
    go_ret
    exact ⟨by simp [cB, h0], rfl⟩
  · have e : decide (0 ≤ n) = false := by simp; omega
    go_enter Try.func30, Try.ntmps30
    go_wp2
    go_ret
    exact ⟨by simp [cB, e], rfl⟩

theorem idx_any (n : Int) (nb : Nat) (v : Value) (w : World) (h : L1 w v pays) (hn : w.cell? ⟨nb, 0, none⟩ = some (.int .i64 n)) :
    Calls Try.prog 38 #[v, .func (.func 30) #[] #[.pointer (some ⟨nb, 0, none⟩)]] w fun e w' => e = .returned (.int .i64 (classV n)) ∧ w = w' := by
  obtain ⟨g, off, cap, rfl, hl, hcp, hm, hc⟩ := h
  have HC := hid hc
  clear hc
  have hp8 : pays.length = 8 := rfl
  go_enter Try.func38, Try.ntmps38
  go_wp2
  go_loopw [8] (fun v wr => ∃ (k : Nat), k ≤ pays.length ∧ v = .int .i64 k ∧ (pays.take k).any (cB n) = false ∧ w = wr) (fun v _ => pays.length - (intOf v).toNat)
  case atStart => exact ⟨0, Nat.zero_le _, rfl, rfl, rfl⟩
  case round =>
    obtain ⟨k, hk, rfl, ht, rfl⟩ := hrel
    have HT := hid ht
    clear ht
    by_cases hlt : k < pays.length
    · obtain ⟨x, hx⟩ : ∃ x, pays[k]? = some x := ⟨pays[k], List.getElem?_eq_getElem hlt⟩
      have d1 := HC.out k x hx
      have HN := hid hx
      clear hx
      cases hb : cB n x with
      | true =>
        have HB := hid hb
        go_wp2_with (go_at_call 30; refine (class1_any n x nb _ hn).mono ?_; rintro e w2 ⟨rfl, rfl⟩; simp only [hb])
        go_ret
        refine ⟨?_, rfl⟩
        have : pays.findIdx? (cB n) = some k := by
          rw [List.findIdx?_eq_some_iff_getElem]
          have hx := (List.getElem?_eq_some_iff.1 HN.out)
          refine ⟨hx.1, by rw [hx.2]; exact HB.out, fun j hj => ?_⟩
          have h3 := List.any_eq_false.1 HT.out (pays[j]) (List.mem_take_iff_getElem.2 ⟨j, by omega, rfl⟩)
          simpa using h3
        show Ending.returned (.int .i64 k) = _
        rw [classV, this]
      | false =>
        have HB := hid hb
        go_wp2_with (go_at_call 30; refine (class1_any n x nb _ hn).mono ?_; rintro e w2 ⟨rfl, rfl⟩; simp only [hb])
        go_roundw
        case rel => exact ⟨k + 1, by omega, by go_num, by rw [List.take_add_one, HN.out, List.any_append, HT.out]; simp [HB.out], trivial⟩
        case measure => simp [intOf]; omega
    · obtain rfl : k = pays.length := by omega
      go_wp2
      go_ret
      refine ⟨?_, rfl⟩
      have := HT.out
      rw [List.take_length] at this
      have : pays.findIdx? (cB n) = none := by
        rw [List.findIdx?_eq_none_iff]
        intro x hx
        simpa using List.any_eq_false.1 this x hx
      show Ending.returned (.int .i64 (-1)) = _
      rw [classV, this]
end Go.Proofs.Ytfgiokaohbpeiaa
