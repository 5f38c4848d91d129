/-
  SizeClasses.
-/
import Derived.Test.YtfgiokaohbpeiaaSizeWorks
namespace Go.Proofs.Ytfgiokaohbpeiaa
open Go.RowKit

set_option maxRecDepth 100000 in
set_option maxHeartbeats 4000000 in
theorem classes_in (k : Nat) (hk : k < 8) (w : World) : Calls Try.prog 3 #[.int .i64 (k : Int)] w fun e w' => e = .returned (.bool true) ∧ w.grownBy w' none := by
  obtain ⟨P, hP⟩ : ∃ P, P = pay k := ⟨_, rfl⟩
  have hb := pay_bounds k hk
  have h16 : P % 16 = 0 := by subst hP; rcases eight hk with rfl | rfl | rfl | rfl | rfl | rfl | rfl | rfl <;> decide
  have H1 := hid fun w => payload_ok k hk w
  have H2 := hid fun w => slot_ok k hk w
  have H3 := hid fun w => count_ok k hk w
  have H4 := hid fun w => refPay_in k hk w
  have H5 := hid fun w => refSlot_in k hk w
  have H6 := hid fun w => refCount_in k hk w
  rw [← hP] at H1 H2 H3 H4 H5 H6 hb
  clear hP
  obtain ⟨C, hC⟩ : ∃ C, C = 4096 / (16 + P + 16) := ⟨_, rfl⟩
  rw [← hC] at H3 H6
  clear hC
  have hr : (16 + P + 16) % 16 = 0 := by omega
  obtain ⟨S, hS⟩ : ∃ S, S = 16 + P + 16 := ⟨_, rfl⟩
  rw [← hS] at H2 H5 hr
  have hSb : 48 ≤ S ∧ S ≤ 288 := by omega
  have htm : S.tmod 16 = 0 := by rw [Int.tmod_eq_emod_of_nonneg (by omega)]; exact hr
  clear hS hr h16
  go_enter Try.func3, Try.ntmps3
  go_wp2_with fail
  refine (H1.out _).mono ?_
  rintro e w1 ⟨rfl, g1⟩
  go_wp2_with fail
  refine (H2.out _).mono ?_
  rintro e w2 ⟨rfl, g2⟩
  go_wp2_with fail
  refine (H3.out _).mono ?_
  rintro e w3 ⟨rfl, g3⟩
  go_wp2_with fail
  refine (H4.out _).mono ?_
  rintro e w4 ⟨rfl, rfl⟩
  go_wp2_with (first
    | (go_at_call 13; refine (num_any _ _).mono ?_; rintro e _ ⟨rfl, rfl⟩)
    | (go_at_call 12; refine (H4.out _).mono ?_; rintro e _ ⟨rfl, rfl⟩)
    | (go_at_call 15; refine (H5.out _).mono ?_; rintro e _ ⟨rfl, rfl⟩)
    | (go_at_call 16; refine (H6.out _).mono ?_; rintro e _ ⟨rfl, rfl⟩)
    | (go_at_call 14; refine (works_true _).mono ?_; rintro e w5 ⟨rfl, g5⟩))
  go_ret
  exact ⟨rfl, g_none (g_none (g_none g1 g2) g3) g5⟩

set_option maxRecDepth 100000 in
set_option maxHeartbeats 4000000 in
theorem classes_out (n : Int) (hn : isB n = false) (w : World) : Calls Try.prog 3 #[.int .i64 n] w fun e w' => e = .returned (.bool true) ∧ w.grownBy w' none := by
  have HN := hid hn
  clear hn
  go_enter Try.func3, Try.ntmps3
  go_wp2_with fail
  refine (payload_no n HN.out _).mono ?_
  rintro e w1 ⟨rfl, g1⟩
  go_wp2_with fail
  refine (slot_no n HN.out _).mono ?_
  rintro e w2 ⟨rfl, g2⟩
  go_wp2_with fail
  refine (count_no n HN.out _).mono ?_
  rintro e w3 ⟨rfl, g3⟩
  go_wp2_with fail
  refine (refPay_out n HN.out _).mono ?_
  rintro e w4 ⟨rfl, rfl⟩
  go_wp2_with (first
    | (go_at_call 13; refine (num_any _ _).mono ?_; rintro e _ ⟨rfl, rfl⟩)
    | (go_at_call 14; refine (works_true _).mono ?_; rintro e w5 ⟨rfl, g5⟩))
  go_ret
  exact ⟨rfl, g_none (g_none (g_none g1 g2) g3) g5⟩

theorem classes_law (n : Int) (w : World) (_ : (Lit.int .i64 n).wf = true) : Calls Try.prog 3 #[.int .i64 n] w fun e w' => e = .returned (.bool true) ∧ w.grownBy w' none := by
  by_cases h : isB n = true
  · have h' := h
    simp [isB] at h'
    obtain ⟨k, rfl⟩ := Int.eq_ofNat_of_zero_le h'.1
    exact classes_in k (by omega) w
  · exact classes_out n (by simpa using h) w
end Go.Proofs.Ytfgiokaohbpeiaa
