/-
  SizeFits, SizeNeeds, SizeTotals.
-/
import Derived.Test.YtfgiokaohbpeiaaSizeWorks
import Derived.Test.YtfgiokaohbpeiaaRow
namespace Go.Proofs.Ytfgiokaohbpeiaa
open Go.RowKit

set_option maxRecDepth 100000 in
set_option maxHeartbeats 4000000 in
theorem fits_law (n : Int) (w : World) (_ : (Lit.int .i64 n).wf = true) : Calls Try.prog 4 #[.int .i64 n] w fun e w' => e = .returned (.bool true) ∧ w.grownBy w' none := by
  have H1 := hid fun w => class_any n w
  have H2 := hid fun w => refClass_any n w
  have hc := classV_bounds n
  by_cases h : 0 ≤ classV n
  · rw [show cls n = classV n by simp [cls, h], show decide (0 ≤ classV n) = true by simpa using h] at H1
    obtain ⟨C, hC⟩ : ∃ C, C = classV n := ⟨_, rfl⟩
    rw [← hC] at H1 H2 hc h
    clear hC
    by_cases h0 : C = 0
    · subst h0
      go_enter Try.func4, Try.ntmps4
      go_wp2_with fail
      refine (H1.out _).mono ?_
      rintro e w1 ⟨rfl, g1⟩
      go_wp2_with fail
      refine (H2.out _).mono ?_
      rintro e w2 ⟨rfl, rfl⟩
      go_wp2_with (go_at_call 14; refine (works_true _).mono ?_; rintro e w5 ⟨rfl, g5⟩)
      go_ret
      exact ⟨rfl, g_none g1 g5⟩
    · have h0' : 0 < C := by omega
      go_enter Try.func4, Try.ntmps4
      go_wp2_with fail
      refine (H1.out _).mono ?_
      rintro e w1 ⟨rfl, g1⟩
      go_wp2_with fail
      refine (H2.out _).mono ?_
      rintro e w2 ⟨rfl, rfl⟩
      go_wp2_with (go_at_call 14; refine (works_true _).mono ?_; rintro e w5 ⟨rfl, g5⟩)
      go_ret
      exact ⟨rfl, g_none g1 g5⟩
  · have hm : classV n = -1 := by omega
    rw [show cls n = 0 by simp [cls, h], show decide (0 ≤ classV n) = false by simpa using h] at H1
    rw [hm] at H2
    clear hc h hm
    go_enter Try.func4, Try.ntmps4
    go_wp2_with fail
    refine (H1.out _).mono ?_
    rintro e w1 ⟨rfl, g1⟩
    go_wp2_with fail
    refine (H2.out _).mono ?_
    rintro e w2 ⟨rfl, rfl⟩
    go_wp2_with (go_at_call 14; refine (works_true _).mono ?_; rintro e w5 ⟨rfl, g5⟩)
    go_ret
    exact ⟨rfl, g_none g1 g5⟩

theorem u64_nat {a : Int} (h : (Lit.int .u64 a).wf = true) : ∃ n : Nat, a = n ∧ n < 18446744073709551616 := by
  have h' := u64_of_wf h
  exact ⟨a.toNat, by omega, by omega⟩

set_option maxRecDepth 100000 in
set_option maxHeartbeats 4000000 in
theorem totals_law (a b : Int) (w : World) (wa : (Lit.int .u64 a).wf = true) (wb : (Lit.int .u64 b).wf = true) : Calls Try.prog 6 #[.int .u64 a, .int .u64 b] w fun e w' => e = .returned (.bool true) ∧ w.grownBy w' none := by
  obtain ⟨a, rfl, ha⟩ := u64_nat wa
  obtain ⟨b, rfl, hb⟩ := u64_nat wb
  have H1 := hid fun w => total_any a b ha hb w
  have H2 := hid fun w => refTotal_any a b ha hb w
  obtain ⟨V, hV⟩ : ∃ V, V = totV a b := ⟨_, rfl⟩
  obtain ⟨E, hE⟩ : ∃ E, E = totE a b := ⟨_, rfl⟩
  rw [← hV, ← hE] at H1 H2
  clear hV hE
  go_enter Try.func6, Try.ntmps6
  go_wp2_with fail
  refine (H1.out _).mono ?_
  rintro e w1 ⟨rfl, g1⟩
  go_wp2_with fail
  refine (H2.out _).mono ?_
  rintro e w2 ⟨rfl, g2⟩
  go_wp2_with (first
    | (go_at_call 13; refine (num_any _ _).mono ?_; rintro e _ ⟨rfl, rfl⟩)
    | (go_at_call 14; refine (works_true _).mono ?_; rintro e w5 ⟨rfl, g5⟩))
  go_ret
  exact ⟨rfl, g_none (g_none g1 g2) g5⟩

set_option maxRecDepth 100000 in
set_option maxHeartbeats 4000000 in
theorem needs_law (a b : Int) (w : World) (wa : (Lit.int .u64 a).wf = true) (wb : (Lit.int .u64 b).wf = true) : Calls Try.prog 5 #[.int .u64 a, .int .u64 b] w fun e w' => e = .returned (.bool true) ∧ w.grownBy w' none := by
  obtain ⟨a, rfl, ha⟩ := u64_nat wa
  obtain ⟨b, rfl, hb⟩ := u64_nat wb
  have H1 := hid fun w => of_any a b ha hb w
  have H2 := hid fun w => refOf_any a b ha hb w
  unfold ndV at H1 H2
  obtain ⟨S, hS⟩ : ∃ S, S = ndS a b := ⟨_, rfl⟩
  obtain ⟨C, hC⟩ : ∃ C, C = ndC a b := ⟨_, rfl⟩
  obtain ⟨P, hP⟩ : ∃ P, P = ndP a b := ⟨_, rfl⟩
  obtain ⟨G, hG⟩ : ∃ G, G = ndH a b := ⟨_, rfl⟩
  obtain ⟨E, hE⟩ : ∃ E, E = ndE a b := ⟨_, rfl⟩
  rw [← hS, ← hC, ← hP, ← hG, ← hE] at H1 H2
  clear hS hC hP hG hE
  go_enter Try.func5, Try.ntmps5
  go_wp2_with fail
  refine (H1.out _).mono ?_
  rintro e w1 ⟨rfl, g1⟩
  have gs1 := g_alloc (g_refl w1 none) (.cells #[.bool S, .int .i64 C, .int .i64 P, .int .i64 G] 33)
  have b1 := Blk.new w1 [.bool S, .int .i64 C, .int .i64 P, .int .i64 G] 33
  have gg1 := g_none g1 gs1
  go_wp2_with fail
  refine (H2.out _).mono ?_
  rintro e w2 ⟨rfl, g2⟩
  have gs2 := g_alloc (g_refl w2 none) (.cells #[.bool S, .int .i64 C, .int .i64 P, .int .i64 G] 33)
  replace b1 := (b1.keptN g2).keptN gs2
  have b2 := Blk.new w2 [.bool S, .int .i64 C, .int .i64 P, .int .i64 G] 33
  have gg2 := g_none (g_none gg1 g2) gs2
  have c0 := b1.cellOf (i := 0) rfl
  have c1 := b1.cellOf (i := 1) rfl
  have c2 := b1.cellOf (i := 2) rfl
  have c3 := b1.cellOf (i := 3) rfl
  have d0 := b2.cellOf (i := 0) rfl
  have d1 := b2.cellOf (i := 1) rfl
  have d2 := b2.cellOf (i := 2) rfl
  have d3 := b2.cellOf (i := 3) rfl
  go_wp2_with (first
    | (go_at_call 13; refine (num_any _ _).mono ?_; rintro e _ ⟨rfl, rfl⟩)
    | (go_at_call 14; refine (works_true _).mono ?_; rintro e w5 ⟨rfl, g5⟩))
  go_ret
  exact ⟨rfl, g_none gg2 g5⟩
end Go.Proofs.Ytfgiokaohbpeiaa
