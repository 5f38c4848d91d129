/-
  Numbers of the round: the chapter's rows.
-/
import Derived.Test.YtgdnafafojiabaaDoorRoundLog
namespace Go.Proofs.YtgdnafafojiabaaDoor
open Go.RowKit

theorem row0 (v : Value) (w : World) (h : LU w v [18446744073709551615, 1]) : Calls Tryd.prog 9 #[v] w fun e w' => e = .returned (.tuple #[.int .u64 0, .int .i64 120]) ∧ w.grownBy w' none := by
  have h1 := add_any v _ w h
  rw [show addO [18446744073709551615, 1] = none by decide] at h1
  exact h1
theorem row1 (v : Value) (w : World) (h : LU w v [4294967296, 4294967296]) : Calls Tryd.prog 10 #[v] w fun e w' => e = .returned (.tuple #[.int .u64 0, .int .i64 120]) ∧ w.grownBy w' none := by
  have h1 := mul_any v _ w h
  rw [show mulO [4294967296, 4294967296] = none by decide] at h1
  exact h1
theorem row2 (v : Value) (w : World) (h : LU w v [9223372036854775808, 2, 0]) : Calls Tryd.prog 10 #[v] w fun e w' => e = .returned (.tuple #[.int .u64 0, .int .i64 0]) ∧ w.grownBy w' none := by
  have h1 := mul_any v _ w h
  rw [show mulO [9223372036854775808, 2, 0] = (some 0) by decide] at h1
  exact h1
theorem row3 (w : World) : Calls Tryd.prog 14 #[.int .u64 17, .int .u64 16] w fun e w' => e = .returned (.tuple #[.int .u64 32, .int .i64 0]) ∧ w.grownBy w' none := by
  have h1 := rup_any 17 16 (by decide) (by decide) (by decide) w
  rw [show upO 17 16 = some 32 by decide] at h1
  exact h1
theorem row4 (w : World) : Calls Tryd.prog 15 #[.int .u64 17, .int .u64 16] w fun e w' => e = .returned (.tuple #[.int .u64 16, .int .i64 0]) ∧ w.grownBy w' none := by
  have h1 := rdown_any 17 16 (by decide) (by decide) (by decide) w
  exact h1
theorem row5 (w : World) : Calls Tryd.prog 16 #[.int .u64 17, .int .u64 16] w fun e w' => e = .returned (.tuple #[.int .u64 2, .int .i64 0]) ∧ w.grownBy w' none := by
  have h1 := rmany_any 17 16 (by decide) (by decide) (by decide) w
  exact h1
theorem row6 (w : World) : Calls Tryd.prog 14 #[.int .u64 18446744073709551615, .int .u64 2] w fun e w' => e = .returned (.tuple #[.int .u64 0, .int .i64 120]) ∧ w.grownBy w' none := by
  have h1 := rup_any 18446744073709551615 2 (by decide) (by decide) (by decide) w
  rw [show upO 18446744073709551615 2 = none by decide] at h1
  exact h1
theorem row7 (w : World) (hT : Tab w) : Calls Tryd.prog 20 #[.int .u64 8] w fun e w' => e = .returned (.tuple #[.int .i64 3, .int .i64 0]) ∧ w = w' := by
  have h1 := log_any 8 (by decide) w hT
  rw [show lg 8 = some 3 by decide +kernel] at h1
  exact h1
theorem row8 (w : World) (hT : Tab w) : Calls Tryd.prog 20 #[.int .u64 6] w fun e w' => e = .returned (.tuple #[.int .i64 0, .int .i64 2]) ∧ w = w' := by
  have h1 := log_any 6 (by decide) w hT
  rw [show lg 6 = none by decide +kernel] at h1
  exact h1

set_option maxRecDepth 100000 in
set_option maxHeartbeats 4000000 in
theorem works_true (w : World) (hT : Tab w) : Calls Tryd.prog 8 #[] w fun e w' => e = .returned (.bool true) ∧ w.grownBy w' none := by
  go_enter Tryd.func8, Tryd.ntmps8
  have u0 := LU.new w _ rfl 24 [18446744073709551615, 1] (by decide) (by decide)
  have gs0 := g_alloc (g_refl w none) (.cells #[.int .u64 18446744073709551615, .int .u64 1] 24)
  go_wp2_with fail
  refine (row0 _ _ u0).mono ?_
  rintro e w0 ⟨rfl, ga0⟩
  have gg0 := g_none gs0 ga0
  clear u0 gs0 ga0
  have u1 := LU.new w0 _ rfl 24 [4294967296, 4294967296] (by decide) (by decide)
  have gs1 := g_alloc (gg0) (.cells #[.int .u64 4294967296, .int .u64 4294967296] 24)
  go_wp2_with fail
  refine (row1 _ _ u1).mono ?_
  rintro e w1 ⟨rfl, ga1⟩
  have gg1 := g_none gs1 ga1
  clear u1 gs1 ga1
  have u2 := LU.new w1 _ rfl 24 [9223372036854775808, 2, 0] (by decide) (by decide)
  have gs2 := g_alloc (gg1) (.cells #[.int .u64 9223372036854775808, .int .u64 2, .int .u64 0] 24)
  go_wp2_with fail
  refine (row2 _ _ u2).mono ?_
  rintro e w2 ⟨rfl, ga2⟩
  have gg2 := g_none gs2 ga2
  clear u2 gs2 ga2
  go_wp2_with fail
  refine (row3 _).mono ?_
  rintro e w3 ⟨rfl, ga3⟩
  have gg3 := g_none gg2 ga3
  clear ga3
  go_wp2_with fail
  refine (row4 _).mono ?_
  rintro e w4 ⟨rfl, ga4⟩
  have gg4 := g_none gg3 ga4
  clear ga4
  go_wp2_with fail
  refine (row5 _).mono ?_
  rintro e w5 ⟨rfl, ga5⟩
  have gg5 := g_none gg4 ga5
  clear ga5
  go_wp2_with fail
  refine (row6 _).mono ?_
  rintro e w6 ⟨rfl, ga6⟩
  have gg6 := g_none gg5 ga6
  clear ga6
  have hT6 := hT.keptN gg6
  go_wp2_with fail
  refine (row7 _ hT6).mono ?_
  rintro e w7 ⟨rfl, rfl⟩
  go_wp2_with fail
  refine (row8 _ hT6).mono ?_
  rintro e w8 ⟨rfl, rfl⟩
  clear hT6 hT
  go_wp2_with (go_at_call 13; refine (num_any _ _).mono ?_; rintro e _ ⟨rfl, rfl⟩)
  go_ret
  exact ⟨rfl, gg6⟩
end Go.Proofs.YtgdnafafojiabaaDoor
