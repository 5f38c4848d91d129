/-
  Sizes in memory: the chapter's rows.
-/
import Derived.Test.YtfgiokaohbpeiaaSizeRef
namespace Go.Proofs.Ytfgiokaohbpeiaa
open Go.RowKit

theorem row0 (w : World) : Calls Try.prog 9 #[.int .i64 3] w fun e w' => e = .returned (.tuple #[.int .i64 64, .int .i64 0]) ∧ w.grownBy w' none := payload_ok 3 (by decide) w
theorem row1 (w : World) : Calls Try.prog 10 #[.int .i64 0] w fun e w' => e = .returned (.tuple #[.int .i64 48, .int .i64 0]) ∧ w.grownBy w' none := slot_ok 0 (by decide) w
theorem row2 (w : World) : Calls Try.prog 11 #[.int .i64 0] w fun e w' => e = .returned (.tuple #[.int .i64 85, .int .i64 0]) ∧ w.grownBy w' none := count_ok 0 (by decide) w
theorem row3 (w : World) : Calls Try.prog 11 #[.int .i64 7] w fun e w' => e = .returned (.tuple #[.int .i64 14, .int .i64 0]) ∧ w.grownBy w' none := count_ok 7 (by decide) w
theorem row4 (w : World) : Calls Try.prog 10 #[.int .i64 8] w fun e w' => e = .returned (.tuple #[.int .i64 0, .int .i64 2]) ∧ w.grownBy w' none := slot_no 8 (by decide) w
theorem row5 (w : World) : Calls Try.prog 17 #[.int .i64 17] w fun e w' => e = .returned (.tuple #[.int .i64 1, .bool true]) ∧ w.grownBy w' none := class_any 17 w
theorem row6 (w : World) : Calls Try.prog 17 #[.int .i64 257] w fun e w' => e = .returned (.tuple #[.int .i64 0, .bool false]) ∧ w.grownBy w' none := class_any 257 w
theorem row7 (w : World) : Calls Try.prog 19 #[.int .u64 17, .int .u64 16] w fun e w' => e = .returned (.tuple #[.agg #[.bool true, .int .i64 1, .int .i64 0, .int .i64 32], .int .i64 0]) ∧ w.grownBy w' none := of_any 17 16 (by decide) (by decide) w
theorem row8 (w : World) : Calls Try.prog 19 #[.int .u64 300, .int .u64 1] w fun e w' => e = .returned (.tuple #[.agg #[.bool false, .int .i64 0, .int .i64 2, .int .i64 512], .int .i64 0]) ∧ w.grownBy w' none := of_any 300 1 (by decide) (by decide) w
theorem row9 (w : World) : Calls Try.prog 19 #[.int .u64 10, .int .u64 64] w fun e w' => e = .returned (.tuple #[.agg #[.bool false, .int .i64 0, .int .i64 1, .int .i64 256], .int .i64 0]) ∧ w.grownBy w' none := of_any 10 64 (by decide) (by decide) w
theorem row10 (w : World) : Calls Try.prog 19 #[.int .u64 0, .int .u64 1] w fun e w' => e = .returned (.tuple #[.agg #[.bool true, .int .i64 0, .int .i64 0, .int .i64 16], .int .i64 0]) ∧ w.grownBy w' none := of_any 0 1 (by decide) (by decide) w
theorem row11 (w : World) : Calls Try.prog 19 #[.int .u64 1, .int .u64 3] w fun e w' => e = .returned (.tuple #[.agg #[.bool false, .int .i64 0, .int .i64 0, .int .i64 0], .int .i64 2]) ∧ w.grownBy w' none := of_any 1 3 (by decide) (by decide) w
theorem row12 (w : World) : Calls Try.prog 19 #[.int .u64 262145, .int .u64 1] w fun e w' => e = .returned (.tuple #[.agg #[.bool false, .int .i64 0, .int .i64 0, .int .i64 0], .int .i64 2]) ∧ w.grownBy w' none := of_any 262145 1 (by decide) (by decide) w
theorem row13 (w : World) : Calls Try.prog 21 #[.int .u64 3, .int .u64 100] w fun e w' => e = .returned (.tuple #[.int .u64 300, .int .i64 0]) ∧ w.grownBy w' none := total_any 3 100 (by decide) (by decide) w
theorem row14 (w : World) : Calls Try.prog 21 #[.int .u64 9223372036854775808, .int .u64 2] w fun e w' => e = .returned (.tuple #[.int .u64 0, .int .i64 2]) ∧ w.grownBy w' none := total_any 9223372036854775808 2 (by decide) (by decide) w

set_option maxRecDepth 100000 in
set_option maxHeartbeats 4000000 in
theorem works_true (w : World) : Calls Try.prog 14 #[] w fun e w' => e = .returned (.bool true) ∧ w.grownBy w' none := by
  go_enter Try.func14, Try.ntmps14
  go_wp2_with fail
  refine (row0 _).mono ?_
  rintro e w0 ⟨rfl, ga0⟩
  have gg0 := ga0
  go_wp2_with fail
  refine (row1 _).mono ?_
  rintro e w1 ⟨rfl, ga1⟩
  have gg1 := g_none gg0 ga1
  go_wp2_with fail
  refine (row2 _).mono ?_
  rintro e w2 ⟨rfl, ga2⟩
  have gg2 := g_none gg1 ga2
  go_wp2_with fail
  refine (row3 _).mono ?_
  rintro e w3 ⟨rfl, ga3⟩
  have gg3 := g_none gg2 ga3
  go_wp2_with fail
  refine (row4 _).mono ?_
  rintro e w4 ⟨rfl, ga4⟩
  have gg4 := g_none gg3 ga4
  go_wp2_with fail
  refine (row5 _).mono ?_
  rintro e w5 ⟨rfl, ga5⟩
  have gg5 := g_none gg4 ga5
  go_wp2_with fail
  refine (row6 _).mono ?_
  rintro e w6 ⟨rfl, ga6⟩
  have gg6 := g_none gg5 ga6
  go_wp2_with fail
  refine (row7 _).mono ?_
  rintro e w7 ⟨rfl, ga7⟩
  have gg7 := g_none gg6 ga7
  have gs7 := g_alloc (g_refl w7 none) (.cells #[.bool true, .int .i64 1, .int .i64 0, .int .i64 32] 33)
  have b7 := Blk.new w7 [.bool true, .int .i64 1, .int .i64 0, .int .i64 32] 33
  have gh7 := g_none gg7 gs7
  go_wp2_with fail
  refine (row8 _).mono ?_
  rintro e w8 ⟨rfl, ga8⟩
  replace b7 := b7.keptN ga8
  have gg8 := g_none gh7 ga8
  have gs8 := g_alloc (g_refl w8 none) (.cells #[.bool false, .int .i64 0, .int .i64 2, .int .i64 512] 33)
  replace b7 := b7.keptN gs8
  have b8 := Blk.new w8 [.bool false, .int .i64 0, .int .i64 2, .int .i64 512] 33
  have gh8 := g_none gg8 gs8
  go_wp2_with fail
  refine (row9 _).mono ?_
  rintro e w9 ⟨rfl, ga9⟩
  replace b7 := b7.keptN ga9
  replace b8 := b8.keptN ga9
  have gg9 := g_none gh8 ga9
  have gs9 := g_alloc (g_refl w9 none) (.cells #[.bool false, .int .i64 0, .int .i64 1, .int .i64 256] 33)
  replace b7 := b7.keptN gs9
  replace b8 := b8.keptN gs9
  have b9 := Blk.new w9 [.bool false, .int .i64 0, .int .i64 1, .int .i64 256] 33
  have gh9 := g_none gg9 gs9
  go_wp2_with fail
  refine (row10 _).mono ?_
  rintro e w10 ⟨rfl, ga10⟩
  replace b7 := b7.keptN ga10
  replace b8 := b8.keptN ga10
  replace b9 := b9.keptN ga10
  have gg10 := g_none gh9 ga10
  have gs10 := g_alloc (g_refl w10 none) (.cells #[.bool true, .int .i64 0, .int .i64 0, .int .i64 16] 33)
  replace b7 := b7.keptN gs10
  replace b8 := b8.keptN gs10
  replace b9 := b9.keptN gs10
  have b10 := Blk.new w10 [.bool true, .int .i64 0, .int .i64 0, .int .i64 16] 33
  have gh10 := g_none gg10 gs10
  go_wp2_with fail
  refine (row11 _).mono ?_
  rintro e w11 ⟨rfl, ga11⟩
  replace b7 := b7.keptN ga11
  replace b8 := b8.keptN ga11
  replace b9 := b9.keptN ga11
  replace b10 := b10.keptN ga11
  have gg11 := g_none gh10 ga11
  have gs11 := g_alloc (g_refl w11 none) (.cells #[.bool false, .int .i64 0, .int .i64 0, .int .i64 0] 33)
  replace b7 := b7.keptN gs11
  replace b8 := b8.keptN gs11
  replace b9 := b9.keptN gs11
  replace b10 := b10.keptN gs11
  have b11 := Blk.new w11 [.bool false, .int .i64 0, .int .i64 0, .int .i64 0] 33
  have gh11 := g_none gg11 gs11
  go_wp2_with fail
  refine (row12 _).mono ?_
  rintro e w12 ⟨rfl, ga12⟩
  replace b7 := b7.keptN ga12
  replace b8 := b8.keptN ga12
  replace b9 := b9.keptN ga12
  replace b10 := b10.keptN ga12
  replace b11 := b11.keptN ga12
  have gg12 := g_none gh11 ga12
  have gs12 := g_alloc (g_refl w12 none) (.cells #[.bool false, .int .i64 0, .int .i64 0, .int .i64 0] 33)
  replace b7 := b7.keptN gs12
  replace b8 := b8.keptN gs12
  replace b9 := b9.keptN gs12
  replace b10 := b10.keptN gs12
  replace b11 := b11.keptN gs12
  have b12 := Blk.new w12 [.bool false, .int .i64 0, .int .i64 0, .int .i64 0] 33
  have gh12 := g_none gg12 gs12
  go_wp2_with fail
  refine (row13 _).mono ?_
  rintro e w13 ⟨rfl, ga13⟩
  replace b7 := b7.keptN ga13
  replace b8 := b8.keptN ga13
  replace b9 := b9.keptN ga13
  replace b10 := b10.keptN ga13
  replace b11 := b11.keptN ga13
  replace b12 := b12.keptN ga13
  have gg13 := g_none gh12 ga13
  go_wp2_with fail
  refine (row14 _).mono ?_
  rintro e w14 ⟨rfl, ga14⟩
  replace b7 := b7.keptN ga14
  replace b8 := b8.keptN ga14
  replace b9 := b9.keptN ga14
  replace b10 := b10.keptN ga14
  replace b11 := b11.keptN ga14
  replace b12 := b12.keptN ga14
  have gg14 := g_none gg13 ga14
  clear ga0 ga1 ga2 ga3 ga4 ga5 ga6 ga7 ga8 ga9 ga10 ga11 ga12 ga13 ga14
  have c7_0 := b7.cellOf (i := 0) rfl
  have c7_1 := b7.cellOf (i := 1) rfl
  have c7_2 := b7.cellOf (i := 2) rfl
  have c7_3 := b7.cellOf (i := 3) rfl
  have c8_0 := b8.cellOf (i := 0) rfl
  have c8_1 := b8.cellOf (i := 1) rfl
  have c8_2 := b8.cellOf (i := 2) rfl
  have c8_3 := b8.cellOf (i := 3) rfl
  have c9_0 := b9.cellOf (i := 0) rfl
  have c9_1 := b9.cellOf (i := 1) rfl
  have c9_2 := b9.cellOf (i := 2) rfl
  have c9_3 := b9.cellOf (i := 3) rfl
  have c10_0 := b10.cellOf (i := 0) rfl
  have c10_1 := b10.cellOf (i := 1) rfl
  have c10_2 := b10.cellOf (i := 2) rfl
  have c10_3 := b10.cellOf (i := 3) rfl
  have c11_0 := b11.cellOf (i := 0) rfl
  have c11_1 := b11.cellOf (i := 1) rfl
  have c11_2 := b11.cellOf (i := 2) rfl
  have c11_3 := b11.cellOf (i := 3) rfl
  have c12_0 := b12.cellOf (i := 0) rfl
  have c12_1 := b12.cellOf (i := 1) rfl
  have c12_2 := b12.cellOf (i := 2) rfl
  have c12_3 := b12.cellOf (i := 3) rfl
  go_wp2_with (go_at_call 13; refine (num_any _ _).mono ?_; rintro e _ ⟨rfl, rfl⟩)
  go_ret
  exact ⟨rfl, gg14⟩
end Go.Proofs.Ytfgiokaohbpeiaa
