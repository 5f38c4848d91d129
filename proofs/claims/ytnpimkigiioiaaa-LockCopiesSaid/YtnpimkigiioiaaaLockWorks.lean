/-
  The chapter's rows.
-/
import Derived.Test.YtnpimkigiioiaaaLockRefC
namespace Go.Proofs.Ytnpimkigiioiaaa
open Go.RowKit
set_option maxRecDepth 100000

theorem num_any (n : Int) (w : World) : Calls Try.prog 13 #[.int .i64 n] w fun e w' => e = .returned (.int .i64 n) ∧ w = w' := by
  go_enter Try.func13, Try.ntmps13
  go_wp2
  go_ret
  exact ⟨rfl, rfl⟩
theorem refSame_yes (v1 v2 : Value) (xs : List Int) (w : World) (h1 : IntsAt w v1 xs) (h2 : IntsAt w v2 xs) :
    Calls Try.prog 14 #[v1, v2] w fun e w' => e = .returned (.bool true) ∧ w.grownBy w' none :=
  (refSame_gr v1 v2 xs xs w h1 h2).mono fun e w' ⟨he, hg⟩ => ⟨by rw [he]; simp, hg⟩

set_option maxHeartbeats 4000000 in
theorem works_any (w : World) : Calls Try.prog 7 #[] w fun e w' => e = .returned (.bool true) ∧ w.grownBy w' none := by
  go_enter Try.func7, Try.ntmps7
  go_wp2_with fail
  refine (lnew_yes 3 (by omega) w).mono ?_
  rintro e w1 ⟨p, pc, g, rfl, hL1, hg1, hp, hpc, hgg⟩
  have t1 := try_some p pc g 0 (by omega) [-1, -1, -1] 0 1 w1 hL1
  rw [show tryB [-1, -1, -1] 0 1 = true by decide, show tryE [-1, -1, -1] 0 1 = 0 by decide, show tryL [-1, -1, -1] 0 1 = [-1, 0, -1] by decide] at t1
  go_wp2_with fail
  refine t1.mono ?_
  rintro e w2 ⟨rfl, hL2, hg2⟩
  have t2 := try_some p pc g 1 (by omega) [-1, 0, -1] 1 1 w2 hL2
  rw [show tryB [-1, 0, -1] 1 1 = false by decide, show tryE [-1, 0, -1] 1 1 = 0 by decide, show tryL [-1, 0, -1] 1 1 = [-1, 0, -1] by decide] at t2
  clear t1
  go_wp2_with fail
  refine t2.mono ?_
  rintro e w3 ⟨rfl, hL3, hg3⟩
  have t3 := try_some p pc g 2 (by omega) [-1, 0, -1] 0 0 w3 hL3
  rw [show tryB [-1, 0, -1] 0 0 = false by decide, show tryE [-1, 0, -1] 0 0 = 220 by decide, show tryL [-1, 0, -1] 0 0 = [-1, 0, -1] by decide] at t3
  clear t2
  go_wp2_with fail
  refine t3.mono ?_
  rintro e w4 ⟨rfl, hL4, hg4⟩
  have t4 := try_some p pc g 3 (by omega) [-1, 0, -1] 0 2 w4 hL4
  rw [show tryB [-1, 0, -1] 0 2 = true by decide, show tryE [-1, 0, -1] 0 2 = 0 by decide, show tryL [-1, 0, -1] 0 2 = [-1, 0, 0] by decide] at t4
  clear t3
  go_wp2_with fail
  refine t4.mono ?_
  rintro e w5 ⟨rfl, hL5, hg5⟩
  have t5 := held_some p pc g 4 [-1, 0, 0] 0 w5 hL5
  rw [show heldL [-1, 0, 0] 0 = [1, 2] by decide] at t5
  have hgw5 : w.grownBy w5 none := g_new (g_new (g_new (g_new hg1 hg2 hgg) hg3 hgg) hg4 hgg) hg5 hgg
  clear t4 hL1 hL2 hL3 hL4 hg2 hg3 hg4 hg5 hg1
  go_wp2_with fail
  refine t5.mono ?_
  rintro e w6 ⟨v6, rfl, hI6, hg6, hv6⟩
  have hL6 := hL5.keptN hg6
  have hn6 : ∀ r, v6.ownBlock = some r → r ≠ g := fun r hr => by have h1 := hv6 r hr; have h2 := hL5.lt; omega
  have hgN := g_alloc (g_refl w6 none) (.cells #[.int .i64 (-1), .int .i64 1] 3)
  have t6 := chain_some p pc g 4 [-1, 0, 0] 1 [-1, 1] _ (by decide) _ (hL6.keptN hgN) (IntsAt.new w6 [-1, 1] 3 (by decide))
  rw [show chainE [-1, 0, 0] 1 [-1, 1] = 0 by decide, show chainL [-1, 0, 0] 1 [-1, 1] = [1, 0] by decide] at t6
  clear t5
  go_wp2_with fail
  refine t6.mono ?_
  rintro e w7 ⟨v7, rfl, hI7, hg7, hv7⟩
  have hg67 := g_none hgN hg7
  have hL7 := hL6.keptN hg67
  have hI67 := hI6.keptN hg67
  have hn7 : ∀ r, v7.ownBlock = some r → r ≠ g := fun r hr => by have h1 := hv7 r hr; have h2 := hL6.lt; have h3 := hgN.size; omega
  have t7 := free_some p pc g 4 (by omega) [-1, 0, 0] 1 1 w7 hL7
  rw [show freeE [-1, 0, 0] 1 1 = 221 by decide, show freeL [-1, 0, 0] 1 1 = [-1, 0, 0] by decide] at t7
  have hgw7 := g_none (g_none hgw5 hg6) hg67
  clear t6 hgN hL5 hL6 hg6 hg7 hg67 hI6 hv6 hv7 hgw5
  go_wp2_with fail
  refine t7.mono ?_
  rintro e w8 ⟨rfl, hL8, hg8⟩
  have t8 := drop_yes p pc g 5 (by omega) [-1, 0, 0] 0 (by decide) w8 hL8
  rw [show (heldL [-1, 0, 0] 0).length = 2 by decide, show dropL [-1, 0, 0] 0 = [-1, -1, -1] by decide] at t8
  clear t7
  go_wp2_with fail
  refine t8.mono ?_
  rintro e w9 ⟨rfl, hL9, hg9⟩
  have t9 := try_some p pc g 69 (by omega) [-1, -1, -1] 1 1 w9 hL9
  rw [show tryB [-1, -1, -1] 1 1 = true by decide, show tryE [-1, -1, -1] 1 1 = 0 by decide] at t9
  clear t8
  go_wp2_with fail
  refine t9.mono ?_
  rintro e w10 ⟨rfl, hL10, hg10⟩
  have hg710 := g_same (g_same hg8 hg9) hg10
  have hne6 : ∀ r, some g = some r → v6.ownBlock ≠ some r := fun r hr h1 => by cases hr; exact hn6 g h1 rfl
  have hne7 : ∀ r, some g = some r → v7.ownBlock ≠ some r := fun r hr h1 => by cases hr; exact hn7 g h1 rfl
  have hJ6 := hI67.kept hg710 hne6
  have hJ7 := hI7.kept hg710 hne7
  have hgw10 := g_new hgw7 hg710 hgg
  clear t9 hL7 hL8 hL9 hL10 hg8 hg9 hg10 hg710 hI67 hI7 hn6 hn7 hne6 hne7 hgw7
  go_wp2_with (go_at_call 13; refine (num_any _ _).mono ?_; rintro e _ ⟨rfl, rfl⟩)
  have hgA := g_alloc (g_refl w10 none) (.cells #[.int .i64 1, .int .i64 2] 3)
  refine (refSame_yes v6 _ [1, 2] _ (hJ6.keptN hgA) (IntsAt.new w10 [1, 2] 3 (by decide))).mono ?_
  rintro e w11 ⟨rfl, hg11⟩
  have hgB := g_none hgA hg11
  go_wp2_with (go_at_call 13; refine (num_any _ _).mono ?_; rintro e _ ⟨rfl, rfl⟩)
  have hgC := g_alloc (g_refl w11 none) (.cells #[.int .i64 1, .int .i64 0] 3)
  refine (refSame_yes v7 _ [1, 0] _ (hJ7.keptN (g_none hgB hgC)) (IntsAt.new w11 [1, 0] 3 (by decide))).mono ?_
  rintro e w12 ⟨rfl, hg12⟩
  go_wp2_with (go_at_call 13; refine (num_any _ _).mono ?_; rintro e _ ⟨rfl, rfl⟩)
  go_ret
  exact ⟨rfl, g_none (g_none (g_none hgw10 hgB) hgC) hg12⟩
end Go.Proofs.Ytnpimkigiioiaaa
