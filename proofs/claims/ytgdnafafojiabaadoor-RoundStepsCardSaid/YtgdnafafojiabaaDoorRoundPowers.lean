/-
  RoundPowers and RoundUps at whatever arguments.
-/
import Derived.Test.YtgdnafafojiabaaDoorRoundWorks
namespace Go.Proofs.YtgdnafafojiabaaDoor
open Go.RowKit

theorem u64_nat {x : Int} (h : (Lit.int .u64 x).wf = true) : ∃ n : Nat, x = (n : Int) ∧ n < 18446744073709551616 := by
  have h1 := u64_of_wf h
  exact ⟨x.toNat, by omega, by omega⟩

set_option maxHeartbeats 1000000 in
theorem powers_law (x : Int) (w : World) (wx : (Lit.int .u64 x).wf = true) (hT : Tab w) : Calls Tryd.prog 5 #[.int .u64 x] w fun e w' => e = .returned (.bool true) ∧ w.grownBy w' none := by
  obtain ⟨n, rfl, hn⟩ := u64_nat wx
  have hl := log_any n hn w hT
  have hr := refLog_any n w
  have hp := power_any n hn w
  have hw := works_true w hT
  rcases lg_cases n with ⟨k, hk, e, h⟩ | ⟨hno, h⟩
  · rw [h] at hl hr hp
    rw [show lgV (some k) = k from rfl, show lgE (some k) = 0 from rfl] at hl
    rw [show lgR (some k) = (k : Int) from rfl] at hr
    rw [show (some k).isSome = true from rfl] at hp
    clear e h wx hT
    have hd : ¬ ((k : Int) < 0) := by omega
    go_enter Tryd.func5, Tryd.ntmps5
    go_wp2_with fail
    refine hl.mono ?_
    rintro e w1 ⟨rfl, rfl⟩
    go_wp2_with fail
    refine hr.mono ?_
    rintro e w1 ⟨rfl, rfl⟩
    go_wp2_with fail
    refine (num_any _ _).mono ?_
    rintro e w1 ⟨rfl, rfl⟩
    go_wp2_with fail
    refine hp.mono ?_
    rintro e w1 ⟨rfl, rfl⟩
    go_wp2_with fail
    refine hw.mono ?_
    rintro e w1 ⟨rfl, hg⟩
    go_wp2_with fail
    go_ret
    exact ⟨rfl, hg⟩
  · rw [h] at hl hr hp
    rw [show lgV none = 0 from rfl, show lgE none = 2 from rfl] at hl
    rw [show lgR none = -1 from rfl] at hr
    rw [show (none : Option Nat).isSome = false from rfl] at hp
    clear hno h wx hT
    go_enter Tryd.func5, Tryd.ntmps5
    go_wp2_with fail
    refine hl.mono ?_
    rintro e w1 ⟨rfl, rfl⟩
    go_wp2_with fail
    refine hr.mono ?_
    rintro e w1 ⟨rfl, rfl⟩
    go_wp2_with fail
    refine (num_any _ _).mono ?_
    rintro e w1 ⟨rfl, rfl⟩
    go_wp2_with fail
    refine hp.mono ?_
    rintro e w1 ⟨rfl, rfl⟩
    go_wp2_with fail
    refine hw.mono ?_
    rintro e w1 ⟨rfl, hg⟩
    go_wp2_with fail
    go_ret
    exact ⟨rfl, hg⟩

set_option maxRecDepth 100000 in
set_option maxHeartbeats 2000000 in
theorem ups0_law (n : Nat) (hn : n < 18446744073709551616) (w : World) (hT : Tab w) : Calls Tryd.prog 4 #[.int .u64 (n : Int), .int .u64 0] w fun e w' => e = .returned (.bool true) ∧ w.grownBy w' none := by
  go_enter Tryd.func4, Tryd.ntmps4
  go_wp2_with fail
  refine (rup0_any n hn _).mono ?_
  rintro e w1 ⟨rfl, hg1⟩
  go_wp2_with fail
  refine (rdown0_any n hn _).mono ?_
  rintro e w2 ⟨rfl, hg2⟩
  have gg2 := g_none hg1 hg2
  go_wp2_with fail
  refine (rmany0_any n hn _).mono ?_
  rintro e w3 ⟨rfl, hg3⟩
  have gg3 := g_none gg2 hg3
  have hw := works_true w3 (hT.keptN gg3)
  clear hg1 hg2 hg3 gg2
  go_wp2_with (go_at_call 13; refine (num_any _ _).mono ?_; rintro e _ ⟨rfl, rfl⟩)
  refine hw.mono ?_
  rintro e w4 ⟨rfl, hg4⟩
  go_wp2_with fail
  go_ret
  exact ⟨rfl, g_none gg3 hg4⟩

set_option maxRecDepth 100000 in
set_option maxHeartbeats 2000000 in
theorem upsS_law (n s : Nat) (hn : n < 18446744073709551616) (hs2 : s < 18446744073709551616) (hs : 1 ≤ s) (w : World) (hT : Tab w) : Calls Tryd.prog 4 #[.int .u64 (n : Int), .int .u64 (s : Int)] w fun e w' => e = .returned (.bool true) ∧ w.grownBy w' none := by
  have c1 := rup_any n s hn hs2 hs
  have c2 := rdown_any n s hn hs2 hs
  have c3 := rmany_any n s hn hs2 hs
  have r1 := refUp_any n s hn hs2 hs
  have r2 := refDown_any n s hs hs2 hn
  have r3 := refMany_any n s hn hs2 hs
  have hz : (((s : Int)) == 0) = false := by simp; omega
  generalize valO (upO n s) = V at *
  generalize errO (upO n s) = E at *
  generalize dnV n s = D at *
  generalize manyV n s = M at *
  clear hs
  go_enter Tryd.func4, Tryd.ntmps4
  go_wp2_with fail
  refine (c1 _).mono ?_
  rintro e w1 ⟨rfl, hg1⟩
  go_wp2_with fail
  refine (c2 _).mono ?_
  rintro e w2 ⟨rfl, hg2⟩
  have gg2 := g_none hg1 hg2
  go_wp2_with fail
  refine (c3 _).mono ?_
  rintro e w3 ⟨rfl, hg3⟩
  have gg3 := g_none gg2 hg3
  have hw := works_true w3 (hT.keptN gg3)
  clear hg1 hg2 hg3 gg2
  go_wp2_with fail
  refine (r1 _).mono ?_
  rintro e w4 ⟨rfl, rfl⟩
  go_wp2_with (go_at_call 13; refine (num_any _ _).mono ?_; rintro e _ ⟨rfl, rfl⟩)
  refine (r2 _).mono ?_
  rintro e w4 ⟨rfl, rfl⟩
  go_wp2_with (go_at_call 13; refine (num_any _ _).mono ?_; rintro e _ ⟨rfl, rfl⟩)
  refine (r3 _).mono ?_
  rintro e w4 ⟨rfl, rfl⟩
  go_wp2_with (go_at_call 13; refine (num_any _ _).mono ?_; rintro e _ ⟨rfl, rfl⟩)
  refine hw.mono ?_
  rintro e w5 ⟨rfl, hg5⟩
  go_wp2_with fail
  go_ret
  exact ⟨rfl, g_none gg3 hg5⟩

theorem ups_law (x y : Int) (w : World) (wx : (Lit.int .u64 x).wf = true) (wy : (Lit.int .u64 y).wf = true) (hT : Tab w) : Calls Tryd.prog 4 #[.int .u64 x, .int .u64 y] w fun e w' => e = .returned (.bool true) ∧ w.grownBy w' none := by
  obtain ⟨n, rfl, hn⟩ := u64_nat wx
  obtain ⟨s, rfl, hs⟩ := u64_nat wy
  by_cases h0 : s = 0
  · subst h0
    exact ups0_law n hn w hT
  · exact upsS_law n s hn hs (by omega) w hT
end Go.Proofs.YtgdnafafojiabaaDoor
