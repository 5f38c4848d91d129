/-
  RoundHolds at whatever arguments: the walks.
-/
import Derived.Test.YtgdnafafojiabaaDoorRoundHolds
namespace Go.Proofs.YtgdnafafojiabaaDoor
open Go.RowKit

set_option maxRecDepth 100000 in
set_option maxHeartbeats 4000000 in
theorem holds_none (a b c s : Nat) (ha : a < 18446744073709551616) (hb : b < 18446744073709551616) (hc : c < 18446744073709551616) (hs2 : s < 18446744073709551616) (S P : Nat) (SE PE : Int) (hS : valO (addO [a, b, c]) = S) (hSE : errO (addO [a, b, c]) = SE) (hP : valO (mulO [a, b, c]) = P) (hPE : errO (mulO [a, b, c]) = PE) (h0 : s = 0) (c1 : ∀ w : World, Calls Tryd.prog 14 #[.int .u64 (a : Int), .int .u64 (s : Int)] w fun e w' => e = .returned (.tuple #[.int .u64 0, .int .i64 2]) ∧ w.grownBy w' none) (c2 : ∀ w : World, Calls Tryd.prog 15 #[.int .u64 (a : Int), .int .u64 (s : Int)] w fun e w' => e = .returned (.tuple #[.int .u64 0, .int .i64 2]) ∧ w.grownBy w' none) (c3 : ∀ w : World, Calls Tryd.prog 16 #[.int .u64 (a : Int), .int .u64 (s : Int)] w fun e w' => e = .returned (.tuple #[.int .u64 0, .int .i64 2]) ∧ w.grownBy w' none) (w : World) (hT : Tab w) : Calls Tryd.prog 6 #[.agg #[.int .u64 (a : Int), .int .u64 (b : Int), .int .u64 (c : Int)], .int .u64 (s : Int)] w fun e w' => e = .returned (.bool true) ∧ w.grownBy w' none := by
  subst h0
  have hgA := g_alloc (g_refl w none) (.cells #[.int .u64 (a : Int), .int .u64 (b : Int), .int .u64 (c : Int)] 40)
  have b1 := Blk.new w [.int .u64 (a : Int), .int .u64 (b : Int), .int .u64 (c : Int)] 40
  have k0 := b1.cellOf (i := 0) rfl
  have k1 := b1.cellOf (i := 1) rfl
  have k2 := b1.cellOf (i := 2) rfl
  have m1 := mem_three ha hb hc
  have m2 := mem_three hc ha hb
  have m3 := mem_three hb hc ha
  have s1 : ∀ (v : Value) (w : World), LU w v [a, b, c] → Calls Tryd.prog 9 #[v] w fun e w' => e = .returned (.tuple #[.int .u64 (S : Int), .int .i64 SE]) ∧ w.grownBy w' none := fun v w h => by
    have h1 := add_any v _ w h
    rw [hS, hSE] at h1
    exact h1
  have s2 : ∀ (v : Value) (w : World), LU w v [c, a, b] → Calls Tryd.prog 9 #[v] w fun e w' => e = .returned (.tuple #[.int .u64 (S : Int), .int .i64 SE]) ∧ w.grownBy w' none := fun v w h => by
    have h1 := add_any v _ w h
    rw [add_turn, hS, hSE] at h1
    exact h1
  have p1 : ∀ (v : Value) (w : World), LU w v [a, b, c] → Calls Tryd.prog 10 #[v] w fun e w' => e = .returned (.tuple #[.int .u64 (P : Int), .int .i64 PE]) ∧ w.grownBy w' none := fun v w h => by
    have h1 := mul_any v _ w h
    rw [hP, hPE] at h1
    exact h1
  have p2 : ∀ (v : Value) (w : World), LU w v [b, c, a] → Calls Tryd.prog 10 #[v] w fun e w' => e = .returned (.tuple #[.int .u64 (P : Int), .int .i64 PE]) ∧ w.grownBy w' none := fun v w h => by
    have h1 := mul_any v _ w h
    rw [mul_turn, hP, hPE] at h1
    exact h1
  clear hS hSE hP hPE b1
  go_enter Tryd.func6, Tryd.ntmps6
  go_wp2_with fail
  go_quiet (fail)
  have gg0 := g_drewM hgA nq
  generalize hW0 : World.drewN _ nq = w0 at gg0 ⊢
  have u1 := LU.new w0 _ rfl 24 [a, b, c] (by simp) m1
  have ga1 := g_alloc gg0 (.cells #[.int .u64 (a : Int), .int .u64 (b : Int), .int .u64 (c : Int)] 24)
  clear hW0 k0 k1 k2 hgA
  go_wp2_with fail
  refine (s1 _ _ u1).mono ?_
  rintro e w1 ⟨rfl, hg1⟩
  have gg1 := g_none ga1 hg1
  clear u1 ga1 hg1
  have u2 := LU.new w1 _ rfl 24 [c, a, b] (by simp) m2
  have ga2 := g_alloc gg1 (.cells #[.int .u64 (c : Int), .int .u64 (a : Int), .int .u64 (b : Int)] 24)
  go_wp2_with fail
  refine (s2 _ _ u2).mono ?_
  rintro e w2 ⟨rfl, hg2⟩
  have gg2 := g_none ga2 hg2
  clear u2 ga2 hg2
  have u3 := LU.new w2 _ rfl 24 [a, b, c] (by simp) m1
  have ga3 := g_alloc gg2 (.cells #[.int .u64 (a : Int), .int .u64 (b : Int), .int .u64 (c : Int)] 24)
  go_wp2_with fail
  refine (p1 _ _ u3).mono ?_
  rintro e w3 ⟨rfl, hg3⟩
  have gg3 := g_none ga3 hg3
  clear u3 ga3 hg3
  have u4 := LU.new w3 _ rfl 24 [b, c, a] (by simp) m3
  have ga4 := g_alloc gg3 (.cells #[.int .u64 (b : Int), .int .u64 (c : Int), .int .u64 (a : Int)] 24)
  go_wp2_with fail
  refine (p2 _ _ u4).mono ?_
  rintro e w4 ⟨rfl, hg4⟩
  have gg4 := g_none ga4 hg4
  clear u4 ga4 hg4
  go_wp2_with fail
  refine (c1 _).mono ?_
  rintro e w5 ⟨rfl, hg5⟩
  have gg5 := g_none gg4 hg5
  clear hg5 gg4
  go_wp2_with fail
  refine (c2 _).mono ?_
  rintro e w6 ⟨rfl, hg6⟩
  have gg6 := g_none gg5 hg6
  clear hg6 gg5
  go_wp2_with fail
  refine (c3 _).mono ?_
  rintro e w7 ⟨rfl, hg7⟩
  have gg7 := g_none gg6 hg7
  clear hg7 gg6
  have hw := works_true w7 (hT.keptN gg7)
  go_wp2_with (go_at_call 13; refine (num_any _ _).mono ?_; rintro e _ ⟨rfl, rfl⟩)
  refine hw.mono ?_
  rintro e w8 ⟨rfl, hg8⟩
  go_wp2_with fail
  go_ret
  exact ⟨rfl, g_none gg7 hg8⟩

set_option maxRecDepth 100000 in
set_option maxHeartbeats 4000000 in
theorem holds_over (a b c s : Nat) (ha : a < 18446744073709551616) (hb : b < 18446744073709551616) (hc : c < 18446744073709551616) (hs2 : s < 18446744073709551616) (S P : Nat) (SE PE : Int) (hS : valO (addO [a, b, c]) = S) (hSE : errO (addO [a, b, c]) = SE) (hP : valO (mulO [a, b, c]) = P) (hPE : errO (mulO [a, b, c]) = PE) (D M : Nat) (h : D < a) (h1 : a < D + s) (h2 : D % s = 0) (c1 : ∀ w : World, Calls Tryd.prog 14 #[.int .u64 (a : Int), .int .u64 (s : Int)] w fun e w' => e = .returned (.tuple #[.int .u64 0, .int .i64 120]) ∧ w.grownBy w' none) (c2 : ∀ w : World, Calls Tryd.prog 15 #[.int .u64 (a : Int), .int .u64 (s : Int)] w fun e w' => e = .returned (.tuple #[.int .u64 (D : Int), .int .i64 0]) ∧ w.grownBy w' none) (c3 : ∀ w : World, Calls Tryd.prog 16 #[.int .u64 (a : Int), .int .u64 (s : Int)] w fun e w' => e = .returned (.tuple #[.int .u64 (M : Int), .int .i64 0]) ∧ w.grownBy w' none) (w : World) (hT : Tab w) : Calls Tryd.prog 6 #[.agg #[.int .u64 (a : Int), .int .u64 (b : Int), .int .u64 (c : Int)], .int .u64 (s : Int)] w fun e w' => e = .returned (.bool true) ∧ w.grownBy w' none := by
  have hz : (((s : Int)) == 0) = false := by simp; omega
  have hz1 : ¬ ((s : Int) = 0) := by omega
  have q1 : ¬ ((a : Int) < (D : Int)) := by omega
  have q2 : ¬ ((s : Int) ≤ (a : Int) - (D : Int)) := by omega
  have q3 : (D : Int) % (s : Int) = 0 := nmod D s h2
  have q4 : (((D : Int)) != (a : Int)) = true := by simp; omega
  have q5 : (0 : Int) ≤ (a : Int) - (D : Int) := by omega
  have q6 : (a : Int) - (D : Int) < 18446744073709551616 := by omega
  clear h h1 h2
  have hgA := g_alloc (g_refl w none) (.cells #[.int .u64 (a : Int), .int .u64 (b : Int), .int .u64 (c : Int)] 40)
  have b1 := Blk.new w [.int .u64 (a : Int), .int .u64 (b : Int), .int .u64 (c : Int)] 40
  have k0 := b1.cellOf (i := 0) rfl
  have k1 := b1.cellOf (i := 1) rfl
  have k2 := b1.cellOf (i := 2) rfl
  have m1 := mem_three ha hb hc
  have m2 := mem_three hc ha hb
  have m3 := mem_three hb hc ha
  have s1 : ∀ (v : Value) (w : World), LU w v [a, b, c] → Calls Tryd.prog 9 #[v] w fun e w' => e = .returned (.tuple #[.int .u64 (S : Int), .int .i64 SE]) ∧ w.grownBy w' none := fun v w h => by
    have h1 := add_any v _ w h
    rw [hS, hSE] at h1
    exact h1
  have s2 : ∀ (v : Value) (w : World), LU w v [c, a, b] → Calls Tryd.prog 9 #[v] w fun e w' => e = .returned (.tuple #[.int .u64 (S : Int), .int .i64 SE]) ∧ w.grownBy w' none := fun v w h => by
    have h1 := add_any v _ w h
    rw [add_turn, hS, hSE] at h1
    exact h1
  have p1 : ∀ (v : Value) (w : World), LU w v [a, b, c] → Calls Tryd.prog 10 #[v] w fun e w' => e = .returned (.tuple #[.int .u64 (P : Int), .int .i64 PE]) ∧ w.grownBy w' none := fun v w h => by
    have h1 := mul_any v _ w h
    rw [hP, hPE] at h1
    exact h1
  have p2 : ∀ (v : Value) (w : World), LU w v [b, c, a] → Calls Tryd.prog 10 #[v] w fun e w' => e = .returned (.tuple #[.int .u64 (P : Int), .int .i64 PE]) ∧ w.grownBy w' none := fun v w h => by
    have h1 := mul_any v _ w h
    rw [mul_turn, hP, hPE] at h1
    exact h1
  clear hS hSE hP hPE b1
  go_enter Tryd.func6, Tryd.ntmps6
  go_wp2_with fail
  go_quiet (fail)
  have gg0 := g_drewM hgA nq
  generalize hW0 : World.drewN _ nq = w0 at gg0 ⊢
  have u1 := LU.new w0 _ rfl 24 [a, b, c] (by simp) m1
  have ga1 := g_alloc gg0 (.cells #[.int .u64 (a : Int), .int .u64 (b : Int), .int .u64 (c : Int)] 24)
  clear hW0 k0 k1 k2 hgA
  go_wp2_with fail
  refine (s1 _ _ u1).mono ?_
  rintro e w1 ⟨rfl, hg1⟩
  have gg1 := g_none ga1 hg1
  clear u1 ga1 hg1
  have u2 := LU.new w1 _ rfl 24 [c, a, b] (by simp) m2
  have ga2 := g_alloc gg1 (.cells #[.int .u64 (c : Int), .int .u64 (a : Int), .int .u64 (b : Int)] 24)
  go_wp2_with fail
  refine (s2 _ _ u2).mono ?_
  rintro e w2 ⟨rfl, hg2⟩
  have gg2 := g_none ga2 hg2
  clear u2 ga2 hg2
  have u3 := LU.new w2 _ rfl 24 [a, b, c] (by simp) m1
  have ga3 := g_alloc gg2 (.cells #[.int .u64 (a : Int), .int .u64 (b : Int), .int .u64 (c : Int)] 24)
  go_wp2_with fail
  refine (p1 _ _ u3).mono ?_
  rintro e w3 ⟨rfl, hg3⟩
  have gg3 := g_none ga3 hg3
  clear u3 ga3 hg3
  have u4 := LU.new w3 _ rfl 24 [b, c, a] (by simp) m3
  have ga4 := g_alloc gg3 (.cells #[.int .u64 (b : Int), .int .u64 (c : Int), .int .u64 (a : Int)] 24)
  go_wp2_with fail
  refine (p2 _ _ u4).mono ?_
  rintro e w4 ⟨rfl, hg4⟩
  have gg4 := g_none ga4 hg4
  clear u4 ga4 hg4
  go_wp2_with fail
  refine (c1 _).mono ?_
  rintro e w5 ⟨rfl, hg5⟩
  have gg5 := g_none gg4 hg5
  clear hg5 gg4
  go_wp2_with fail
  refine (c2 _).mono ?_
  rintro e w6 ⟨rfl, hg6⟩
  have gg6 := g_none gg5 hg6
  clear hg6 gg5
  go_wp2_with fail
  refine (c3 _).mono ?_
  rintro e w7 ⟨rfl, hg7⟩
  have gg7 := g_none gg6 hg7
  clear hg7 gg6
  have hw := works_true w7 (hT.keptN gg7)
  go_wp2_with (go_at_call 13; refine (num_any _ _).mono ?_; rintro e _ ⟨rfl, rfl⟩)
  refine hw.mono ?_
  rintro e w8 ⟨rfl, hg8⟩
  go_wp2_with fail
  go_ret
  exact ⟨rfl, g_none gg7 hg8⟩

set_option maxRecDepth 100000 in
set_option maxHeartbeats 4000000 in
theorem holds_up (a b c s : Nat) (ha : a < 18446744073709551616) (hb : b < 18446744073709551616) (hc : c < 18446744073709551616) (hs2 : s < 18446744073709551616) (S P : Nat) (SE PE : Int) (hS : valO (addO [a, b, c]) = S) (hSE : errO (addO [a, b, c]) = SE) (hP : valO (mulO [a, b, c]) = P) (hPE : errO (mulO [a, b, c]) = PE) (D U : Int) (Un M : Nat) (hUn : (Un : Int) = U) (hU : U = D + s) (hD0 : 0 ≤ D) (h : D < a) (h1 : (a : Int) < D + s) (q3 : D % (s : Int) = 0) (h3 : D + s < 18446744073709551616) (hM : M < 18446744073709551616) (hmu : mulO [M, s] = some Un) (c1 : ∀ w : World, Calls Tryd.prog 14 #[.int .u64 (a : Int), .int .u64 (s : Int)] w fun e w' => e = .returned (.tuple #[.int .u64 U, .int .i64 0]) ∧ w.grownBy w' none) (c2 : ∀ w : World, Calls Tryd.prog 15 #[.int .u64 (a : Int), .int .u64 (s : Int)] w fun e w' => e = .returned (.tuple #[.int .u64 D, .int .i64 0]) ∧ w.grownBy w' none) (c3 : ∀ w : World, Calls Tryd.prog 16 #[.int .u64 (a : Int), .int .u64 (s : Int)] w fun e w' => e = .returned (.tuple #[.int .u64 (M : Int), .int .i64 0]) ∧ w.grownBy w' none) (w : World) (hT : Tab w) : Calls Tryd.prog 6 #[.agg #[.int .u64 (a : Int), .int .u64 (b : Int), .int .u64 (c : Int)], .int .u64 (s : Int)] w fun e w' => e = .returned (.bool true) ∧ w.grownBy w' none := by
  have hz : (((s : Int)) == 0) = false := by simp; omega
  have hz1 : ¬ ((s : Int) = 0) := by omega
  have q1 : ¬ ((a : Int) < D) := by omega
  have q2 : ¬ ((s : Int) ≤ (a : Int) - D) := by omega
  have q4 : (D == (a : Int)) = false := by simp; omega
  have q5 : (0 : Int) ≤ (a : Int) - D := by omega
  have q6 : (a : Int) - D < 18446744073709551616 := by omega
  have r1 : (a : Int) ≤ U := by omega
  have r2 : U - (a : Int) < (s : Int) := by omega
  have r3 : (U == D) = false := by simp; omega
  have r4 : U < 18446744073709551616 := by omega
  have hq2 : ∀ (v : Value) (w : World), LU w v [M, s] → Calls Tryd.prog 10 #[v] w fun e w' => e = .returned (.tuple #[.int .u64 U, .int .i64 0]) ∧ w.grownBy w' none := fun v w h => by
    have h1 := mul_any v _ w h
    rw [hmu, show valO (some Un) = Un from rfl, hUn] at h1
    exact h1
  have mm := mem_two hM hs2
  clear hmu
  clear h h1 h3 hU hUn
  have hgA := g_alloc (g_refl w none) (.cells #[.int .u64 (a : Int), .int .u64 (b : Int), .int .u64 (c : Int)] 40)
  have b1 := Blk.new w [.int .u64 (a : Int), .int .u64 (b : Int), .int .u64 (c : Int)] 40
  have k0 := b1.cellOf (i := 0) rfl
  have k1 := b1.cellOf (i := 1) rfl
  have k2 := b1.cellOf (i := 2) rfl
  have m1 := mem_three ha hb hc
  have m2 := mem_three hc ha hb
  have m3 := mem_three hb hc ha
  have s1 : ∀ (v : Value) (w : World), LU w v [a, b, c] → Calls Tryd.prog 9 #[v] w fun e w' => e = .returned (.tuple #[.int .u64 (S : Int), .int .i64 SE]) ∧ w.grownBy w' none := fun v w h => by
    have h1 := add_any v _ w h
    rw [hS, hSE] at h1
    exact h1
  have s2 : ∀ (v : Value) (w : World), LU w v [c, a, b] → Calls Tryd.prog 9 #[v] w fun e w' => e = .returned (.tuple #[.int .u64 (S : Int), .int .i64 SE]) ∧ w.grownBy w' none := fun v w h => by
    have h1 := add_any v _ w h
    rw [add_turn, hS, hSE] at h1
    exact h1
  have p1 : ∀ (v : Value) (w : World), LU w v [a, b, c] → Calls Tryd.prog 10 #[v] w fun e w' => e = .returned (.tuple #[.int .u64 (P : Int), .int .i64 PE]) ∧ w.grownBy w' none := fun v w h => by
    have h1 := mul_any v _ w h
    rw [hP, hPE] at h1
    exact h1
  have p2 : ∀ (v : Value) (w : World), LU w v [b, c, a] → Calls Tryd.prog 10 #[v] w fun e w' => e = .returned (.tuple #[.int .u64 (P : Int), .int .i64 PE]) ∧ w.grownBy w' none := fun v w h => by
    have h1 := mul_any v _ w h
    rw [mul_turn, hP, hPE] at h1
    exact h1
  clear hS hSE hP hPE b1
  go_enter Tryd.func6, Tryd.ntmps6
  go_wp2_with fail
  go_quiet (fail)
  have gg0 := g_drewM hgA nq
  generalize hW0 : World.drewN _ nq = w0 at gg0 ⊢
  have u1 := LU.new w0 _ rfl 24 [a, b, c] (by simp) m1
  have ga1 := g_alloc gg0 (.cells #[.int .u64 (a : Int), .int .u64 (b : Int), .int .u64 (c : Int)] 24)
  clear hW0 k0 k1 k2 hgA
  go_wp2_with fail
  refine (s1 _ _ u1).mono ?_
  rintro e w1 ⟨rfl, hg1⟩
  have gg1 := g_none ga1 hg1
  clear u1 ga1 hg1
  have u2 := LU.new w1 _ rfl 24 [c, a, b] (by simp) m2
  have ga2 := g_alloc gg1 (.cells #[.int .u64 (c : Int), .int .u64 (a : Int), .int .u64 (b : Int)] 24)
  go_wp2_with fail
  refine (s2 _ _ u2).mono ?_
  rintro e w2 ⟨rfl, hg2⟩
  have gg2 := g_none ga2 hg2
  clear u2 ga2 hg2
  have u3 := LU.new w2 _ rfl 24 [a, b, c] (by simp) m1
  have ga3 := g_alloc gg2 (.cells #[.int .u64 (a : Int), .int .u64 (b : Int), .int .u64 (c : Int)] 24)
  go_wp2_with fail
  refine (p1 _ _ u3).mono ?_
  rintro e w3 ⟨rfl, hg3⟩
  have gg3 := g_none ga3 hg3
  clear u3 ga3 hg3
  have u4 := LU.new w3 _ rfl 24 [b, c, a] (by simp) m3
  have ga4 := g_alloc gg3 (.cells #[.int .u64 (b : Int), .int .u64 (c : Int), .int .u64 (a : Int)] 24)
  go_wp2_with fail
  refine (p2 _ _ u4).mono ?_
  rintro e w4 ⟨rfl, hg4⟩
  have gg4 := g_none ga4 hg4
  clear u4 ga4 hg4
  go_wp2_with fail
  refine (c1 _).mono ?_
  rintro e w5 ⟨rfl, hg5⟩
  have gg5 := g_none gg4 hg5
  clear hg5 gg4
  go_wp2_with fail
  refine (c2 _).mono ?_
  rintro e w6 ⟨rfl, hg6⟩
  have gg6 := g_none gg5 hg6
  clear hg6 gg5
  go_wp2_with fail
  refine (c3 _).mono ?_
  rintro e w7 ⟨rfl, hg7⟩
  have gg7 := g_none gg6 hg7
  clear hg7 gg6
  have hw := works_true w7 (hT.keptN gg7)
  have u8 := LU.new w7 _ rfl 24 [M, s] (by simp) mm
  have ga8 := g_alloc gg7 (.cells #[.int .u64 (M : Int), .int .u64 (s : Int)] 24)
  clear hw
  go_wp2_with (go_at_call 13; refine (num_any _ _).mono ?_; rintro e _ ⟨rfl, rfl⟩)
  refine (hq2 _ _ u8).mono ?_
  rintro e w8 ⟨rfl, hg8⟩
  have gg8 := g_none ga8 hg8
  clear u8 ga8 hg8 gg7
  have hw := works_true w8 (hT.keptN gg8)
  go_wp2_with (go_at_call 13; refine (num_any _ _).mono ?_; rintro e _ ⟨rfl, rfl⟩)
  refine hw.mono ?_
  rintro e w9 ⟨rfl, hg9⟩
  go_wp2_with fail
  go_ret
  exact ⟨rfl, g_none gg8 hg9⟩

set_option maxRecDepth 100000 in
set_option maxHeartbeats 4000000 in
theorem holds_same (a b c s : Nat) (ha : a < 18446744073709551616) (hb : b < 18446744073709551616) (hc : c < 18446744073709551616) (hs2 : s < 18446744073709551616) (S P : Nat) (SE PE : Int) (hS : valO (addO [a, b, c]) = S) (hSE : errO (addO [a, b, c]) = SE) (hP : valO (mulO [a, b, c]) = P) (hPE : errO (mulO [a, b, c]) = PE) (M : Nat) (hs : 1 ≤ s) (h2 : a % s = 0) (hM : M < 18446744073709551616) (hmu : mulO [M, s] = some a) (c1 : ∀ w : World, Calls Tryd.prog 14 #[.int .u64 (a : Int), .int .u64 (s : Int)] w fun e w' => e = .returned (.tuple #[.int .u64 (a : Int), .int .i64 0]) ∧ w.grownBy w' none) (c2 : ∀ w : World, Calls Tryd.prog 15 #[.int .u64 (a : Int), .int .u64 (s : Int)] w fun e w' => e = .returned (.tuple #[.int .u64 (a : Int), .int .i64 0]) ∧ w.grownBy w' none) (c3 : ∀ w : World, Calls Tryd.prog 16 #[.int .u64 (a : Int), .int .u64 (s : Int)] w fun e w' => e = .returned (.tuple #[.int .u64 (M : Int), .int .i64 0]) ∧ w.grownBy w' none) (w : World) (hT : Tab w) : Calls Tryd.prog 6 #[.agg #[.int .u64 (a : Int), .int .u64 (b : Int), .int .u64 (c : Int)], .int .u64 (s : Int)] w fun e w' => e = .returned (.bool true) ∧ w.grownBy w' none := by
  have hz : (((s : Int)) == 0) = false := by simp; omega
  have hz1 : ¬ ((s : Int) = 0) := by omega
  have q3 : (a : Int) % (s : Int) = 0 := nmod a s h2
  have q7 : ¬ ((s : Int) ≤ 0) := by omega
  have q8 : (0 : Int) < (s : Int) := by omega
  have hq2 : ∀ (v : Value) (w : World), LU w v [M, s] → Calls Tryd.prog 10 #[v] w fun e w' => e = .returned (.tuple #[.int .u64 (a : Int), .int .i64 0]) ∧ w.grownBy w' none := fun v w h => by
    have h1 := mul_any v _ w h
    rw [hmu] at h1
    exact h1
  have mm := mem_two hM hs2
  clear hmu
  clear h2 hs
  have hgA := g_alloc (g_refl w none) (.cells #[.int .u64 (a : Int), .int .u64 (b : Int), .int .u64 (c : Int)] 40)
  have b1 := Blk.new w [.int .u64 (a : Int), .int .u64 (b : Int), .int .u64 (c : Int)] 40
  have k0 := b1.cellOf (i := 0) rfl
  have k1 := b1.cellOf (i := 1) rfl
  have k2 := b1.cellOf (i := 2) rfl
  have m1 := mem_three ha hb hc
  have m2 := mem_three hc ha hb
  have m3 := mem_three hb hc ha
  have s1 : ∀ (v : Value) (w : World), LU w v [a, b, c] → Calls Tryd.prog 9 #[v] w fun e w' => e = .returned (.tuple #[.int .u64 (S : Int), .int .i64 SE]) ∧ w.grownBy w' none := fun v w h => by
    have h1 := add_any v _ w h
    rw [hS, hSE] at h1
    exact h1
  have s2 : ∀ (v : Value) (w : World), LU w v [c, a, b] → Calls Tryd.prog 9 #[v] w fun e w' => e = .returned (.tuple #[.int .u64 (S : Int), .int .i64 SE]) ∧ w.grownBy w' none := fun v w h => by
    have h1 := add_any v _ w h
    rw [add_turn, hS, hSE] at h1
    exact h1
  have p1 : ∀ (v : Value) (w : World), LU w v [a, b, c] → Calls Tryd.prog 10 #[v] w fun e w' => e = .returned (.tuple #[.int .u64 (P : Int), .int .i64 PE]) ∧ w.grownBy w' none := fun v w h => by
    have h1 := mul_any v _ w h
    rw [hP, hPE] at h1
    exact h1
  have p2 : ∀ (v : Value) (w : World), LU w v [b, c, a] → Calls Tryd.prog 10 #[v] w fun e w' => e = .returned (.tuple #[.int .u64 (P : Int), .int .i64 PE]) ∧ w.grownBy w' none := fun v w h => by
    have h1 := mul_any v _ w h
    rw [mul_turn, hP, hPE] at h1
    exact h1
  clear hS hSE hP hPE b1
  go_enter Tryd.func6, Tryd.ntmps6
  go_wp2_with fail
  go_quiet (fail)
  have gg0 := g_drewM hgA nq
  generalize hW0 : World.drewN _ nq = w0 at gg0 ⊢
  have u1 := LU.new w0 _ rfl 24 [a, b, c] (by simp) m1
  have ga1 := g_alloc gg0 (.cells #[.int .u64 (a : Int), .int .u64 (b : Int), .int .u64 (c : Int)] 24)
  clear hW0 k0 k1 k2 hgA
  go_wp2_with fail
  refine (s1 _ _ u1).mono ?_
  rintro e w1 ⟨rfl, hg1⟩
  have gg1 := g_none ga1 hg1
  clear u1 ga1 hg1
  have u2 := LU.new w1 _ rfl 24 [c, a, b] (by simp) m2
  have ga2 := g_alloc gg1 (.cells #[.int .u64 (c : Int), .int .u64 (a : Int), .int .u64 (b : Int)] 24)
  go_wp2_with fail
  refine (s2 _ _ u2).mono ?_
  rintro e w2 ⟨rfl, hg2⟩
  have gg2 := g_none ga2 hg2
  clear u2 ga2 hg2
  have u3 := LU.new w2 _ rfl 24 [a, b, c] (by simp) m1
  have ga3 := g_alloc gg2 (.cells #[.int .u64 (a : Int), .int .u64 (b : Int), .int .u64 (c : Int)] 24)
  go_wp2_with fail
  refine (p1 _ _ u3).mono ?_
  rintro e w3 ⟨rfl, hg3⟩
  have gg3 := g_none ga3 hg3
  clear u3 ga3 hg3
  have u4 := LU.new w3 _ rfl 24 [b, c, a] (by simp) m3
  have ga4 := g_alloc gg3 (.cells #[.int .u64 (b : Int), .int .u64 (c : Int), .int .u64 (a : Int)] 24)
  go_wp2_with fail
  refine (p2 _ _ u4).mono ?_
  rintro e w4 ⟨rfl, hg4⟩
  have gg4 := g_none ga4 hg4
  clear u4 ga4 hg4
  go_wp2_with fail
  refine (c1 _).mono ?_
  rintro e w5 ⟨rfl, hg5⟩
  have gg5 := g_none gg4 hg5
  clear hg5 gg4
  go_wp2_with fail
  refine (c2 _).mono ?_
  rintro e w6 ⟨rfl, hg6⟩
  have gg6 := g_none gg5 hg6
  clear hg6 gg5
  go_wp2_with fail
  refine (c3 _).mono ?_
  rintro e w7 ⟨rfl, hg7⟩
  have gg7 := g_none gg6 hg7
  clear hg7 gg6
  have hw := works_true w7 (hT.keptN gg7)
  have u8 := LU.new w7 _ rfl 24 [M, s] (by simp) mm
  have ga8 := g_alloc gg7 (.cells #[.int .u64 (M : Int), .int .u64 (s : Int)] 24)
  clear hw
  go_wp2_with (go_at_call 13; refine (num_any _ _).mono ?_; rintro e _ ⟨rfl, rfl⟩)
  refine (hq2 _ _ u8).mono ?_
  rintro e w8 ⟨rfl, hg8⟩
  have gg8 := g_none ga8 hg8
  clear u8 ga8 hg8 gg7
  have hw := works_true w8 (hT.keptN gg8)
  go_wp2_with (go_at_call 13; refine (num_any _ _).mono ?_; rintro e _ ⟨rfl, rfl⟩)
  refine hw.mono ?_
  rintro e w9 ⟨rfl, hg9⟩
  go_wp2_with fail
  go_ret
  exact ⟨rfl, g_none gg8 hg9⟩

end Go.Proofs.YtgdnafafojiabaaDoor
