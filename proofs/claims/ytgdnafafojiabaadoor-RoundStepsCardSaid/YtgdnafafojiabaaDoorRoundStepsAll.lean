/-
  RoundSteps at whatever arguments.
-/
import Derived.Test.YtgdnafafojiabaaDoorRoundSteps
namespace Go.Proofs.YtgdnafafojiabaaDoor
open Go.RowKit

/-- How far the law has come: how many, whether there is more, from where. -/
def At (f u s m n i : Nat) (more : Bool) (x : Nat) : Prop :=
  i ≤ n ∧ x < 18446744073709551616 ∧ ((more = true ∧ x = f + i * s ∧ x < u ∧ (i < m → i < n)) ∨ (more = false ∧ i = n) ∨ (more = true ∧ i = n ∧ u ≤ x))
theorem At.start {f u s m n : Nat} (hf : f < 18446744073709551616) (h : Cnt f u s m n) : At f u s m n 0 (decide (0 < s)) f := by
  obtain ⟨h1, (⟨rfl, rfl⟩ | ⟨h2, h3, h4⟩)⟩ := h
  · exact ⟨Nat.le_refl _, hf, .inr (.inl ⟨rfl, rfl⟩)⟩
  · have hd : decide (0 < s) = true := by simp; omega
    rw [hd]
    by_cases hfu : f < u
    · refine ⟨by omega, hf, .inl ⟨rfl, by omega, hfu, fun h0 => ?_⟩⟩
      rcases h4 with h4 | h4
      · omega
      · rcases Nat.eq_zero_or_pos n with h5 | h5
        · subst h5; omega
        · exact h5
    · have hn : n = 0 := by
        rcases Nat.eq_zero_or_pos n with h5 | h5
        · exact h5
        · have := h3 0 h5; omega
      subst hn
      exact ⟨Nat.le_refl _, hf, .inr (.inr ⟨rfl, rfl, by omega⟩)⟩
theorem At.next {f u s m n i x : Nat} (hu : u < 18446744073709551616) (h : Cnt f u s m n) (hi : i < n) (hx : x = f + i * s) (hxu : x < u) : At f u s m n (i + 1) (decide (s < u - x)) (x + min s (u - x)) := by
  obtain ⟨h1, (⟨rfl, rfl⟩ | ⟨h2, h3, h4⟩)⟩ := h
  · omega
  · have e : f + (i + 1) * s = x + s := by rw [Nat.add_mul]; omega
    by_cases hm : s < u - x
    · have hd : decide (s < u - x) = true := by simpa using hm
      rw [hd]
      have hmin : min s (u - x) = s := by omega
      rw [hmin]
      refine ⟨by omega, by omega, .inl ⟨rfl, e.symm, by omega, fun hlt => ?_⟩⟩
      rcases h4 with h4 | h4
      · omega
      · rcases Nat.lt_or_ge (i + 1) n with h5 | h5
        · exact h5
        · have h6 : n = i + 1 := by omega
          rw [h6, e] at h4
          omega
    · have hd : decide (s < u - x) = false := by simpa using hm
      rw [hd]
      refine ⟨by omega, by omega, .inr (.inl ⟨rfl, ?_⟩)⟩
      rcases Nat.lt_or_ge (i + 1) n with h5 | h5
      · have := h3 (i + 1) h5
        rw [e] at this
        omega
      · omega

set_option maxRecDepth 100000 in
theorem steps_else (f u s : Nat) (m : Int) (h : m < 1 ∨ 300 < m) (w : World) (hT : Tab w) : Calls Tryd.prog 7 #[.int .u64 (f : Int), .agg #[.int .u64 (u : Int), .int .u64 (s : Int)], .int .i64 m] w fun e w' => e = .returned (.bool true) ∧ w.grownBy w' none := by
  have b1 := Blk.new w [.int .u64 (u : Int), .int .u64 (s : Int)] 42
  have k0 := b1.cellOf (i := 0) rfl
  have k1 := b1.cellOf (i := 1) rfl
  have hgA := g_alloc (g_refl w none) (.cells #[.int .u64 (u : Int), .int .u64 (s : Int)] 42)
  by_cases h1 : m < 1
  all_goals
    try have h2 : 300 < m := h.resolve_left h1
    clear h
    go_enter Tryd.func7, Tryd.ntmps7
    go_wp2_with fail
    go_quiet (fail)
    have gg0 := g_drewM hgA nq
    have hw := works_true _ (hT.keptN gg0)
    go_wp2_with fail
    refine hw.mono ?_
    rintro e w1 ⟨rfl, hg⟩
    go_wp2
    go_ret
    exact ⟨rfl, g_none gg0 hg⟩

set_option maxRecDepth 100000 in
set_option maxHeartbeats 4000000 in
theorem steps_walk (f u s m : Nat) (hf : f < 18446744073709551616) (hu : u < 18446744073709551616) (hs2 : s < 18446744073709551616) (hm0 : 1 ≤ m) (hm : m ≤ 300) (w : World) (hT : Tab w) :
    Calls Tryd.prog 7 #[.int .u64 (f : Int), .agg #[.int .u64 (u : Int), .int .u64 (s : Int)], .int .i64 m] w fun e w' => e = .returned (.bool true) ∧ w.grownBy w' none := by
  have b1 := Blk.new w [.int .u64 (u : Int), .int .u64 (s : Int)] 42
  have k0 := b1.cellOf (i := 0) rfl
  have k1 := b1.cellOf (i := 1) rfl
  have hgA := g_alloc (g_refl w none) (.cells #[.int .u64 (u : Int), .int .u64 (s : Int)] 42)
  have q1 : ¬ ((m : Int) < 1) := by omega
  have q2 : ¬ (300 < (m : Int)) := by omega
  have hst := stepsL_any f u s m hf hu hs2 hm0 hm
  have hd0 : decide ((0 : Int) < (s : Int)) = decide (0 < s) := by
    rw [Bool.eq_iff_iff]; simp
  go_enter Tryd.func7, Tryd.ntmps7
  go_wp2_with fail
  go_quiet (fail)
  have gg0 := g_drewM hgA nq
  go_wp2_with fail
  refine (hst _).mono ?_
  rintro e w1 ⟨v, n, rfl, hcnt, hLU, hg1⟩
  have gg1 := g_none gg0 hg1
  have hAt := At.start hf hcnt
  obtain ⟨a, cap, rfl, hl, hcp, hcm⟩ := hLU.len
  rw [seqL_length] at *
  have hnm : n ≤ m := hcnt.1
  have HA := hid hAt
  have HC := hid hcnt
  clear hAt hcnt hst k0 k1 b1 hgA hg1 gg0
  go_wp2_with fail
  go_loopw [10, 11, 12] (fun x mo v wr => ∃ (i y : Nat) (more : Bool), i ≤ m ∧ v = .int .i64 i ∧ x = .int .u64 (y : Int) ∧ mo = .bool more ∧ Hid (At f u s m n i more y) ∧ w1 = wr) (fun _ _ v _ => m - (intOf v).toNat)
  case atStart => exact ⟨0, f, _, by omega, rfl, rfl, rfl, HA, rfl⟩
  case round =>
    obtain ⟨i, y, more, him, rfl, rfl, rfl, hat, rfl⟩ := hrel
    have hw := works_true w1 (hT.keptN gg1)
    obtain ⟨hin, hyl, hcase⟩ := hat.out
    by_cases hlt : i < m
    · rcases hcase with ⟨rfl, hy, hyu, hi⟩ | ⟨rfl, hi⟩ | ⟨rfl, hi, hyu⟩
      · have hii := hi hlt
        have hq1 : ¬ ((u : Int) ≤ (y : Int)) := by omega
        have hq2 : ¬ ((n : Int) ≤ (i : Int)) := by omega
        obtain ⟨g, off, c2, e2, hd2⟩ := hLU.at (seqL_get (f := f) (s := s) hii)
        rw [← hy] at hd2
        rw [seqL_length] at e2
        cases e2
        have hnx := At.next hu HC.out hii hy hyu
        have hd1 : decide (s < u - y) = decide ((s : Int) < (u : Int) - (y : Int)) := by
          rw [Bool.eq_iff_iff]
          simp only [decide_eq_true_eq]
          omega
        have hb0 : (0 : Int) ≤ (u : Int) - (y : Int) := by omega
        have hb1 : (u : Int) - (y : Int) < 18446744073709551616 := by omega
        rw [hd1] at hnx
        have HN := hid hnx
        clear hnx hd1 hy hyu hi hw hat
        by_cases hm1 : (s : Int) < (u : Int) - (y : Int)
        · have hmin : ((y + min s (u - y) : Nat) : Int) = (y : Int) + (s : Int) := by omega
          have hb2 : (y : Int) + (s : Int) < 18446744073709551616 := by omega
          rw [show decide ((s : Int) < (u : Int) - (y : Int)) = true by simpa using hm1] at HN
          go_wp2_with fail
          all_goals
            go_roundw
            case rel => exact ⟨i + 1, y + min s (u - y), _, by omega, by go_num, by first | (rw [hmin]; done) | (rw [hmin]; congr 1; omega), rfl, HN, trivial⟩
            case measure => simp [intOf]; omega
        · have hmin : ((y + min s (u - y) : Nat) : Int) = (y : Int) + ((u : Int) - (y : Int)) := by omega
          have hb2 : (y : Int) + ((u : Int) - (y : Int)) < 18446744073709551616 := by omega
          rw [show decide ((s : Int) < (u : Int) - (y : Int)) = false by simpa using hm1] at HN
          go_wp2_with fail
          all_goals
            go_roundw
            case rel => exact ⟨i + 1, y + min s (u - y), _, by omega, by go_num, by first | (rw [hmin]; done) | (rw [hmin]; congr 1; omega), rfl, HN, trivial⟩
            case measure => simp [intOf]; omega
      · subst hi
        go_wp2_with fail
        refine hw.mono ?_
        rintro e w2 ⟨rfl, hg2⟩
        go_wp2_with fail
        go_ret
        exact ⟨rfl, g_none gg1 hg2⟩
      · subst hi
        have hq1 : (u : Int) ≤ (y : Int) := by omega
        go_wp2_with fail
        refine hw.mono ?_
        rintro e w2 ⟨rfl, hg2⟩
        go_wp2_with fail
        go_ret
        exact ⟨rfl, g_none gg1 hg2⟩
    · obtain rfl : i = m := by omega
      obtain rfl : n = i := by omega
      clear hcase hat
      go_wp2_with fail
      refine hw.mono ?_
      rintro e w2 ⟨rfl, hg2⟩
      go_wp2_with fail
      go_ret
      exact ⟨rfl, g_none gg1 hg2⟩

theorem steps_law (x : Int) (B : Nat → Int) (m : Int) (w : World) (wx : (Lit.int .u64 x).wf = true) (wB : ∀ (j : Nat) (k : IntKind), [IntKind.u64, IntKind.u64][j]? = some k → (Lit.int k (B j)).wf = true) (_ : (Lit.int .i64 m).wf = true) (hT : Tab w) :
    Calls Tryd.prog 7 #[.int .u64 x, .agg #[.int .u64 (B 0), .int .u64 (B 1)], .int .i64 m] w fun e w' => e = .returned (.bool true) ∧ w.grownBy w' none := by
  obtain ⟨f, rfl, hf⟩ := u64_nat wx
  obtain ⟨u, eu, hu⟩ := u64_nat (wB 0 _ rfl)
  obtain ⟨s, es, hs⟩ := u64_nat (wB 1 _ rfl)
  rw [eu, es]
  by_cases h : m < 1 ∨ 300 < m
  · exact steps_else f u s m h w hT
  · obtain ⟨m, rfl⟩ := Int.eq_ofNat_of_zero_le (a := m) (by omega)
    exact steps_walk f u s m hf hu hs (by omega) (by omega) w hT
end Go.Proofs.YtgdnafafojiabaaDoor
