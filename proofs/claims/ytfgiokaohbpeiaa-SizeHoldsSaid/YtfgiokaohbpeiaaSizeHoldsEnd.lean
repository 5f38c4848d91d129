/-
  SizeHolds at whatever arguments.
-/
import Derived.Test.YtfgiokaohbpeiaaSizeHolds
namespace Go.Proofs.Ytfgiokaohbpeiaa
open Go.RowKit

theorem holds_law (a b m : Int) (w : World) (wa : (Lit.int .u64 a).wf = true) (wb : (Lit.int .u64 b).wf = true) (wm : (Lit.int .u64 m).wf = true) : Calls Try.prog 7 #[.int .u64 a, .int .u64 b, .int .u64 m] w fun e w' => e = .returned (.bool true) ∧ w.grownBy w' none := by
  obtain ⟨a, rfl, ha⟩ := u64_nat wa
  obtain ⟨b, rfl, hb⟩ := u64_nat wb
  obtain ⟨m, rfl, hm⟩ := u64_nat wm
  have H1 := hid fun w => of_any a m ha hm w
  have H2 := hid fun w => of_any b m hb hm w
  unfold ndV at H1 H2
  cases hok : okB a m with
  | false =>
    rw [show ndS a m = false by simp [ndS, hok], show ndC a m = 0 by simp [ndC, ndS, hok], show ndP a m = 0 by simp [ndP, hok], show ndH a m = 0 by simp [ndH, hok], show ndE a m = 2 by simp [ndE, hok]] at H1
    exact holds_err a b m ha hb hm _ _ _ _ _ H1 H2 w
  | true =>
    have hfin : ndE b m = 2 ∨ (ndE b m = 0 ∧ b < a) ∨ (ndE b m = 0 ∧ a ≤ b ∧ ndH a m ≤ ndH b m) := by
      cases hb' : okB b m with
      | false => exact .inl (by simp [ndE, hb'])
      | true =>
        have he : ndE b m = 0 := by simp [ndE, hb']
        rcases Nat.lt_or_ge b a with h | h
        · exact .inr (.inl ⟨he, h⟩)
        · exact .inr (.inr ⟨he, h, charge_mono a b m h hok hb'⟩)
    cases hs : smB a m with
    | true =>
      obtain ⟨hm16, k, hk, hck, hle, hpos⟩ := small_at a m hs
      have hG : ndH a m = pay k := by
        have : (k : Int).toNat = k := by simp
        simp [ndH, hok, hs, hck]
      rw [show ndS a m = true by simp [ndS, hok, hs], show ndC a m = (k : Int) by simp [ndC, ndS, hok, hs, hck], show ndP a m = 0 by simp [ndP, hok, hs], hG, show ndE a m = 0 by simp [ndE, hok]] at H1
      rw [hG] at hfin
      cases k with
      | zero =>
        rcases hfin with h | ⟨h, h'⟩ | ⟨h, h', h''⟩
        · exact holds_small0_1 a b m ha hb hm hm16 (pay 0) rfl hle _ _ _ _ _ H1 H2 h w
        · exact holds_small0_2 a b m ha hb hm hm16 (pay 0) rfl hle _ _ _ _ _ H1 H2 h h' w
        · exact holds_small0_3 a b m ha hb hm hm16 (pay 0) rfl hle _ _ _ _ _ H1 H2 h h' h'' w
      | succ k =>
        obtain ⟨h1, h2⟩ := hpos (by omega)
        have e1 : ((k + 1 : Nat) : Int) - 1 = (k : Int) := by omega
        have H3 := hid fun w => payload_ok (k + 1) hk w
        have H4 : Hid (∀ w, Calls Try.prog 9 #[.int .i64 (((k + 1 : Nat) : Int) - 1)] w fun e w' => e = .returned (.tuple #[.int .i64 (pay k), .int .i64 0]) ∧ w.grownBy w' none) := by
          rw [e1]
          exact hid fun w => payload_ok k (by omega) w
        have hC : 1 ≤ ((k + 1 : Nat) : Int) ∧ ((k + 1 : Nat) : Int) ≤ 7 := by omega
        rcases hfin with h | ⟨h, h'⟩ | ⟨h, h', h''⟩
        · exact holds_smallS_1 a b m ha hb hm hm16 (pay (k + 1)) (pay_bounds _ hk) hle _ (pay k) hC (pay_bounds _ (by omega)) h2 h1 _ _ _ _ _ H1 H2 H3 H4 h w
        · exact holds_smallS_2 a b m ha hb hm hm16 (pay (k + 1)) (pay_bounds _ hk) hle _ (pay k) hC (pay_bounds _ (by omega)) h2 h1 _ _ _ _ _ H1 H2 H3 H4 h h' w
        · exact holds_smallS_3 a b m ha hb hm hm16 (pay (k + 1)) (pay_bounds _ hk) hle _ (pay k) hC (pay_bounds _ (by omega)) h2 h1 _ _ _ _ _ H1 H2 H3 H4 h h' h'' w
    | false =>
      have na := nn_at a
      have hma := many_at (nn a) (by omega)
      have hmb := manyV_bounds (n := (nn a : Int)) (by omega) (by have : a ≤ 262144 := by { have h := hok; simp [okB] at h; exact h.1 }; omega)
      have hP : ndP a m = manyV (nn a) 256 := by simp [ndP, hok, hs]
      have hG : ndH a m = 256 * manyV (nn a) 256 := by simp [ndH, hok, hs, Int.mul_comm]
      rw [show ndS a m = false by simp [ndS, hok, hs], show ndC a m = 0 by simp [ndC, ndS, hok, hs], hP, hG, show ndE a m = 0 by simp [ndE, hok]] at H1
      rw [hG] at hfin
      obtain ⟨P, hPe⟩ : ∃ P, P = manyV (nn a) 256 := ⟨_, rfl⟩
      rw [← hPe] at H1 hfin hma hmb
      by_cases h1 : P = 1
      · subst h1
        rw [show (256 : Int) * 1 = 256 by rfl] at H1 hfin
        rcases hfin with h | ⟨h, h'⟩ | ⟨h, h', h''⟩
        · exact holds_large_1a a b m ha hb hm (by omega) _ _ _ _ _ H1 H2 h w
        · exact holds_large_2a a b m ha hb hm (by omega) _ _ _ _ _ H1 H2 h h' w
        · exact holds_large_3a a b m ha hb hm (by omega) _ _ _ _ _ H1 H2 h h' h'' w
      · have h2 : 1 < P := by omega
        rcases hfin with h | ⟨h, h'⟩ | ⟨h, h', h''⟩
        · exact holds_large_1b a b m ha hb hm P h2 hmb.2 (by omega) (by omega) _ _ _ _ _ H1 H2 h w
        · exact holds_large_2b a b m ha hb hm P h2 hmb.2 (by omega) (by omega) _ _ _ _ _ H1 H2 h h' w
        · exact holds_large_3b a b m ha hb hm P h2 hmb.2 (by omega) (by omega) _ _ _ _ _ H1 H2 h h' h'' w
end Go.Proofs.Ytfgiokaohbpeiaa
