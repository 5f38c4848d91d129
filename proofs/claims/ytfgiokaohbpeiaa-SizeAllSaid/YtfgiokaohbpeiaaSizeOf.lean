/-
  What a size needs: the code's.
-/
import Derived.Test.YtfgiokaohbpeiaaSizeTotal
namespace Go.Proofs.Ytfgiokaohbpeiaa
open Go.RowKit

def nn (n : Nat) : Nat := if n < 1 then 1 else n
def okB (n m : Nat) : Bool := decide (n ≤ 262144) && powB m
def smB (n m : Nat) : Bool := decide (0 ≤ classV (nn n)) && decide (m ≤ 16)
def ndS (n m : Nat) : Bool := okB n m && smB n m
def ndC (n m : Nat) : Int := if ndS n m then classV (nn n) else 0
def ndP (n m : Nat) : Int := if okB n m then (if smB n m then 0 else manyV (nn n) 256) else 0
def ndH (n m : Nat) : Int := if okB n m then (if smB n m then pay (classV (nn n)).toNat else manyV (nn n) 256 * 256) else 0
def ndE (n m : Nat) : Int := if okB n m then 0 else 2
def ndV (n m : Nat) : Value := .tuple #[.agg #[.bool (ndS n m), .int .i64 (ndC n m), .int .i64 (ndP n m), .int .i64 (ndH n m)], .int .i64 (ndE n m)]

theorem index_any (k : Nat) (hk : k < 8) (w : World) : (Instr.index 53 (.agg #[.int .i64 16, .int .i64 32, .int .i64 48, .int .i64 64, .int .i64 96, .int .i64 128, .int .i64 192, .int .i64 256]) (.int .i64 (k : Int))).run Try.prog w = .ok (.int .i64 (pay k)) w := by
  rcases eight hk with rfl | rfl | rfl | rfl | rfl | rfl | rfl | rfl
  · exact index_0 w
  · exact index_1 w
  · exact index_2 w
  · exact index_3 w
  · exact index_4 w
  · exact index_5 w
  · exact index_6 w
  · exact index_7 w

theorem pop_pow {m : Nat} (hm : m ≤ 256) : (popV (m : Int) == 1) = powB m := pop_small ⟨m, by omega⟩
theorem powB_le {m : Nat} (h : powB m = true) : m ≤ 256 := by
  simp only [powB, Bool.or_eq_true, beq_iff_eq] at h
  omega
theorem manyV_bounds {n : Int} (h1 : 1 ≤ n) (h2 : n ≤ 262144) : 1 ≤ manyV n 256 ∧ manyV n 256 ≤ 1024 := by
  unfold manyV
  split <;> omega

theorem of_err (n m : Nat) (hn : n < 18446744073709551616) (hm : m < 18446744073709551616) (h : okB n m = false) (w : World) :
    Calls Try.prog 19 #[.int .u64 n, .int .u64 m] w fun e w' => e = .returned (ndV n m) ∧ w.grownBy w' none := by
  have hV : ndV n m = .tuple #[.agg #[.bool false, .int .i64 0, .int .i64 0, .int .i64 0], .int .i64 2] := by simp [ndV, ndS, ndC, ndP, ndH, ndE, h]
  rw [hV]
  have b0 := Blk.new w [.bool false, .int .i64 0, .int .i64 0, .int .i64 0] 33
  have hgA := g_alloc (g_refl w none) (.cells #[.bool false, .int .i64 0, .int .i64 0, .int .i64 0] 33)
  have hpw := power_any m (by omega) (by omega) (w.alloc (.cells #[.bool false, .int .i64 0, .int .i64 0, .int .i64 0] 33))
  clear hV
  by_cases h1 : 262144 < n
  · clear h hpw
    go_enter Try.func19, Try.ntmps19
    go_wp2
    refine bodyPost_ret (results_row_tmp rfl _ _ w.heap.size _ _ _ _ rfl b0 Try.underlying33 rfl (by kernel_rfl)) rfl ?_
    exact ⟨rfl, hgA⟩
  · cases hp : (popV (m : Int) == 1) with
    | false =>
      rw [hp] at hpw
      clear h hp
      go_enter Try.func19, Try.ntmps19
      go_wp2_with fail
      refine hpw.mono ?_
      rintro e w1 ⟨rfl, rfl⟩
      go_wp2
      refine bodyPost_ret (results_row_tmp rfl _ _ w.heap.size _ _ _ _ rfl b0 Try.underlying33 rfl (by kernel_rfl)) rfl ?_
      exact ⟨rfl, hgA⟩
    | true =>
      have h2 : 256 < m := by
        by_cases h2 : 256 < m
        · exact h2
        · have := pop_pow (Nat.le_of_not_lt h2)
          rw [hp] at this
          simp [okB, ← this] at h
          omega
      rw [hp] at hpw
      clear h hp
      go_enter Try.func19, Try.ntmps19
      go_wp2_with fail
      refine hpw.mono ?_
      rintro e w1 ⟨rfl, rfl⟩
      go_wp2
      refine bodyPost_ret (results_row_tmp rfl _ _ w.heap.size _ _ _ _ rfl b0 Try.underlying33 rfl (by kernel_rfl)) rfl ?_
      exact ⟨rfl, hgA⟩

set_option maxHeartbeats 1000000 in
theorem of_ok (n m : Nat) (h : okB n m = true) (w : World) :
    Calls Try.prog 19 #[.int .u64 n, .int .u64 m] w fun e w' => e = .returned (ndV n m) ∧ w.grownBy w' none := by
  have hn : n ≤ 262144 ∧ powB m = true := by simpa [okB] using h
  have hm := powB_le hn.2
  have hp := pop_pow hm
  rw [hn.2] at hp
  have hn1 := hn.1
  have b0 := Blk.new w [.bool false, .int .i64 0, .int .i64 0, .int .i64 0] 33
  have hgA := g_alloc (g_refl w none) (.cells #[.bool false, .int .i64 0, .int .i64 0, .int .i64 0] 33)
  have hpw := power_any m (by omega) (by omega) (w.alloc (.cells #[.bool false, .int .i64 0, .int .i64 0, .int .i64 0] 33))
  rw [hp] at hpw
  clear hp hn
  obtain ⟨N, hN⟩ : ∃ N, N = nn n := ⟨_, rfl⟩
  have hNb : 1 ≤ N ∧ N ≤ 262144 := by rw [hN]; unfold nn; split <;> omega
  have hmx : (if (n : Int) < 1 then (1 : Int) else n) = N := by rw [hN]; unfold nn; split <;> split <;> omega
  have hcl := class_any (N : Int)
  have hcb := classV_bounds (N : Int)
  have hma := many_any (N : Int) (by omega) (by omega)
  have hmb := manyV_bounds (n := (N : Int)) (by omega) (by omega)
  cases hs : smB n m with
  | true =>
    have hs2 : 0 ≤ classV (N : Int) ∧ m ≤ 16 := by simpa [smB, ← hN] using hs
    obtain ⟨k, hk⟩ := Int.eq_ofNat_of_zero_le hs2.1
    have hk8 : k < 8 := by omega
    have hV : ndV n m = .tuple #[.agg #[.bool true, .int .i64 (k : Int), .int .i64 0, .int .i64 (pay k)], .int .i64 0] := by
      simp [ndV, ndS, ndC, ndP, ndH, ndE, h, hs, ← hN, hk]
    rw [hV]
    rw [show cls (N : Int) = k by simp [cls, hk], show (decide (0 ≤ classV (N : Int))) = true by simp [hk]] at hcl
    have hidx := index_any k hk8
    obtain ⟨P, hP⟩ : ∃ P, P = pay k := ⟨_, rfl⟩
    rw [← hP] at hidx ⊢
    --SMALL
    have HC := hid hcl
    have HPW := hid hpw
    have hm16 := hs2.2
    clear hs hs2 hk hV hcl hma hmb hP hcb h hmx
    by_cases hz : n < 1
    · obtain rfl : n = 0 := by omega
      have hN1 : N = 1 := by rw [hN]; rfl
      subst hN1
      clear hN hz
      go_enter Try.func19, Try.ntmps19
      go_wp2_with fail
      refine HPW.out.mono ?_
      rintro e w1 ⟨rfl, rfl⟩
      go_wp2_with fail
      refine (HC.out _).mono ?_
      rintro e w2 ⟨rfl, hg2⟩
      go_wp2_with fail
      refine (payloads_any _).mono ?_
      rintro e w3 ⟨rfl, hg3⟩
      have b3 := (b0.keptN hg2).keptN hg3
      have f0 := b3.frozen 0
      have f1 := b3.frozen 1
      have f2 := b3.frozen 2
      have f3 := b3.frozen 3
      have b4 := (((b3.set 0 (.bool true)).set 1 (.int .i64 (k : Int))).set 2 (.int .i64 0)).set 3 (.int .i64 P)
      have k0 := b3.cellOf (i := 0) rfl
      have k1 := b3.cellOf (i := 1) rfl
      have k2 := b3.cellOf (i := 2) rfl
      have k3 := b3.cellOf (i := 3) rfl
      go_wp2
      refine bodyPost_ret (results_row_tmp rfl _ _ w.heap.size _ _ _ _ rfl b4 Try.underlying33 rfl (by kernel_rfl)) rfl ?_
      exact ⟨rfl, g_set (g_set (g_set (g_set (g_none (g_none hgA hg2) hg3) _ (.inr (Nat.le_refl _))) _ (.inr (Nat.le_refl _))) _ (.inr (Nat.le_refl _))) _ (.inr (Nat.le_refl _))⟩
    by_cases hz1 : n = 1
    · subst hz1
      have hN1 : N = 1 := by rw [hN]; rfl
      subst hN1
      clear hN hz
      go_enter Try.func19, Try.ntmps19
      go_wp2_with fail
      refine HPW.out.mono ?_
      rintro e w1 ⟨rfl, rfl⟩
      go_wp2_with fail
      refine (HC.out _).mono ?_
      rintro e w2 ⟨rfl, hg2⟩
      go_wp2_with fail
      refine (payloads_any _).mono ?_
      rintro e w3 ⟨rfl, hg3⟩
      have b3 := (b0.keptN hg2).keptN hg3
      have f0 := b3.frozen 0
      have f1 := b3.frozen 1
      have f2 := b3.frozen 2
      have f3 := b3.frozen 3
      have b4 := (((b3.set 0 (.bool true)).set 1 (.int .i64 (k : Int))).set 2 (.int .i64 0)).set 3 (.int .i64 P)
      have k0 := b3.cellOf (i := 0) rfl
      have k1 := b3.cellOf (i := 1) rfl
      have k2 := b3.cellOf (i := 2) rfl
      have k3 := b3.cellOf (i := 3) rfl
      go_wp2
      refine bodyPost_ret (results_row_tmp rfl _ _ w.heap.size _ _ _ _ rfl b4 Try.underlying33 rfl (by kernel_rfl)) rfl ?_
      exact ⟨rfl, g_set (g_set (g_set (g_set (g_none (g_none hgA hg2) hg3) _ (.inr (Nat.le_refl _))) _ (.inr (Nat.le_refl _))) _ (.inr (Nat.le_refl _))) _ (.inr (Nat.le_refl _))⟩
    · have hN1 : N = n := by rw [hN]; simp [nn, hz]
      have hz2 : 1 < n := by omega
      subst hN1
      clear hN hz hz1
      go_enter Try.func19, Try.ntmps19
      go_wp2_with fail
      refine HPW.out.mono ?_
      rintro e w1 ⟨rfl, rfl⟩
      go_wp2_with fail
      refine (HC.out _).mono ?_
      rintro e w2 ⟨rfl, hg2⟩
      go_wp2_with fail
      refine (payloads_any _).mono ?_
      rintro e w3 ⟨rfl, hg3⟩
      have b3 := (b0.keptN hg2).keptN hg3
      have f0 := b3.frozen 0
      have f1 := b3.frozen 1
      have f2 := b3.frozen 2
      have f3 := b3.frozen 3
      have b4 := (((b3.set 0 (.bool true)).set 1 (.int .i64 (k : Int))).set 2 (.int .i64 0)).set 3 (.int .i64 P)
      have k0 := b3.cellOf (i := 0) rfl
      have k1 := b3.cellOf (i := 1) rfl
      have k2 := b3.cellOf (i := 2) rfl
      have k3 := b3.cellOf (i := 3) rfl
      go_wp2
      refine bodyPost_ret (results_row_tmp rfl _ _ w.heap.size _ _ _ _ rfl b4 Try.underlying33 rfl (by kernel_rfl)) rfl ?_
      exact ⟨rfl, g_set (g_set (g_set (g_set (g_none (g_none hgA hg2) hg3) _ (.inr (Nat.le_refl _))) _ (.inr (Nat.le_refl _))) _ (.inr (Nat.le_refl _))) _ (.inr (Nat.le_refl _))⟩
  | false =>
    have hs2 : ¬ (0 ≤ classV (N : Int) ∧ m ≤ 16) := by
      intro hh
      have : smB n m = true := by simpa [smB, ← hN] using hh
      rw [hs] at this
      cases this
    have hV : ndV n m = .tuple #[.agg #[.bool false, .int .i64 0, .int .i64 (manyV (N : Int) 256), .int .i64 (manyV (N : Int) 256 * 256)], .int .i64 0] := by
      simp [ndV, ndS, ndC, ndP, ndH, ndE, h, hs, ← hN]
    rw [hV]
    obtain ⟨P, hP⟩ : ∃ P, P = manyV (N : Int) 256 := ⟨_, rfl⟩
    rw [← hP] at hma hmb ⊢
    have hmb1 := hmb.1
    have hmb2 := hmb.2
    have HMA := hid hma
    have HPW := hid hpw
    clear hs hV hma hmb hP h hmx
    cases hB : decide (0 ≤ classV (N : Int)) with
    | true =>
      have hm16 : 16 < m := by
        have : 0 ≤ classV (N : Int) := by simpa using hB
        omega
      rw [hB] at hcl
      obtain ⟨C, hC⟩ : ∃ C, C = cls (N : Int) := ⟨_, rfl⟩
      rw [← hC] at hcl
      have HC := hid hcl
      clear hC hcl hs2 hcb hB
      by_cases hz : n < 1
      · obtain rfl : n = 0 := by omega
        have hN1 : N = 1 := by rw [hN]; rfl
        subst hN1
        clear hN hz
        go_enter Try.func19, Try.ntmps19
        go_wp2_with fail
        refine HPW.out.mono ?_
        rintro e w1 ⟨rfl, rfl⟩
        go_wp2_with fail
        refine (HC.out _).mono ?_
        rintro e w2 ⟨rfl, hg2⟩
        go_wp2_with fail
        refine (HMA.out _).mono ?_
        rintro e w3 ⟨rfl, hg3⟩
        have b3 := (b0.keptN hg2).keptN hg3
        have f0 := b3.frozen 0
        have f1 := b3.frozen 1
        have f2 := b3.frozen 2
        have f3 := b3.frozen 3
        have b4 := (((b3.set 0 (.bool false)).set 1 (.int .i64 0)).set 2 (.int .i64 P)).set 3 (.int .i64 (P * 256))
        have k0 := b3.cellOf (i := 0) rfl
        have k1 := b3.cellOf (i := 1) rfl
        have k2 := b3.cellOf (i := 2) rfl
        have k3 := b3.cellOf (i := 3) rfl
        go_wp2
        refine bodyPost_ret (results_row_tmp rfl _ _ w.heap.size _ _ _ _ rfl b4 Try.underlying33 rfl (by kernel_rfl)) rfl ?_
        exact ⟨rfl, g_set (g_set (g_set (g_set (g_none (g_none hgA hg2) hg3) _ (.inr (Nat.le_refl _))) _ (.inr (Nat.le_refl _))) _ (.inr (Nat.le_refl _))) _ (.inr (Nat.le_refl _))⟩
      by_cases hz1 : n = 1
      · subst hz1
        have hN1 : N = 1 := by rw [hN]; rfl
        subst hN1
        clear hN hz
        go_enter Try.func19, Try.ntmps19
        go_wp2_with fail
        refine HPW.out.mono ?_
        rintro e w1 ⟨rfl, rfl⟩
        go_wp2_with fail
        refine (HC.out _).mono ?_
        rintro e w2 ⟨rfl, hg2⟩
        go_wp2_with fail
        refine (HMA.out _).mono ?_
        rintro e w3 ⟨rfl, hg3⟩
        have b3 := (b0.keptN hg2).keptN hg3
        have f0 := b3.frozen 0
        have f1 := b3.frozen 1
        have f2 := b3.frozen 2
        have f3 := b3.frozen 3
        have b4 := (((b3.set 0 (.bool false)).set 1 (.int .i64 0)).set 2 (.int .i64 P)).set 3 (.int .i64 (P * 256))
        have k0 := b3.cellOf (i := 0) rfl
        have k1 := b3.cellOf (i := 1) rfl
        have k2 := b3.cellOf (i := 2) rfl
        have k3 := b3.cellOf (i := 3) rfl
        go_wp2
        refine bodyPost_ret (results_row_tmp rfl _ _ w.heap.size _ _ _ _ rfl b4 Try.underlying33 rfl (by kernel_rfl)) rfl ?_
        exact ⟨rfl, g_set (g_set (g_set (g_set (g_none (g_none hgA hg2) hg3) _ (.inr (Nat.le_refl _))) _ (.inr (Nat.le_refl _))) _ (.inr (Nat.le_refl _))) _ (.inr (Nat.le_refl _))⟩
      · have hN1 : N = n := by rw [hN]; simp [nn, hz]
        have hz2 : 1 < n := by omega
        subst hN1
        clear hN hz hz1
        go_enter Try.func19, Try.ntmps19
        go_wp2_with fail
        refine HPW.out.mono ?_
        rintro e w1 ⟨rfl, rfl⟩
        go_wp2_with fail
        refine (HC.out _).mono ?_
        rintro e w2 ⟨rfl, hg2⟩
        go_wp2_with fail
        refine (HMA.out _).mono ?_
        rintro e w3 ⟨rfl, hg3⟩
        have b3 := (b0.keptN hg2).keptN hg3
        have f0 := b3.frozen 0
        have f1 := b3.frozen 1
        have f2 := b3.frozen 2
        have f3 := b3.frozen 3
        have b4 := (((b3.set 0 (.bool false)).set 1 (.int .i64 0)).set 2 (.int .i64 P)).set 3 (.int .i64 (P * 256))
        have k0 := b3.cellOf (i := 0) rfl
        have k1 := b3.cellOf (i := 1) rfl
        have k2 := b3.cellOf (i := 2) rfl
        have k3 := b3.cellOf (i := 3) rfl
        go_wp2
        refine bodyPost_ret (results_row_tmp rfl _ _ w.heap.size _ _ _ _ rfl b4 Try.underlying33 rfl (by kernel_rfl)) rfl ?_
        exact ⟨rfl, g_set (g_set (g_set (g_set (g_none (g_none hgA hg2) hg3) _ (.inr (Nat.le_refl _))) _ (.inr (Nat.le_refl _))) _ (.inr (Nat.le_refl _))) _ (.inr (Nat.le_refl _))⟩
    | false =>
      rw [hB] at hcl
      obtain ⟨C, hC⟩ : ∃ C, C = cls (N : Int) := ⟨_, rfl⟩
      rw [← hC] at hcl
      have HC := hid hcl
      clear hC hcl hs2 hcb hB
      by_cases hz : n < 1
      · obtain rfl : n = 0 := by omega
        have hN1 : N = 1 := by rw [hN]; rfl
        subst hN1
        clear hN hz
        go_enter Try.func19, Try.ntmps19
        go_wp2_with fail
        refine HPW.out.mono ?_
        rintro e w1 ⟨rfl, rfl⟩
        go_wp2_with fail
        refine (HC.out _).mono ?_
        rintro e w2 ⟨rfl, hg2⟩
        go_wp2_with fail
        refine (HMA.out _).mono ?_
        rintro e w3 ⟨rfl, hg3⟩
        have b3 := (b0.keptN hg2).keptN hg3
        have f0 := b3.frozen 0
        have f1 := b3.frozen 1
        have f2 := b3.frozen 2
        have f3 := b3.frozen 3
        have b4 := (((b3.set 0 (.bool false)).set 1 (.int .i64 0)).set 2 (.int .i64 P)).set 3 (.int .i64 (P * 256))
        have k0 := b3.cellOf (i := 0) rfl
        have k1 := b3.cellOf (i := 1) rfl
        have k2 := b3.cellOf (i := 2) rfl
        have k3 := b3.cellOf (i := 3) rfl
        go_wp2
        refine bodyPost_ret (results_row_tmp rfl _ _ w.heap.size _ _ _ _ rfl b4 Try.underlying33 rfl (by kernel_rfl)) rfl ?_
        exact ⟨rfl, g_set (g_set (g_set (g_set (g_none (g_none hgA hg2) hg3) _ (.inr (Nat.le_refl _))) _ (.inr (Nat.le_refl _))) _ (.inr (Nat.le_refl _))) _ (.inr (Nat.le_refl _))⟩
      by_cases hz1 : n = 1
      · subst hz1
        have hN1 : N = 1 := by rw [hN]; rfl
        subst hN1
        clear hN hz
        go_enter Try.func19, Try.ntmps19
        go_wp2_with fail
        refine HPW.out.mono ?_
        rintro e w1 ⟨rfl, rfl⟩
        go_wp2_with fail
        refine (HC.out _).mono ?_
        rintro e w2 ⟨rfl, hg2⟩
        go_wp2_with fail
        refine (HMA.out _).mono ?_
        rintro e w3 ⟨rfl, hg3⟩
        have b3 := (b0.keptN hg2).keptN hg3
        have f0 := b3.frozen 0
        have f1 := b3.frozen 1
        have f2 := b3.frozen 2
        have f3 := b3.frozen 3
        have b4 := (((b3.set 0 (.bool false)).set 1 (.int .i64 0)).set 2 (.int .i64 P)).set 3 (.int .i64 (P * 256))
        have k0 := b3.cellOf (i := 0) rfl
        have k1 := b3.cellOf (i := 1) rfl
        have k2 := b3.cellOf (i := 2) rfl
        have k3 := b3.cellOf (i := 3) rfl
        go_wp2
        refine bodyPost_ret (results_row_tmp rfl _ _ w.heap.size _ _ _ _ rfl b4 Try.underlying33 rfl (by kernel_rfl)) rfl ?_
        exact ⟨rfl, g_set (g_set (g_set (g_set (g_none (g_none hgA hg2) hg3) _ (.inr (Nat.le_refl _))) _ (.inr (Nat.le_refl _))) _ (.inr (Nat.le_refl _))) _ (.inr (Nat.le_refl _))⟩
      · have hN1 : N = n := by rw [hN]; simp [nn, hz]
        have hz2 : 1 < n := by omega
        subst hN1
        clear hN hz hz1
        go_enter Try.func19, Try.ntmps19
        go_wp2_with fail
        refine HPW.out.mono ?_
        rintro e w1 ⟨rfl, rfl⟩
        go_wp2_with fail
        refine (HC.out _).mono ?_
        rintro e w2 ⟨rfl, hg2⟩
        go_wp2_with fail
        refine (HMA.out _).mono ?_
        rintro e w3 ⟨rfl, hg3⟩
        have b3 := (b0.keptN hg2).keptN hg3
        have f0 := b3.frozen 0
        have f1 := b3.frozen 1
        have f2 := b3.frozen 2
        have f3 := b3.frozen 3
        have b4 := (((b3.set 0 (.bool false)).set 1 (.int .i64 0)).set 2 (.int .i64 P)).set 3 (.int .i64 (P * 256))
        have k0 := b3.cellOf (i := 0) rfl
        have k1 := b3.cellOf (i := 1) rfl
        have k2 := b3.cellOf (i := 2) rfl
        have k3 := b3.cellOf (i := 3) rfl
        go_wp2
        refine bodyPost_ret (results_row_tmp rfl _ _ w.heap.size _ _ _ _ rfl b4 Try.underlying33 rfl (by kernel_rfl)) rfl ?_
        exact ⟨rfl, g_set (g_set (g_set (g_set (g_none (g_none hgA hg2) hg3) _ (.inr (Nat.le_refl _))) _ (.inr (Nat.le_refl _))) _ (.inr (Nat.le_refl _))) _ (.inr (Nat.le_refl _))⟩

theorem of_any (n m : Nat) (hn : n < 18446744073709551616) (hm : m < 18446744073709551616) (w : World) :
    Calls Try.prog 19 #[.int .u64 n, .int .u64 m] w fun e w' => e = .returned (ndV n m) ∧ w.grownBy w' none := by
  cases h : okB n m with
  | true => exact of_ok n m h w
  | false => exact of_err n m hn hm h w
end Go.Proofs.Ytfgiokaohbpeiaa
