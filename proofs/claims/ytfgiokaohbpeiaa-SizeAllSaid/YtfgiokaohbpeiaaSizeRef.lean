/-
  What a size needs: the document's.
-/
import Derived.Test.YtfgiokaohbpeiaaSizeOf
namespace Go.Proofs.Ytfgiokaohbpeiaa
open Go.RowKit

theorem log_pow {m : Nat} {r : Int} (h : LogIs (m : Int) r) : (powB m = true → 0 ≤ r ∧ r ≤ 8) ∧ (powB m = false → r < 0 ∨ 8 < r) := by
  rcases h with ⟨k, hk, hm, rfl⟩ | ⟨hn, rfl⟩
  · have hm' : m = 2 ^ k := by exact_mod_cast hm
    by_cases h8 : k ≤ 8
    · have : powB m = true := by
        rw [hm']
        obtain rfl | rfl | rfl | rfl | rfl | rfl | rfl | rfl | rfl : k = 0 ∨ k = 1 ∨ k = 2 ∨ k = 3 ∨ k = 4 ∨ k = 5 ∨ k = 6 ∨ k = 7 ∨ k = 8 := by omega
        all_goals rfl
      exact ⟨fun _ => by omega, fun h => by rw [this] at h; cases h⟩
    · have h9 : 2 ^ 9 ≤ 2 ^ k := Nat.pow_le_pow_right (by omega) (by omega)
      refine ⟨fun h => ?_, fun _ => by omega⟩
      have := powB_le h
      omega
  · refine ⟨fun h => ?_, fun _ => by omega⟩
    have key : ∀ k, k < 64 → m ≠ 2 ^ k := fun k hk e => hn k hk (by rw [e])
    simp only [powB, Bool.or_eq_true, beq_iff_eq] at h
    have k0 := key 0 (by omega)
    have k1 := key 1 (by omega)
    have k2 := key 2 (by omega)
    have k3 := key 3 (by omega)
    have k4 := key 4 (by omega)
    have k5 := key 5 (by omega)
    have k6 := key 6 (by omega)
    have k7 := key 7 (by omega)
    have k8 := key 8 (by omega)
    omega

theorem refOf_err (n m : Nat) (_ : n < 18446744073709551616) (_ : m < 18446744073709551616) (h : okB n m = false) (w : World) :
    Calls Try.prog 20 #[.int .u64 n, .int .u64 m] w fun e w' => e = .returned (ndV n m) ∧ w.grownBy w' none := by
  have hV : ndV n m = .tuple #[.agg #[.bool false, .int .i64 0, .int .i64 0, .int .i64 0], .int .i64 2] := by simp [ndV, ndS, ndC, ndP, ndH, ndE, h]
  rw [hV]
  have b0 := Blk.new w [.bool false, .int .i64 0, .int .i64 0, .int .i64 0] 33
  have hgA := g_alloc (g_refl w none) (.cells #[.bool false, .int .i64 0, .int .i64 0, .int .i64 0] 33)
  have hlg := refLog_any m (w.alloc (.cells #[.bool false, .int .i64 0, .int .i64 0, .int .i64 0] 33))
  clear hV
  go_enter Try.func20, Try.ntmps20
  go_wp2_with fail
  refine hlg.mono ?_
  rintro e w1 ⟨r, rfl, hr, rfl⟩
  have hlp := (log_pow hr).2
  by_cases h1 : 262144 < n
  · clear h hlp hr
    go_wp2
    refine bodyPost_ret (results_row_tmp rfl _ _ w.heap.size _ _ _ _ rfl b0 Try.underlying33 rfl (by kernel_rfl)) rfl ?_
    exact ⟨rfl, hgA⟩
  · have hp : powB m = false := by
      cases hp : powB m with
      | false => rfl
      | true => simp [okB, hp] at h; omega
    have hr2 := hlp hp
    clear h hlp hr hp
    by_cases h2 : r < 0
    · go_wp2
      refine bodyPost_ret (results_row_tmp rfl _ _ w.heap.size _ _ _ _ rfl b0 Try.underlying33 rfl (by kernel_rfl)) rfl ?_
      exact ⟨rfl, hgA⟩
    · have h3 : 8 < r := hr2.resolve_left h2
      clear hr2
      go_wp2
      refine bodyPost_ret (results_row_tmp rfl _ _ w.heap.size _ _ _ _ rfl b0 Try.underlying33 rfl (by kernel_rfl)) rfl ?_
      exact ⟨rfl, hgA⟩

theorem many_ceil {N P : Int} (_ : 1 ≤ N) (h1 : (P - 1) * 256 < N) (h2 : N ≤ P * 256) : P = manyV N 256 := by
  unfold manyV
  split <;> omega

set_option maxHeartbeats 1000000 in
theorem refOf_ok (n m : Nat) (h : okB n m = true) (w : World) :
    Calls Try.prog 20 #[.int .u64 n, .int .u64 m] w fun e w' => e = .returned (ndV n m) ∧ w.grownBy w' none := by
  have hn : n ≤ 262144 ∧ powB m = true := by simpa [okB] using h
  have hm := powB_le hn.2
  have hn1 := hn.1
  have b0 := Blk.new w [.bool false, .int .i64 0, .int .i64 0, .int .i64 0] 33
  have hgA := g_alloc (g_refl w none) (.cells #[.bool false, .int .i64 0, .int .i64 0, .int .i64 0] 33)
  have hlg := refLog_any m (w.alloc (.cells #[.bool false, .int .i64 0, .int .i64 0, .int .i64 0] 33))
  have hp := hn.2
  clear hn
  obtain ⟨N, hN⟩ : ∃ N, N = nn n := ⟨_, rfl⟩
  have hNb : 1 ≤ N ∧ N ≤ 262144 := by rw [hN]; unfold nn; split <;> omega
  have hcl := refClass_any (N : Int)
  have hcb := classV_bounds (N : Int)
  have hmb := manyV_bounds (n := (N : Int)) (by omega) (by omega)
  have f0 := b0.frozen 0
  have f1 := b0.frozen 1
  have f2 := b0.frozen 2
  have f3 := b0.frozen 3
  have k0 := b0.cellOf (i := 0) rfl
  have k1 := b0.cellOf (i := 1) rfl
  have k2 := b0.cellOf (i := 2) rfl
  have k3 := b0.cellOf (i := 3) rfl
  have HLG := hid hlg
  clear hlg
  cases hs : smB n m with
  | true =>
    have hs2 : 0 ≤ classV (N : Int) ∧ m ≤ 16 := by simpa [smB, ← hN] using hs
    obtain ⟨k, hk⟩ := Int.eq_ofNat_of_zero_le hs2.1
    have hk8 : k < 8 := by omega
    have hV : ndV n m = .tuple #[.agg #[.bool true, .int .i64 (k : Int), .int .i64 0, .int .i64 (pay k)], .int .i64 0] := by
      simp [ndV, ndS, ndC, ndP, ndH, ndE, h, hs, ← hN, hk]
    rw [hV]
    rw [hk] at hcl
    have hpy := refPay_in k hk8
    obtain ⟨P, hP⟩ : ∃ P, P = pay k := ⟨_, rfl⟩
    rw [← hP] at hpy ⊢
    have HC := hid hcl
    have HPY := hid hpy
    have hm16 := hs2.2
    clear hs hs2 hk hV hcl hmb hP hcb h hpy
    by_cases hz : n < 1
    · obtain rfl : n = 0 := by omega
      have hN1 : N = 1 := by rw [hN]; rfl
      subst hN1
      clear hN hz
      go_enter Try.func20, Try.ntmps20
      go_wp2_with fail
      refine HLG.out.mono ?_
      rintro e w1 ⟨r, rfl, hr, rfl⟩
      have hrb := (log_pow hr).1 hp
      have hr0 := hrb.1
      have hr8 := hrb.2
      clear hr hrb
      go_wp2_with fail
      refine (HC.out _).mono ?_
      rintro e w2 ⟨rfl, rfl⟩
      go_wp2_with fail
      refine (HPY.out _).mono ?_
      rintro e w3 ⟨rfl, rfl⟩
      have b4 := Blk.new w [.bool true, .int .i64 (k : Int), .int .i64 0, .int .i64 P] 33
      go_wp2
      refine bodyPost_ret (results_row_tmp rfl _ _ w.heap.size _ _ _ _ rfl b4 Try.underlying33 rfl (by kernel_rfl)) rfl ?_
      exact ⟨rfl, g_alloc (g_refl w none) _⟩
    by_cases hz1 : n = 1
    · subst hz1
      have hN1 : N = 1 := by rw [hN]; rfl
      subst hN1
      clear hN hz
      go_enter Try.func20, Try.ntmps20
      go_wp2_with fail
      refine HLG.out.mono ?_
      rintro e w1 ⟨r, rfl, hr, rfl⟩
      have hrb := (log_pow hr).1 hp
      have hr0 := hrb.1
      have hr8 := hrb.2
      clear hr hrb
      go_wp2_with fail
      refine (HC.out _).mono ?_
      rintro e w2 ⟨rfl, rfl⟩
      go_wp2_with fail
      refine (HPY.out _).mono ?_
      rintro e w3 ⟨rfl, rfl⟩
      have b4 := Blk.new w [.bool true, .int .i64 (k : Int), .int .i64 0, .int .i64 P] 33
      go_wp2
      refine bodyPost_ret (results_row_tmp rfl _ _ w.heap.size _ _ _ _ rfl b4 Try.underlying33 rfl (by kernel_rfl)) rfl ?_
      exact ⟨rfl, g_alloc (g_refl w none) _⟩
    · have hN1 : N = n := by rw [hN]; simp [nn, hz]
      have hz2 : 1 < n := by omega
      subst hN1
      clear hN hz hz1
      go_enter Try.func20, Try.ntmps20
      go_wp2_with fail
      refine HLG.out.mono ?_
      rintro e w1 ⟨r, rfl, hr, rfl⟩
      have hrb := (log_pow hr).1 hp
      have hr0 := hrb.1
      have hr8 := hrb.2
      clear hr hrb
      go_wp2_with fail
      refine (HC.out _).mono ?_
      rintro e w2 ⟨rfl, rfl⟩
      go_wp2_with fail
      refine (HPY.out _).mono ?_
      rintro e w3 ⟨rfl, rfl⟩
      have b4 := Blk.new w [.bool true, .int .i64 (k : Int), .int .i64 0, .int .i64 P] 33
      go_wp2
      refine bodyPost_ret (results_row_tmp rfl _ _ w.heap.size _ _ _ _ rfl b4 Try.underlying33 rfl (by kernel_rfl)) rfl ?_
      exact ⟨rfl, g_alloc (g_refl w none) _⟩
  | false =>
    have hs2 : ¬ (0 ≤ classV (N : Int) ∧ m ≤ 16) := by
      intro hh
      have : smB n m = true := by simpa [smB, ← hN] using hh
      rw [hs] at this
      cases this
    have hV : ndV n m = .tuple #[.agg #[.bool false, .int .i64 0, .int .i64 (manyV (N : Int) 256), .int .i64 (manyV (N : Int) 256 * 256)], .int .i64 0] := by
      simp [ndV, ndS, ndC, ndP, ndH, ndE, h, hs, ← hN]
    rw [hV]
    obtain ⟨P, hP⟩ : ∃ P, P = manyV (N : Int) 256 := ⟨_, rfl⟩
    rw [← hP]
    have HP := hid hP
    clear hs hV hmb hP h
    obtain ⟨C, hC⟩ : ∃ C, C = classV (N : Int) := ⟨_, rfl⟩
    rw [← hC] at hcl hs2 hcb
    have HC := hid hcl
    clear hC hcl
    by_cases hC0 : 0 ≤ C
    · have hm16 : 16 < m := by omega
      clear hs2 hcb
      by_cases hz : n < 1
      · obtain rfl : n = 0 := by omega
        have hN1 : N = 1 := by rw [hN]; rfl
        subst hN1
        clear hN hz
        go_enter Try.func20, Try.ntmps20
        go_wp2_with fail
        refine HLG.out.mono ?_
        rintro e w1 ⟨r, rfl, hr, rfl⟩
        have hrb := (log_pow hr).1 hp
        have hr0 := hrb.1
        have hr8 := hrb.2
        clear hr hrb
        go_wp2_with fail
        refine (HC.out _).mono ?_
        rintro e w2 ⟨rfl, rfl⟩
        go_wp2_with fail
        go_loopw [9] (fun v wr => ∃ (q : Nat), v = .int .i64 q ∧ 1 ≤ q ∧ ((q : Int) - 1) * 256 < (1 : Int) ∧ (w.alloc (.cells #[.bool false, .int .i64 0, .int .i64 0, .int .i64 0] 33)) = wr) (fun v _ => 2000 - (intOf v).toNat)
        case atStart => exact ⟨1, rfl, by omega, by omega, rfl⟩
        case round =>
          obtain ⟨q, rfl, hq1, hq2, rfl⟩ := hrel
          have hqb : (q : Int) ≤ 1024 + 1 := by omega
          by_cases hq3 : (q : Int) * 256 < (1 : Int)
          · go_wp2_with fail
            go_roundw
            case rel => exact ⟨q + 1, by go_num, by omega, by omega, trivial⟩
            case measure => simp [intOf]; omega
          · have hqP : (q : Int) = P := by rw [HP.out]; exact many_ceil (by omega) hq2 (by omega)
            have HQ := hid hqP
            clear hqP
            have b4 := Blk.new w [.bool false, .int .i64 0, .int .i64 (q : Int), .int .i64 (256 * (q : Int))] 33
            go_wp2_with fail
            refine bodyPost_ret (results_row_tmp rfl _ _ w.heap.size _ _ _ _ rfl b4 Try.underlying33 rfl (by kernel_rfl)) rfl ?_
            refine ⟨?_, g_alloc (g_refl w none) _⟩
            rw [← HQ.out, Int.mul_comm (q : Int) 256]
            rfl
      by_cases hz1 : n = 1
      · subst hz1
        have hN1 : N = 1 := by rw [hN]; rfl
        subst hN1
        clear hN hz
        go_enter Try.func20, Try.ntmps20
        go_wp2_with fail
        refine HLG.out.mono ?_
        rintro e w1 ⟨r, rfl, hr, rfl⟩
        have hrb := (log_pow hr).1 hp
        have hr0 := hrb.1
        have hr8 := hrb.2
        clear hr hrb
        go_wp2_with fail
        refine (HC.out _).mono ?_
        rintro e w2 ⟨rfl, rfl⟩
        go_wp2_with fail
        go_loopw [9] (fun v wr => ∃ (q : Nat), v = .int .i64 q ∧ 1 ≤ q ∧ ((q : Int) - 1) * 256 < (1 : Int) ∧ (w.alloc (.cells #[.bool false, .int .i64 0, .int .i64 0, .int .i64 0] 33)) = wr) (fun v _ => 2000 - (intOf v).toNat)
        case atStart => exact ⟨1, rfl, by omega, by omega, rfl⟩
        case round =>
          obtain ⟨q, rfl, hq1, hq2, rfl⟩ := hrel
          have hqb : (q : Int) ≤ 1024 + 1 := by omega
          by_cases hq3 : (q : Int) * 256 < (1 : Int)
          · go_wp2_with fail
            go_roundw
            case rel => exact ⟨q + 1, by go_num, by omega, by omega, trivial⟩
            case measure => simp [intOf]; omega
          · have hqP : (q : Int) = P := by rw [HP.out]; exact many_ceil (by omega) hq2 (by omega)
            have HQ := hid hqP
            clear hqP
            have b4 := Blk.new w [.bool false, .int .i64 0, .int .i64 (q : Int), .int .i64 (256 * (q : Int))] 33
            go_wp2_with fail
            refine bodyPost_ret (results_row_tmp rfl _ _ w.heap.size _ _ _ _ rfl b4 Try.underlying33 rfl (by kernel_rfl)) rfl ?_
            refine ⟨?_, g_alloc (g_refl w none) _⟩
            rw [← HQ.out, Int.mul_comm (q : Int) 256]
            rfl
      · have hN1 : N = n := by rw [hN]; simp [nn, hz]
        have hz2 : 1 < n := by omega
        subst hN1
        clear hN hz hz1
        go_enter Try.func20, Try.ntmps20
        go_wp2_with fail
        refine HLG.out.mono ?_
        rintro e w1 ⟨r, rfl, hr, rfl⟩
        have hrb := (log_pow hr).1 hp
        have hr0 := hrb.1
        have hr8 := hrb.2
        clear hr hrb
        go_wp2_with fail
        refine (HC.out _).mono ?_
        rintro e w2 ⟨rfl, rfl⟩
        go_wp2_with fail
        go_loopw [9] (fun v wr => ∃ (q : Nat), v = .int .i64 q ∧ 1 ≤ q ∧ ((q : Int) - 1) * 256 < (N : Int) ∧ (w.alloc (.cells #[.bool false, .int .i64 0, .int .i64 0, .int .i64 0] 33)) = wr) (fun v _ => 2000 - (intOf v).toNat)
        case atStart => exact ⟨1, rfl, by omega, by omega, rfl⟩
        case round =>
          obtain ⟨q, rfl, hq1, hq2, rfl⟩ := hrel
          have hqb : (q : Int) ≤ 1024 + 1 := by omega
          by_cases hq3 : (q : Int) * 256 < (N : Int)
          · go_wp2_with fail
            go_roundw
            case rel => exact ⟨q + 1, by go_num, by omega, by omega, trivial⟩
            case measure => simp [intOf]; omega
          · have hqP : (q : Int) = P := by rw [HP.out]; exact many_ceil (by omega) hq2 (by omega)
            have HQ := hid hqP
            clear hqP
            have b4 := Blk.new w [.bool false, .int .i64 0, .int .i64 (q : Int), .int .i64 (256 * (q : Int))] 33
            go_wp2_with fail
            refine bodyPost_ret (results_row_tmp rfl _ _ w.heap.size _ _ _ _ rfl b4 Try.underlying33 rfl (by kernel_rfl)) rfl ?_
            refine ⟨?_, g_alloc (g_refl w none) _⟩
            rw [← HQ.out, Int.mul_comm (q : Int) 256]
            rfl
    · have hC1 : C < 0 := by omega
      clear hs2 hcb hC0
      by_cases hz : n < 1
      · obtain rfl : n = 0 := by omega
        have hN1 : N = 1 := by rw [hN]; rfl
        subst hN1
        clear hN hz
        go_enter Try.func20, Try.ntmps20
        go_wp2_with fail
        refine HLG.out.mono ?_
        rintro e w1 ⟨r, rfl, hr, rfl⟩
        have hrb := (log_pow hr).1 hp
        have hr0 := hrb.1
        have hr8 := hrb.2
        clear hr hrb
        go_wp2_with fail
        refine (HC.out _).mono ?_
        rintro e w2 ⟨rfl, rfl⟩
        go_wp2_with fail
        go_loopw [9] (fun v wr => ∃ (q : Nat), v = .int .i64 q ∧ 1 ≤ q ∧ ((q : Int) - 1) * 256 < (1 : Int) ∧ (w.alloc (.cells #[.bool false, .int .i64 0, .int .i64 0, .int .i64 0] 33)) = wr) (fun v _ => 2000 - (intOf v).toNat)
        case atStart => exact ⟨1, rfl, by omega, by omega, rfl⟩
        case round =>
          obtain ⟨q, rfl, hq1, hq2, rfl⟩ := hrel
          have hqb : (q : Int) ≤ 1024 + 1 := by omega
          by_cases hq3 : (q : Int) * 256 < (1 : Int)
          · go_wp2_with fail
            go_roundw
            case rel => exact ⟨q + 1, by go_num, by omega, by omega, trivial⟩
            case measure => simp [intOf]; omega
          · have hqP : (q : Int) = P := by rw [HP.out]; exact many_ceil (by omega) hq2 (by omega)
            have HQ := hid hqP
            clear hqP
            have b4 := Blk.new w [.bool false, .int .i64 0, .int .i64 (q : Int), .int .i64 (256 * (q : Int))] 33
            go_wp2_with fail
            refine bodyPost_ret (results_row_tmp rfl _ _ w.heap.size _ _ _ _ rfl b4 Try.underlying33 rfl (by kernel_rfl)) rfl ?_
            refine ⟨?_, g_alloc (g_refl w none) _⟩
            rw [← HQ.out, Int.mul_comm (q : Int) 256]
            rfl
      by_cases hz1 : n = 1
      · subst hz1
        have hN1 : N = 1 := by rw [hN]; rfl
        subst hN1
        clear hN hz
        go_enter Try.func20, Try.ntmps20
        go_wp2_with fail
        refine HLG.out.mono ?_
        rintro e w1 ⟨r, rfl, hr, rfl⟩
        have hrb := (log_pow hr).1 hp
        have hr0 := hrb.1
        have hr8 := hrb.2
        clear hr hrb
        go_wp2_with fail
        refine (HC.out _).mono ?_
        rintro e w2 ⟨rfl, rfl⟩
        go_wp2_with fail
        go_loopw [9] (fun v wr => ∃ (q : Nat), v = .int .i64 q ∧ 1 ≤ q ∧ ((q : Int) - 1) * 256 < (1 : Int) ∧ (w.alloc (.cells #[.bool false, .int .i64 0, .int .i64 0, .int .i64 0] 33)) = wr) (fun v _ => 2000 - (intOf v).toNat)
        case atStart => exact ⟨1, rfl, by omega, by omega, rfl⟩
        case round =>
          obtain ⟨q, rfl, hq1, hq2, rfl⟩ := hrel
          have hqb : (q : Int) ≤ 1024 + 1 := by omega
          by_cases hq3 : (q : Int) * 256 < (1 : Int)
          · go_wp2_with fail
            go_roundw
            case rel => exact ⟨q + 1, by go_num, by omega, by omega, trivial⟩
            case measure => simp [intOf]; omega
          · have hqP : (q : Int) = P := by rw [HP.out]; exact many_ceil (by omega) hq2 (by omega)
            have HQ := hid hqP
            clear hqP
            have b4 := Blk.new w [.bool false, .int .i64 0, .int .i64 (q : Int), .int .i64 (256 * (q : Int))] 33
            go_wp2_with fail
            refine bodyPost_ret (results_row_tmp rfl _ _ w.heap.size _ _ _ _ rfl b4 Try.underlying33 rfl (by kernel_rfl)) rfl ?_
            refine ⟨?_, g_alloc (g_refl w none) _⟩
            rw [← HQ.out, Int.mul_comm (q : Int) 256]
            rfl
      · have hN1 : N = n := by rw [hN]; simp [nn, hz]
        have hz2 : 1 < n := by omega
        subst hN1
        clear hN hz hz1
        go_enter Try.func20, Try.ntmps20
        go_wp2_with fail
        refine HLG.out.mono ?_
        rintro e w1 ⟨r, rfl, hr, rfl⟩
        have hrb := (log_pow hr).1 hp
        have hr0 := hrb.1
        have hr8 := hrb.2
        clear hr hrb
        go_wp2_with fail
        refine (HC.out _).mono ?_
        rintro e w2 ⟨rfl, rfl⟩
        go_wp2_with fail
        go_loopw [9] (fun v wr => ∃ (q : Nat), v = .int .i64 q ∧ 1 ≤ q ∧ ((q : Int) - 1) * 256 < (N : Int) ∧ (w.alloc (.cells #[.bool false, .int .i64 0, .int .i64 0, .int .i64 0] 33)) = wr) (fun v _ => 2000 - (intOf v).toNat)
        case atStart => exact ⟨1, rfl, by omega, by omega, rfl⟩
        case round =>
          obtain ⟨q, rfl, hq1, hq2, rfl⟩ := hrel
          have hqb : (q : Int) ≤ 1024 + 1 := by omega
          by_cases hq3 : (q : Int) * 256 < (N : Int)
          · go_wp2_with fail
            go_roundw
            case rel => exact ⟨q + 1, by go_num, by omega, by omega, trivial⟩
            case measure => simp [intOf]; omega
          · have hqP : (q : Int) = P := by rw [HP.out]; exact many_ceil (by omega) hq2 (by omega)
            have HQ := hid hqP
            clear hqP
            have b4 := Blk.new w [.bool false, .int .i64 0, .int .i64 (q : Int), .int .i64 (256 * (q : Int))] 33
            go_wp2_with fail
            refine bodyPost_ret (results_row_tmp rfl _ _ w.heap.size _ _ _ _ rfl b4 Try.underlying33 rfl (by kernel_rfl)) rfl ?_
            refine ⟨?_, g_alloc (g_refl w none) _⟩
            rw [← HQ.out, Int.mul_comm (q : Int) 256]
            rfl

theorem refOf_any (n m : Nat) (hn : n < 18446744073709551616) (hm : m < 18446744073709551616) (w : World) :
    Calls Try.prog 20 #[.int .u64 n, .int .u64 m] w fun e w' => e = .returned (ndV n m) ∧ w.grownBy w' none := by
  cases h : okB n m with
  | true => exact refOf_ok n m h w
  | false => exact refOf_err n m hn hm h w
end Go.Proofs.Ytfgiokaohbpeiaa
