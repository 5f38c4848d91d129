/-
  Sums and products: the code's and the document's.
-/
import Derived.Test.YtgdnafafojiabaaDoorRound
import Derived.Shelf.Bits.Mul64
namespace Go.Proofs.YtgdnafafojiabaaDoor
open Go.RowKit Go.Lib

set_option maxHeartbeats 1000000 in
theorem mul64_any (x y : Nat) (hx : x < 18446744073709551616) (hy : y < 18446744073709551616) (w : World) :
    Calls Tryd.prog 29 #[.int .u64 x, .int .u64 y] w fun e w' => e = .returned (.tuple #[.int .u64 ((x * y / 18446744073709551616 : Nat) : Int), .int .u64 ((x * y % 18446744073709551616 : Nat) : Int)]) ∧ w = w' := by
  obtain ⟨bd, bt, bw, hhi⟩ := Lib.mul64_hi x y hx hy
  have q1 := Lib.half_mul_le (a := x / 4294967296) (b := y / 4294967296) (by omega) (by omega)
  have q2 := Lib.half_mul_le (a := x / 4294967296) (b := y % 4294967296) (by omega) (by omega)
  have q3 := Lib.half_mul_le (a := x % 4294967296) (b := y / 4294967296) (by omega) (by omega)
  have r1 : x / 4294967296 * (y / 4294967296) < 18446744073709551616 := by omega
  have r2 : x / 4294967296 * (y % 4294967296) < 18446744073709551616 := by omega
  have r3 : x % 4294967296 * (y / 4294967296) < 18446744073709551616 := by omega
  obtain ⟨T, hT⟩ : ∃ T, T = x / 4294967296 * (y % 4294967296) + x % 4294967296 * (y % 4294967296) / 4294967296 := ⟨_, rfl⟩
  rw [← hT] at bt bw hhi
  have r4 : x / 4294967296 * (y / 4294967296) + T / 4294967296 < 18446744073709551616 := by omega
  have r5 : x / 4294967296 * (y / 4294967296) + T / 4294967296 + (T % 4294967296 + x % 4294967296 * (y / 4294967296)) / 4294967296 < 18446744073709551616 := by omega
  rw [hT] at bt bw hhi r4 r5
  clear hT
  go_enter Tryd.func29, Tryd.ntmps29
  go_wp2
  simp only [Mul64.maskN x hx, Mul64.maskN y hy, Mul64.divN, Mul64.mulN, Mul64.addN, Mul64.wrapN _ bd, Mul64.wrapN _ r2, Mul64.wrapN _ bt, Mul64.maskN _ bt, Mul64.wrapN _ r3, Mul64.wrapN _ bw, Mul64.wrapN _ r1, Mul64.wrapN _ r4, Mul64.wrapN _ r5, Mul64.wrapM (x * y)]
  rw [hhi]
  go_ret2
  exact ⟨rfl, rfl⟩

theorem mul1_any (x y : Nat) (hx : x < 18446744073709551616) (hy : y < 18446744073709551616) (w : World) :
    Calls Tryd.prog 28 #[.int .u64 x, .int .u64 y] w fun e w' => e = .returned (.tuple #[.int .u64 ((x * y % 18446744073709551616 : Nat) : Int), .bool (decide (x * y < 18446744073709551616))]) ∧ w.grownBy w' none := by
  have hd : decide (x * y < 18446744073709551616) = ((((x * y / 18446744073709551616 : Nat) : Int)) == 0) := by
    rw [Bool.eq_iff_iff]
    simp only [decide_eq_true_eq, beq_iff_eq]
    generalize x * y = M
    omega
  rw [hd]
  clear hd
  obtain ⟨H, hH⟩ : ∃ H, H = x * y / 18446744073709551616 := ⟨_, rfl⟩
  obtain ⟨L, hL⟩ : ∃ L, L = x * y % 18446744073709551616 := ⟨_, rfl⟩
  have hm := mul64_any x y hx hy
  rw [← hH, ← hL] at hm ⊢
  clear hH hL
  have b0 := Blk.new w [.int .u64 0, .int .u64 0] 51
  have f0 := b0.frozen 0
  have k0 := b0.cellOf (i := 0) rfl
  have k1 := b0.cellOf (i := 1) rfl
  have b1 := b0.set 0 (.int .u64 (H : Int))
  have f1 := b1.frozen 1
  have k2 := b1.cellOf (i := 1) rfl
  have b2 := b1.set 1 (.int .u64 (L : Int))
  have k3 := b2.cellOf (i := 0) rfl
  have k4 := b2.cellOf (i := 1) rfl
  go_enter Tryd.func28, Tryd.ntmps28
  go_wp2_with fail
  refine (hm _).mono ?_
  rintro e w1 ⟨rfl, rfl⟩
  go_wp2_with fail
  go_quiet (fail)
  go_wp2
  go_ret2
  exact ⟨rfl, g_drewM (g_alloc (g_refl w none) _) nq⟩

theorem times_any (a b : Nat) (ha0 : a ≠ 0) (ha : a < 18446744073709551616) (hb : b < 18446744073709551616) (w : World) :
    Calls Tryd.prog 31 #[.int .u64 a, .int .u64 b] w fun e w' => e = .returned (.tuple #[.int .u64 ((valO (foldN (fun x y => x * y) a [b]) : Nat) : Int), .bool (okO (foldN (fun x y => x * y) a [b]))]) ∧ w = w' := by
  have hz1 : ¬ ((a : Int) = 0) := by omega
  by_cases hf : a * b < 18446744073709551616
  · have hle : (b : Int) ≤ 18446744073709551615 / (a : Int) := by
      refine Int.le_ediv_of_mul_le (by omega) ?_
      have : b * a ≤ 18446744073709551615 := by rw [Nat.mul_comm]; omega
      rw [← Int.natCast_mul]
      omega
    rw [show foldN (fun x y => x * y) a [b] = some (a * b) by simp [foldN, hf], show valO (some (a * b)) = a * b from rfl, show okO (some (a * b)) = true from rfl]
    have hw : IntKind.u64.wrap ((a : Int) * (b : Int)) = ((a * b : Nat) : Int) := by
      rw [← Int.natCast_mul, IntKind.wrap_u64]
      omega
    obtain ⟨Q, hQ⟩ : ∃ Q : Int, Q = 18446744073709551615 / (a : Int) := ⟨_, rfl⟩
    rw [← hQ] at hle
    have hnQ : ¬ (Q < (b : Int)) := by omega
    clear hf
    go_enter Tryd.func31, Tryd.ntmps31
    go_wp2
    go_ret2
    exact ⟨rfl, rfl⟩
  · have hlt : 18446744073709551615 / (a : Int) < (b : Int) := by
      refine Int.ediv_lt_of_lt_mul (by omega) ?_
      have : 18446744073709551616 ≤ b * a := by rw [Nat.mul_comm]; omega
      rw [← Int.natCast_mul]
      omega
    rw [show foldN (fun x y => x * y) a [b] = none by simp [foldN, hf]]
    have hd : decide (18446744073709551615 / (a : Int) < (b : Int)) = true := by simpa using hlt
    have hz2 : (((a : Int)) != 0) = true := by simp; omega
    clear hf ha0
    go_enter Tryd.func31, Tryd.ntmps31
    go_wp2
    go_ret2
    exact ⟨rfl, rfl⟩


set_option maxHeartbeats 1000000 in
theorem foldAdd_any (v : Value) (ns : List Nat) (w : World) (h : LU w v ns) :
    Calls Tryd.prog 25 #[.int .u64 0, .func (.func 26) #[] #[], v] w fun e w' => e = .returned (.tuple #[.int .u64 ((valO (foldN (fun x y => x + y) 0 ns) : Nat) : Int), .bool (okO (foldN (fun x y => x + y) 0 ns))]) ∧ w.grownBy w' none := by
  obtain ⟨a, cap, hv, hl, hcp, hm⟩ := h.len
  subst hv
  obtain ⟨R, hR⟩ : ∃ R, R = foldN (fun x y => x + y) 0 ns := ⟨_, rfl⟩
  rw [← hR]
  have HR := hid hR
  clear hR
  go_enter Tryd.func25, Tryd.ntmps25
  go_wp2
  go_loopw [0, 14] (fun u v wr => ∃ (k acc : Nat), k ≤ ns.length ∧ v = .int .i64 k ∧ u = .int .u64 (acc : Int) ∧ acc < 18446744073709551616 ∧ Hid (foldN (fun x y => x + y) 0 ns = foldN (fun x y => x + y) acc (ns.drop k)) ∧ w.grownBy wr none) (fun _ v _ => ns.length - (intOf v).toNat)
  case atStart => exact ⟨0, 0, by omega, rfl, rfl, by omega, rfl, g_refl _ _⟩
  case round =>
    obtain ⟨k, acc, hk, rfl, rfl, hacc, hf, hg⟩ := hrel
    by_cases hlt : k < ns.length
    · obtain ⟨x, hx⟩ : ∃ x, ns[k]? = some x := ⟨ns[k], List.getElem?_eq_getElem hlt⟩
      have hxl := h.lt hx
      obtain ⟨g, off, cap', e, hc⟩ := (h.keptN hg).at hx
      cases e
      have HX := hid hx
      clear hx
      have hm1 := add1_any acc x hacc hxl wr
      by_cases hfit : acc + x < 18446744073709551616
      · rw [show decide (acc + x < 18446744073709551616) = true by simpa using hfit, Nat.mod_eq_of_lt hfit] at hm1
        have hst := hid (foldN_step hf.out HX.out hfit)
        obtain ⟨M, hM⟩ : ∃ M, M = acc + x := ⟨_, rfl⟩
        have hMl : M < 18446744073709551616 := by rw [hM]; exact hfit
        rw [← hM] at hm1
        have HM := hid hM
        clear hM hfit hf
        go_wp2_with fail
        refine hm1.mono ?_
        rintro e w2 ⟨rfl, hg2⟩
        go_wp2_with fail
        go_roundw
        case rel => exact ⟨k + 1, M, by omega, by go_num, rfl, hMl, (by rw [HM.out]; exact hst.out), g_none hg hg2⟩
        case measure => simp [intOf]; omega
      · rw [show decide (acc + x < 18446744073709551616) = false by simpa using hfit] at hm1
        have hR := HR.out
        rw [foldN_over hf.out HX.out hfit] at hR
        subst hR
        obtain ⟨M, hM⟩ : ∃ M, M = (acc + x) % 18446744073709551616 := ⟨_, rfl⟩
        rw [← hM] at hm1
        clear hM hfit hf HR
        go_wp2_with fail
        refine hm1.mono ?_
        rintro e w2 ⟨rfl, hg2⟩
        go_wp2_with fail
        go_ret2
        exact ⟨rfl, g_none hg hg2⟩
    · have hR := HR.out
      have hkl : k = ns.length := by omega
      rw [foldN_end hf.out hkl] at hR
      subst hR hkl
      clear hf HR
      go_wp2_with fail
      go_ret2
      exact ⟨rfl, hg⟩

set_option maxHeartbeats 1000000 in
theorem foldMul_any (v : Value) (ns : List Nat) (w : World) (h : LU w v ns) :
    Calls Tryd.prog 25 #[.int .u64 1, .func (.func 28) #[] #[], v] w fun e w' => e = .returned (.tuple #[.int .u64 ((valO (foldN (fun x y => x * y) 1 ns) : Nat) : Int), .bool (okO (foldN (fun x y => x * y) 1 ns))]) ∧ w.grownBy w' none := by
  obtain ⟨a, cap, hv, hl, hcp, hm⟩ := h.len
  subst hv
  obtain ⟨R, hR⟩ : ∃ R, R = foldN (fun x y => x * y) 1 ns := ⟨_, rfl⟩
  rw [← hR]
  have HR := hid hR
  clear hR
  go_enter Tryd.func25, Tryd.ntmps25
  go_wp2
  go_loopw [0, 14] (fun u v wr => ∃ (k acc : Nat), k ≤ ns.length ∧ v = .int .i64 k ∧ u = .int .u64 (acc : Int) ∧ acc < 18446744073709551616 ∧ Hid (foldN (fun x y => x * y) 1 ns = foldN (fun x y => x * y) acc (ns.drop k)) ∧ w.grownBy wr none) (fun _ v _ => ns.length - (intOf v).toNat)
  case atStart => exact ⟨0, 1, by omega, rfl, rfl, by omega, rfl, g_refl _ _⟩
  case round =>
    obtain ⟨k, acc, hk, rfl, rfl, hacc, hf, hg⟩ := hrel
    by_cases hlt : k < ns.length
    · obtain ⟨x, hx⟩ : ∃ x, ns[k]? = some x := ⟨ns[k], List.getElem?_eq_getElem hlt⟩
      have hxl := h.lt hx
      obtain ⟨g, off, cap', e, hc⟩ := (h.keptN hg).at hx
      cases e
      have HX := hid hx
      clear hx
      have hm1 := mul1_any acc x hacc hxl wr
      by_cases hfit : acc * x < 18446744073709551616
      · rw [show decide (acc * x < 18446744073709551616) = true by simpa using hfit, Nat.mod_eq_of_lt hfit] at hm1
        have hst := hid (foldN_step hf.out HX.out hfit)
        obtain ⟨M, hM⟩ : ∃ M, M = acc * x := ⟨_, rfl⟩
        have hMl : M < 18446744073709551616 := by rw [hM]; exact hfit
        rw [← hM] at hm1
        have HM := hid hM
        clear hM hfit hf
        go_wp2_with fail
        refine hm1.mono ?_
        rintro e w2 ⟨rfl, hg2⟩
        go_wp2_with fail
        go_roundw
        case rel => exact ⟨k + 1, M, by omega, by go_num, rfl, hMl, (by rw [HM.out]; exact hst.out), g_none hg hg2⟩
        case measure => simp [intOf]; omega
      · rw [show decide (acc * x < 18446744073709551616) = false by simpa using hfit] at hm1
        have hR := HR.out
        rw [foldN_over hf.out HX.out hfit] at hR
        subst hR
        obtain ⟨M, hM⟩ : ∃ M, M = (acc * x) % 18446744073709551616 := ⟨_, rfl⟩
        rw [← hM] at hm1
        clear hM hfit hf HR
        go_wp2_with fail
        refine hm1.mono ?_
        rintro e w2 ⟨rfl, hg2⟩
        go_wp2_with fail
        go_ret2
        exact ⟨rfl, g_none hg hg2⟩
    · have hR := HR.out
      have hkl : k = ns.length := by omega
      rw [foldN_end hf.out hkl] at hR
      subst hR hkl
      clear hf HR
      go_wp2_with fail
      go_ret2
      exact ⟨rfl, hg⟩
end Go.Proofs.YtgdnafafojiabaaDoor
