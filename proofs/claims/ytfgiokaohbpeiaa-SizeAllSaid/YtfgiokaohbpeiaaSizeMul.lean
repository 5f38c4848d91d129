/-
  Products of two numbers: the code's and the document's.
-/
import Derived.Test.YtfgiokaohbpeiaaSizePow
import Derived.Shelf.Bits.Mul64
namespace Go.Proofs.Ytfgiokaohbpeiaa
open Go.RowKit Go.Lib

set_option maxHeartbeats 1000000 in
theorem mul64_any (x y : Nat) (hx : x < 18446744073709551616) (hy : y < 18446744073709551616) (w : World) :
    Calls Try.prog 45 #[.int .u64 x, .int .u64 y] w fun e w' => e = .returned (.tuple #[.int .u64 ((x * y / 18446744073709551616 : Nat) : Int), .int .u64 ((x * y % 18446744073709551616 : Nat) : Int)]) ∧ w = w' := by
  obtain ⟨bd, bt, bw, hhi⟩ := Lib.mul64_hi x y hx hy
  have q1 := Lib.half_mul_le (a := x / 4294967296) (b := y / 4294967296) (by omega) (by omega)
  have q2 := Lib.half_mul_le (a := x / 4294967296) (b := y % 4294967296) (by omega) (by omega)
  have q3 := Lib.half_mul_le (a := x % 4294967296) (b := y / 4294967296) (by omega) (by omega)
  have r1 : x / 4294967296 * (y / 4294967296) < 18446744073709551616 := by omega
  have r2 : x / 4294967296 * (y % 4294967296) < 18446744073709551616 := by omega
  have r3 : x % 4294967296 * (y / 4294967296) < 18446744073709551616 := by omega
  obtain ⟨T, hT⟩ : ∃ T, T = x / 4294967296 * (y % 4294967296) + x % 4294967296 * (y % 4294967296) / 4294967296 := ⟨_, rfl⟩
  rw [← hT] at bt bw hhi
  have r4 : x / 4294967296 * (y / 4294967296) + T / 4294967296 < 18446744073709551616 := by omega
  have r5 : x / 4294967296 * (y / 4294967296) + T / 4294967296 + (T % 4294967296 + x % 4294967296 * (y / 4294967296)) / 4294967296 < 18446744073709551616 := by omega
  rw [hT] at bt bw hhi r4 r5
  clear hT
  go_enter Try.func45, Try.ntmps45
  go_wp2
  simp only [Mul64.maskN x hx, Mul64.maskN y hy, Mul64.divN, Mul64.mulN, Mul64.addN, Mul64.wrapN _ bd, Mul64.wrapN _ r2, Mul64.wrapN _ bt, Mul64.maskN _ bt, Mul64.wrapN _ r3, Mul64.wrapN _ bw, Mul64.wrapN _ r1, Mul64.wrapN _ r4, Mul64.wrapN _ r5, Mul64.wrapM (x * y)]
  rw [hhi]
  go_ret2
  exact ⟨rfl, rfl⟩

theorem mul1_any (x y : Nat) (hx : x < 18446744073709551616) (hy : y < 18446744073709551616) (w : World) :
    Calls Try.prog 44 #[.int .u64 x, .int .u64 y] w fun e w' => e = .returned (.tuple #[.int .u64 ((x * y % 18446744073709551616 : Nat) : Int), .bool ((((x * y / 18446744073709551616 : Nat) : Int)) == 0)]) ∧ w.grownBy w' none := by
  obtain ⟨H, hH⟩ : ∃ H, H = x * y / 18446744073709551616 := ⟨_, rfl⟩
  obtain ⟨L, hL⟩ : ∃ L, L = x * y % 18446744073709551616 := ⟨_, rfl⟩
  have hm := mul64_any x y hx hy
  rw [← hH, ← hL] at hm ⊢
  clear hH hL
  have b0 := Blk.new w [.int .u64 0, .int .u64 0] 74
  have f0 := b0.frozen 0
  have k0 := b0.cellOf (i := 0) rfl
  have k1 := b0.cellOf (i := 1) rfl
  have b1 := b0.set 0 (.int .u64 (H : Int))
  have f1 := b1.frozen 1
  have k2 := b1.cellOf (i := 1) rfl
  have b2 := b1.set 1 (.int .u64 (L : Int))
  have k3 := b2.cellOf (i := 0) rfl
  have k4 := b2.cellOf (i := 1) rfl
  go_enter Try.func44, Try.ntmps44
  go_wp2_with fail
  refine (hm _).mono ?_
  rintro e w1 ⟨rfl, rfl⟩
  go_wp2_with fail
  go_quiet (fail)
  go_wp2
  go_ret2
  exact ⟨rfl, g_drewM (g_alloc (g_refl w none) _) nq⟩

theorem told_any (n : Int) (b : Bool) (w : World) :
    Calls Try.prog 42 #[.int .u64 n, .bool b] w fun e w' => e = .returned (.tuple #[.int .u64 (if b then n else 0), .int .i64 (if b then 0 else 120)]) ∧ w = w' := by
  cases b with
  | true =>
    simp only [if_true]
    go_enter Try.func42, Try.ntmps42
    go_wp2
    refine wp_scope_fwd 0 rfl ?_
    go_wp2_with fail
    refine fwd_retI ?_
    go_ret2
    exact ⟨rfl, rfl⟩
  | false =>
    simp only [Bool.false_eq_true, if_false]
    go_enter Try.func42, Try.ntmps42
    go_wp2
    refine wp_scope_fwd 0 rfl ?_
    go_wp2_with fail
    go_step3
    simp only [Exit.then]
    refine fwd_goto ?_
    go_wp2
    refine noGoto_retI ?_
    go_ret2
    exact ⟨rfl, rfl⟩

/-! ### Two numbers -/
/-- A slice of two numbers. -/
def U2 (w : World) (g : Nat) (a b : Nat) : Prop := w.cell? ⟨g, 0, none⟩ = some (.int .u64 a) ∧ w.cell? ⟨g, 1, none⟩ = some (.int .u64 b)
theorem U2.keptN {w w' : World} {g a b : Nat} (h : U2 w g a b) (hg : w.grownBy w' none) : U2 w' g a b := ⟨g_cellN hg h.1, g_cellN hg h.2⟩
theorem U2.new (w : World) (a b : Nat) (t : TypeId) (g : Nat) (hg : w.heap.size = g) : U2 (w.alloc (.cells #[.int .u64 a, .int .u64 b] t)) g a b := by
  subst hg
  have h := Blk.new w [.int .u64 (a : Int), .int .u64 (b : Int)] t
  exact ⟨h.cellOf rfl, h.cellOf rfl⟩
def prB (a b : Nat) : Bool := decide (a * b < 18446744073709551616)
def prV (a b : Nat) : Nat := if a * b < 18446744073709551616 then a * b else 0
def stepN (a b : Nat) : Nat → Nat
  | 0 => 1
  | 1 => a
  | _ => a * b

set_option maxHeartbeats 1000000 in
theorem folded_any (a b : Nat) (ha : a < 18446744073709551616) (hb : b < 18446744073709551616) (g : Nat) (w : World) (h : U2 w g a b) :
    Calls Try.prog 43 #[.int .u64 1, .func (.func 44) #[] #[], .slice (some ⟨g, 0, none⟩) 2 2] w fun e w' => e = .returned (.tuple #[.int .u64 ((prV a b : Nat) : Int), .bool (prB a b)]) ∧ w.grownBy w' none := by
  go_enter Try.func43, Try.ntmps43
  go_wp2
  go_loopw [0, 14] (fun u v wr => ∃ (k : Nat), k ≤ 2 ∧ v = .int .i64 k ∧ u = .int .u64 ((stepN a b k : Nat) : Int) ∧ (k = 2 → a * b < 18446744073709551616) ∧ w.grownBy wr none) (fun _ v _ => 2 - (intOf v).toNat)
  case atStart => exact ⟨0, by omega, rfl, rfl, fun h => by omega, g_refl _ _⟩
  case round =>
    obtain ⟨k, hk, rfl, rfl, hfit, hg⟩ := hrel
    have HF := hid hfit
    clear hfit
    match k, hk with
    | 0, _ =>
      obtain ⟨d0, d1⟩ := h.keptN hg
      have hm := mul1_any 1 a (by omega) ha wr
      rw [show 1 * a / 18446744073709551616 = 0 by rw [Nat.one_mul]; exact Nat.div_eq_of_lt ha, show 1 * a % 18446744073709551616 = a by rw [Nat.one_mul]; exact Nat.mod_eq_of_lt ha] at hm
      go_wp2_with fail
      refine hm.mono ?_
      rintro e w2 ⟨rfl, hg2⟩
      go_wp2_with fail
      go_roundw
      case rel => exact ⟨1, by omega, by go_num, rfl, fun h => by omega, g_none hg hg2⟩
      case measure => simp [intOf]
    | 1, _ =>
      obtain ⟨d0, d1⟩ := h.keptN hg
      have hm := mul1_any a b ha hb wr
      by_cases hf : a * b < 18446744073709551616
      · rw [show a * b / 18446744073709551616 = 0 by exact Nat.div_eq_of_lt hf, show a * b % 18446744073709551616 = a * b by exact Nat.mod_eq_of_lt hf] at hm
        have HFF := hid hf
        obtain ⟨M, hM⟩ : ∃ M, M = a * b := ⟨_, rfl⟩
        rw [← hM] at hm
        have HM := hid hM
        clear hM hf
        simp only [stepN]
        go_wp2_with fail
        refine hm.mono ?_
        rintro e w2 ⟨rfl, hg2⟩
        go_wp2_with fail
        go_roundw
        case rel => exact ⟨2, by omega, by go_num, by rw [HM.out]; rfl, fun _ => HFF.out, g_none hg hg2⟩
        case measure => simp [intOf]
      · have hd : ¬ (a * b / 18446744073709551616 = 0) := by
          have := Nat.div_pos (Nat.le_of_not_lt hf) (by decide : 0 < 18446744073709551616)
          omega
        have HFF := hid hf
        obtain ⟨H, hH⟩ : ∃ H, H = a * b / 18446744073709551616 := ⟨_, rfl⟩
        obtain ⟨L, hL⟩ : ∃ L, L = a * b % 18446744073709551616 := ⟨_, rfl⟩
        rw [← hH] at hm hd
        rw [← hL] at hm
        have hB : (((H : Int)) == 0) = false := by simp; omega
        rw [hB] at hm
        clear hH hL hf
        simp only [stepN]
        go_wp2_with fail
        refine hm.mono ?_
        rintro e w2 ⟨rfl, hg2⟩
        go_wp2_with fail
        go_ret2
        refine ⟨?_, g_none hg hg2⟩
        show Ending.returned (.tuple #[.int .u64 0, .bool false]) = _
        rw [prV, if_neg HFF.out, prB, decide_eq_false HFF.out]
        rfl
    | 2, _ =>
      have hf := HF.out rfl
      have e1 : prV a b = a * b := by rw [prV, if_pos hf]
      have e2 : prB a b = true := by rw [prB]; exact decide_eq_true hf
      have E1 := hid e1
      have E2 := hid e2
      clear e1 e2 hf
      simp only [stepN]
      obtain ⟨M, hM⟩ : ∃ M, M = a * b := ⟨_, rfl⟩
      rw [← hM]
      have HM := hid hM
      clear hM
      go_wp2_with fail
      go_ret2
      refine ⟨?_, hg⟩
      rw [E1.out, E2.out, ← HM.out]
      rfl
    | k + 3, hk => omega
end Go.Proofs.Ytfgiokaohbpeiaa
