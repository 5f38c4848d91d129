/-
  Powers of two, and how many pages: the code's and the document's.
-/
import Derived.Test.YtfgiokaohbpeiaaSizeFit
namespace Go.Proofs.Ytfgiokaohbpeiaa
open Go.RowKit

theorem none_any (n : Int) (w : World) : Calls Try.prog 40 #[.int .u64 n] w fun e w' => e = .returned (.bool (n == 0)) ∧ w = w' := by
  go_enter Try.func40, Try.ntmps40
  go_wp2
  go_ret
  exact ⟨rfl, rfl⟩

theorem down_any (s n : Int) (hs : 1 ≤ s) (hs2 : s < 18446744073709551616) (hn : 0 ≤ n) (hn2 : n < 18446744073709551616) (w : World) :
    Calls Try.prog 41 #[.agg #[.int .u64 s, .int .u64 n]] w fun e w' => e = .returned (.int .u64 (n - n % s)) ∧ w.grownBy w' none := by
  have hgA := g_alloc (g_refl w none) (.cells #[.int .u64 s, .int .u64 n] 68)
  have b1 := Blk.new w [.int .u64 s, .int .u64 n] 68
  have k0 := b1.cellOf (i := 0) rfl
  have k1 := b1.cellOf (i := 1) rfl
  have hne : ¬ s = 0 := by omega
  have hm0 := Int.emod_nonneg n hne
  have hm1 : n % s ≤ n := by
    have h1 := Int.emod_def n s
    have h2 : 0 ≤ s * (n / s) := Int.mul_nonneg (by omega) (Int.ediv_nonneg hn (by omega))
    omega
  go_enter Try.func41, Try.ntmps41
  go_wp2
  go_quiet (fail)
  go_wp2
  go_ret
  exact ⟨rfl, g_drewM hgA nq⟩

def band (a b : Int) : Int := bits BinOp.and IntKind.u64 a b
def p1 (n : Int) : Int := IntKind.u64.wrap (band (n / 2) 6148914691236517205 + band n 6148914691236517205)
def p2 (n : Int) : Int := IntKind.u64.wrap (band (n / 4) 3689348814741910323 + band n 3689348814741910323)
def p3 (n : Int) : Int := band (IntKind.u64.wrap (n / 16 + n)) 1085102592571150095
def p4 (n : Int) : Int := IntKind.u64.wrap (n + n / 256)
def p5 (n : Int) : Int := IntKind.u64.wrap (n + n / 65536)
def p6 (n : Int) : Int := IntKind.u64.wrap (n + n / 4294967296)
def p7 (n : Int) : Int := bits BinOp.and IntKind.i64 (wrap64 n) 127
def popV (n : Int) : Int := p7 (p6 (p5 (p4 (p3 (p2 (p1 n))))))
theorem ones_any (n : Int) (hn : 0 ≤ n) (hn2 : n < 18446744073709551616) (w : World) :
    Calls Try.prog 39 #[.int .u64 n] w fun e w' => e = .returned (.int .i64 (popV n)) ∧ w = w' := by
  go_enter Try.func39, Try.ntmps39
  go_wp2
  go_ret
  exact ⟨rfl, rfl⟩

def powB (n : Nat) : Bool := n == 1 || n == 2 || n == 4 || n == 8 || n == 16 || n == 32 || n == 64 || n == 128 || n == 256
theorem pop_small : ∀ n : Fin 257, (popV (n.1 : Int) == 1) = powB n.1 := by decide +kernel
theorem power_any (n : Int) (hn : 0 ≤ n) (hn2 : n < 18446744073709551616) (w : World) :
    Calls Try.prog 31 #[.int .u64 n] w fun e w' => e = .returned (.bool (popV n == 1)) ∧ w = w' := by
  have ho := ones_any n hn hn2 w
  obtain ⟨P, hP⟩ : ∃ P, P = popV n := ⟨_, rfl⟩
  rw [← hP] at ho ⊢
  clear hP
  go_enter Try.func31, Try.ntmps31
  go_wp2_with fail
  refine ho.mono ?_
  rintro e w1 ⟨rfl, rfl⟩
  go_wp2
  go_ret
  exact ⟨rfl, rfl⟩

/-- How many steps. -/
def manyV (n s : Int) : Int := if n % s = 0 then n / s else n / s + 1
theorem many_any (n : Int) (hn : 0 ≤ n) (hn2 : n ≤ 262144) (w : World) :
    Calls Try.prog 32 #[.int .u64 n, .int .u64 256] w fun e w' => e = .returned (.tuple #[.int .u64 (manyV n 256), .int .i64 0]) ∧ w.grownBy w' none := by
  have hgA := g_alloc (g_refl w none) (.cells #[.int .u64 256, .int .u64 n] 68)
  have b1 := Blk.new w [.int .u64 256, .int .u64 n] 68
  have k0 := b1.cellOf (i := 0) rfl
  have k1 := b1.cellOf (i := 1) rfl
  have hd := down_any 256 n (by omega) (by omega) hn (by omega)
  by_cases h : n % 256 = 0
  · rw [show manyV n 256 = n / 256 by simp [manyV, h]]
    rw [h, Int.sub_zero] at hd
    go_enter Try.func32, Try.ntmps32
    go_wp2_with fail
    refine (none_any 256 _).mono ?_
    rintro e w1 ⟨rfl, rfl⟩
    go_wp2_with fail
    refine (hd _).mono ?_
    rintro e w2 ⟨rfl, hg2⟩
    go_wp2
    go_ret2
    exact ⟨rfl, g_none hgA hg2⟩
  · rw [show manyV n 256 = n / 256 + 1 by simp [manyV, h]]
    have hne : ((n - n % 256) != n) = true := by simp; omega
    obtain ⟨D, hD⟩ : ∃ D, D = n - n % 256 := ⟨_, rfl⟩
    rw [← hD] at hd hne
    clear hD h
    go_enter Try.func32, Try.ntmps32
    go_wp2_with fail
    refine (none_any 256 _).mono ?_
    rintro e w1 ⟨rfl, rfl⟩
    go_wp2_with fail
    refine (hd _).mono ?_
    rintro e w2 ⟨rfl, hg2⟩
    go_wp2
    go_ret2
    exact ⟨rfl, g_none hgA hg2⟩

/-- Which power; -1: none. -/
def LogIs (n r : Int) : Prop := (∃ k : Nat, k < 64 ∧ n = ((2 ^ k : Nat) : Int) ∧ r = k) ∨ ((∀ k : Nat, k < 64 → n ≠ ((2 ^ k : Nat) : Int)) ∧ r = -1)
theorem refLog_any (n : Int) (w : World) :
    Calls Try.prog 33 #[.int .u64 n] w fun e w' => ∃ r, e = .returned (.int .i64 r) ∧ LogIs n r ∧ w = w' := by
  go_enter Try.func33, Try.ntmps33
  go_wp2
  go_loopw [3, 4] (fun u v wr => ∃ (k : Nat), k ≤ 64 ∧ v = .int .i64 k ∧ (k < 64 → u = .int .u64 ((2 ^ k : Nat) : Int)) ∧ (∃ x, u = .int .u64 x) ∧ (∀ j : Nat, j < k → n ≠ ((2 ^ j : Nat) : Int)) ∧ w = wr) (fun _ v _ => 64 - (intOf v).toNat)
  case atStart => exact ⟨0, by omega, rfl, fun _ => rfl, ⟨_, rfl⟩, fun j hj => by omega, rfl⟩
  case round =>
    obtain ⟨k, hk, rfl, hu, ⟨x, rfl⟩, hn, rfl⟩ := hrel
    have HN := hid hn
    have HU := hid hu
    clear hn hu
    by_cases hlt : k < 64
    · have hux := HU.out hlt
      obtain rfl : x = ((2 ^ k : Nat) : Int) := by simpa using hux
      obtain ⟨X, hX⟩ : ∃ X : Int, X = ((2 ^ k : Nat) : Int) := ⟨_, rfl⟩
      rw [← hX]
      have HX := hid hX
      clear hX hux HU
      by_cases he : (X == n) = true
      · go_wp2
        go_ret
        refine ⟨k, rfl, .inl ⟨k, hlt, ?_, rfl⟩, rfl⟩
        rw [← HX.out]
        exact (by simpa using he : X = n).symm
      · have he' : (X == n) = false := by simpa using he
        clear he
        go_wp2
        go_roundw
        case rel =>
          refine ⟨k + 1, by omega, by go_num, fun h => ?_, ⟨_, rfl⟩, fun j hj => ?_, trivial⟩
          · have hX := HX.out
            have h1 : (2 : Nat) ^ (k + 1) = 2 ^ k * 2 := Nat.pow_succ 2 k
            have h2 : (2 : Nat) ^ (k + 1) ≤ 9223372036854775808 := Nat.le_trans (Nat.pow_le_pow_right (by omega) (show k + 1 ≤ 63 by omega)) (by decide)
            have h3 : ((2 ^ (k + 1) : Nat) : Int) = X * 2 := by rw [h1, hX]; push_cast; rfl
            rw [h3]
            have h4 : X * 2 ≤ 9223372036854775808 := by rw [← h3]; exact Int.ofNat_le.2 h2
            have h5 : 0 ≤ X := by rw [hX]; exact Int.natCast_nonneg _
            rw [IntKind.wrap_u64, Int.emod_eq_of_lt (by omega) (by omega)]
          · by_cases hjk : j < k
            · exact HN.out j hjk
            · obtain rfl : j = k := by omega
              rw [← HX.out]
              intro e
              rw [e] at he'
              simp at he'
        case measure => simp [intOf]; omega
    · obtain rfl : k = 64 := by omega
      go_wp2
      go_ret
      exact ⟨-1, rfl, .inr ⟨HN.out, rfl⟩, rfl⟩
end Go.Proofs.Ytfgiokaohbpeiaa
