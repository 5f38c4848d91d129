/-
  Multiples, and powers: the code's and the document's.
-/
import Derived.Test.YtgdnafafojiabaaDoorRoundSum
import Derived.Test.YtgdnafafojiabaaDoorRoundPop
import Derived.Lib.TrailingZeros
namespace Go.Proofs.YtgdnafafojiabaaDoor
open Go.RowKit

/-! ### Multiples -/
def upO (n s : Nat) : Option Nat := if dnV n s = n then some n else foldN (fun x y => x + y) (dnV n s) [s]
theorem addO_two (a b : Nat) (ha : a < 18446744073709551616) : addO [a, b] = foldN (fun x y => x + y) a [b] := by
  show foldN (fun x y => x + y) 0 (a :: [b]) = _
  rw [foldN]
  simp only [Nat.zero_add]
  rw [if_pos ha]
theorem mem_two {a b : Nat} (ha : a < 18446744073709551616) (hb : b < 18446744073709551616) : ∀ x, x ∈ [a, b] → x < 18446744073709551616 := by
  intro x hx
  simp at hx
  rcases hx with rfl | rfl <;> assumption

theorem rdown_any (n s : Nat) (hn : n < 18446744073709551616) (hs2 : s < 18446744073709551616) (hs : 1 ≤ s) (w : World) :
    Calls Tryd.prog 15 #[.int .u64 (n : Int), .int .u64 (s : Int)] w fun e w' => e = .returned (.tuple #[.int .u64 (dnV n s : Nat), .int .i64 0]) ∧ w.grownBy w' none := by
  have hgA := g_alloc (g_refl w none) (.cells #[.int .u64 (s : Int), .int .u64 (n : Int)] 55)
  have b1 := Blk.new w [.int .u64 (s : Int), .int .u64 (n : Int)] 55
  have k0 := b1.cellOf (i := 0) rfl
  have k1 := b1.cellOf (i := 1) rfl
  have hd := down_any s n hs hs2 hn
  have hz : (((s : Int)) == 0) = false := by simp; omega
  have hno : ∀ w : World, Calls Tryd.prog 32 #[.int .u64 (s : Int)] w fun e w' => e = .returned (.bool false) ∧ w = w' := fun w => (none_any s w).mono fun e w' h => by rw [hz] at h; exact h
  clear hz
  go_enter Tryd.func15, Tryd.ntmps15
  go_wp2_with fail
  refine (hno _).mono ?_
  rintro e w1 ⟨rfl, rfl⟩
  go_wp2_with fail
  refine (hd _).mono ?_
  rintro e w2 ⟨rfl, hg2⟩
  go_wp2
  go_ret2
  exact ⟨rfl, g_none hgA hg2⟩

theorem rdown0_any (n : Nat) (hn : n < 18446744073709551616) (w : World) :
    Calls Tryd.prog 15 #[.int .u64 (n : Int), .int .u64 0] w fun e w' => e = .returned (.tuple #[.int .u64 0, .int .i64 2]) ∧ w.grownBy w' none := by
  have hgA := g_alloc (g_refl w none) (.cells #[.int .u64 0, .int .u64 (n : Int)] 55)
  have b1 := Blk.new w [.int .u64 0, .int .u64 (n : Int)] 55
  have k0 := b1.cellOf (i := 0) rfl
  have k1 := b1.cellOf (i := 1) rfl
  go_enter Tryd.func15, Tryd.ntmps15
  go_wp2_with fail
  refine (none_any 0 _).mono ?_
  rintro e w1 ⟨rfl, rfl⟩
  go_wp2
  go_ret2
  exact ⟨rfl, hgA⟩
theorem rup0_any (n : Nat) (hn : n < 18446744073709551616) (w : World) :
    Calls Tryd.prog 14 #[.int .u64 (n : Int), .int .u64 0] w fun e w' => e = .returned (.tuple #[.int .u64 0, .int .i64 2]) ∧ w.grownBy w' none := by
  have hgA := g_alloc (g_refl w none) (.cells #[.int .u64 0, .int .u64 (n : Int)] 55)
  have b1 := Blk.new w [.int .u64 0, .int .u64 (n : Int)] 55
  have k0 := b1.cellOf (i := 0) rfl
  have k1 := b1.cellOf (i := 1) rfl
  go_enter Tryd.func14, Tryd.ntmps14
  go_wp2_with fail
  refine (none_any 0 _).mono ?_
  rintro e w1 ⟨rfl, rfl⟩
  go_wp2
  go_ret2
  exact ⟨rfl, hgA⟩
theorem rmany0_any (n : Nat) (hn : n < 18446744073709551616) (w : World) :
    Calls Tryd.prog 16 #[.int .u64 (n : Int), .int .u64 0] w fun e w' => e = .returned (.tuple #[.int .u64 0, .int .i64 2]) ∧ w.grownBy w' none := by
  have hgA := g_alloc (g_refl w none) (.cells #[.int .u64 0, .int .u64 (n : Int)] 55)
  have b1 := Blk.new w [.int .u64 0, .int .u64 (n : Int)] 55
  have k0 := b1.cellOf (i := 0) rfl
  have k1 := b1.cellOf (i := 1) rfl
  go_enter Tryd.func16, Tryd.ntmps16
  go_wp2_with fail
  refine (none_any 0 _).mono ?_
  rintro e w1 ⟨rfl, rfl⟩
  go_wp2
  go_ret2
  exact ⟨rfl, hgA⟩

set_option maxHeartbeats 1000000 in
theorem rup_any (n s : Nat) (hn : n < 18446744073709551616) (hs2 : s < 18446744073709551616) (hs : 1 ≤ s) (w : World) :
    Calls Tryd.prog 14 #[.int .u64 (n : Int), .int .u64 (s : Int)] w fun e w' => e = .returned (.tuple #[.int .u64 (valO (upO n s) : Nat), .int .i64 (errO (upO n s))]) ∧ w.grownBy w' none := by
  have hgA := g_alloc (g_refl w none) (.cells #[.int .u64 (s : Int), .int .u64 (n : Int)] 55)
  have b1 := Blk.new w [.int .u64 (s : Int), .int .u64 (n : Int)] 55
  have k0 := b1.cellOf (i := 0) rfl
  have k1 := b1.cellOf (i := 1) rfl
  have hd := down_any s n hs hs2 hn
  have hdl := dn_le n s
  have hz : (((s : Int)) == 0) = false := by simp; omega
  have hno : ∀ w : World, Calls Tryd.prog 32 #[.int .u64 (s : Int)] w fun e w' => e = .returned (.bool false) ∧ w = w' := fun w => (none_any s w).mono fun e w' h => by rw [hz] at h; exact h
  clear hz
  by_cases he : dnV n s = n
  · rw [show upO n s = some n by simp [upO, he]]
    rw [he] at hd
    rw [show valO (some n) = n from rfl, show errO (some n) = 0 from rfl]
    clear he hdl
    go_enter Tryd.func14, Tryd.ntmps14
    go_wp2_with fail
    refine (hno _).mono ?_
    rintro e w1 ⟨rfl, rfl⟩
    go_wp2_with fail
    refine (hd _).mono ?_
    rintro e w2 ⟨rfl, hg2⟩
    go_wp2
    go_ret2
    exact ⟨rfl, g_none hgA hg2⟩
  · have hu : upO n s = addO [dnV n s, s] := by rw [addO_two _ _ (by omega), upO, if_neg he]
    rw [hu]
    clear hu
    have hDl : dnV n s < 18446744073709551616 := by omega
    generalize dnV n s = D at *
    have hne : (((D : Nat) : Int) == (n : Int)) = false := by simp; omega
    clear he hdl
    have hmm := mem_two hDl hs2
    obtain ⟨V, hV⟩ : ∃ V, V = valO (addO [D, s]) := ⟨_, rfl⟩
    obtain ⟨E, hE⟩ : ∃ E, E = errO (addO [D, s]) := ⟨_, rfl⟩
    have had : ∀ (v : Value) (w : World), LU w v [D, s] → Calls Tryd.prog 9 #[v] w fun e w' => e = .returned (.tuple #[.int .u64 (V : Int), .int .i64 E]) ∧ w.grownBy w' none := fun v w h => by rw [hV, hE]; exact add_any v _ w h
    rw [← hV, ← hE]
    clear hV hE
    go_enter Tryd.func14, Tryd.ntmps14
    go_wp2_with fail
    refine (hno _).mono ?_
    rintro e w1 ⟨rfl, rfl⟩
    go_wp2_with fail
    refine (hd _).mono ?_
    rintro e w2 ⟨rfl, hg2⟩
    have k2 := g_cellN hg2 k0
    have k3 := g_cellN hg2 k1
    go_wp2_with fail
    refine (hd _).mono ?_
    rintro e w3 ⟨rfl, hg3⟩
    have hLU := LU.new w3 w3.heap.size rfl 24 [D, s] (by simp) hmm
    have hgB := g_alloc (g_refl w3 none) (.cells #[.int .u64 (D : Int), .int .u64 (s : Int)] 24)
    go_wp2_with fail
    refine (had _ _ hLU).mono ?_
    rintro e w4 ⟨rfl, hg4⟩
    go_wp2
    go_ret2
    exact ⟨rfl, g_none (g_none (g_none (g_none hgA hg2) hg3) hgB) hg4⟩

def manyV (n s : Nat) : Nat := if dnV n s = n then n / s else n / s + 1
theorem many_lt (n s : Nat) (hs : 1 ≤ s) (hn : n < 18446744073709551616) : dnV n s ≠ n → n / s + 1 < 18446744073709551616 := by
  intro h
  by_cases h1 : s = 1
  · subst h1
    exact absurd (by simp [dnV]) h
  · have h2 : n / s ≤ n / 2 := Nat.div_le_div_left (by omega) (by omega)
    omega
theorem rmany_any (n s : Nat) (hn : n < 18446744073709551616) (hs2 : s < 18446744073709551616) (hs : 1 ≤ s) (w : World) :
    Calls Tryd.prog 16 #[.int .u64 (n : Int), .int .u64 (s : Int)] w fun e w' => e = .returned (.tuple #[.int .u64 (manyV n s : Nat), .int .i64 0]) ∧ w.grownBy w' none := by
  have hgA := g_alloc (g_refl w none) (.cells #[.int .u64 (s : Int), .int .u64 (n : Int)] 55)
  have b1 := Blk.new w [.int .u64 (s : Int), .int .u64 (n : Int)] 55
  have k0 := b1.cellOf (i := 0) rfl
  have k1 := b1.cellOf (i := 1) rfl
  have hd := down_any s n hs hs2 hn
  have hdl := dn_le n s
  have hsz : ¬ ((s : Int) = 0) := by omega
  have hz : (((s : Int)) == 0) = false := by simp; omega
  have hno : ∀ w : World, Calls Tryd.prog 32 #[.int .u64 (s : Int)] w fun e w' => e = .returned (.bool false) ∧ w = w' := fun w => (none_any s w).mono fun e w' h => by rw [hz] at h; exact h
  clear hz
  have hQ : IntKind.u64.wrap ((n : Int) / (s : Int)) = ((n / s : Nat) : Int) := by
    rw [show (n : Int) / (s : Int) = ((n / s : Nat) : Int) by simp]
    exact wrap_nat _ (Nat.lt_of_le_of_lt (Nat.div_le_self n s) hn)
  have hQ0 : (n : Int) / (s : Int) = ((n / s : Nat) : Int) := by simp
  by_cases he : dnV n s = n
  · rw [show manyV n s = n / s by simp [manyV, he]]
    rw [he] at hd
    clear he hdl
    rw [← hQ]
    clear hQ hQ0
    go_enter Tryd.func16, Tryd.ntmps16
    go_wp2_with fail
    refine (hno _).mono ?_
    rintro e w1 ⟨rfl, rfl⟩
    go_wp2_with fail
    refine (hd _).mono ?_
    rintro e w2 ⟨rfl, hg2⟩
    go_wp2
    go_ret2
    exact ⟨rfl, g_none hgA hg2⟩
  · rw [show manyV n s = n / s + 1 by simp [manyV, he]]
    have hml := many_lt n s hs hn he
    have hne : (((dnV n s : Nat) : Int) != (n : Int)) = true := by simp; omega
    have hW : IntKind.u64.wrap (IntKind.u64.wrap ((n : Int) / (s : Int)) + 1) = ((n / s + 1 : Nat) : Int) := by
      have h1 := wrap_nat _ hml
      rw [Int.natCast_add] at h1
      rw [hQ]
      exact h1
    rw [← hW]
    clear hW hQ hQ0 hml
    generalize dnV n s = D at *
    clear he hdl
    go_enter Tryd.func16, Tryd.ntmps16
    go_wp2_with fail
    refine (hno _).mono ?_
    rintro e w1 ⟨rfl, rfl⟩
    go_wp2_with fail
    refine (hd _).mono ?_
    rintro e w2 ⟨rfl, hg2⟩
    go_wp2
    go_ret2
    exact ⟨rfl, g_none hgA hg2⟩

theorem refUp_any (n s : Nat) (hn : n < 18446744073709551616) (hs2 : s < 18446744073709551616) (hs : 1 ≤ s) (w : World) :
    Calls Tryd.prog 17 #[.int .u64 (n : Int), .int .u64 (s : Int)] w fun e w' => e = .returned (.tuple #[.int .u64 (valO (upO n s) : Nat), .int .i64 (errO (upO n s))]) ∧ w = w' := by
  have hd := refDown_any n s hs hs2 hn
  have hdl := dn_le n s
  by_cases he : dnV n s = n
  · rw [show upO n s = some n by simp [upO, he]]
    rw [he] at hd
    rw [show valO (some n) = n from rfl, show errO (some n) = 0 from rfl]
    clear he hdl
    go_enter Tryd.func17, Tryd.ntmps17
    go_wp2_with fail
    refine (hd _).mono ?_
    rintro e w2 ⟨rfl, rfl⟩
    go_wp2
    go_ret2
    exact ⟨rfl, rfl⟩
  · rw [show upO n s = foldN (fun x y => x + y) (dnV n s) [s] by rw [upO, if_neg he]]
    have hp := plus_any (dnV n s) s (by omega) hs2
    have hne : (((dnV n s : Nat) : Int) == (n : Int)) = false := by simp; omega
    generalize dnV n s = D at *
    clear he hdl
    by_cases hf : D + s < 18446744073709551616
    · rw [show foldN (fun x y => x + y) D [s] = some (D + s) by simp [foldN, hf]] at hp ⊢
      rw [show valO (some (D + s)) = D + s from rfl, show okO (some (D + s)) = true from rfl] at hp
      rw [show valO (some (D + s)) = D + s from rfl, show errO (some (D + s)) = 0 from rfl]
      generalize D + s = M at *
      clear hf
      go_enter Tryd.func17, Tryd.ntmps17
      go_wp2_with fail
      refine (hd _).mono ?_
      rintro e w2 ⟨rfl, rfl⟩
      go_wp2_with fail
      refine (hp _).mono ?_
      rintro e w3 ⟨rfl, rfl⟩
      go_wp2
      go_ret2
      exact ⟨rfl, rfl⟩
    · rw [show foldN (fun x y => x + y) D [s] = none by simp [foldN, hf]] at hp ⊢
      rw [show valO none = 0 from rfl, show okO none = false from rfl] at hp
      clear hf
      go_enter Tryd.func17, Tryd.ntmps17
      go_wp2_with fail
      refine (hd _).mono ?_
      rintro e w2 ⟨rfl, rfl⟩
      go_wp2_with fail
      refine (hp _).mono ?_
      rintro e w3 ⟨rfl, rfl⟩
      go_wp2
      go_ret2
      exact ⟨rfl, rfl⟩

theorem refMany_any (n s : Nat) (hn : n < 18446744073709551616) (hs2 : s < 18446744073709551616) (hs : 1 ≤ s) (w : World) :
    Calls Tryd.prog 19 #[.int .u64 (n : Int), .int .u64 (s : Int)] w fun e w' => e = .returned (.int .u64 (manyV n s : Nat)) ∧ w = w' := by
  have hsz : ¬ ((s : Int) = 0) := by omega
  have hQ : IntKind.u64.wrap ((n : Int) / (s : Int)) = ((n / s : Nat) : Int) := by
    rw [show (n : Int) / (s : Int) = ((n / s : Nat) : Int) by simp]
    exact wrap_nat _ (Nat.lt_of_le_of_lt (Nat.div_le_self n s) hn)
  by_cases he : dnV n s = n
  · rw [show manyV n s = n / s by simp [manyV, he]]
    have hmod : (n : Int) % (s : Int) = 0 := by
      have := dn_mod n s
      have h1 := Nat.mod_le n s
      omega
    rw [← hQ]
    clear hQ he
    go_enter Tryd.func19, Tryd.ntmps19
    go_wp2
    go_ret
    exact ⟨rfl, rfl⟩
  · rw [show manyV n s = n / s + 1 by simp [manyV, he]]
    have hml := many_lt n s hs hn he
    have hmod : ¬ ((n : Int) % (s : Int) = 0) := by
      have := dn_mod n s
      have h1 := Nat.mod_le n s
      omega
    have hW : IntKind.u64.wrap (IntKind.u64.wrap ((n : Int) / (s : Int)) + 1) = ((n / s + 1 : Nat) : Int) := by
      have h1 := wrap_nat _ hml
      rw [Int.natCast_add] at h1
      rw [hQ]
      exact h1
    rw [← hW]
    clear hW hQ hml he
    go_enter Tryd.func19, Tryd.ntmps19
    go_wp2
    go_ret
    exact ⟨rfl, rfl⟩
end Go.Proofs.YtgdnafafojiabaaDoor
