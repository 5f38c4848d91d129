/-
  Numbers of the round: a slice of them in memory; what comes of them, one by one; the small functions' contracts.
-/
import Derived.Test.YtgdnafafojiabaaDoorProg
import Derived.Test.YtgdnafafojiabaaDoorLib
import Derived.Test.YtgdnafafojiabaaDoorIter
import Derived.Test.YtgdnafafojiabaaDoorStill
import Derived.Test.YtgdnafafojiabaaDoorScope
import Derived.Test.YtgdnafafojiabaaDoorStage
import Derived.Test.YtgdnafafojiabaaDoorKeep
import Derived.Test.YtgdnafafojiabaaDoorRow
import Derived.WalkSpells
import Derived.WalkLawsBesides
import Derived.BigQuiet
import Derived.StillTailTactics
import Derived.OwnWalk
import Derived.Maps.OwnIn
import Derived.Deep.RegionHeld3
import Derived.Deep.AppendLies
import Derived.Deep.RegionWith
import Derived.Laws.Externs
namespace Go.Proofs.YtgdnafafojiabaaDoor
open Go.RowKit

theorem cell_lt {A : World} {p i : Nat} {v : Value} (hc : A.cell? ⟨p, i, none⟩ = some v) : p < A.heap.size := by
  by_cases h : p < A.heap.size
  · exact h
  · have h0 : A.heap[p]? = none := Array.getElem?_eq_none (by omega)
    simp [World.cell?, h0] at hc
theorem g_drewM {w w1 : World} {row : Option Nat} (h : w.grownBy w1 row) (n : Nat) : w.grownBy (w1.drewN n) row := ⟨h.os, h.tape, h.output, h.size, h.block⟩
theorem drewN_cell (w : World) (n : Nat) (a : Addr) : (w.drewN n).cell? a = w.cell? a := rfl

/-- A slice that reads as a list of numbers, from wherever it begins. -/
def LU (w : World) (v : Value) (xs : List Nat) : Prop :=
  ∃ (a : Option Addr) (cap : Nat), v = .slice a xs.length cap ∧ xs.length ≤ 1000 ∧ xs.length ≤ cap ∧ cap ≤ maxLen ∧ (∀ x, x ∈ xs → x < 18446744073709551616) ∧ (0 < xs.length → ∃ g off, a = some ⟨g, off, none⟩ ∧
    ∀ (i : Nat) (x : Nat), xs[i]? = some x → w.cell? ⟨g, off + i, none⟩ = some (.int .u64 (x : Int)))
theorem LU.kept {w w' : World} {v : Value} {xs : List Nat} {row : Option Nat} (h : LU w v xs) (hg : w.grownBy w' row) (hne : ∀ r, row = some r → v.ownBlock ≠ some r) : LU w' v xs := by
  obtain ⟨a, cap, rfl, hl, hcp, hm, hx, hc⟩ := h
  refine ⟨a, cap, rfl, hl, hcp, hm, hx, fun h0 => ?_⟩
  obtain ⟨g, off, rfl, hx⟩ := hc h0
  exact ⟨g, off, rfl, fun i x hi => by rw [← hx i x hi]; exact g_cell (a := ⟨g, off + i, none⟩) hg (cell_lt (hx i x hi)) (fun e => hne g e.symm rfl)⟩
theorem LU.keptN {w w' : World} {v : Value} {xs : List Nat} (h : LU w v xs) (hg : w.grownBy w' none) : LU w' v xs := h.kept hg (fun r e => by cases e)
theorem LU.at {w : World} {v : Value} {xs : List Nat} (h : LU w v xs) {k : Nat} {x : Nat} (hk : xs[k]? = some x) : ∃ g off cap, v = .slice (some ⟨g, off, none⟩) xs.length cap ∧ w.cell? ⟨g, off + k, none⟩ = some (.int .u64 (x : Int)) := by
  obtain ⟨a, cap, rfl, hl, hcp, hm, hx, hc⟩ := h
  have := (List.getElem?_eq_some_iff.1 hk).1
  obtain ⟨g, off, rfl, hx⟩ := hc (by omega)
  exact ⟨g, off, cap, rfl, hx _ _ hk⟩
theorem LU.lt {w : World} {v : Value} {xs : List Nat} (h : LU w v xs) {k : Nat} {x : Nat} (hk : xs[k]? = some x) : x < 18446744073709551616 := by
  obtain ⟨a, cap, rfl, hl, hcp, hm, hx, hc⟩ := h
  exact hx x (List.mem_of_getElem? hk)
theorem LU.len {w : World} {v : Value} {xs : List Nat} (h : LU w v xs) : ∃ a cap, v = .slice a xs.length cap ∧ xs.length ≤ 1000 ∧ xs.length ≤ cap ∧ cap ≤ maxLen := by
  obtain ⟨a, cap, rfl, hl, hcp, hm, _⟩ := h
  exact ⟨a, cap, rfl, hl, hcp, hm⟩
theorem LU.new (w : World) (b : Nat) (hb : w.heap.size = b) (T : TypeId) (xs : List Nat) (hl : xs.length ≤ 20) (hx : ∀ x, x ∈ xs → x < 18446744073709551616) :
    LU (w.alloc (.cells (xs.map fun (x : Nat) => Value.int .u64 (x : Int)).toArray T)) (.slice (some ⟨b, 0, none⟩) xs.length xs.length) xs := by
  subst hb
  refine ⟨_, _, rfl, by omega, Nat.le_refl _, by simp [maxLen]; omega, hx, fun _ => ⟨_, _, rfl, fun i x hi => ?_⟩⟩
  rw [Nat.zero_add]
  exact (Blk.new w (xs.map fun (x : Nat) => Value.int .u64 (x : Int)) T).cellOf (by simp [hi])

/-! ### One by one -/
def foldN (op : Nat → Nat → Nat) : Nat → List Nat → Option Nat
  | a, [] => some a
  | a, x :: l => if op a x < 18446744073709551616 then foldN op (op a x) l else none
def valO (o : Option Nat) : Nat := o.getD 0
def okO (o : Option Nat) : Bool := o.isSome
def errO : Option Nat → Int
  | some _ => 0
  | none => 120
theorem foldN_end {op : Nat → Nat → Nat} {a0 acc : Nat} {ns : List Nat} {k : Nat} (h : foldN op a0 ns = foldN op acc (ns.drop k)) (hk : k = ns.length) : foldN op a0 ns = some acc := by
  rw [h, hk, List.drop_length]; rfl
theorem foldN_step {op : Nat → Nat → Nat} {a0 acc x : Nat} {ns : List Nat} {k : Nat} (h : foldN op a0 ns = foldN op acc (ns.drop k)) (hk : ns[k]? = some x) (hx : op acc x < 18446744073709551616) : foldN op a0 ns = foldN op (op acc x) (ns.drop (k + 1)) := by
  obtain ⟨hlt, he⟩ := List.getElem?_eq_some_iff.1 hk
  rw [h, List.drop_eq_getElem_cons hlt, he, foldN, if_pos hx]
theorem foldN_over {op : Nat → Nat → Nat} {a0 acc x : Nat} {ns : List Nat} {k : Nat} (h : foldN op a0 ns = foldN op acc (ns.drop k)) (hk : ns[k]? = some x) (hx : ¬ op acc x < 18446744073709551616) : foldN op a0 ns = none := by
  obtain ⟨hlt, he⟩ := List.getElem?_eq_some_iff.1 hk
  rw [h, List.drop_eq_getElem_cons hlt, he, foldN, if_neg hx]
theorem foldN_lt {op : Nat → Nat → Nat} : ∀ (l : List Nat) (a : Nat), a < 18446744073709551616 → valO (foldN op a l) < 18446744073709551616
  | [], a, h => h
  | x :: l, a, h => by
    rw [foldN]
    split
    · exact foldN_lt l _ (by assumption)
    · decide

/-! ### Small functions -/
theorem num_any (n : Int) (w : World) : Calls Tryd.prog 13 #[.int .i64 n] w fun e w' => e = .returned (.int .i64 n) ∧ w = w' := by
  go_enter Tryd.func13, Tryd.ntmps13
  go_wp2
  go_ret
  exact ⟨rfl, rfl⟩

theorem none_any (n : Int) (w : World) : Calls Tryd.prog 32 #[.int .u64 n] w fun e w' => e = .returned (.bool (n == 0)) ∧ w = w' := by
  go_enter Tryd.func32, Tryd.ntmps32
  go_wp2
  go_ret
  exact ⟨rfl, rfl⟩

def dnV (n s : Nat) : Nat := n / s * s
theorem dn_mod (n s : Nat) : n - n % s = dnV n s := by
  have h1 := Nat.div_add_mod n s
  have h2 := Nat.mul_comm s (n / s)
  unfold dnV
  omega
theorem dn_le (n s : Nat) : dnV n s ≤ n := by rw [← dn_mod]; exact Nat.sub_le _ _

theorem down_any (s n : Nat) (hs : 1 ≤ s) (hs2 : s < 18446744073709551616) (hn2 : n < 18446744073709551616) (w : World) :
    Calls Tryd.prog 33 #[.agg #[.int .u64 (s : Int), .int .u64 (n : Int)]] w fun e w' => e = .returned (.int .u64 (dnV n s : Nat)) ∧ w.grownBy w' none := by
  have hgA := g_alloc (g_refl w none) (.cells #[.int .u64 (s : Int), .int .u64 (n : Int)] 55)
  have b1 := Blk.new w [.int .u64 (s : Int), .int .u64 (n : Int)] 55
  have k0 := b1.cellOf (i := 0) rfl
  have k1 := b1.cellOf (i := 1) rfl
  have hne : ¬ (s : Int) = 0 := by omega
  have hm0 := Int.emod_nonneg (n : Int) hne
  have hm1 : (n : Int) % (s : Int) ≤ n := by
    have := Nat.mod_le n s
    omega
  have he : ((dnV n s : Nat) : Int) = (n : Int) - (n : Int) % (s : Int) := by
    have h1 := Nat.mod_le n s
    rw [← dn_mod, Int.natCast_sub h1]
    rfl
  rw [he]
  clear he
  go_enter Tryd.func33, Tryd.ntmps33
  go_wp2
  go_quiet (fail)
  go_wp2
  go_ret
  exact ⟨rfl, g_drewM hgA nq⟩

theorem told_any (n : Int) (b : Bool) (w : World) :
    Calls Tryd.prog 24 #[.int .u64 n, .bool b] w fun e w' => e = .returned (.tuple #[.int .u64 (if b then n else 0), .int .i64 (if b then 0 else 120)]) ∧ w = w' := by
  cases b with
  | true =>
    simp only [if_true]
    go_enter Tryd.func24, Tryd.ntmps24
    go_wp2
    refine wp_scope_fwd 0 rfl ?_
    go_wp2_with fail
    refine fwd_retI ?_
    go_ret2
    exact ⟨rfl, rfl⟩
  | false =>
    simp only [Bool.false_eq_true, if_false]
    go_enter Tryd.func24, Tryd.ntmps24
    go_wp2
    refine wp_scope_fwd 0 rfl ?_
    go_wp2_with fail
    go_step3
    simp only [Exit.then]
    refine fwd_goto ?_
    go_wp2
    refine noGoto_retI ?_
    go_ret2
    exact ⟨rfl, rfl⟩
theorem toldO_any (o : Option Nat) (w : World) :
    Calls Tryd.prog 24 #[.int .u64 (valO o : Nat), .bool (okO o)] w fun e w' => e = .returned (.tuple #[.int .u64 (valO o : Nat), .int .i64 (errO o)]) ∧ w = w' := by
  have h := told_any (valO o : Nat) (okO o) w
  cases o with
  | none => exact h
  | some x => exact h

/-- bits.Add64, of no carry. -/
theorem add64_law (x y : Nat) (hx : x < 18446744073709551616) (hy : y < 18446744073709551616) (w : World) :
    (callFunc 27 #[.int .u64 (x : Int), .int .u64 (y : Int), .int .u64 0]).run Tryd.prog w = .ok (.value (.tuple #[.int .u64 (((x + y) % 18446744073709551616 : Nat) : Int), .int .u64 (((x + y) / 18446744073709551616 : Nat) : Int)])) w := by
  rw [run_callFunc_extern Tryd.func27 (by kernel_rfl) (by kernel_rfl) (by kernel_rfl) (e := add64Entry) (by kernel_rfl), run_add64 x y 0 (by omega) (by omega) (by omega) (by omega)]
  simp only [Result.andThen]
  congr 5 <;> omega
theorem add1_any (x y : Nat) (hx : x < 18446744073709551616) (hy : y < 18446744073709551616) (w : World) :
    Calls Tryd.prog 26 #[.int .u64 (x : Int), .int .u64 (y : Int)] w fun e w' => e = .returned (.tuple #[.int .u64 (((x + y) % 18446744073709551616 : Nat) : Int), .bool (decide (x + y < 18446744073709551616))]) ∧ w.grownBy w' none := by
  have hl := add64_law x y hx hy
  have hd : decide (x + y < 18446744073709551616) = ((((x + y) / 18446744073709551616 : Nat) : Int) == 0) := by
    rw [Bool.eq_iff_iff]
    simp only [decide_eq_true_eq, beq_iff_eq]
    omega
  rw [hd]
  obtain ⟨H, hH⟩ : ∃ H, H = (x + y) / 18446744073709551616 := ⟨_, rfl⟩
  obtain ⟨L, hL⟩ : ∃ L, L = (x + y) % 18446744073709551616 := ⟨_, rfl⟩
  rw [← hL] at hl ⊢
  simp only [← hH] at hl ⊢
  clear hH hL hd
  go_enter Tryd.func26, Tryd.ntmps26
  go_wp2_with (simp only [hl])
  go_ret2
  exact ⟨rfl, g_refl _ _⟩

theorem plus_any (a b : Nat) (ha : a < 18446744073709551616) (hb : b < 18446744073709551616) (w : World) :
    Calls Tryd.prog 30 #[.int .u64 (a : Int), .int .u64 (b : Int)] w fun e w' => e = .returned (.tuple #[.int .u64 (valO (foldN (· + ·) a [b]) : Nat), .bool (okO (foldN (· + ·) a [b]))]) ∧ w = w' := by
  by_cases h : a + b < 18446744073709551616
  · rw [show foldN (· + ·) a [b] = some (a + b) by simp [foldN, h]]
    have h1 : (b : Int) ≤ 18446744073709551615 - (a : Int) := by omega
    rw [show ((valO (some (a + b)) : Nat) : Int) = (a : Int) + (b : Int) by simp [valO], show okO (some (a + b)) = true from rfl]
    have h2 : (a : Int) + (b : Int) < 18446744073709551616 := by omega
    clear h
    have ha0 : (0 : Int) ≤ a := Int.natCast_nonneg a
    have hb0 : (0 : Int) ≤ b := Int.natCast_nonneg b
    have ha1 : (a : Int) < 18446744073709551616 := by omega
    have hb1 : (b : Int) < 18446744073709551616 := by omega
    have hs : ¬ ((18446744073709551615 : Int) - (a : Int) < (b : Int)) := by omega
    generalize (a : Int) = A at *
    generalize (b : Int) = B at *
    clear ha hb
    go_enter Tryd.func30, Tryd.ntmps30
    go_wp2
    go_ret2
    exact ⟨rfl, rfl⟩
  · rw [show foldN (· + ·) a [b] = none by simp [foldN, h]]
    have h1 : (18446744073709551615 : Int) - (a : Int) < (b : Int) := by omega
    clear h
    have ha0 : (0 : Int) ≤ a := Int.natCast_nonneg a
    have hb0 : (0 : Int) ≤ b := Int.natCast_nonneg b
    have ha1 : (a : Int) < 18446744073709551616 := by omega
    have hb1 : (b : Int) < 18446744073709551616 := by omega
    generalize (a : Int) = A at *
    generalize (b : Int) = B at *
    clear ha hb
    go_enter Tryd.func30, Tryd.ntmps30
    go_wp2
    go_ret2
    exact ⟨rfl, rfl⟩

theorem refDown_any (n s : Nat) (hs : 1 ≤ s) (hs2 : s < 18446744073709551616) (hn2 : n < 18446744073709551616) (w : World) :
    Calls Tryd.prog 18 #[.int .u64 (n : Int), .int .u64 (s : Int)] w fun e w' => e = .returned (.int .u64 (dnV n s : Nat)) ∧ w = w' := by
  have hne : ¬ (s : Int) = 0 := by omega
  have h0 := Int.ediv_nonneg (Int.natCast_nonneg n) (Int.natCast_nonneg s)
  have he : (n : Int) / (s : Int) * (s : Int) = ((dnV n s : Nat) : Int) := by simp [dnV]
  have h1 : IntKind.u64.wrap (IntKind.u64.wrap ((n : Int) / (s : Int)) * (s : Int)) = ((dnV n s : Nat) : Int) := by
    have h2 := dn_le n s
    have h3 : (n : Int) / (s : Int) = ((n / s : Nat) : Int) := by simp
    have h4 := Nat.div_le_self n s
    rw [show IntKind.u64.wrap ((n : Int) / (s : Int)) = (n : Int) / (s : Int) by rw [h3, IntKind.wrap_u64]; omega, he, IntKind.wrap_u64]
    omega
  rw [← h1]
  clear h1 he
  go_enter Tryd.func18, Tryd.ntmps18
  go_wp2
  go_ret
  exact ⟨rfl, rfl⟩
end Go.Proofs.YtgdnafafojiabaaDoor
