/-
  The iterators: places, Steps.
-/
import Derived.Test.YtgdnafafojiabaaDoorRoundSums
import Derived.Test.YtgdnafafojiabaaDoorHead
import Derived.LoopIn
import Derived.TacticsInMore
import Derived.WalkMore
import Derived.StillTailTactics
import Derived.Shelf.Abstract
namespace Go.Proofs.YtgdnafafojiabaaDoor
open Go.RowKit

theorem own_grown {α : Type} {B : Nat} {J : α → World → Prop} (h : OwnFrom B J) {s : α} {A W : World} (hA : J s A) (hg : A.grownBy W none) : J s W := h s A W none hA hg (fun r e => by cases e)
theorem own_mono {α : Type} {B B' : Nat} {J : α → World → Prop} (h : OwnFrom B J) (hB : B ≤ B') : OwnFrom B' J := fun s A W row hA hg hr => h s A W row hA hg (fun r e => ⟨Nat.le_trans hB (hr r e).1, (hr r e).2⟩)
/-- A box of one's own, that the loop's body does not write. -/
def Box (bs : List Nat) (rb : Option Nat) (B p : Nat) (v : Value) (W : World) : Prop := B ≤ W.heap.size ∧ NotW bs rb p W ∧ W.cell? ⟨p, 0, none⟩ = some v
section
variable {bs : List Nat} {rb : Option Nat} {B p : Nat} {v : Value} {A W W0 : World}
theorem Box.keeps (h : Box bs rb B p v A) (k : Keeps bs rb A W) : Box bs rb B p v W := ⟨Nat.le_trans h.1 k.size, h.2.1.keeps k, h.2.1.cell k h.2.2⟩
theorem Box.own {α : Type} (hf : Foot bs rb W0) : OwnFrom W0.heap.size (fun (_ : α) W => Box bs rb W0.heap.size p v W) := by
  rintro s A W row ⟨hB, hN, hc⟩ hg hr
  have hne : ∀ r, row = some r → p ≠ r := fun r e hpr => by
    obtain ⟨_, o, ho, hcl⟩ := hr r e
    subst hpr
    cases o <;> simp [Obj.isCells] at hcl <;> simp [World.cell?, ho] at hc
  refine ⟨Nat.le_trans hB hg.size, hN.grown (fun b hb => Nat.lt_of_lt_of_le (hf.bl b hb) hB) hf.mem hg (fun r e hrb => ?_), g_cell (a := ⟨p, 0, none⟩) hg hN.1 (fun e => hne p e.symm rfl) ▸ hc⟩
  have h1 : r < W0.heap.size := hf.bl r (hf.mem r hrb)
  have h2 : W0.heap.size ≤ r := (hr r e).1
  omega
theorem Box.new (hf : Foot bs rb W0) (hg : W0.grownBy W none) (hp : W0.heap.size ≤ p) (hc : W.cell? ⟨p, 0, none⟩ = some v) : Box bs rb W0.heap.size p v W := by
  refine ⟨hg.size, ⟨?_, fun hw => hf.new hp (wr_back hf.bl hf.mem hg (fun r e => by cases e) hw)⟩, hc⟩
  have := hc
  by_cases h : p < W.heap.size
  · exact h
  · have h0 : W.heap[p]? = none := Array.getElem?_eq_none (by omega)
    simp [World.cell?, h0] at this
end

/-! ### The steps -/
def seqL (f s k : Nat) : List Nat := (List.range k).map fun i => f + i * s
theorem seqL_length (f s k : Nat) : (seqL f s k).length = k := by simp [seqL]
theorem seqL_succ (f s k : Nat) : seqL f s (k + 1) = seqL f s k ++ [f + k * s] := by simp [seqL, List.range_succ]
theorem seqL_get {f s k i : Nat} (h : i < k) : (seqL f s k)[i]? = some (f + i * s) := by simp [seqL, h]
def stNx (f u s : Nat) (pre : List Nat) (x : Nat) : Prop := pre = seqL f s pre.length ∧ x = f + pre.length * s ∧ x < u
def stS (f u s : Nat) (ys : List Nat) : Prop := ys = seqL f s ys.length ∧ u ≤ f + ys.length * s ∧ ∀ j, j < ys.length → f + j * s < u
def stSp (f u s : Nat) (ys : List Nat) : Prop := ys = seqL f s ys.length ∧ ∀ j, j < ys.length → f + j * s < u

/-- Three numbers, in three boxes. -/
def Three (w : World) (b1 b2 b3 : Nat) (f u s : Nat) : Prop := w.cell? ⟨b1, 0, none⟩ = some (.int .u64 (f : Int)) ∧ w.cell? ⟨b2, 0, none⟩ = some (.int .u64 (u : Int)) ∧ w.cell? ⟨b3, 0, none⟩ = some (.int .u64 (s : Int))
theorem Three.keptN {w w' : World} {b1 b2 b3 f u s : Nat} (h : Three w b1 b2 b3 f u s) (hg : w.grownBy w' none) : Three w' b1 b2 b3 f u s := ⟨g_cellN hg h.1, g_cellN hg h.2.1, g_cellN hg h.2.2⟩
theorem three_new (w : World) (f u s : Nat) (t : TypeId) (b : Nat) (hb : w.heap.size = b) : Three (((w.alloc (.cells #[.int .u64 (f : Int)] t)).alloc (.cells #[.int .u64 (u : Int)] t)).alloc (.cells #[.int .u64 (s : Int)] t)) b (b + 1) (b + 2) f u s := by
  subst hb
  have h1 := (Boxed.new w t (.int .u64 (f : Int)))
  have h2 := (Boxed.new (w.alloc (.cells #[.int .u64 (f : Int)] t)) t (.int .u64 (u : Int)))
  have h3 := (Boxed.new ((w.alloc (.cells #[.int .u64 (f : Int)] t)).alloc (.cells #[.int .u64 (u : Int)] t)) t (.int .u64 (s : Int)))
  simp only [World.size_alloc] at h2 h3
  exact ⟨((h1.alloc _).alloc _).cell, (h2.alloc _).cell, h3.cell⟩

theorem places_any (f u s : Nat) (w : World) : Calls Tryd.prog 38 #[.int .u64 (f : Int), .int .u64 (u : Int), .int .u64 (s : Int)] w fun e w' => ∃ b, e = .returned (.func (.func 39) #[] #[.pointer (some ⟨b, 0, none⟩), .pointer (some ⟨b + 1, 0, none⟩), .pointer (some ⟨b + 2, 0, none⟩)]) ∧ Three w' b (b + 1) (b + 2) f u s ∧ w.heap.size ≤ b ∧ w.grownBy w' none := by
  have h3 := three_new w f u s 24 _ rfl
  have hg := g_alloc (g_alloc (g_alloc (g_refl w none) (.cells #[.int .u64 (f : Int)] 24)) (.cells #[.int .u64 (u : Int)] 24)) (.cells #[.int .u64 (s : Int)] 24)
  go_enter Tryd.func38, Tryd.ntmps38
  go_wp2
  go_ret
  exact ⟨w.heap.size, rfl, h3, Nat.le_refl _, hg⟩
theorem Steps_any (f u s : Nat) (w : World) : Calls Tryd.prog 36 #[.int .u64 (f : Int), .int .u64 (u : Int), .int .u64 (s : Int)] w fun e w' => ∃ b, e = .returned (.func (.func 37) #[] #[.pointer (some ⟨b + 2, 0, none⟩), .pointer (some ⟨b, 0, none⟩), .pointer (some ⟨b + 1, 0, none⟩)]) ∧ Three w' b (b + 1) (b + 2) f u s ∧ w.heap.size ≤ b ∧ w.grownBy w' none := by
  have h3 := three_new w f u s 24 _ rfl
  have hg := g_alloc (g_alloc (g_alloc (g_refl w none) (.cells #[.int .u64 (f : Int)] 24)) (.cells #[.int .u64 (u : Int)] 24)) (.cells #[.int .u64 (s : Int)] 24)
  go_enter Tryd.func36, Tryd.ntmps36
  go_wp2
  go_ret
  exact ⟨w.heap.size, rfl, h3, Nat.le_refl _, hg⟩

attribute [local go_sem] Oper.semAt_some

set_option maxHeartbeats 2000000 in
theorem places1_iter (f u s b1 b2 b3 : Nat) (hs : 1 ≤ s) (hf : f < 18446744073709551616) (hu : u < 18446744073709551616) (hs2 : s < 18446744073709551616) (W : World) :
    IterAt Tryd.prog 39 #[.pointer (some ⟨b1, 0, none⟩), .pointer (some ⟨b2, 0, none⟩), .pointer (some ⟨b3, 0, none⟩)] (fun x : Nat => #[.int .u64 (x : Int)]) (fun _ W => Three W b1 b2 b3 f u s) (stNx f u s) (stS f u s) (stSp f u s) W := by
  intro l J Jx bs rb hfoot hX hJ hJx hY h0
  have HY := hid hY
  have HX := hid hX
  obtain ⟨x1, x2, x3⟩ := hX _ _ h0
  clear hX hY
  refine calls_of_wpIn Tryd.func39 rfl ?_
  simp only [Tryd.ntmps39, List.size_toArray, List.length_cons, List.length_nil, Nat.reduceAdd, Nat.reduceSub, Array.replicate_succ, Array.replicate_zero, List.push_toArray, List.append_toArray, List.nil_append, List.cons_append, Array.append_empty]
  gi_wp2
  gi_loopw [5] (fun v wr => ∃ (k n : Nat), v = .int .u64 (n : Int) ∧ Hid (n = f + k * s) ∧ n < 18446744073709551616 ∧ (0 < k → n < u) ∧ Hid (∀ j, j < k → f + j * s < u) ∧ J (seqL f s k) wr ∧ W.heap.size ≤ wr.heap.size) (fun v _ => u - (intOf v).toNat)
  case atStart => exact ⟨0, f, rfl, hid (by omega), hf, fun h => by omega, hid (fun j hj => by omega), h0, Nat.le_refl _⟩
  case round =>
    obtain ⟨k, n, rfl, hn, hnl, hnu, hall, hJk, hsz⟩ := hrel
    obtain ⟨y1, y2, y3⟩ := HX.out _ _ hJk
    have hks : (k + 1) * s = k * s + s := by rw [Nat.add_mul]; omega
    have HKS := hid hks
    clear hks x1 x2 x3 hnu
    by_cases hlt : n < u
    · have hNx : stNx f u s (seqL f s k) n := ⟨by rw [seqL_length], by rw [seqL_length]; exact hn.out, hlt⟩
      obtain ⟨fn, tmps, assign, body, hy, hR⟩ := HY.out (seqL f s k) n wr hJk hNx
      try simp only [] at hy
      have hall2 : Hid (∀ j, j < k + 1 → f + j * s < u) := hid fun j hj => by
        by_cases hjk : j < k
        · exact hall.out j hjk
        · obtain rfl : j = k := by omega
          have := hn.out
          omega
      have hq : seqL f s k ++ [n] = seqL f s (k + 1) := by rw [seqL_succ, hn.out]
      rw [hq] at hR
      clear hq hNx
      gi_wp2
      refine (hR _).mono ?_
      rintro e W3 ⟨hk3, hkp3, (⟨rfl, hJ3⟩ | ⟨rfl, hJx3⟩)⟩
      · obtain ⟨z1, z2, z3⟩ := HX.out _ _ hJ3
        by_cases hmore : s < u - n
        · have hm1 : (s : Int) < (u : Int) - (n : Int) := by omega
          have hm2 : (0 : Int) ≤ (u : Int) - (n : Int) := by omega
          have hm3 : (n : Int) + (s : Int) < 18446744073709551616 := by omega
          have hn2 : Hid (n + s = f + (k + 1) * s) := hid (by have h1 := hn.out; have h2 := HKS.out; omega)
          clear hmore
          gi_wp2
          go_roundw
          case rel => exact ⟨k + 1, n + s, by go_num, hn2, by omega, fun _ => by omega, hall2, hJ3, Nat.le_trans hsz hk3.size⟩
          case measure => simp [intOf]; omega
        · have hm1 : ¬ ((s : Int) < (u : Int) - (n : Int)) := by omega
          have hm2 : (0 : Int) ≤ (u : Int) - (n : Int) := by omega
          gi_wp2
          go_end0
          refine ⟨⟨_, rfl⟩, .inl ⟨_, ⟨by rw [seqL_length], ?_, ?_⟩, hJ3⟩⟩
          · rw [seqL_length]
            have h1 := hn.out
            have h2 := HKS.out
            omega
          · rw [seqL_length]; exact hall2.out
      · gi_wp2
        go_end0
        exact ⟨⟨_, rfl⟩, .inr ⟨_, ⟨by rw [seqL_length], by rw [seqL_length]; exact hall2.out⟩, hJx3⟩⟩
    · have hlt' : ¬ ((n : Int) < (u : Int)) := by omega
      gi_wp2
      go_end0
      refine ⟨⟨_, rfl⟩, .inl ⟨_, ⟨by rw [seqL_length], ?_, ?_⟩, hJk⟩⟩
      · rw [seqL_length]
        have h1 := hn.out
        omega
      · rw [seqL_length]; exact hall.out
end Go.Proofs.YtgdnafafojiabaaDoor
