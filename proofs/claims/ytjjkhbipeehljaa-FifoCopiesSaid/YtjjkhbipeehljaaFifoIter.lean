/-
  All: an iterator over a copy of the list.
-/
import Derived.Test.YtjjkhbipeehljaaFifoMore
import Derived.Test.YtjjkhbipeehljaaIter
import Derived.Test.YtjjkhbipeehljaaHead
import Derived.LoopIn
import Derived.TacticsInMore
import Derived.WalkMore
import Derived.Shelf.Abstract
namespace Go.Proofs.Ytjjkhbipeehljaa
open Go.RowKit

theorem own_mono {α : Type} {B B' : Nat} {J : α → World → Prop} (h : OwnFrom B J) (hB : B ≤ B') : OwnFrom B' J := fun s A W row hA hg hr => h s A W row hA hg (fun r e => ⟨Nat.le_trans hB (hr r e).1, (hr r e).2⟩)
theorem grown_own {α : Type} {B : Nat} {w : World} {row : Option Nat} (hB : w.heap.size ≤ B) : OwnFrom B (fun (_ : α) W => w.grownBy W row) := by
  intro s A W r hA hg hr
  exact g_trans hA hg (fun r e => .inr (Nat.le_trans hB (hr r e).1))

/-- A box of one's own, that the loop's body does not write. -/
def Box (bs : List Nat) (rb : Option Nat) (B p : Nat) (v : Value) (W : World) : Prop := B ≤ W.heap.size ∧ NotW bs rb p W ∧ W.cell? ⟨p, 0, none⟩ = some v
/-- A list that lay, that the loop's body does not write. -/
def L3K (bs : List Nat) (rb : Option Nat) (B : Nat) (v : Value) (xs : List T3) (W : World) : Prop := B ≤ W.heap.size ∧ (∀ r, v.ownBlock = some r → r < B ∧ NotW bs rb r W) ∧ L3 W v xs
section
variable {bs : List Nat} {rb : Option Nat} {B p : Nat} {v : Value} {xs : List T3} {A W W0 : World}
theorem Box.keeps (h : Box bs rb B p v A) (k : Keeps bs rb A W) : Box bs rb B p v W := ⟨Nat.le_trans h.1 k.size, h.2.1.keeps k, h.2.1.cell k h.2.2⟩
theorem Box.own {α : Type} (hf : Foot bs rb W0) : OwnFrom W0.heap.size (fun (_ : α) W => Box bs rb W0.heap.size p v W) := by
  rintro s A W row ⟨hB, hN, hc⟩ hg hr
  have hne : ∀ r, row = some r → p ≠ r := fun r e hpr => by
    obtain ⟨_, o, ho, hcl⟩ := hr r e
    subst hpr
    cases o <;> simp [Obj.isCells] at hcl <;> simp [World.cell?, ho] at hc
  refine ⟨Nat.le_trans hB hg.size, hN.grown (fun b hb => Nat.lt_of_lt_of_le (hf.bl b hb) hB) hf.mem hg (fun r e hrb => ?_), g_cell (a := ⟨p, 0, none⟩) hg hN.1 (fun e => hne p e.symm rfl) ▸ hc⟩
  have h1 : r < W0.heap.size := hf.bl r (hf.mem r hrb)
  have h2 : W0.heap.size ≤ r := (hr r e).1
  omega
theorem Box.new (hf : Foot bs rb W0) (hg : W0.grownBy W none) (hp : W0.heap.size ≤ p) (hc : W.cell? ⟨p, 0, none⟩ = some v) : Box bs rb W0.heap.size p v W := by
  refine ⟨hg.size, ⟨?_, fun hw => hf.new hp (wr_back hf.bl hf.mem hg (fun r e => by cases e) hw)⟩, hc⟩
  exact cell_lt hc
theorem L3K.keeps (h : L3K bs rb B v xs A) (k : Keeps bs rb A W) : L3K bs rb B v xs W :=
  ⟨Nat.le_trans h.1 k.size, fun r hr => ⟨(h.2.1 r hr).1, (h.2.1 r hr).2.keeps k⟩, h.2.2.keptC (fun r hr hl => k.same r hl (h.2.1 r hr).2.2)⟩
theorem L3K.own {α : Type} (hf : Foot bs rb W0) : OwnFrom W0.heap.size (fun (_ : α) W => L3K bs rb W0.heap.size v xs W) := by
  rintro s A W row ⟨hB, hN, hL⟩ hg hr
  refine ⟨Nat.le_trans hB hg.size, fun r hr' => ⟨(hN r hr').1, (hN r hr').2.grown (fun b hb => Nat.lt_of_lt_of_le (hf.bl b hb) hB) hf.mem hg (fun r e hrb => ?_)⟩, hL.kept hg (fun r e hv => ?_)⟩
  · have h1 : r < W0.heap.size := hf.bl r (hf.mem r hrb)
    have h2 : W0.heap.size ≤ r := (hr r e).1
    omega
  · have h1 := (hN r hv).1
    have h2 : W0.heap.size ≤ r := (hr r e).1
    omega
end

attribute [local go_sem] Oper.semAt_some

/-- What the iterator finds: the list, in a box. -/
def ValX (wb : Nat) (v : Value) (xs : List T3) (W : World) : Prop := W.cell? ⟨wb, 0, none⟩ = some v ∧ L3 W v xs

set_option maxHeartbeats 2000000 in
theorem values1_iter (wb : Nat) (v : Value) (xs : List T3) (W : World) :
    IterAt Try.prog 45 #[.pointer (some ⟨wb, 0, none⟩)] (fun x : T3 => #[.agg #[.int .i64 x.1, .int .i64 x.2.1, .int .i64 x.2.2]]) (fun _ => ValX wb v xs) (fun pre x => pre ++ [x] <+: xs) (fun ys => ys = xs) (fun pre => pre <+: xs) W := by
  intro l J Jx bs rb hfoot hX hJ hJx hY h0
  obtain ⟨hwb, hL0⟩ := hX _ _ h0
  obtain ⟨a, cap, rfl, hlen, _⟩ := id hL0
  have HX := hid hX
  have HY := hid hY
  clear hX hY hL0
  refine calls_of_wpIn Try.func45 rfl ?_
  simp only [Try.ntmps45, List.size_toArray, List.length_cons, List.length_nil, Nat.reduceAdd, Nat.reduceSub, Array.replicate_succ, Array.replicate_zero, List.push_toArray, List.append_toArray, List.nil_append, List.cons_append]
  gi_wp2
  gi_loopw [7] (fun v wr => ∃ (k : Nat), k ≤ xs.length ∧ v = .int .i64 k ∧ J (xs.take k) wr ∧ W.heap.size ≤ wr.heap.size) (fun v _ => xs.length - (intOf v).toNat)
  case atStart => exact ⟨0, Nat.zero_le _, rfl, by simpa using h0, Nat.le_refl _⟩
  case round =>
    obtain ⟨k, hk, rfl, hJk, hsz⟩ := hrel
    by_cases hlt : k < xs.length
    · obtain ⟨hwb1, hL1⟩ := HX.out _ _ hJk
      obtain ⟨⟨x, y, z⟩, hxk⟩ : ∃ x, xs[k]? = some x := ⟨xs[k], List.getElem?_eq_getElem hlt⟩
      obtain ⟨g, off, cap', e', d0, d1, d2⟩ := hL1.at hxk
      cases e'
      have ht : xs.take (k + 1) = xs.take k ++ [(x, y, z)] := by rw [List.take_add_one, hxk]; rfl
      have hN : xs.take k ++ [(x, y, z)] <+: xs := by rw [← ht]; exact List.take_prefix _ _
      have hgA : wr.grownBy (wr.alloc (.cells #[.int .i64 x, .int .i64 y, .int .i64 z] 33)) none := g_alloc (g_refl wr none) _
      have bX := Blk.new wr [.int .i64 x, .int .i64 y, .int .i64 z] 33
      have n0 := bX.cellOf (i := 0) rfl
      have n1 := bX.cellOf (i := 1) rfl
      have n2 := bX.cellOf (i := 2) rfl
      obtain ⟨fn, tmps, assign, body, hy, hR⟩ := HY.out (xs.take k) (x, y, z) _ (own_grown hJ hJk hgA) hN
      simp only [] at hy
      have HT := hid ht
      clear hxk ht hL1
      gi_wp2
      refine (hR _).mono ?_
      rintro e W3 ⟨hk3, hkp3, (⟨rfl, hJ3⟩ | ⟨rfl, hJx3⟩)⟩
      · gi_wp2
        go_roundw
        case rel => exact ⟨k + 1, by omega, by simp, by rw [HT.out]; exact hJ3, Nat.le_trans hsz (Nat.le_trans hgA.size hk3.size)⟩
        case measure => simp [intOf]; omega
      · gi_wp2
        refine bodyPost_ret (results_none rfl _ _ _) rfl ?_
        exact ⟨⟨_, rfl⟩, .inr ⟨_, hN, hJx3⟩⟩
    · obtain rfl : k = xs.length := by omega
      gi_wp2
      go_end0
      exact ⟨⟨_, rfl⟩, .inl ⟨_, rfl, by rw [List.take_length] at hJk; exact hJk⟩⟩

theorem none1_iter (W : World) : IterAt Try.prog 35 #[] (fun x : T3 => #[.agg #[.int .i64 x.1, .int .i64 x.2.1, .int .i64 x.2.2]]) (fun _ _ => True) (fun _ _ => False) (fun ys => ys = []) (fun _ => False) W := by
  intro l J Jx bs rb hfoot hX hJ hJx hY h0
  refine calls_of_wpIn Try.func35 rfl ?_
  simp only [Try.ntmps35, List.size_toArray, List.length_cons, List.length_nil, Nat.reduceAdd, Nat.reduceSub, Array.replicate_succ, Array.replicate_zero, List.push_toArray, List.append_toArray, List.nil_append, List.cons_append, Array.append_empty]
  gi_wp2
  go_end0
  exact ⟨⟨_, rfl⟩, h0⟩

theorem values_any (a : Option Addr) (n c : Nat) (w : World) : Calls Try.prog 36 #[.slice a n c] w fun e w' => e = .returned (.func (.func 45) #[] #[.pointer (some ⟨w.heap.size, 0, none⟩)]) ∧ w.alloc (.cells #[.slice a n c] 23) = w' := by
  go_enter Try.func36, Try.ntmps36
  go_wp2
  go_ret
  exact ⟨rfl, rfl⟩
theorem all_some (p : Nat) (M Y : Int) (v : Value) (xs : List T3) (w : World) (h : FifoAt w p M Y v xs) :
    Calls Try.prog 17 #[.pointer (some ⟨p, 0, none⟩)] w fun e w' => ∃ wb v, e = .returned (.func (.func 45) #[] #[.pointer (some ⟨wb, 0, none⟩)]) ∧ ValX wb v xs w' ∧ w.grownBy w' none ∧ (∀ r, v.ownBlock = some r → w.heap.size ≤ r ∧ r < w'.heap.size) ∧ w.heap.size ≤ wb := by
  obtain ⟨c0, c1, c2, c3, hpl⟩ := h.facts
  obtain ⟨a0, cap0, hv, hl0, hcp0, hm0, hcc⟩ := id h.2.1
  clear hcc
  subst hv
  have H := hid h
  clear h
  go_enter Try.func17, Try.ntmps17
  go_wp2_with fail
  refine (none_some _ p M Y _ xs H.out).mono ?_
  rintro e w1 ⟨rfl, rfl⟩
  go_wp2_with fail
  refine (clone3_any _ xs w H.out.2.1).mono ?_
  rintro e w2 ⟨v2, rfl, hr2, hg2⟩
  obtain ⟨a, n, c, rfl⟩ := row_slice hr2
  go_wp2_with fail
  refine (values_any _ _ _ w2).mono ?_
  rintro e w3 ⟨rfl, rfl⟩
  go_wp2
  go_ret
  have hb := Blk.new w2 [.slice a n c] 23
  have hgA := g_alloc (g_refl w2 none) (.cells #[.slice a n c] 23)
  exact ⟨_, _, rfl, ⟨hb.cellOf rfl, (outL3 hl0 hr2).1.keptN hgA⟩, g_none hg2 hgA, fun r hr => ⟨(row_base hr2 r hr).1, by have := (row_base hr2 r hr).2; simp; omega⟩, hg2.size⟩
theorem all_none (v : Option Addr) (w : World) (h : IsNone w v) :
    Calls Try.prog 17 #[.pointer v] w fun e w' => e = .returned (.func (.func 35) #[] #[]) ∧ w = w' := by
  go_enter Try.func17, Try.ntmps17
  go_wp2_with fail
  refine (none_none _ _ h).mono ?_
  rintro e w1 ⟨rfl, rfl⟩
  go_wp2
  go_ret
  exact ⟨rfl, rfl⟩
end Go.Proofs.Ytjjkhbipeehljaa
