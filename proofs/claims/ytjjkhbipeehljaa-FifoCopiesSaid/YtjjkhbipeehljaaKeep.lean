/-
  A world that is as another one was, but for some blocks; what a round that writes these blocks keeps. For whatever program.
-/
import Derived.Test.YtjjkhbipeehljaaLib
import Derived.Test.YtjjkhbipeehljaaIter
namespace Go.Proofs.Ytjjkhbipeehljaa
open Go.RowKit

/-- Of what lay, just the blocks bs may have turned. -/
structure KeepW (bs : List Nat) (A B : World) : Prop where
  os : B.os = A.os
  tape : B.tape = A.tape
  output : B.output = A.output
  size : A.heap.size ≤ B.heap.size
  same : ∀ b, b < A.heap.size → b ∉ bs → B.heap[b]? = A.heap[b]?
section
variable {bs : List Nat} {A B C : World}
theorem KeepW.refl (bs : List Nat) (A : World) : KeepW bs A A := ⟨rfl, rfl, rfl, Nat.le_refl _, fun _ _ _ => rfl⟩
theorem KeepW.trans (h : KeepW bs A B) (k : KeepW bs B C) : KeepW bs A C :=
  ⟨k.os.trans h.os, k.tape.trans h.tape, k.output.trans h.output, Nat.le_trans h.size k.size, fun b hb hn => (k.same b (Nat.lt_of_lt_of_le hb h.size) hn).trans (h.same b hb hn)⟩
theorem KeepW.grown {row : Option Nat} (h : KeepW bs A B) (hg : B.grownBy C row) (hr : ∀ r, row = some r → r ∈ bs ∨ A.heap.size ≤ r) : KeepW bs A C :=
  ⟨hg.os.trans h.os, hg.tape.trans h.tape, hg.output.trans h.output, Nat.le_trans h.size hg.size, fun b hb hn => (hg.block b (Nat.lt_of_lt_of_le hb h.size) (fun e => by
    rcases hr b e.symm with h1 | h1
    · exact hn h1
    · omega)).trans (h.same b hb hn)⟩
theorem KeepW.grownN (h : KeepW bs A B) (hg : B.grownBy C none) : KeepW bs A C := h.grown hg (fun r e => by cases e)
theorem KeepW.set (h : KeepW bs A B) {b i : Nat} (v : Value) (hb : b ∈ bs ∨ A.heap.size ≤ b) : KeepW bs A (B.setCell ⟨b, i, none⟩ v) :=
  h.grown (row := some b) ⟨rfl, rfl, rfl, by simp [World.setCell], fun k _ hk => Below.heap_setCell _ _ _ k (fun e => hk (by rw [e]))⟩ (fun r e => by cases e; exact hb)
theorem KeepW.drew (h : KeepW bs A B) : KeepW bs A B.drew := ⟨h.os, h.tape, h.output, h.size, h.same⟩
theorem KeepW.cell (h : KeepW bs A B) {p i : Nat} {v : Value} (hc : A.cell? ⟨p, i, none⟩ = some v) (hp : p ∉ bs) : B.cell? ⟨p, i, none⟩ = some v := by
  rw [← hc]
  refine World.cell?_of_block (h.same p ?_ hp)
  by_cases hl : p < A.heap.size
  · exact hl
  · have h0 : A.heap[p]? = none := Array.getElem?_eq_none (by omega)
    simp [World.cell?, h0] at hc
theorem KeepW.blk (h : KeepW bs A B) {p : Nat} {T : TypeId} {cs : List Value} (hb : Blk A p T cs) (hp : p ∉ bs) : Blk B p T cs := hb.same (h.same p hb.lt hp)
theorem KeepW.own {α : Type} : OwnFrom A.heap.size (fun (_ : α) W => KeepW bs A W) := fun _ _ _ _ h hg hr => h.grown hg (fun r e => .inr (hr r e).1)
theorem KeepW.keeps (h : KeepW bs A B) : Keeps bs none A B :=
  ⟨h.size, fun b hb hn => h.same b hb (fun hm => hn (.inl hm)), fun b hw => hw.elim (fun hm => .inl (.inl hm)) (fun ⟨_, _, e, _⟩ => by cases e)⟩
/-- What was there before, but for one block. -/
theorem KeepW.byOne {W0 : World} {row : Option Nat} (h : KeepW bs A B) (hg : W0.grownBy A none) (hr : ∀ b ∈ bs, row = some b ∨ W0.heap.size ≤ b) : W0.grownBy B row :=
  ⟨h.os.trans hg.os, h.tape.trans hg.tape, h.output.trans hg.output, Nat.le_trans hg.size h.size, fun i hi hne => (h.same i (Nat.lt_of_lt_of_le hi hg.size) (fun hm => by
    rcases hr i hm with h1 | h1
    · exact hne h1.symm
    · omega)).trans (hg.block i hi (by simp))⟩
theorem blk_own {α : Type} (p : Nat) (T : TypeId) (cs : α → List Value) : Own (fun s W => Blk W p T (cs s)) := fun s X Y row h hg hr => h.kept hg (fun e => by
  obtain ⟨o, ho, hc⟩ := hr p e.symm
  rw [show X.heap[p]? = _ from h] at ho; cases ho; cases hc)
theorem pure_own {α : Type} (p : α → Prop) : Own (fun s (_ : World) => p s) := fun _ _ _ _ h _ _ => h

theorem wp_of_in {P : Program} {c : Code} {Q : Exit → Act → World → Prop} {a : Act} {w : World} (h : c.wpIn Fence.wide 10 P Q a w) : c.wp P Q a w := wpIn_wide.1 h

theorem wrap_in (n : Int) (h0 : -9223372036854775808 ≤ n) (h1 : n ≤ 9223372036854775807) : IntKind.i64.wrap n = n := by
  simp [IntKind.wrap, IntKind.bits, IntKind.signed]
  omega

/-- A round's steps: they turn the blocks bs alone, and whatever is no cells lies as it lay. -/
def Stp (bs : List Nat) (A B : World) : Prop := KeepW bs A B ∧ KeepsOthers A B
theorem Stp.refl (bs : List Nat) (A : World) : Stp bs A A := ⟨KeepW.refl _ _, KeepsOthers.of_grownBy (row := none) ⟨rfl, rfl, rfl, Nat.le_refl _, fun _ _ _ => rfl⟩ (fun j o e _ => by cases e)⟩
theorem Stp.grown (h : Stp bs A B) (hg : B.grownBy C none) : Stp bs A C := ⟨h.1.grownN hg, h.2.trans (KeepsOthers.of_grownBy hg (fun j o e _ => by cases e))⟩
theorem Stp.drew (h : Stp bs A B) : Stp bs A B.drew := h.grown ⟨rfl, rfl, rfl, Nat.le_refl _, fun _ _ _ => rfl⟩
theorem Stp.set (h : Stp bs A B) {b i : Nat} (v : Value) (hb : b ∈ bs ∨ A.heap.size ≤ b) : Stp bs A (B.setCell ⟨b, i, none⟩ v) := ⟨h.1.set v hb, h.2.trans (KeepsOthers.setCell _ _ _)⟩
end
end Go.Proofs.Ytjjkhbipeehljaa
