/-
  Small laws on worlds, for whatever program: a block of cells that is known whole; what a step leaves of it; a frame that names at most one written block.
-/
import Derived.WalkKit
import Derived.RangeFuncNested
import Derived.Laws.Rows
namespace Go.Proofs.Ytnpimkigiioiaaa
open Go.RowKit

/-- Block b holds just these cells, none of them frozen. -/
def Blk (w : World) (b : Nat) (T : TypeId) (cs : List Value) : Prop := w.heap[b]? = some (.cells cs.toArray T (0, 0))

section
variable {w w' w1 w2 : World} {b : Nat} {T : TypeId} {cs : List Value}
theorem Blk.lt (h : Blk w b T cs) : b < w.heap.size := (Array.getElem?_eq_some_iff.1 h).1
theorem Blk.cell (h : Blk w b T cs) (i : Nat) : w.cell? ⟨b, i, none⟩ = cs[i]? := by simp [World.cell?, show w.heap[b]? = _ from h]
theorem Blk.cellOf (h : Blk w b T cs) {i : Nat} {v : Value} (hv : cs[i]? = some v) : w.cell? ⟨b, i, none⟩ = some v := by rw [h.cell, hv]
theorem Blk.frozen (h : Blk w b T cs) (i : Nat) : w.frozen? ⟨b, i, none⟩ = false := by simp [World.frozen?, show w.heap[b]? = _ from h]
theorem Blk.same (h : Blk w b T cs) (hw : w'.heap[b]? = w.heap[b]?) : Blk w' b T cs := hw.trans h
theorem Blk.kept {row : Option Nat} (h : Blk w b T cs) (hg : w.grownBy w' row) (hne : some b ≠ row) : Blk w' b T cs := (hg.block b h.lt hne).trans h
theorem Blk.keptN (h : Blk w b T cs) (hg : w.grownBy w' none) : Blk w' b T cs := h.kept hg (by simp)
theorem Blk.alloc (h : Blk w b T cs) (o : Obj) : Blk (w.alloc o) b T cs := (Below.heap_alloc w o b h.lt).trans h
theorem Blk.drew (h : Blk w b T cs) : Blk w.drew b T cs := h
theorem Blk.new (w : World) (cs : List Value) (T : TypeId) : Blk (w.alloc (.cells cs.toArray T)) w.heap.size T cs := World.alloc_heap_new w _
theorem Blk.other (h : Blk w b T cs) {a : Addr} (hne : b ≠ a.block) (v : Value) : Blk (w.setCell a v) b T cs := (Below.heap_setCell w a v b hne).trans h
theorem Blk.set (h : Blk w b T cs) (i : Nat) (v : Value) : Blk (w.setCell ⟨b, i, none⟩ v) b T (cs.set i v) := by
  obtain ⟨hlt, hk⟩ := Array.getElem?_eq_some_iff.1 h
  show (w.heap.modify b _)[b]? = _
  rw [Array.getElem?_eq_getElem (by rw [Array.size_modify]; exact hlt), Array.getElem_modify_self, hk]
  simp

/-! ### At most one old block is written -/
theorem g_refl (w : World) (row : Option Nat) : w.grownBy w row := ⟨rfl, rfl, rfl, Nat.le_refl _, fun _ _ _ => rfl⟩
theorem g_trans {row row2 : Option Nat} (h : w.grownBy w1 row) (k : w1.grownBy w2 row2) (hr : ∀ r, row2 = some r → row = some r ∨ w.heap.size ≤ r) : w.grownBy w2 row :=
  ⟨k.os.trans h.os, k.tape.trans h.tape, k.output.trans h.output, Nat.le_trans h.size k.size, fun i hi hne =>
    (k.block i (Nat.lt_of_lt_of_le hi h.size) (fun e => by
      rcases hr i e.symm with h1 | h1
      · exact hne h1.symm
      · omega)).trans (h.block i hi hne)⟩
theorem g_none {row : Option Nat} (h : w.grownBy w1 row) (k : w1.grownBy w2 none) : w.grownBy w2 row := g_trans h k (fun _ e => by cases e)
theorem g_same {r : Nat} (h : w.grownBy w1 (some r)) (k : w1.grownBy w2 (some r)) : w.grownBy w2 (some r) := g_trans h k (fun _ e => .inl e)
theorem g_new {row : Option Nat} {r : Nat} (h : w.grownBy w1 row) (k : w1.grownBy w2 (some r)) (hr : w.heap.size ≤ r) : w.grownBy w2 row := g_trans h k (fun _ e => by cases e; exact .inr hr)
theorem g_weak {row : Option Nat} (h : w.grownBy w1 none) : w.grownBy w1 row := ⟨h.os, h.tape, h.output, h.size, fun i hi _ => h.block i hi (by simp)⟩
theorem g_alloc {row : Option Nat} (h : w.grownBy w1 row) (o : Obj) : w.grownBy (w1.alloc o) row := g_none h (World.grownBy_alloc w1 o none)
theorem g_drew {row : Option Nat} (h : w.grownBy w1 row) : w.grownBy w1.drew row := ⟨h.os, h.tape, h.output, h.size, h.block⟩
theorem g_set {row : Option Nat} (h : w.grownBy w1 row) {a : Addr} (v : Value) (ha : row = some a.block ∨ w.heap.size ≤ a.block) : w.grownBy (w1.setCell a v) row := by
  refine g_trans (row2 := some a.block) h ⟨rfl, rfl, rfl, by simp [World.setCell], fun k _ hk => Below.heap_setCell _ _ _ k (fun e => hk (by rw [e]))⟩ (fun _ e => by cases e; exact ha)
theorem g_put {row : Option Nat} (h : w.grownBy w1 row) (l : Nat) (o : Obj) (hl : w.heap.size ≤ l) : w.grownBy (w1.putObj l o) row := g_new h (grownBy_putObj' w1 l o) hl
theorem g_below {B : Nat} {row : Option Nat} (h : w.grownBy w1 row) (hB : B ≤ w.heap.size) (hr : ∀ r, row = some r → B ≤ r) : Below B w w1 := (Below.refl B w).grown h hB hr
theorem g_cell {row : Option Nat} (h : w.grownBy w1 row) {a : Addr} (ha : a.block < w.heap.size) (hne : some a.block ≠ row) : w1.cell? a = w.cell? a := World.cell?_of_block (h.block a.block ha hne)
theorem g_cellN (h : w.grownBy w1 none) {a : Addr} {v : Value} (hv : w.cell? a = some v) : w1.cell? a = some v := h.cell hv (by simp)
theorem size_of_g {row : Option Nat} (h : w.grownBy w1 row) : w.heap.size ≤ w1.heap.size := h.size
end

/-- What a slice owns, as a block. -/
theorem row_blk {w : World} {base g n cap : Nat} {e : TypeId} {size : Nat} {xs : List Value} (h : w.ownsRow base e size (.slice (some ⟨g, 0, none⟩) n cap) n xs) :
    ∃ tail, Blk w g e (xs ++ tail) ∧ (xs ++ tail).length = cap * size ∧ n ≤ cap ∧ cap ≤ maxLen ∧ base ≤ g := by
  rcases h.2 with ⟨hv, _⟩ | ⟨g', cap', cur, hv, hb, hg, hn, hm, hs, ht⟩
  · cases hv
  · cases hv
    refine ⟨cur.toList.drop (n * size), ?_, ?_, hn, hm, hb⟩
    · unfold Blk
      rw [← ht, List.take_append_drop]
      simpa using hg
    · rw [← ht, List.take_append_drop]
      simpa using hs
theorem blk_row {w : World} {base g n cap : Nat} {e : TypeId} {size : Nat} {xs tail : List Value} (h : Blk w g e (xs ++ tail)) (hx : xs.length = n * size) (hl : (xs ++ tail).length = cap * size) (hn : n ≤ cap) (hm : cap ≤ maxLen) (hb : base ≤ g) :
    w.ownsRow base e size (.slice (some ⟨g, 0, none⟩) n cap) n xs :=
  ⟨hx, .inr ⟨g, cap, (xs ++ tail).toArray, rfl, hb, h, hn, hm, by simpa using hl, by simp [← hx]⟩⟩
theorem madeCells_two (a b : Value) (n : Nat) : (madeCells #[a, b] (n * 2)).toList = (List.replicate n [a, b]).flatten := by
  refine List.ext_getElem? fun i => ?_
  have hget : ∀ n i : Nat, (List.replicate n [a, b]).flatten[i]? = if i < n * 2 then some (if i % 2 = 0 then a else b) else none := by
    intro n
    induction n with
    | zero => intro i; simp
    | succ n ih =>
      intro i
      match i with
      | 0 => simp [List.replicate_succ]
      | 1 => simp [List.replicate_succ]; omega
      | i + 2 =>
        have := ih i
        simp only [List.replicate_succ, List.flatten_cons, List.cons_append, List.nil_append, List.getElem?_cons_succ]
        rw [this]
        have h2 : (i + 2) % 2 = i % 2 := by omega
        by_cases h : i < n * 2
        · have h3 : i + 2 < (n + 1) * 2 := by omega
          simp [h, h3, h2]
        · have h3 : ¬ i + 2 < (n + 1) * 2 := by omega
          simp [h, h3]
  rw [hget]
  by_cases h : i < n * 2
  · rw [if_pos h]
    have hs : i < (madeCells #[a, b] (n * 2)).toList.length := by simp [madeCells]; exact h
    rw [List.getElem?_eq_getElem hs]
    rcases Nat.mod_two_eq_zero_or_one i with h2 | h2 <;> simp [madeCells, h2]
  · rw [if_neg h]
    exact List.getElem?_eq_none (by simp [madeCells]; omega)

/-- A result that lies in a box: a number, a slice and the like. -/
theorem results_box {P : Program} {fn : Func} {p : Tmp} {ty : TypeId} (h : fn.results = #[.cell p ty]) (tmps : Array Value) (w : World) (g : Nat) (v : Value) (d : TypeDesc)
    (hp : tmps.getD p undef = .pointer (some ⟨g, 0, none⟩)) (hu : P.underlying ty = some d) (hd : (match d with | .struct _ | .array _ _ => true | _ => false) = false) (hc : w.cell? ⟨g, 0, none⟩ = some v) :
    (results fn tmps).run P w = .ok v w := by
  have hp' : tmps[p]?.getD undef = .pointer (some ⟨g, 0, none⟩) := by simpa using hp
  have hagg : (isAgg ty).run P w = .ok false w := by
    unfold isAgg
    rw [Sem.run_bind, run_underlying hu w]
    cases d <;> simp_all
  simp [results, h, hp', asAddr, loadVar, hagg, Sem.run_bind, hc]

/-- A fact kept from the walk. -/
theorem hid {p : Prop} (h : p) : Hid p := h
end Go.Proofs.Ytnpimkigiioiaaa
