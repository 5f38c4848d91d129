/-
  What the statements begin with: calls and numbers that came in; numbers put behind nothing.
-/
import Derived.Test.YtnpimkigiioiaaaLockAct
import Derived.Test.YtnpimkigiioiaaaRow
import Derived.Deep.AppendLies
namespace Go.Proofs.Ytnpimkigiioiaaa
open Go.RowKit
set_option maxRecDepth 100000

/-- The calls, in memory. -/
def ActsAt (w : World) (a : Option Addr) (len : Nat) (A : Nat → Nat → Int) : Prop :=
  0 < len → ∃ b off, a = some ⟨b, off, none⟩ ∧ ∀ i, i < len → w.cell? ⟨b, off + i * 3, none⟩ = some (.int .i64 (A i 0)) ∧ w.cell? ⟨b, off + i * 3 + 1, none⟩ = some (.int .i64 (A i 1)) ∧ w.cell? ⟨b, off + i * 3 + 2, none⟩ = some (.int .i64 (A i 2))
theorem ActsAt.kept {w w' : World} {a : Option Addr} {len : Nat} {A : Nat → Nat → Int} (h : ActsAt w a len A) (hg : w.grownBy w' none) : ActsAt w' a len A := fun h0 => by
  obtain ⟨b, off, ha, hx⟩ := h h0
  exact ⟨b, off, ha, fun i hi => ⟨g_cellN hg (hx i hi).1, g_cellN hg (hx i hi).2.1, g_cellN hg (hx i hi).2.2⟩⟩
theorem acts_of_row {w : World} {a : Option Addr} {len : Nat} {A : Nat → Nat → Int} (h : RowAt w a len [.i64, .i64, .i64] A) : ActsAt w a len A := fun h0 => by
  obtain ⟨b, off, ha, _, hx⟩ := h h0
  refine ⟨b, off, ha, fun i hi => ⟨?_, ?_, ?_⟩⟩
  · exact (hx i hi 0 _ rfl).1
  · exact (hx i hi 1 _ rfl).1
  · exact (hx i hi 2 _ rfl).1
/-- Numbers that came in. -/
def numsOf (len : Nat) (A : Nat → Nat → Int) : List Int := (List.range len).map fun i => A i 0
theorem numsOf_length (len : Nat) (A : Nat → Nat → Int) : (numsOf len A).length = len := by simp [numsOf]
theorem nums_of_row {w : World} {a : Option Addr} {len cap : Nat} {A : Nat → Nat → Int} (hl : len ≤ 1000) (hc : len ≤ cap) (hm : cap ≤ 9223372036854775807) (h : RowAt w a len [.i64] A) : IntsAt w (.slice a (numsOf len A).length cap) (numsOf len A) := by
  refine ⟨a, cap, rfl, by rw [numsOf_length]; exact hl, by rw [numsOf_length]; exact hc, by unfold maxLen; exact hm, ?_⟩
  rcases Nat.eq_zero_or_pos len with h0 | h0
  · subst h0
    exact .inl ⟨rfl, rfl⟩
  · obtain ⟨b, off, ha, _, hx⟩ := h h0
    refine .inr ⟨b, off, ha, fun i x hi => ?_⟩
    have hil : i < len := by have := (List.getElem?_eq_some_iff.1 hi).1; rwa [numsOf_length] at this
    have hxi : x = A i 0 := by
      simp [numsOf, hil] at hi
      exact hi.symm
    subst hxi
    simpa using (hx i hil 0 _ rfl).1
theorem nums_wf {w : World} {a : Option Addr} {len : Nat} {A : Nat → Nat → Int} (h : RowAt w a len [.i64] A) : ∀ n ∈ numsOf len A, (Lit.int .i64 n).wf = true := fun n hn => by
  obtain ⟨i, hi, rfl⟩ := List.mem_map.1 hn
  have hil := List.mem_range.1 hi
  obtain ⟨b, off, _, _, hx⟩ := h (by omega)
  exact (hx i hil 0 _ rfl).2

/-- Numbers put behind nothing. -/
theorem wpList_append_ints {ops : Array Oper} {rest : List Oper} {o : Oper} {a : Act} {Q : Exit → Act → World → Prop} {w : World} (hgd : o.guard = none) (s x : Operand)
    (ho : o.op = .call { callee := .builtin .append, args := #[s, x], argTypes := #[23, 23] })
    (base b : Nat) (hs : a.eval s = .slice (some ⟨b, 0, none⟩) 0 0) (hown : w.ownsRow base 3 1 (.slice (some ⟨b, 0, none⟩) 0 0) 0 [])
    (v : Value) (xs : List Int) (hx : a.eval x = v) (hLU : IntsAt w v xs) (hbase : base ≤ w.heap.size)
    (h : ∀ v' w', w'.ownsRow base 3 1 v' xs.length (intsV xs) → w.grownBy w' (some b) → wpList Try.prog ops Q rest (a.put o.dst v') w') : wpList Try.prog ops Q (o :: rest) a w := by
  obtain ⟨i0, hi, hz0, hz1, hz2⟩ := info_parts info_int
  obtain ⟨ao, cap, hv, hl, hcp, hm, hc⟩ := id hLU
  subst hv
  cases ao with
  | none =>
    have hx0 : xs = [] := by
      rcases hc with ⟨_, h0⟩ | ⟨g, off, e, _⟩
      · exact h0
      · cases e
    subst hx0
    have hr : (Builtin.append_ #[23, 23] o.type #[.slice (some ⟨b, 0, none⟩) 0 0, .slice none 0 cap]).run Try.prog w = .ok (.slice (some ⟨b, 0, none⟩) 0 0) w := by
      simp [Builtin.append_, run_underlying Try.underlying23, sizeOf, typeInfo, hi, Builtin.lenOf, Builtin.firstCells, loadCells, loadCellsFrom, storeCells]
    refine wpList_plain hgd fun _ hK => ?_
    unfold Oper.wp execOp
    simp only [ho, resolve, invoke, builtin, Sem.run_bind, Sem.run_pure, Result.andThen_ok, List.map_toArray, List.map_cons, List.map_nil, hs, hx, List.length_nil, hr]
    exact hK _ _ (h _ _ hown (g_refl _ _))
  | some ad =>
    have hcells : ∀ j u, (intsV xs)[j]? = some u → w.cell? (ad.add j) = some u := fun j u hj => by
      rcases hc with ⟨_, h0⟩ | ⟨g, off, e, _⟩
      · subst h0; simp [intsV] at hj
      · cases e; exact hLU.cells j u hj
    refine wpList_append_own w hgd s x 23 ho base 3 i0 (.int .i64 0) 1 8 Try.underlying23 hi hz0 hz1 hz2 rfl (by decide) _ _ _ hs hown ad xs.length cap (intsV xs) hx (by rw [intsV_length]; omega) hcells (intsV_oneCell xs) (by unfold maxLen at *; omega) (by omega) hbase ?_
    intro v' w' h1 h2 _
    simp only [Nat.zero_add, List.nil_append] at h1
    exact h v' w' h1 h2
/-- Numbers and one more, in a block that lies whole. -/
theorem rowI_more {w : World} {base g n cap : Nat} {xs : List Int} {u : Value} (hn : n = xs.length) (hl : n ≤ 1000) (h : w.ownsRow base 3 1 (.slice (some ⟨g, 0, none⟩) (n + 1) cap) (n + 1) (intsV xs ++ [u])) : IntsAt w (.slice (some ⟨g, 0, none⟩) n cap) xs ∧ w.cell? ⟨g, n, none⟩ = some u ∧ n + 1 ≤ cap ∧ cap ≤ maxLen ∧ base ≤ g := by
  obtain ⟨tail, h1, h2, h3, h4, h5⟩ := row_blk h
  subst hn
  refine ⟨⟨_, cap, rfl, hl, by omega, h4, .inr ⟨g, 0, rfl, fun i x hi => ?_⟩⟩, ?_, h3, h4, (row_base h g rfl).1⟩
  · rw [Nat.zero_add]
    have hil := (List.getElem?_eq_some_iff.1 hi).1
    refine h1.cellOf ?_
    rw [List.append_assoc, List.getElem?_append_left (by rw [intsV_length]; exact hil), intsV, List.getElem?_map, hi]; rfl
  · refine h1.cellOf ?_
    rw [List.append_assoc, List.getElem?_append_right (by rw [intsV_length]; omega), intsV_length, Nat.sub_self]; rfl
end Go.Proofs.Ytnpimkigiioiaaa
