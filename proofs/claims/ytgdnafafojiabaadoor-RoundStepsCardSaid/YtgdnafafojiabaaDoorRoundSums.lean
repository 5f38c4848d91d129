/-
  RoundSums at whatever arguments.
-/
import Derived.Test.YtgdnafafojiabaaDoorRoundPowers
namespace Go.Proofs.YtgdnafafojiabaaDoor
open Go.RowKit

def fu (xs : List Nat) : List Value := xs.map fun (x : Nat) => Value.int .u64 (x : Int)
theorem fu_length (xs : List Nat) : (fu xs).length = xs.length := by simp [fu]
theorem fu_get {xs : List Nat} {i x : Nat} (h : xs[i]? = some x) : (fu xs)[i]? = some (.int .u64 (x : Int)) := by simp [fu, h]
theorem fu_oneCell (xs : List Nat) : ∀ u ∈ fu xs, u.oneCell' = true := by
  intro u hu
  simp [fu] at hu
  obtain ⟨x, _, rfl⟩ := hu
  rfl
theorem info_u64 : (Tryd.prog.info? 24).map (fun i => (i.zero, i.size, i.bytes)) = some (some (.int .u64 0), 1, 8) := by kernel_rfl
theorem row_base {w : World} {base size n : Nat} {e : TypeId} {v : Value} {xs : List Value} (h : w.ownsRow base e size v n xs) (r : Nat) (hr : v.ownBlock = some r) : base ≤ r ∧ r < w.heap.size := by
  rcases h.2 with ⟨rfl, _⟩ | ⟨g, cap, cur, rfl, hb, hg, _⟩
  · simp [Value.ownBlock] at hr
  · simp [Value.ownBlock] at hr
    subst hr
    exact ⟨hb, (Array.getElem?_eq_some_iff.1 hg).1⟩
theorem LU.cells {w : World} {ad : Addr} {n cap : Nat} {xs : List Nat} (h : LU w (.slice (some ad) n cap) xs) : ∀ j u, (fu xs)[j]? = some u → w.cell? (ad.add j) = some u := by
  obtain ⟨a, cap', e, hl, hcp, hm, _, hc⟩ := h
  cases e
  intro j u hj
  have hjl := (List.getElem?_eq_some_iff.1 hj).1
  rw [fu_length] at hjl
  obtain ⟨g, off, e, hx⟩ := hc (by omega)
  cases e
  have hxi : xs[j]? = some (xs[j]) := List.getElem?_eq_getElem hjl
  have := fu_get hxi
  rw [this] at hj
  cases hj
  have key := hx j _ hxi
  unfold Addr.add
  split
  · rename_i h0; subst h0; exact key
  · exact key

theorem cells_new (W : World) (xs : List Value) (t : TypeId) : ∀ j u, xs[j]? = some u → (W.alloc (.cells xs.toArray t)).cell? ((⟨W.heap.size, 0, none⟩ : Addr).add j) = some u := by
  intro j u hj
  have h := (Blk.new W xs t).cellOf hj
  unfold Addr.add
  split
  · rename_i h0; subst h0; exact h
  · simpa using h
/-- Numbers put behind nothing. -/
theorem wpList_append_LU {ops : Array Oper} {rest : List Oper} {o : Oper} {a : Act} {Q : Exit → Act → World → Prop} {w : World} (hgd : o.guard = none) (s x : Operand)
    (ho : o.op = .call { callee := .builtin .append, args := #[s, x], argTypes := #[22, 22] })
    (base b : Nat) (hs : a.eval s = .slice (some ⟨b, 0, none⟩) 0 0) (hown : w.ownsRow base 24 1 (.slice (some ⟨b, 0, none⟩) 0 0) 0 [])
    (v : Value) (xs : List Nat) (hx : a.eval x = v) (hLU : LU w v xs) (hbase : base ≤ w.heap.size)
    (h : ∀ v' w', w'.ownsRow base 24 1 v' xs.length (fu xs) → w.grownBy w' (some b) → wpList Tryd.prog ops Q rest (a.put o.dst v') w') : wpList Tryd.prog ops Q (o :: rest) a w := by
  obtain ⟨i0, hi, hz0, hz1, hz2⟩ := info_parts info_u64
  obtain ⟨ao, cap, hv, hl, hcp, hm, _, hc⟩ := id hLU
  subst hv
  cases ao with
  | none =>
    have hx0 : xs = [] := by
      rcases Nat.eq_zero_or_pos xs.length with h0 | h0
      · exact List.length_eq_zero_iff.1 h0
      · obtain ⟨g, off, e, _⟩ := hc h0
        cases e
    subst hx0
    have hr : (Builtin.append_ #[22, 22] o.type #[.slice (some ⟨b, 0, none⟩) 0 0, .slice none 0 cap]).run Tryd.prog w = .ok (.slice (some ⟨b, 0, none⟩) 0 0) w := by
      simp [Builtin.append_, run_underlying Tryd.underlying22, sizeOf, typeInfo, hi, Builtin.lenOf, Builtin.firstCells, loadCells, loadCellsFrom, storeCells]
    refine wpList_plain hgd fun _ hK => ?_
    unfold Oper.wp execOp
    simp only [ho, resolve, invoke, builtin, Sem.run_bind, Sem.run_pure, Result.andThen_ok, List.map_toArray, List.map_cons, List.map_nil, hs, hx, List.length_nil, hr]
    exact hK _ _ (h _ _ hown (g_refl _ _))
  | some ad =>
    refine wpList_append_own w hgd s x 22 ho base 24 i0 (.int .u64 0) 1 8 Tryd.underlying22 hi hz0 hz1 hz2 rfl (by decide) _ _ _ hs hown ad xs.length cap (fu xs) hx (by rw [fu_length]; omega) hLU.cells (fu_oneCell xs) (by unfold maxLen at *; omega) (by omega) hbase ?_
    intro v' w' h1 h2 _
    simp only [Nat.zero_add, List.nil_append] at h1
    exact h v' w' h1 h2
end Go.Proofs.YtgdnafafojiabaaDoor
