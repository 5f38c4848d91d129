/-
  FeedPlays and FeedCopies: what they begin with.
-/
import Derived.Test.YtkeicoadpdfkkaaFeedActA
import Derived.Test.YtkeicoadpdfkkaaRow
import Derived.Test.YtkeicoadpdfkkaaFeedHoldsEnd
namespace Go.Proofs.Ytkeicoadpdfkkaa
open Go.RowKit

/-- The calls, in memory. -/
def ActsAt (w : World) (a : Option Addr) (len : Nat) (A : Nat → Nat → Int) : Prop :=
  0 < len → ∃ b off, a = some ⟨b, off, none⟩ ∧ ∀ i, i < len → w.cell? ⟨b, off + i * 2, none⟩ = some (.int .i64 (A i 0)) ∧ w.cell? ⟨b, off + i * 2 + 1, none⟩ = some (.int .i64 (A i 1))
theorem ActsAt.kept {w w' : World} {a : Option Addr} {len : Nat} {A : Nat → Nat → Int} (h : ActsAt w a len A) (hg : w.grownBy w' none) : ActsAt w' a len A := fun h0 => by
  obtain ⟨b, off, ha, hx⟩ := h h0
  exact ⟨b, off, ha, fun i hi => ⟨g_cellN hg (hx i hi).1, g_cellN hg (hx i hi).2⟩⟩
theorem acts_of_row {w : World} {a : Option Addr} {len : Nat} {A : Nat → Nat → Int} (h : RowAt w a len [.i64, .i64] A) : ActsAt w a len A := fun h0 => by
  obtain ⟨b, off, ha, _, hx⟩ := h h0
  refine ⟨b, off, ha, fun i hi => ⟨?_, ?_⟩⟩
  · exact (hx i hi 0 _ rfl).1
  · exact (hx i hi 1 _ rfl).1

/-- Bytes put behind nothing. -/
theorem wpList_append_LB {ops : Array Oper} {rest : List Oper} {o : Oper} {a : Act} {Q : Exit → Act → World → Prop} {w : World} (hgd : o.guard = none) (s x : Operand)
    (ho : o.op = .call { callee := .builtin .append, args := #[s, x], argTypes := #[22, 22] })
    (base b : Nat) (hs : a.eval s = .slice (some ⟨b, 0, none⟩) 0 0) (hown : w.ownsRow base 5 1 (.slice (some ⟨b, 0, none⟩) 0 0) 0 [])
    (v : Value) (xs : List Int) (hx : a.eval x = v) (hLU : LB w v xs) (hbase : base ≤ w.heap.size)
    (h : ∀ v' w', w'.ownsRow base 5 1 v' xs.length (fb xs) → w.grownBy w' (some b) → wpList Try.prog ops Q rest (a.put o.dst v') w') : wpList Try.prog ops Q (o :: rest) a w := by
  obtain ⟨i0, hi, hz0, hz1, hz2⟩ := info_parts info_byte
  obtain ⟨ao, cap, hv, hl, hcp, hm, hc⟩ := id hLU
  subst hv
  cases ao with
  | none =>
    have hx0 : xs = [] := by
      rcases Nat.eq_zero_or_pos xs.length with h0 | h0
      · exact List.length_eq_zero_iff.1 h0
      · obtain ⟨g, off, e, _⟩ := hc h0
        cases e
    subst hx0
    have hr : (Builtin.append_ #[22, 22] o.type #[.slice (some ⟨b, 0, none⟩) 0 0, .slice none 0 cap]).run Try.prog w = .ok (.slice (some ⟨b, 0, none⟩) 0 0) w := by
      simp [Builtin.append_, run_underlying Try.underlying22, sizeOf, typeInfo, hi, Builtin.lenOf, Builtin.firstCells, loadCells, loadCellsFrom, storeCells]
    refine wpList_plain hgd fun _ hK => ?_
    unfold Oper.wp execOp
    simp only [ho, resolve, invoke, builtin, Sem.run_bind, Sem.run_pure, Result.andThen_ok, List.map_toArray, List.map_cons, List.map_nil, hs, hx, List.length_nil, hr]
    exact hK _ _ (h _ _ hown (g_refl _ _))
  | some ad =>
    refine wpList_append_own w hgd s x 22 ho base 5 i0 (.int .u8 0) 1 1 Try.underlying22 hi hz0 hz1 hz2 rfl (by decide) _ _ _ hs hown ad xs.length cap (fb xs) hx (by rw [fb_length]; omega) hLU.cells (fb_oneCell xs) (by unfold maxLen at *; omega) (by omega) hbase ?_
    intro v' w' h1 h2 _
    simp only [Nat.zero_add, List.nil_append] at h1
    exact h v' w' h1 h2

theorem cells_newB (W : World) (cs : List Value) (T : TypeId) : ∀ j u, cs[j]? = some u → (W.alloc (.cells cs.toArray T)).cell? ((⟨W.heap.size, 0, none⟩ : Addr).add j) = some u := cells_newI W cs T
/-- Bytes and one more, in a block that lies whole. -/
theorem row_more {w : World} {base g n cap : Nat} {xs : List Int} {u : Value} (hn : n = xs.length) (h : w.ownsRow base 5 1 (.slice (some ⟨g, 0, none⟩) (n + 1) cap) (n + 1) (fb xs ++ [u])) : ∃ tail, Blk w g 5 (fb xs ++ (u :: tail)) ∧ xs.length + 1 ≤ cap ∧ cap ≤ maxLen ∧ base ≤ g := by
  obtain ⟨tail, h1, h2, h3, h4, h5⟩ := row_blk h
  rw [List.append_assoc] at h1
  exact ⟨tail, h1, by omega, h4, h5⟩
theorem LB.ofBlk {w : World} {g cap : Nat} {xs : List Int} {more : List Value} (h : Blk w g 5 (fb xs ++ more)) (hl : xs.length ≤ 20000) (hc : xs.length ≤ cap) (hm : cap ≤ maxLen) : LB w (.slice (some ⟨g, 0, none⟩) xs.length cap) xs := by
  refine ⟨_, cap, rfl, hl, hc, hm, fun _ => ⟨g, 0, rfl, fun i x hi => ?_⟩⟩
  rw [Nat.zero_add]
  have hf := fb_get hi
  refine h.cellOf ?_
  rw [List.getElem?_append_left (List.getElem?_eq_some_iff.1 hf).1]
  exact hf
theorem blk_setB {w : World} {g i : Nat} {zs : List Int} {more : List Value} (z : Int) (h : Blk w g 5 (fb zs ++ more)) (hi : i < zs.length) : Blk (w.setCell ⟨g, i, none⟩ (.int .u8 z)) g 5 (fb (zs.set i z) ++ more) := by
  have h6 := h.set i (.int .u8 z)
  rw [List.set_append_left _ _ (by rw [fb_length]; exact hi), fb_set] at h6
  exact h6
theorem blk_last {w : World} {g n : Nat} {zs : List Int} {u : Value} {tail : List Value} (h : Blk w g 5 (fb zs ++ (u :: tail))) (hn : zs.length = n) : w.cell? ⟨g, n, none⟩ = some u := by
  refine h.cellOf ?_
  rw [List.getElem?_append_right (by rw [fb_length]; omega), fb_length, hn, Nat.sub_self]
  rfl

theorem same_sn (p : Nat) (v : Value) (xs : List Int) (k : Nat) (u : Option Addr) (w : World) (h : FeedAt w p v xs k) (h' : IsNone w u) :
    Calls Try.prog 13 #[.pointer (some ⟨p, 0, none⟩), .pointer u] w fun e w' => e = .returned (.bool false) ∧ w = w' := by
  go_enter Try.func13, Try.ntmps13
  go_wp2_with fail
  refine (none_some _ p v xs k h).mono ?_
  rintro e w1 ⟨rfl, rfl⟩
  go_wp2_with fail
  refine (none_none _ u h').mono ?_
  rintro e w1 ⟨rfl, rfl⟩
  go_wp2_with fail
  refine (none_some _ p v xs k h).mono ?_
  rintro e w1 ⟨rfl, rfl⟩
  go_wp2
  go_ret
  exact ⟨rfl, rfl⟩
theorem same_ns (u : Option Addr) (p : Nat) (v : Value) (xs : List Int) (k : Nat) (w : World) (h' : IsNone w u) (h : FeedAt w p v xs k) :
    Calls Try.prog 13 #[.pointer u, .pointer (some ⟨p, 0, none⟩)] w fun e w' => e = .returned (.bool false) ∧ w = w' := by
  go_enter Try.func13, Try.ntmps13
  go_wp2_with fail
  refine (none_none _ u h').mono ?_
  rintro e w1 ⟨rfl, rfl⟩
  go_wp2_with fail
  refine (none_none _ u h').mono ?_
  rintro e w1 ⟨rfl, rfl⟩
  go_wp2_with fail
  refine (none_some _ p v xs k h).mono ?_
  rintro e w1 ⟨rfl, rfl⟩
  go_wp2
  go_ret
  exact ⟨rfl, rfl⟩
end Go.Proofs.Ytkeicoadpdfkkaa
