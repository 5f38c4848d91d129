/-
  The document's answers, and the law's lists.
-/
import Derived.Test.YthoelbildokmpaaCellAll
import Derived.Maps.OwnIn
namespace Go.Proofs.Ythoelbildokmpaa
open Go.RowKit

theorem info_rcell : (Try.prog.info? 82).map (fun i => (i.zero, i.size, i.bytes)) = some (some (.agg #[.int .u64 0, .int .i64 0]), 2, 16) := by kernel_rfl
theorem info_lrow : (Try.prog.info? 63).map (fun i => (i.zero, i.size, i.bytes)) = some (some (.agg #[.int .i64 0, .int .u64 0]), 2, 16) := by kernel_rfl

theorem refNew_yes (n : Nat) (hn : n ≤ 1024) (w : World) :
    Calls Try.prog 13 #[.int .i64 n] w fun e w' => ∃ v, e = .returned (.tuple #[v, .int .i64 0]) ∧ ListAt w' 82 v (List.replicate n (0, 0)) ∧ w.grownBy w' none := by
  obtain ⟨i0, hi, hz0, hz1, hz2⟩ := info_parts info_rcell
  go_enter Try.func13, Try.ntmps13
  go_wp2_with (refine wpList_make_full _ rfl _ _ 41 rfl w.heap.size 82 i0 (.agg #[.int .u64 0, .int .i64 0]) 2 Try.underlying41 hi hz0 hz1 .i64 .i64 n n n rfl rfl rfl rfl (by rw [hz2]; omega) (by unfold maxLen; omega) (Nat.le_refl _) ?_; intro w1 hown hg)
  go_ret2
  rw [show (Value.agg #[Value.int .u64 0, .int .i64 0]).cells = #[.int .u64 0, .int .i64 0] from rfl, madeCells_two, flat_replicate] at hown
  obtain ⟨tail, hb, hl, h1, h2, h3⟩ := row_blk hown
  exact ⟨_, rfl, ⟨w.heap.size, n, tail, by simp, hb, by simp, h2, hl⟩, hg⟩

theorem refNew_no (i : Int) (hi : i < 0 ∨ 1024 < i) (w : World) :
    Calls Try.prog 13 #[.int .i64 i] w fun e w' => e = .returned (.tuple #[.slice none 0 0, .int .i64 2]) ∧ w = w' := by
  rcases hi with hi | hi
  all_goals
    go_enter Try.func13, Try.ntmps13
    go_wp2
    go_ret2
    exact ⟨rfl, rfl⟩

theorem there_any (a : Option Addr) (n c : Nat) (i : Int) (w : World) :
    Calls Try.prog 35 #[.slice a n c, .int .i64 i] w fun e w' => e = .returned (.bool (decide (0 ≤ i ∧ i < n))) ∧ w = w' := by
  by_cases h0 : 0 ≤ i
  · by_cases h1 : i < n
    · go_enter Try.func35, Try.ntmps35
      go_wp2
      go_ret
      exact ⟨by simp [h0, h1], rfl⟩
    · go_enter Try.func35, Try.ntmps35
      go_wp2
      go_ret
      exact ⟨by simp [h0, h1], rfl⟩
  · go_enter Try.func35, Try.ntmps35
    go_wp2
    go_ret
    exact ⟨by simp; omega, rfl⟩

theorem refStore_any (v : Value) (xs : List (Int × Int)) (k : Nat) (u c n : Int) (hxk : xs[k]? = some (u, c)) (hx : xs.length ≤ 1000000) (hc0 : -1000000 ≤ c) (hc1 : c ≤ 1000000) (w : World) (h : ListAt w 82 v xs) :
    Calls Try.prog 36 #[v, .int .i64 k, .int .u64 n] w fun e w' => ∃ v', e = .returned v' ∧ ListAt w' 82 v' (xs.set k (n, c + 1)) ∧ w.grownBy w' none := by
  obtain ⟨i0, hi, hz0, hz1, hz2⟩ := info_parts info_rcell
  obtain ⟨g, cap, tail, rfl, hb, hl, hm, hcap⟩ := h
  have hfl := flat_length xs
  have hk : k < xs.length := (List.getElem?_eq_some_iff.1 hxk).1
  have hrow : (w.alloc (.cells #[] 82)).ownsRow w.heap.size 82 2 (.slice (some ⟨w.heap.size, 0, none⟩) 0 0) 0 [] := World.ownsRow_made w #[] 0 (Nat.le_refl _) (by simp [maxLen]) rfl
  have hb' := hb.alloc (.cells #[] 82)
  go_enter Try.func36, Try.ntmps36
  go_wp2_with (at_builtin; refine wpList_append_own _ rfl _ _ 41 rfl w.heap.size 82 i0 (.agg #[.int .u64 0, .int .i64 0]) 2 16 Try.underlying41 hi hz0 hz1 hz2 rfl (by decide) _ _ _ rfl hrow ⟨g, 0, none⟩ xs.length cap (flat xs) rfl (by omega) (flat_cells hb') (flat_oneCell xs) (by unfold maxLen; omega) (by omega) (by simp) ?_; intro v' w1 hown' hgrow hnn; have hv : v' ≠ .slice none 0 0 := (fun e => by have := (hnn.1 e).1; cases this); simp only [Nat.zero_add, List.nil_append] at hown'; obtain ⟨⟨g', cap', tail', rfl, hb1, hl1, hm1, hcap1⟩, hn1⟩ := ListAt.own hown' hv; have hgF : w.grownBy w1 none := g_new (g_alloc (g_refl w _) _) hgrow (Nat.le_refl _); obtain ⟨q0, q1⟩ := flat_get xs k hxk; have hbg := hb.keptN hgF; have d1 := hbg.cellOf (i := k * 2 + 1) (by rw [List.getElem?_append_left (by omega)]; exact q1); have f0 := hb1.frozen (k * 2); have f1 := hb1.frozen (k * 2 + 1); have z0 := hb1.cellOf (i := k * 2) (by rw [List.getElem?_append_left (by omega)]; exact q0); have z1 := hb1.cellOf (i := k * 2 + 1) (by rw [List.getElem?_append_left (by omega)]; exact q1))
  go_ret
  have hk2 : k * 2 + 1 < (flat xs).length := by omega
  refine ⟨_, rfl, ⟨g', cap', tail', by simp, ?_, by simpa using hl1, hm1, by rw [List.length_append, flat_length, List.length_set, ← flat_length, ← List.length_append]; exact hcap1⟩, g_set (g_set hgF _ (.inr (hn1 g' rfl))) _ (.inr (hn1 g' rfl))⟩
  have := (hb1.set (k * 2) (.int .u64 n)).set (k * 2 + 1) (.int .i64 (c + 1))
  rw [List.set_append_left _ _ (by omega), List.set_append_left _ _ (by simp; omega), flat_set xs k n (c + 1) hk] at this
  exact this

/-- The law's rows: a number, and a word. -/
def flatR (l : List (Nat × Int)) : List Value := l.flatMap fun x => [.int .i64 x.1, .int .u64 x.2]
def pairs (l : List (Nat × Int)) : List (Int × Int) := l.map fun x => ((x.1 : Int), x.2)
theorem flatR_append (a b : List (Nat × Int)) : flatR (a ++ b) = flatR a ++ flatR b := List.flatMap_append
theorem flatR_get : ∀ (l : List (Nat × Int)) (i : Nat) {x : Nat × Int}, l[i]? = some x → (flatR l)[i * 2]? = some (.int .i64 x.1) ∧ (flatR l)[i * 2 + 1]? = some (.int .u64 x.2)
  | [], i, _, h => by simp at h
  | y :: l, 0, x, h => by
    simp at h; subst h
    exact ⟨rfl, rfl⟩
  | y :: l, i + 1, x, h => by
    have := flatR_get l i (x := x) (by simpa using h)
    rw [show (i + 1) * 2 = i * 2 + 2 by omega, show i * 2 + 2 + 1 = i * 2 + 1 + 2 by omega]
    exact this
theorem SliceOf.rows {w : World} {base : Nat} {e : TypeId} {v : Value} {l : List (Nat × Int)} (hl : l.length ≤ 1000000) (h : w.ownsRow base e 2 v l.length (flatR l)) : SliceOf w .i64 .u64 v (pairs l) := by
  rcases h.2 with ⟨rfl, h0⟩ | ⟨g, cap, cur, rfl, hb, _⟩
  · have h0' : l = [] := by
      have := h.1
      cases l with
      | nil => rfl
      | cons x l => simp at h0
    subst h0'
    exact ⟨none, 0, rfl, by simp [pairs], fun hp => by simp [pairs] at hp⟩
  · obtain ⟨tail, h1, h2, h3, h4, h5⟩ := row_blk h
    refine ⟨_, cap, by simp [pairs], by simpa [pairs] using hl, fun _ => ⟨g, rfl, fun i u c hi => ?_⟩⟩
    obtain ⟨x, hx, hxu⟩ : ∃ x, l[i]? = some x ∧ ((x.1 : Int), x.2) = (u, c) := by
      simp only [pairs, List.getElem?_map, Option.map_eq_some_iff] at hi
      exact hi
    cases hxu
    obtain ⟨q0, q1⟩ := flatR_get l i hx
    exact ⟨h1.cellOf (by rw [List.getElem?_append_left (List.getElem?_eq_some_iff.1 q0).1]; exact q0), h1.cellOf (by rw [List.getElem?_append_left (List.getElem?_eq_some_iff.1 q1).1]; exact q1)⟩

theorem cells_new (W : World) (cs : List Value) (T : TypeId) : ∀ j u, cs[j]? = some u → (W.alloc (.cells cs.toArray T)).cell? ((⟨W.heap.size, 0, none⟩ : Addr).add j) = some u := by
  intro j u hj
  have : (W.alloc (.cells cs.toArray T)).cell? ⟨W.heap.size, j, none⟩ = some u := (Blk.new W cs T).cellOf hj
  unfold Addr.add
  split
  · rename_i h0; subst h0; exact this
  · simpa using this

theorem row_cap {w : World} {base : Nat} {e : TypeId} {size n m c : Nat} {v : Value} {a : Option Addr} {xs : List Value} (h : w.ownsRow base e size v n xs) (hv : v = .slice a m c) : m ≤ c := by
  rcases h.2 with ⟨rfl, _⟩ | ⟨g, cap, cur, rfl, hb, hg, hn, _⟩
  · cases hv; exact Nat.le_refl _
  · cases hv; exact hn
theorem row_base {w : World} {base : Nat} {e : TypeId} {size n : Nat} {v : Value} {xs : List Value} (h : w.ownsRow base e size v n xs) : ∀ r, v.ownBlock = some r → base ≤ r ∧ r < w.heap.size := by
  rcases h.2 with ⟨rfl, _⟩ | ⟨g, cap, cur, rfl, hb, hg, _⟩
  · intro r hr; simp [Value.ownBlock] at hr
  · intro r hr
    simp [Value.ownBlock] at hr; subst hr
    exact ⟨hb, (Array.getElem?_eq_some_iff.1 hg).1⟩

set_option maxHeartbeats 1000000 in
theorem rows_any (v : Value) (xs : List (Int × Int)) (hx : xs.length ≤ 1000000) (w : World) (h : ListAt w 82 v xs) :
    Calls Try.prog 22 #[v] w fun e w' => ∃ v', e = .returned v' ∧ SliceOf w' .i64 .u64 v' (pairs (nz 0 xs)) ∧ w.grownBy w' none ∧ (∀ a n c, v' = .slice a n c → n ≤ c) := by
  obtain ⟨i0, hi, hz0, hz1, hz2⟩ := info_parts info_lrow
  have hS := SliceOf.list h hx
  obtain ⟨a, cap, rfl, hlen, hcells⟩ := hS
  have HL := hid h
  clear h hcells
  go_enter Try.func22, Try.ntmps22
  go_wp2
  go_loopw [3, 4] (fun v3 v4 wr => ∃ (k : Nat), k ≤ xs.length ∧ v4 = .int .i64 k ∧ wr.ownsRow w.heap.size 63 2 v3 (nz 0 (xs.take k)).length (flatR (nz 0 (xs.take k))) ∧ w.grownBy wr none) (fun _ v4 _ => xs.length - (intOf v4).toNat)
  case atStart => exact ⟨0, Nat.zero_le _, rfl, World.ownsRow_nil _ _ _ _, g_refl w _⟩
  case round =>
    obtain ⟨k, hk, rfl, hrow, hg⟩ := hrel
    have hnl : (nz 0 (xs.take k)).length ≤ xs.length := by have := nz_length (xs.take k) 0; have h2 := List.length_take_le k xs; omega
    by_cases hlt : k < xs.length
    · obtain ⟨g, cap', e', _, _, hc⟩ := (HL.out.keptN hg).facts
      cases e'
      obtain ⟨⟨u, c⟩, hxk⟩ : ∃ x, xs[k]? = some x := ⟨xs[k], List.getElem?_eq_getElem hlt⟩
      obtain ⟨d1, e1⟩ := hc k u c hxk
      have ht := nz_take hxk
      have HT := hid ht
      clear ht hc
      cases hu : (u != 0) with
      | false =>
        go_wp2
        go_roundw
        case rel => exact ⟨k + 1, by omega, by go_num, by rw [HT.out, hu]; simpa using hrow, hg⟩
        case measure => simp [intOf]; omega
      | true =>
        go_wp2_with (at_builtin; refine wpList_append_own _ rfl _ _ 49 rfl w.heap.size 63 i0 (.agg #[.int .i64 0, .int .u64 0]) 2 16 Try.underlying49 hi hz0 hz1 hz2 rfl (by decide) _ _ _ rfl (hrow.alloc _) ⟨wr.heap.size, 0, none⟩ 1 1 [.int .i64 k, .int .u64 u] rfl rfl (cells_new wr [.int .i64 k, .int .u64 u] _) (by simp [Value.oneCell']) (by unfold maxLen; omega) (by omega) (by have := hg.size; simp; omega) ?_; intro v' w1 hown' hgrow hnn)
        refine ⟨⟨k + 1, by omega, by go_num, ?_, g_trans (g_alloc hg _) hgrow (fun r e => .inr (row_base hrow r e).1)⟩, by simp [intOf]; omega⟩
        rw [HT.out, hu]
        simp only [if_true]
        rw [List.length_append, flatR_append]
        exact hown'
    · obtain rfl : k = xs.length := by omega
      rw [List.take_length] at hrow hnl
      go_wp2
      go_ret
      exact ⟨_, rfl, SliceOf.rows (by omega) hrow, hg, fun a n c e => row_cap hrow e⟩

/-- Cells, or none: what is in them. -/
def Reads (w : World) (v : Option Addr) (xs : List (Int × Int)) : Prop := (IsNone w v ∧ xs = []) ∨ ∃ p g, v = some ⟨p, 0, none⟩ ∧ CellsAt w p g xs
theorem Reads.keptN {w w' : World} {v : Option Addr} {xs : List (Int × Int)} (h : Reads w v xs) (hg : w.grownBy w' none) : Reads w' v xs := by
  rcases h with ⟨h, rfl⟩ | ⟨p, g, rfl, h⟩
  · exact .inl ⟨h.imp id fun ⟨p, hv, hc⟩ => ⟨p, hv, g_cellN hg hc⟩, rfl⟩
  · exact .inr ⟨p, g, rfl, h.keptN hg⟩
theorem all_reads (v : Option Addr) (xs : List (Int × Int)) (hx : xs.length ≤ 1000000) (w : World) (h : Reads w v xs) :
    Calls Try.prog 20 #[.pointer v] w fun e w' => ∃ wb v, e = .returned (.func (.func 37) #[] #[.pointer (some ⟨wb, 0, none⟩)]) ∧ AllX wb v xs w' ∧ w.grownBy w' none ∧ (∀ r, v.ownBlock = some r → w.heap.size ≤ r ∧ r < w'.heap.size) ∧ w.heap.size ≤ wb := by
  rcases h with ⟨h, rfl⟩ | ⟨p, g, rfl, h⟩
  · exact all_none v w h
  · exact all_some p g xs hx w h

/-- A list that is read, and not written. -/
def SliceK (bs : List Nat) (rb : Option Nat) (B : Nat) (v : Value) (xs : List (Int × Int)) (W : World) : Prop := B ≤ W.heap.size ∧ (∀ r, v.ownBlock = some r → NotW bs rb r W) ∧ SliceOf W .u64 .i64 v xs
section
variable {bs : List Nat} {rb : Option Nat} {B : Nat} {v : Value} {xs : List (Int × Int)} {A W W0 : World}
theorem SliceK.keeps (h : SliceK bs rb B v xs A) (k : Keeps bs rb A W) : SliceK bs rb B v xs W := by
  obtain ⟨hB, hN, a, cap, rfl, hl, hc⟩ := h
  refine ⟨Nat.le_trans hB k.size, fun r hr => (hN r hr).keeps k, a, cap, rfl, hl, fun h0 => ?_⟩
  obtain ⟨g, rfl, hx⟩ := hc h0
  exact ⟨g, rfl, fun i u c hi => ⟨(hN g rfl).cell k (hx i u c hi).1, (hN g rfl).cell k (hx i u c hi).2⟩⟩
theorem cell_not_row {A : World} {row : Option Nat} {p i : Nat} {v : Value} (hc : A.cell? ⟨p, i, none⟩ = some v) (hr : ∀ r, row = some r → ∃ o : Obj, A.heap[r]? = some o ∧ o.isCells = false) : some p ≠ row := by
  intro e
  obtain ⟨o, ho, hcl⟩ := hr p e.symm
  cases o <;> simp [Obj.isCells] at hcl <;> simp [World.cell?, ho] at hc
theorem cell_lt {A : World} {p i : Nat} {v : Value} (hc : A.cell? ⟨p, i, none⟩ = some v) : p < A.heap.size := by
  by_cases h : p < A.heap.size
  · exact h
  · have h0 : A.heap[p]? = none := Array.getElem?_eq_none (by omega)
    simp [World.cell?, h0] at hc
theorem SliceK.own {α : Type} (hf : Foot bs rb W0) : OwnFrom W0.heap.size (fun (_ : α) W => SliceK bs rb W0.heap.size v xs W) := by
  rintro s A W row ⟨hB, hN, a, cap, rfl, hl, hc⟩ hg hr
  have hne : ∀ {p i : Nat} {v : Value}, A.cell? ⟨p, i, none⟩ = some v → some p ≠ row := fun h => cell_not_row h (fun r e => (hr r e).2)
  refine ⟨Nat.le_trans hB hg.size, fun r hr' => (hN r hr').grown (fun b hb => Nat.lt_of_lt_of_le (hf.bl b hb) hB) hf.mem hg (fun r e hrb => ?_), a, cap, rfl, hl, fun h0 => ?_⟩
  · have h1 : r < W0.heap.size := hf.bl r (hf.mem r hrb)
    have h2 : W0.heap.size ≤ r := (hr r e).1
    omega
  · obtain ⟨g, rfl, hx⟩ := hc h0
    have kc : ∀ {i : Nat} {v : Value}, A.cell? ⟨g, i, none⟩ = some v → W.cell? ⟨g, i, none⟩ = some v := fun h => by rw [← h]; exact g_cell (a := ⟨g, _, none⟩) hg (cell_lt h) (hne h)
    exact ⟨g, rfl, fun i u c hi => ⟨kc (hx i u c hi).1, kc (hx i u c hi).2⟩⟩
end
theorem grown_own {α : Type} {B : Nat} {w : World} (hB : w.heap.size ≤ B) : OwnFrom B (fun (_ : α) W => w.grownBy W none) := by
  intro s A W row hA hg hr
  exact g_trans hA hg (fun r e => .inr (Nat.le_trans hB (hr r e).1))

attribute [local go_sem] Oper.semAt_some

set_option maxHeartbeats 2000000 in
theorem all_any (v : Option Addr) (xs : List (Int × Int)) (hx : xs.length ≤ 1000000) (m : Nat) (hm0 : 1 ≤ m) (hm : m ≤ 1000000) (w : World) (h : Reads w v xs) :
    Calls Try.prog 15 #[.pointer v, .int .i64 m] w fun e w' => ∃ v', e = .returned v' ∧ SliceOf w' .i64 .u64 v' (pairs ((nz 0 xs).take m)) ∧ w.grownBy w' none := by
  obtain ⟨i0, hi, hz0, hz1, hz2⟩ := info_parts info_lrow
  have hgA : w.grownBy ((w.alloc (.cells #[.int .i64 m] 3)).alloc (.cells #[.slice none 0 0] 49)) none := g_alloc (g_alloc (g_refl w _) _) _
  have hA1 := h.keptN hgA
  have bM0 := (Boxed.new w 3 (.int .i64 m)).alloc (.cells #[.slice none 0 0] 49)
  have bL0 := Boxed.new (w.alloc (.cells #[.int .i64 m] 3)) 49 (.slice none 0 0)
  rw [World.size_alloc] at bL0
  have qF : ∀ (w : World) (fn : Fn) (a b : Array Value), (binOp .eql 59 (.func fn a b) .nilFunc).run Try.prog w = .ok (.bool false) w := fun w fn a b => run_eql_func_nil w _ _ _ _ fn a b Try.underlying59
  refine calls_of_wp_marks Try.func15 rfl (wpIn_wide.2 ?_)
  simp only [Try.ntmps15, List.size_toArray, List.length_cons, List.length_nil, Nat.reduceAdd, Nat.reduceSub, Array.replicate_succ, Array.replicate_zero, List.push_toArray, List.append_toArray, List.nil_append, List.cons_append]
  go_wp2_with fail
  refine (all_reads v xs hx _ hA1).mono ?_
  rintro e w1 ⟨wb1, v1, rfl, _, hg1, _, _⟩
  go_wp2_with fail
  refine (all_reads v xs hx _ (hA1.keptN hg1)).mono ?_
  rintro e w2 ⟨wb, vv, rfl, hX2, hg2, hvn, hwn⟩
  go_wp2_with fail
  have hgW : w.grownBy w2 none := g_none (g_none hgA hg1) hg2
  have hsA : w.heap.size + 2 ≤ w1.heap.size := by have := hg1.size; simpa using this
  have hs2 : w1.heap.size ≤ w2.heap.size := hg2.size
  have bM := (bM0.kept hg1 (by simp)).kept hg2 (by simp)
  have bL := (bL0.kept hg1 (by simp)).kept hg2 (by simp)
  have hfoot : Foot [w.heap.size + 1] (some (w.heap.size + 1)) w2 := ⟨fun b hw => by
    rcases hw with hm' | ⟨r, u, hr, hc, hu⟩
    · simp at hm'; omega
    · cases hr; rw [bL.cell] at hc; cases hc; simp [Value.ownBlock] at hu, fun r hr => by cases hr; simp⟩
  have hnw : ∀ {p : Nat}, p < w2.heap.size → p ≠ w.heap.size + 1 → NotW [w.heap.size + 1] (some (w.heap.size + 1)) p w2 := fun {p} hp hne => ⟨hp, fun hw => by
    rcases hw with hm' | ⟨r, u, hr, hc, hu⟩
    · simp at hm'; exact hne hm'
    · cases hr; rw [bL.cell] at hc; cases hc; simp [Value.ownBlock] at hu⟩
  obtain ⟨hXc, a, cap, rfl, hlen, hcells⟩ := hX2
  have kB : Box [w.heap.size + 1] (some (w.heap.size + 1)) w2.heap.size wb (.slice a xs.length cap) w2 := ⟨Nat.le_refl _, hnw (cell_lt hXc) (by omega), hXc⟩
  have kM : Box [w.heap.size + 1] (some (w.heap.size + 1)) w2.heap.size w.heap.size (.int .i64 m) w2 := ⟨Nat.le_refl _, hnw (by omega) (by omega), bM.cell⟩
  have kS : SliceK [w.heap.size + 1] (some (w.heap.size + 1)) w2.heap.size (.slice a xs.length cap) xs w2 := by
    refine ⟨Nat.le_refl _, fun r hr => ?_, a, cap, rfl, hlen, hcells⟩
    have hr2 := hvn r hr
    exact hnw hr2.2 (by omega)
  refine wp_of_in (wp_iter (gf := 37) (lb := #[.pointer (some ⟨wb, 0, none⟩)]) rfl (Go.Proofs.enters_of Try.func37 (by kernel_rfl) rfl)
    (encs := fun x : Nat × Int => #[.int .i64 x.1, .int .u64 x.2]) (fun _ => rfl) [w.heap.size + 1] (some (w.heap.size + 1)) hfoot
    (fun W1 _ => all1_iter wb (.slice a xs.length cap) xs W1)
    (fun pre W1 => ((((∃ v, Boxed W1 (w.heap.size + 1) 49 v ∧ W1.ownsRow w.heap.size 63 2 v pre.length (flatR pre) ∧ pre.length < m) ∧ Box [w.heap.size + 1] (some (w.heap.size + 1)) w2.heap.size wb (.slice a xs.length cap) W1) ∧ Box [w.heap.size + 1] (some (w.heap.size + 1)) w2.heap.size w.heap.size (.int .i64 m) W1) ∧ SliceK [w.heap.size + 1] (some (w.heap.size + 1)) w2.heap.size (.slice a xs.length cap) xs W1) ∧ w.grownBy W1 none)
    (fun c pre W1 => ((∃ v, Boxed W1 (w.heap.size + 1) 49 v ∧ W1.ownsRow w.heap.size 63 2 v pre.length (flatR pre) ∧ (pre.length = m ∧ c = .exit 0)) ∧ w.grownBy W1 none))
    (OwnFrom.and (OwnFrom.and (OwnFrom.and (OwnFrom.and (Own.from (holdsRow_own _ _ _ _ _ _ _ (fun (pre : List (Nat × Int)) _ => pre.length < m)) _) (Box.own hfoot)) (Box.own hfoot)) (SliceK.own hfoot)) (grown_own hgW.size))
    (fun c => OwnFrom.and (Own.from (holdsRow_own _ _ _ _ _ _ _ (fun (pre : List (Nat × Int)) _ => pre.length = m ∧ c = .exit 0)) _) (grown_own hgW.size))
    (fun pre W1 h => ⟨h.1.1.1.2.2.2, h.1.2.2.2⟩)
    ⟨⟨⟨⟨⟨_, bL, World.ownsRow_nil _ _ _ _, hm0⟩, kB⟩, kM⟩, kS⟩, hgW⟩
    (fun x a' _ => a' = { tmps := #[.pointer v, .int .i64 m, undef, .pointer (some ⟨w.heap.size, 0, none⟩), .slice none 0 0, .pointer (some ⟨w.heap.size + 1, 0, none⟩), .int .i64 x.1, .int .u64 x.2, .pointer v, .func (.func 37) #[] #[.pointer (some ⟨wb1, 0, none⟩)], .bool false, .pointer v, .func (.func 37) #[] #[.pointer (some ⟨wb, 0, none⟩)], .int .i64 x.1, .int .u64 x.2, undef, undef, undef, undef, undef, undef, undef, undef, undef, undef, undef], defers := [] })
    (fun x a' s A B row h _ _ => h) ?assign ?body ?done ?stop)
  case assign =>
    intro l' pre x W1 K _ _ hK
    gi_wp2
    exact hK _ _ (KeepsFrom.refl _ _) (Keeps.refl _ _ _) (by assumption) rfl
  case body =>
    rintro l' pre x a' W1 hl' ⟨⟨⟨⟨⟨v1, hb1, hrow1, hlm⟩, kB1⟩, kM1⟩, kS1⟩, hgW1⟩ rfl hnx
    have hc1 := hb1.cell
    have hcm := kM1.2.2
    have hB1 : w2.heap.size ≤ W1.heap.size := kB1.1
    have hpl : pre.length + 1 ≤ xs.length := by
      have h1 := hnx.length_le
      have h2 := nz_length xs 0
      simp at h1; omega
    have hcc := cells_new W1 [.int .i64 x.1, .int .u64 x.2] 63
    by_cases hlast : pre.length + 1 < m
    all_goals
      gi_wp2_with (gi_at_builtin; refine held_stop ?_)
      refine ⟨?_⟩
      refine wpListIn_append_own_at _ rfl _ _ 49 rfl w.heap.size 63 i0 (.agg #[.int .i64 0, .int .u64 0]) 2 16 Try.underlying49 hi hz0 hz1 hz2 rfl (by decide) _ _ _ rfl (hrow1.alloc _) ⟨W1.heap.size, 0, none⟩ 1 1 [.int .i64 x.1, .int .u64 x.2] rfl rfl hcc (by simp [Value.oneCell']) (by unfold maxLen; omega) (by omega) (by have := hgW1.size; simp; omega) ?_
      intro v' w3 hown' hgrow hnn hob
      obtain ⟨g', cap', rfl⟩ := ownsRow_succ hown'; obtain ⟨hv1, hv2, hr2, hk2, hb2⟩ := hb1.appended (by decide) hrow1 hgW1.size (by omega) hown' hgrow; have hc3 := hv1.cell; have hf3 := hv1.frozen; have hc4 := hv2.cell; have hkp := keeps_append hb1 (fun r e => (row_base hrow1 r e).2) (fun e => hb1.not_row (by decide) hrow1 e.symm) hgrow hob (fun r e => (row_base hown' r e).2); have hcm4 := (kM1.keeps hkp).2.2
      gi_wp2
      have hgF : w.grownBy (w3.setCell ⟨w.heap.size + 1, 0, none⟩ (.slice (some ⟨g', 0, none⟩) (pre.length + 1) cap')) none := g_set (g_trans (g_alloc hgW1 _) hgrow (fun r e => .inr (row_base hrow1 r e).1)) _ (.inr (by simp))
    · exact ⟨hk2.from _, hkp, ⟨⟨⟨⟨_, hv2, by rw [List.length_append, flatR_append]; exact hr2, by simp; omega⟩, kB1.keeps hkp⟩, kM1.keeps hkp⟩, kS1.keeps hkp⟩, hgF⟩
    · exact ⟨hk2.from _, hkp, ⟨_, hv2, by rw [List.length_append, flatR_append]; exact hr2, by simp; omega, rfl⟩, hgF⟩
  case done =>
    rintro D ys W1 hD rfl ⟨⟨⟨⟨⟨v1, hb1, hrow1, hlm⟩, kB1⟩, kM1⟩, kS1⟩, hgW1⟩ hK
    have hc1 := hb1.cell
    have hln := nz_length xs 0
    go_wp2
    refine ⟨by simp, .inl ⟨_, _, rfl, run_takeDeferred hK, ?_⟩⟩
    refine ⟨_, results_tmp rfl _ _ _, v1, rfl, ?_, g_put hgW1 D _ (Nat.le_trans hgW.size hD)⟩
    rw [List.take_of_length_le (by omega)]
    exact SliceOf.rows (by omega) (ownsRow_putObj hrow1 _ hK rfl)
  case stop =>
    rintro D c pre W1 hD hp ⟨⟨v1, hb1, hrow1, hlm, rfl⟩, hgW1⟩ hK
    have hc1 := hb1.cell
    refine wpIn_exit ?_
    go_wp2
    refine ⟨by simp, .inl ⟨_, _, rfl, run_takeDeferred hK, ?_⟩⟩
    refine ⟨_, results_tmp rfl _ _ _, v1, rfl, ?_, g_put hgW1 D _ (Nat.le_trans hgW.size hD)⟩
    rw [← hlm, ← List.prefix_iff_eq_take.1 hp]
    exact SliceOf.rows (by omega) (ownsRow_putObj hrow1 _ hK rfl)
end Go.Proofs.Ythoelbildokmpaa
