/-
  The steps from a number on, at most so many.
-/
import Derived.Test.YtgdnafafojiabaaDoorRoundIter2
import Derived.Maps.OwnIn
import Derived.BigQuiet
namespace Go.Proofs.YtgdnafafojiabaaDoor
open Go.RowKit

def stAll (f u s : Nat) (ys : List Nat) : Prop := (s = 0 ∧ ys = []) ∨ (1 ≤ s ∧ stS f u s ys)
def stPart (f u s : Nat) (ys : List Nat) : Prop := 1 ≤ s ∧ stSp f u s ys
theorem steps1_any (f u s b1 b2 b3 : Nat) (hf : f < 18446744073709551616) (hu : u < 18446744073709551616) (hs2 : s < 18446744073709551616) (W : World) :
    IterAt Tryd.prog 37 #[.pointer (some ⟨b3, 0, none⟩), .pointer (some ⟨b1, 0, none⟩), .pointer (some ⟨b2, 0, none⟩)] (fun x : Nat => #[.int .u64 (x : Int)]) (fun _ W => Three W b1 b2 b3 f u s) (stNx f u s) (stAll f u s) (stPart f u s) W := by
  intro l J Jx bs rb hfoot hX hJ hJx hY h0
  by_cases hs : s = 0
  · subst hs
    refine (steps1_zero f u b1 b2 b3 W l J Jx bs rb hfoot hX hJ hJx hY h0).mono ?_
    rintro e w' ⟨h1, (⟨xs, h2, h3⟩ | ⟨pre, h2, h3⟩)⟩
    · exact ⟨h1, .inl ⟨xs, .inl ⟨rfl, h2⟩, h3⟩⟩
    · exact h2.elim
  · refine (steps1_iter f u s b1 b2 b3 (by omega) hf hu hs2 W l J Jx bs rb hfoot hX hJ hJx hY h0).mono ?_
    rintro e w' ⟨h1, (⟨xs, h2, h3⟩ | ⟨pre, h2, h3⟩)⟩
    · exact ⟨h1, .inl ⟨xs, .inr ⟨by omega, h2⟩, h3⟩⟩
    · exact ⟨h1, .inr ⟨pre, ⟨by omega, h2⟩, h3⟩⟩

/-- How many there are. -/
def Cnt (f u s m n : Nat) : Prop := n ≤ m ∧ ((s = 0 ∧ n = 0) ∨ (1 ≤ s ∧ (∀ j, j < n → f + j * s < u) ∧ (n = m ∨ u ≤ f + n * s)))
theorem LU.own {w : World} {base : Nat} {v : Value} {xs : List Nat} (h : w.ownsRow base 24 1 v xs.length (fu xs)) (hl : xs.length ≤ 1000) (hx : ∀ x, x ∈ xs → x < 18446744073709551616) : LU w v xs := by
  rcases h.2 with ⟨rfl, h0⟩ | ⟨g, cap, cur, rfl, hb, _⟩
  · cases xs with
    | nil => exact ⟨none, 0, rfl, by simp, by simp, by simp [maxLen], by simp, fun h => by simp at h⟩
    | cons x l => simp at h0
  · obtain ⟨tail, h1, h2, h3, h4, h5⟩ := row_blk h
    exact ⟨_, cap, rfl, hl, h3, h4, hx, fun _ => ⟨g, 0, rfl, fun i x hi => by
      rw [Nat.zero_add]
      have := fu_get hi
      exact h1.cellOf (by rw [List.getElem?_append_left (List.getElem?_eq_some_iff.1 this).1]; exact this)⟩⟩
theorem seqL_lt {f u s n : Nat} (hu : u < 18446744073709551616) (h : ∀ j, j < n → f + j * s < u) : ∀ x, x ∈ seqL f s n → x < 18446744073709551616 := by
  intro x hx
  obtain ⟨i, hi, rfl⟩ := List.mem_map.1 hx
  have := h i (List.mem_range.1 hi)
  omega
theorem fu_append (a b : List Nat) : fu (a ++ b) = fu a ++ fu b := by simp [fu]
theorem grown_own {α : Type} {B : Nat} {w : World} (hB : w.heap.size ≤ B) : OwnFrom B (fun (_ : α) W => w.grownBy W none) := by
  intro s A W row hA hg hr
  exact g_trans hA hg (fun r e => .inr (Nat.le_trans hB (hr r e).1))

attribute [local go_sem] Oper.semAt_some

set_option maxHeartbeats 4000000 in
theorem stepsL_any (f u s m : Nat) (hf : f < 18446744073709551616) (hu : u < 18446744073709551616) (hs2 : s < 18446744073709551616) (hm0 : 1 ≤ m) (hm : m ≤ 300) (w : World) :
    Calls Tryd.prog 23 #[.int .u64 (f : Int), .int .u64 (u : Int), .int .u64 (s : Int), .int .i64 m] w fun e w' => ∃ v' n, e = .returned v' ∧ Cnt f u s m n ∧ LU w' v' (seqL f s n) ∧ w.grownBy w' none := by
  obtain ⟨i0, hi, hz0, hz1, hz2⟩ := info_parts info_u64
  have hgA : w.grownBy ((w.alloc (.cells #[.int .i64 m] 3)).alloc (.cells #[.slice none 0 0] 22)) none := g_alloc (g_alloc (g_refl w _) _) _
  have bM := (Boxed.new w 3 (.int .i64 m)).alloc (.cells #[.slice none 0 0] 22)
  have bL := Boxed.new (w.alloc (.cells #[.int .i64 m] 3)) 22 (.slice none 0 0)
  rw [World.size_alloc] at bL
  have qF : ∀ (w : World) (fn : Fn) (a b : Array Value), (binOp .eql 58 (.func fn a b) .nilFunc).run Tryd.prog w = .ok (.bool false) w := fun w fn a b => run_eql_func_nil w _ _ _ _ fn a b Tryd.underlying58
  have hSt := Steps_any f u s
  refine calls_of_wp_marks Tryd.func23 rfl (wpIn_wide.2 ?_)
  simp only [Tryd.ntmps23, List.size_toArray, List.length_cons, List.length_nil, Nat.reduceAdd, Nat.reduceSub, Array.replicate_succ, Array.replicate_zero, List.push_toArray, List.append_toArray, List.nil_append, List.cons_append]
  go_wp2_with fail
  refine (hSt _).mono ?_
  rintro e w1 ⟨c, rfl, h3', hc', hg1⟩
  go_wp2_with fail
  refine (hSt _).mono ?_
  rintro e w2 ⟨b, rfl, h3, hb, hg2⟩
  go_wp2_with fail
  have hg12 := g_none hg1 hg2
  replace hgA := g_none hgA hg12
  replace bM := bM.kept hg12 (by simp)
  replace bL := bL.kept hg12 (by simp)
  have hbs : w.heap.size + 2 ≤ b := by have := hg1.size; simp at this; omega
  have hs2' : w.heap.size + 2 ≤ w2.heap.size := by have := hg12.size; simpa using this
  clear h3' hc' hg1 hg2 hg12 hb
  have hfoot : Foot [w.heap.size + 1] (some (w.heap.size + 1)) w2 := ⟨fun b hw => by
    rcases hw with hm' | ⟨r, u, hr, hc, hu⟩
    · simp at hm'; omega
    · cases hr; rw [bL.cell] at hc; cases hc; simp [Value.ownBlock] at hu, fun r hr => by cases hr; simp⟩
  have hnw : ∀ {p : Nat}, p < w2.heap.size → p ≠ w.heap.size + 1 → NotW [w.heap.size + 1] (some (w.heap.size + 1)) p w2 := fun {p} hp hne => ⟨hp, fun hw => by
    rcases hw with hm' | ⟨r, u, hr, hc, hu⟩
    · simp at hm'; exact hne hm'
    · cases hr; rw [bL.cell] at hc; cases hc; simp [Value.ownBlock] at hu⟩
  have kM : Box [w.heap.size + 1] (some (w.heap.size + 1)) w2.heap.size w.heap.size (.int .i64 m) w2 := ⟨Nat.le_refl _, hnw (by omega) (by omega), bM.cell⟩
  have kF : Box [w.heap.size + 1] (some (w.heap.size + 1)) w2.heap.size b (.int .u64 (f : Int)) w2 := ⟨Nat.le_refl _, hnw (cell_lt h3.1) (by omega), h3.1⟩
  have kU : Box [w.heap.size + 1] (some (w.heap.size + 1)) w2.heap.size (b + 1) (.int .u64 (u : Int)) w2 := ⟨Nat.le_refl _, hnw (cell_lt h3.2.1) (by omega), h3.2.1⟩
  have kS : Box [w.heap.size + 1] (some (w.heap.size + 1)) w2.heap.size (b + 2) (.int .u64 (s : Int)) w2 := ⟨Nat.le_refl _, hnw (cell_lt h3.2.2) (by omega), h3.2.2⟩
  refine wp_of_in (wp_iter (gf := 37) (lb := #[.pointer (some ⟨b + 2, 0, none⟩), .pointer (some ⟨b, 0, none⟩), .pointer (some ⟨b + 1, 0, none⟩)]) rfl (Go.Proofs.enters_of Tryd.func37 (by kernel_rfl) rfl)
    (encs := fun x : Nat => #[.int .u64 (x : Int)]) (fun _ => rfl) [w.heap.size + 1] (some (w.heap.size + 1)) hfoot
    (fun W1 _ => steps1_any f u s b (b + 1) (b + 2) hf hu hs2 W1)
    (fun pre W1 => ((∃ v, Boxed W1 (w.heap.size + 1) 22 v ∧ W1.ownsRow w.heap.size 24 1 v pre.length (fu pre) ∧ pre.length < m) ∧ (Box [w.heap.size + 1] (some (w.heap.size + 1)) w2.heap.size w.heap.size (.int .i64 m) W1 ∧ Box [w.heap.size + 1] (some (w.heap.size + 1)) w2.heap.size b (.int .u64 (f : Int)) W1 ∧ Box [w.heap.size + 1] (some (w.heap.size + 1)) w2.heap.size (b + 1) (.int .u64 (u : Int)) W1 ∧ Box [w.heap.size + 1] (some (w.heap.size + 1)) w2.heap.size (b + 2) (.int .u64 (s : Int)) W1)) ∧ w.grownBy W1 none)
    (fun c pre W1 => ((∃ v, Boxed W1 (w.heap.size + 1) 22 v ∧ W1.ownsRow w.heap.size 24 1 v pre.length (fu pre) ∧ (pre.length = m ∧ c = .exit 0)) ∧ w.grownBy W1 none))
    (OwnFrom.and (OwnFrom.and (Own.from (holdsRow_own _ _ _ _ _ _ _ (fun (pre : List Nat) _ => pre.length < m)) _) (OwnFrom.and (Box.own hfoot) (OwnFrom.and (Box.own hfoot) (OwnFrom.and (Box.own hfoot) (Box.own hfoot))))) (grown_own hgA.size))
    (fun c => OwnFrom.and (Own.from (holdsRow_own _ _ _ _ _ _ _ (fun (pre : List Nat) _ => pre.length = m ∧ c = .exit 0)) _) (grown_own hgA.size))
    (fun pre W1 h => ⟨h.1.2.2.1.2.2, h.1.2.2.2.1.2.2, h.1.2.2.2.2.2.2⟩)
    ⟨⟨⟨_, bL, World.ownsRow_nil _ _ _ _, hm0⟩, kM, kF, kU, kS⟩, hgA⟩
    (fun x a' _ => a' = { tmps := #[.int .u64 (f : Int), .int .u64 (u : Int), .int .u64 (s : Int), .int .i64 m, undef, undef, undef, .pointer (some ⟨w.heap.size, 0, none⟩), .slice none 0 0, .pointer (some ⟨w.heap.size + 1, 0, none⟩), .int .u64 (x : Int), .int .u64 (f : Int), .int .u64 (u : Int), .int .u64 (s : Int), .func (.func 37) #[] #[.pointer (some ⟨c + 2, 0, none⟩), .pointer (some ⟨c, 0, none⟩), .pointer (some ⟨c + 1, 0, none⟩)], .bool false, .int .u64 (f : Int), .int .u64 (u : Int), .int .u64 (s : Int), .func (.func 37) #[] #[.pointer (some ⟨b + 2, 0, none⟩), .pointer (some ⟨b, 0, none⟩), .pointer (some ⟨b + 1, 0, none⟩)], .int .u64 (x : Int), undef, undef, undef, undef, undef, undef, undef, undef, undef], defers := [] })
    (fun x a' s A B row h _ _ => h) ?assign ?body ?done ?stop)
  case assign =>
    intro l' pre x W1 K _ _ hK
    gi_wp2
    exact hK _ _ (KeepsFrom.refl _ _) (Keeps.refl _ _ _) (by assumption) rfl
  case body =>
    rintro l' pre x a' W1 hl' ⟨⟨⟨v1, hb1, hrow1, hlm⟩, kM1, kR1⟩, hgW1⟩ rfl hnx
    have hc1 := hb1.cell
    have hcm := kM1.2.2
    have hB1 : w2.heap.size ≤ W1.heap.size := kM1.1
    have hcc := cells_new W1 [.int .u64 (x : Int)] 24
    clear hnx
    by_cases hlast : pre.length + 1 < m
    all_goals
      gi_wp2_with (gi_at_builtin; refine held_stop ?_)
      refine ⟨?_⟩
      refine wpListIn_append_own_at _ rfl _ _ 22 rfl w.heap.size 24 i0 (.int .u64 0) 1 8 Tryd.underlying22 hi hz0 hz1 hz2 rfl (by decide) _ _ _ rfl (hrow1.alloc _) ⟨W1.heap.size, 0, none⟩ 1 1 [.int .u64 (x : Int)] rfl rfl hcc (by simp [Value.oneCell']) (by unfold maxLen; omega) (by omega) (by have := hgW1.size; simp; omega) ?_
      intro v' w3 hown' hgrow hnn hob
      obtain ⟨g', cap', rfl⟩ := ownsRow_succ hown'; obtain ⟨hv1, hv2, hr2, hk2, hb2⟩ := hb1.appended (by decide) hrow1 hgW1.size (by omega) hown' hgrow; have hc3 := hv1.cell; have hf3 := hv1.frozen; have hc4 := hv2.cell; have hkp := keeps_append hb1 (fun r e => (row_base hrow1 r e).2) (fun e => hb1.not_row (by decide) hrow1 e.symm) hgrow hob (fun r e => (row_base hown' r e).2); have hcm4 := (kM1.keeps hkp).2.2
      gi_wp2
      have hgF : w.grownBy (w3.setCell ⟨w.heap.size + 1, 0, none⟩ (.slice (some ⟨g', 0, none⟩) (pre.length + 1) cap')) none := g_set (g_trans (g_alloc hgW1 _) hgrow (fun r e => .inr (row_base hrow1 r e).1)) _ (.inr (by simp))
    · exact ⟨hk2.from _, hkp, ⟨⟨_, hv2, by rw [List.length_append, fu_append]; exact hr2, by simp; omega⟩, kM1.keeps hkp, kR1.1.keeps hkp, kR1.2.1.keeps hkp, kR1.2.2.keeps hkp⟩, hgF⟩
    · exact ⟨hk2.from _, hkp, ⟨_, hv2, by rw [List.length_append, fu_append]; exact hr2, by simp; omega, rfl⟩, hgF⟩
  case done =>
    rintro D ys W1 hD hS ⟨⟨⟨v1, hb1, hrow1, hlm⟩, kM1⟩, hgW1⟩ hK
    have hc1 := hb1.cell
    go_wp2
    refine ⟨by simp, .inl ⟨_, _, rfl, run_takeDeferred hK, ?_⟩⟩
    have hq : ys = seqL f s ys.length ∧ Cnt f u s m ys.length ∧ ∀ j, j < ys.length → f + j * s < u := by
      rcases hS with ⟨rfl, rfl⟩ | ⟨h1, h2, h3, h4⟩
      · exact ⟨rfl, ⟨by simp, .inl ⟨rfl, rfl⟩⟩, fun j hj => by simp at hj⟩
      · exact ⟨h2, ⟨by omega, .inr ⟨h1, h4, .inr h3⟩⟩, h4⟩
    obtain ⟨q1, q2, q3⟩ := hq
    have hlu := LU.own (ownsRow_putObj hrow1 (.deferred none) hK rfl) (by omega) (by rw [q1]; exact seqL_lt hu q3)
    rw [q1] at hlu
    exact ⟨_, results_tmp rfl _ _ _, v1, ys.length, rfl, q2, hlu, g_put hgW1 D _ (by omega)⟩
  case stop =>
    rintro D c pre W1 hD ⟨h1, h2, h4⟩ ⟨⟨v1, hb1, hrow1, hlm, rfl⟩, hgW1⟩ hK
    have hc1 := hb1.cell
    refine wpIn_exit ?_
    go_wp2
    refine ⟨by simp, .inl ⟨_, _, rfl, run_takeDeferred hK, ?_⟩⟩
    have hlu := LU.own (ownsRow_putObj hrow1 (.deferred none) hK rfl) (by omega) (by rw [h2]; exact seqL_lt hu h4)
    rw [h2] at hlu
    exact ⟨_, results_tmp rfl _ _ _, v1, pre.length, rfl, ⟨by omega, .inr ⟨h1, h4, .inl hlm⟩⟩, hlu, g_put hgW1 D _ (by omega)⟩
end Go.Proofs.YtgdnafafojiabaaDoor
