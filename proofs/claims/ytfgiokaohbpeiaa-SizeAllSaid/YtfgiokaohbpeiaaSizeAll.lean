/-
  The classes, one by one, and SizeAll.
-/
import Derived.Test.YtfgiokaohbpeiaaSizeIter
import Derived.Test.YtfgiokaohbpeiaaRow
import Derived.Maps.OwnIn
import Derived.BigQuiet
import Derived.ChangeKeysEq
namespace Go.Proofs.Ytfgiokaohbpeiaa
open Go.RowKit

/-- The first so many classes, as they lie. -/
def flatC (l : List Nat) : List Value := l.flatMap fun x : Nat => [.int .i64 x, .int .i64 (pay x)]
theorem flatC_append (a b : List Nat) : flatC (a ++ b) = flatC a ++ flatC b := List.flatMap_append
theorem flatC_get : ∀ (l : List Nat) (i : Nat) {x : Nat}, l[i]? = some x → (flatC l)[i * 2]? = some (.int .i64 x) ∧ (flatC l)[i * 2 + 1]? = some (.int .i64 (pay x))
  | [], i, _, h => by simp at h
  | y :: l, 0, x, h => by
    simp at h; subst h
    exact ⟨rfl, rfl⟩
  | y :: l, i + 1, x, h => by
    have := flatC_get l i (x := x) (by simpa using h)
    rw [show (i + 1) * 2 = i * 2 + 2 by omega, show i * 2 + 2 + 1 = i * 2 + 1 + 2 by omega]
    exact this

/-- A slice of the first n classes. -/
def ClsAt (w : World) (v : Value) (n : Nat) : Prop :=
  ∃ (a : Option Addr) (cap : Nat), v = .slice a n cap ∧ n ≤ cap ∧ cap ≤ maxLen ∧ (0 < n → ∃ g, a = some ⟨g, 0, none⟩ ∧ ∀ i, i < n → w.cell? ⟨g, i * 2, none⟩ = some (.int .i64 i) ∧ w.cell? ⟨g, i * 2 + 1, none⟩ = some (.int .i64 (pay i)))
theorem ClsAt.rows {w : World} {base : Nat} {e : TypeId} {v : Value} {n : Nat} (h : w.ownsRow base e 2 v n (flatC (List.range n))) (h0 : 0 < n) : ClsAt w v n := by
  rcases h.2 with ⟨rfl, h1⟩ | ⟨g, cap, cur, rfl, hb, _⟩
  · omega
  · obtain ⟨tail, h1, h2, h3, h4, h5⟩ := row_blk h
    refine ⟨_, cap, rfl, by omega, by assumption, fun _ => ⟨g, rfl, fun i hi => ?_⟩⟩
    obtain ⟨q0, q1⟩ := flatC_get (List.range n) i (x := i) (by simp [hi])
    exact ⟨h1.cellOf (by rw [List.getElem?_append_left (List.getElem?_eq_some_iff.1 q0).1]; exact q0), h1.cellOf (by rw [List.getElem?_append_left (List.getElem?_eq_some_iff.1 q1).1]; exact q1)⟩
theorem ClsAt.keptN {w w' : World} {v : Value} {n : Nat} (h : ClsAt w v n) (hg : w.grownBy w' none) : ClsAt w' v n := by
  obtain ⟨a, cap, hv, h1, h2, h3⟩ := h
  refine ⟨a, cap, hv, h1, h2, fun h0 => ?_⟩
  obtain ⟨g, ha, hc⟩ := h3 h0
  exact ⟨g, ha, fun i hi => ⟨g_cellN hg (hc i hi).1, g_cellN hg (hc i hi).2⟩⟩

theorem All_any (w : World) : Calls Try.prog 36 #[] w fun e w' => e = .returned (.func (.func 47) #[] #[]) ∧ w = w' := by
  go_enter Try.func36, Try.ntmps36
  go_wp2
  go_ret
  exact ⟨rfl, rfl⟩

theorem neq_two (a b : Int) (w : World) : (binOp .neq 46 (.agg #[.int .i64 a, .int .i64 b]) (.agg #[.int .i64 a, .int .i64 b])).run Try.prog w = .ok (.bool false) w := by
  have q : ∀ x : Int, (Op.equalIn 9999 3 (.int .i64 x) (.int .i64 x)).run Try.prog w = .ok true w := fun x => by
    rw [run_equalIn_int w 9998 3 .i64 .i64 x x Try.underlying3]; simp
  have e : (Op.equalIn 10000 46 (.agg #[.int .i64 a, .int .i64 b]) (.agg #[.int .i64 a, .int .i64 b])).run Try.prog w = .ok true w := by
    obtain ⟨i, hi⟩ : ∃ i, Try.prog.info? 3 = some i := ⟨_, rfl⟩
    rw [run_equalIn_array w 9999 _ _ Try.underlying46 hi, show Try.prog.cellsOf 3 = 1 by kernel_rfl]
    simp [Op.eqItems, List.range, List.range.loop, part, isAgg, run_underlying Try.underlying3, q]
  simp only [binOp]
  simp [Op.equal, Op.maxDepth, e, go_sem]
theorem info_two : (Try.prog.info? 46).map (fun i => (i.zero, i.size, i.bytes)) = some (some (.agg #[.int .i64 0, .int .i64 0]), 2, 16) := by kernel_rfl
theorem cells_new (W : World) (cs : List Value) (T : TypeId) : ∀ j u, cs[j]? = some u → (W.alloc (.cells cs.toArray T)).cell? ((⟨W.heap.size, 0, none⟩ : Addr).add j) = some u := by
  intro j u hj
  have : (W.alloc (.cells cs.toArray T)).cell? ⟨W.heap.size, j, none⟩ = some u := (Blk.new W cs T).cellOf hj
  unfold Addr.add
  split
  · rename_i h0; subst h0; exact this
  · simpa using this
theorem row_base {w : World} {base : Nat} {e : TypeId} {size n : Nat} {v : Value} {xs : List Value} (h : w.ownsRow base e size v n xs) : ∀ r, v.ownBlock = some r → base ≤ r ∧ r < w.heap.size := by
  rcases h.2 with ⟨rfl, _⟩ | ⟨g, cap, cur, rfl, hb, hg, _⟩
  · intro r hr; simp [Value.ownBlock] at hr
  · intro r hr
    simp [Value.ownBlock] at hr; subst hr
    exact ⟨hb, (Array.getElem?_eq_some_iff.1 hg).1⟩
theorem grown_own {α : Type} {B : Nat} {w : World} (hB : w.heap.size ≤ B) : OwnFrom B (fun (_ : α) W => w.grownBy W none) := by
  intro s A W row hA hg hr
  exact g_trans hA hg (fun r e => .inr (Nat.le_trans hB (hr r e).1))

attribute [local go_sem] Oper.semAt_some

set_option maxHeartbeats 2000000 in
theorem classesL_any (m : Nat) (hm0 : 1 ≤ m) (hm : m ≤ 20) (w : World) :
    Calls Try.prog 23 #[.int .i64 m] w fun e w' => ∃ v' n, e = .returned v' ∧ ((n = 8 ∧ 8 < m) ∨ (n = m ∧ m ≤ 8)) ∧ ClsAt w' v' n ∧ w.grownBy w' none := by
  obtain ⟨i0, hi, hz0, hz1, hz2⟩ := info_parts info_two
  have hgA : w.grownBy ((w.alloc (.cells #[.int .i64 m] 3)).alloc (.cells #[.slice none 0 0] 44)) none := g_alloc (g_alloc (g_refl w _) _) _
  have bM := (Boxed.new w 3 (.int .i64 m)).alloc (.cells #[.slice none 0 0] 44)
  have bL := Boxed.new (w.alloc (.cells #[.int .i64 m] 3)) 44 (.slice none 0 0)
  rw [World.size_alloc] at bL
  have qF : ∀ (w : World) (fn : Fn) (a b : Array Value), (binOp .eql 63 (.func fn a b) .nilFunc).run Try.prog w = .ok (.bool false) w := fun w fn a b => run_eql_func_nil w _ _ _ _ fn a b Try.underlying63
  refine calls_of_wp_marks Try.func23 rfl (wpIn_wide.2 ?_)
  simp only [Try.ntmps23, List.size_toArray, List.length_cons, List.length_nil, Nat.reduceAdd, Nat.reduceSub, Array.replicate_succ, Array.replicate_zero, List.push_toArray, List.append_toArray, List.nil_append, List.cons_append]
  go_wp2_with fail
  refine (All_any _).mono ?_
  rintro e w1 ⟨rfl, rfl⟩
  go_wp2_with fail
  refine (All_any _).mono ?_
  rintro e w1 ⟨rfl, rfl⟩
  go_wp2_with fail
  obtain ⟨w2, hw2⟩ : ∃ w2, w2 = (w.alloc (.cells #[.int .i64 m] 3)).alloc (.cells #[.slice none 0 0] 44) := ⟨_, rfl⟩
  have hs2 : w.heap.size + 2 = w2.heap.size := by rw [hw2]; simp
  rw [← hw2] at hgA bM bL ⊢
  clear hw2
  have hfoot : Foot [w.heap.size + 1] (some (w.heap.size + 1)) w2 := ⟨fun b hw => by
    rcases hw with hm' | ⟨r, u, hr, hc, hu⟩
    · simp at hm'; omega
    · cases hr; rw [bL.cell] at hc; cases hc; simp [Value.ownBlock] at hu, fun r hr => by cases hr; simp⟩
  have hnw : ∀ {p : Nat}, p < w2.heap.size → p ≠ w.heap.size + 1 → NotW [w.heap.size + 1] (some (w.heap.size + 1)) p w2 := fun {p} hp hne => ⟨hp, fun hw => by
    rcases hw with hm' | ⟨r, u, hr, hc, hu⟩
    · simp at hm'; exact hne hm'
    · cases hr; rw [bL.cell] at hc; cases hc; simp [Value.ownBlock] at hu⟩
  have kM : Box [w.heap.size + 1] (some (w.heap.size + 1)) w2.heap.size w.heap.size (.int .i64 m) w2 := ⟨Nat.le_refl _, hnw (by omega) (by omega), bM.cell⟩
  refine wp_of_in (wp_iter (gf := 47) (lb := #[]) rfl (Go.Proofs.enters_of Try.func47 (by kernel_rfl) rfl)
    (encs := fun x : Nat => #[.int .i64 x, .int .i64 (pay x)]) (fun _ => rfl) [w.heap.size + 1] (some (w.heap.size + 1)) hfoot
    (fun W1 _ => all1_iter W1)
    (fun pre W1 => ((∃ v, Boxed W1 (w.heap.size + 1) 44 v ∧ W1.ownsRow w.heap.size 46 2 v pre.length (flatC pre) ∧ pre.length < m) ∧ Box [w.heap.size + 1] (some (w.heap.size + 1)) w2.heap.size w.heap.size (.int .i64 m) W1) ∧ w.grownBy W1 none)
    (fun c pre W1 => ((∃ v, Boxed W1 (w.heap.size + 1) 44 v ∧ W1.ownsRow w.heap.size 46 2 v pre.length (flatC pre) ∧ (pre.length = m ∧ c = .exit 0)) ∧ w.grownBy W1 none))
    (OwnFrom.and (OwnFrom.and (Own.from (holdsRow_own _ _ _ _ _ _ _ (fun (pre : List Nat) _ => pre.length < m)) _) (Box.own hfoot)) (grown_own hgA.size))
    (fun c => OwnFrom.and (Own.from (holdsRow_own _ _ _ _ _ _ _ (fun (pre : List Nat) _ => pre.length = m ∧ c = .exit 0)) _) (grown_own hgA.size))
    (fun pre W1 h => trivial)
    ⟨⟨⟨_, bL, World.ownsRow_nil _ _ _ _, hm0⟩, kM⟩, hgA⟩
    (fun x a' _ => a' = { tmps := #[.int .i64 m, .pointer (some ⟨w.heap.size, 0, none⟩), .slice none 0 0, .pointer (some ⟨w.heap.size + 1, 0, none⟩), .int .i64 x, .int .i64 (pay x), .func (.func 47) #[] #[], .bool false, .func (.func 47) #[] #[], .int .i64 x, .int .i64 (pay x), undef, undef, undef, undef, undef, undef, undef, undef, undef, undef, undef], defers := [] })
    (fun x a' s A B row h _ _ => h) ?assign ?body ?done ?stop)
  case assign =>
    intro l' pre x W1 K _ _ hK
    gi_wp2
    exact hK _ _ (KeepsFrom.refl _ _) (Keeps.refl _ _ _) (by assumption) rfl
  case body =>
    rintro l' pre x a' W1 hl' ⟨⟨⟨v1, hb1, hrow1, hlm⟩, kM1⟩, hgW1⟩ rfl hnx
    have hc1 := hb1.cell
    have hcm := kM1.2.2
    have hB1 : w2.heap.size ≤ W1.heap.size := kM1.1
    have hcc := cells_new W1 [.int .i64 x, .int .i64 (pay x)] 46
    clear hnx
    by_cases hlast : pre.length + 1 < m
    all_goals
      gi_wp2_with (gi_at_builtin; refine held_stop ?_)
      refine ⟨?_⟩
      refine wpListIn_append_own_at _ rfl _ _ 44 rfl w.heap.size 46 i0 (.agg #[.int .i64 0, .int .i64 0]) 2 16 Try.underlying44 hi hz0 hz1 hz2 rfl (by decide) _ _ _ rfl (hrow1.alloc _) ⟨W1.heap.size, 0, none⟩ 1 1 [.int .i64 x, .int .i64 (pay x)] rfl rfl hcc (by simp [Value.oneCell']) (by unfold maxLen; omega) (by omega) (by have := hgW1.size; simp; omega) ?_
      intro v' w3 hown' hgrow hnn hob
      obtain ⟨g', cap', rfl⟩ := ownsRow_succ hown'; obtain ⟨hv1, hv2, hr2, hk2, hb2⟩ := hb1.appended (by decide) hrow1 hgW1.size (by omega) hown' hgrow; have hc3 := hv1.cell; have hf3 := hv1.frozen; have hc4 := hv2.cell; have hkp := keeps_append hb1 (fun r e => (row_base hrow1 r e).2) (fun e => hb1.not_row (by decide) hrow1 e.symm) hgrow hob (fun r e => (row_base hown' r e).2); have hcm4 := (kM1.keeps hkp).2.2
      gi_wp2
      have hgF : w.grownBy (w3.setCell ⟨w.heap.size + 1, 0, none⟩ (.slice (some ⟨g', 0, none⟩) (pre.length + 1) cap')) none := g_set (g_trans (g_alloc hgW1 _) hgrow (fun r e => .inr (row_base hrow1 r e).1)) _ (.inr (by simp))
    · exact ⟨hk2.from _, hkp, ⟨⟨_, hv2, by rw [List.length_append, flatC_append]; exact hr2, by simp; omega⟩, kM1.keeps hkp⟩, hgF⟩
    · exact ⟨hk2.from _, hkp, ⟨_, hv2, by rw [List.length_append, flatC_append]; exact hr2, by simp; omega, rfl⟩, hgF⟩
  case done =>
    rintro D ys W1 hD rfl ⟨⟨⟨v1, hb1, hrow1, hlm⟩, kM1⟩, hgW1⟩ hK
    have hc1 := hb1.cell
    go_wp2
    refine ⟨by simp, .inl ⟨_, _, rfl, run_takeDeferred hK, ?_⟩⟩
    rw [List.length_range] at hlm hrow1
    exact ⟨_, results_tmp rfl _ _ _, v1, 8, rfl, .inl ⟨rfl, hlm⟩, ClsAt.rows (ownsRow_putObj hrow1 _ hK rfl) (by omega), g_put hgW1 D _ (by omega)⟩
  case stop =>
    rintro D c pre W1 hD ⟨k, hk, rfl⟩ ⟨⟨v1, hb1, hrow1, hlm, rfl⟩, hgW1⟩ hK
    have hc1 := hb1.cell
    rw [List.length_range] at hlm hrow1
    refine wpIn_exit ?_
    go_wp2
    refine ⟨by simp, .inl ⟨_, _, rfl, run_takeDeferred hK, ?_⟩⟩
    exact ⟨_, results_tmp rfl _ _ _, v1, k, rfl, .inr ⟨hlm, by omega⟩, ClsAt.rows (ownsRow_putObj hrow1 _ hK rfl) (by omega), g_put hgW1 D _ (by omega)⟩

theorem all_else (n : Int) (h : n < 1 ∨ 20 < n) (w : World) : Calls Try.prog 8 #[.int .i64 n] w fun e w' => e = .returned (.bool true) ∧ w.grownBy w' none := by
  by_cases h1 : n < 1
  · clear h
    go_enter Try.func8, Try.ntmps8
    go_wp2_with (go_at_call 14; refine (works_true _).mono ?_; rintro e w5 ⟨rfl, g5⟩)
    go_ret
    exact ⟨rfl, g5⟩
  · have h2 : 20 < n := h.resolve_left h1
    clear h
    go_enter Try.func8, Try.ntmps8
    go_wp2_with (go_at_call 14; refine (works_true _).mono ?_; rintro e w5 ⟨rfl, g5⟩)
    go_ret
    exact ⟨rfl, g5⟩

set_option maxHeartbeats 1000000 in
theorem all_in (m : Nat) (hm0 : 1 ≤ m) (hm : m ≤ 20) (w : World) : Calls Try.prog 8 #[.int .i64 m] w fun e w' => e = .returned (.bool true) ∧ w.grownBy w' none := by
  go_enter Try.func8, Try.ntmps8
  go_wp2_with fail
  refine (classesL_any m hm0 hm _).mono ?_
  rintro e w1 ⟨v, n, rfl, hn, ⟨a, cap, rfl, hcap, hmax, hcells⟩, g1⟩
  have hn8 : n ≤ 8 := by omega
  have HC := hid hcells
  have HN := hid hn
  clear hcells hn
  go_wp2
  go_loopw [4] (fun v wr => ∃ (k : Nat) (d : Nat), k ≤ n ∧ v = .int .i64 k ∧ w1.drewN d = wr) (fun v _ => n - (intOf v).toNat)
  case atStart => exact ⟨0, 0, Nat.zero_le _, rfl, rfl⟩
  case round =>
    obtain ⟨k, d, hk, rfl, rfl⟩ := hrel
    by_cases hlt : k < n
    · obtain ⟨g, rfl, hc⟩ := HC.out (by omega)
      obtain ⟨d0, d1⟩ := hc k hlt
      clear hc
      have hk8 : k < 8 := by omega
      have qn := neq_two k (pay k)
      go_wp2
      go_quiet ((go_at_call 12; refine (refPay_in k hk8 _).mono ?_; rintro e w2 ⟨rfl, rfl⟩; exact ⟨rfl, _, rfl⟩))
      go_wp2
      go_roundw
      case rel => exact ⟨k + 1, d + nq, by omega, by go_num, rfl⟩
      case measure => simp [intOf]; omega
    · obtain rfl : k = n := by omega
      have hg := g_drewM g1 d
      rcases HN.out with ⟨h1, h2⟩ | ⟨h1, h2⟩
      · subst h1
        go_wp2_with (go_at_call 14; refine (works_true _).mono ?_; rintro e w5 ⟨rfl, g5⟩)
        go_ret
        exact ⟨rfl, g_none hg g5⟩
      · subst h1
        go_wp2_with (go_at_call 14; refine (works_true _).mono ?_; rintro e w5 ⟨rfl, g5⟩)
        all_goals
          go_ret
          exact ⟨rfl, g_none hg g5⟩

theorem all_law (n : Int) (w : World) (_ : (Lit.int .i64 n).wf = true) : Calls Try.prog 8 #[.int .i64 n] w fun e w' => e = .returned (.bool true) ∧ w.grownBy w' none := by
  by_cases h : n < 1 ∨ 20 < n
  · exact all_else n h w
  · obtain ⟨m, rfl⟩ := Int.eq_ofNat_of_zero_le (a := n) (by omega)
    exact all_in m (by omega) (by omega) w
end Go.Proofs.Ytfgiokaohbpeiaa
