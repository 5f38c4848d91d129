/-
  The law's lists: what All hands back.
-/
import Derived.Test.YtjjkhbipeehljaaFifoIter
import Derived.Maps.OwnIn
namespace Go.Proofs.Ytjjkhbipeehljaa
open Go.RowKit

theorem cell_not_row {A : World} {row : Option Nat} {p i : Nat} {v : Value} (hc : A.cell? ⟨p, i, none⟩ = some v) (hr : ∀ r, row = some r → ∃ o : Obj, A.heap[r]? = some o ∧ o.isCells = false) : some p ≠ row := by
  intro e
  obtain ⟨o, ho, hcl⟩ := hr p e.symm
  cases o <;> simp [Obj.isCells] at hcl <;> simp [World.cell?, ho] at hc

/-- The round's own variable. -/
def VarAt (tmps : Nat → Array Value) (x : T3) (a' : Act) (W : World) : Prop := ∃ b, a' = { tmps := tmps b, defers := [] } ∧ Blk W b 33 [.int .i64 x.1, .int .i64 x.2.1, .int .i64 x.2.2]
theorem VarAt.own {tmps : Nat → Array Value} {x : T3} {a' : Act} {B : Nat} : OwnFrom B (fun (_ : Unit) W => VarAt tmps x a' W) := by
  rintro s A W row ⟨b, ha, hb⟩ hg hr
  exact ⟨b, ha, hb.kept hg (cell_not_row (hb.cellOf (i := 0) rfl) (fun r e => (hr r e).2))⟩

abbrev VarAt' (p s wb1 wb m : Nat) (x : T3) (a' : Act) (W : World) : Prop := VarAt (fun b => #[.pointer (some ⟨p, 0, none⟩), .int .i64 m, undef, .pointer (some ⟨s, 0, none⟩), .slice none 0 0, .pointer (some ⟨s + 1, 0, none⟩), .pointer (some ⟨b, 0, none⟩), .pointer (some ⟨p, 0, none⟩), .func (.func 45) #[] #[.pointer (some ⟨wb1, 0, none⟩)], .bool false, .pointer (some ⟨p, 0, none⟩), .func (.func 45) #[] #[.pointer (some ⟨wb, 0, none⟩)], .agg #[.int .i64 x.1, .int .i64 x.2.1, .int .i64 x.2.2], undef, undef, undef, undef, undef, undef, undef, undef, undef]) x a' W

attribute [local go_sem] Oper.semAt_some

set_option maxHeartbeats 4000000 in
theorem alls_some (p : Nat) (M Y : Int) (v : Value) (xs : List T3) (m : Nat) (hm0 : 1 ≤ m) (hm : m ≤ 1000) (w : World) (h : FifoAt w p M Y v xs) :
    Calls Try.prog 29 #[.pointer (some ⟨p, 0, none⟩), .int .i64 m] w fun e w' => ∃ v', e = .returned v' ∧ w'.ownsRow w.heap.size 33 3 v' (xs.take m).length (flat3 (xs.take m)) ∧ w.grownBy w' none := by
  obtain ⟨i0, hi, hz0, hz1, hz2⟩ := info_parts info_held
  have hgA : w.grownBy ((w.alloc (.cells #[.int .i64 m] 3)).alloc (.cells #[.slice none 0 0] 23)) none := g_alloc (g_alloc (g_refl w _) _) _
  have hA1 := h.keptN hgA
  have bM0 := (Boxed.new w 3 (.int .i64 m)).alloc (.cells #[.slice none 0 0] 23)
  have bL0 := Boxed.new (w.alloc (.cells #[.int .i64 m] 3)) 23 (.slice none 0 0)
  rw [World.size_alloc] at bL0
  have qF : ∀ (w : World) (fn : Fn) (a b : Array Value), (binOp .eql 53 (.func fn a b) .nilFunc).run Try.prog w = .ok (.bool false) w := fun w fn a b => run_eql_func_nil w _ _ _ _ fn a b Try.underlying53
  refine calls_of_wp_marks Try.func29 rfl (wpIn_wide.2 ?_)
  simp only [Try.ntmps29, List.size_toArray, List.length_cons, List.length_nil, Nat.reduceAdd, Nat.reduceSub, Array.replicate_succ, Array.replicate_zero, List.push_toArray, List.append_toArray, List.nil_append, List.cons_append]
  go_wp2_with fail
  refine (all_some p M Y v xs _ hA1).mono ?_
  rintro e w1 ⟨wb1, v1, rfl, _, hg1, _, _⟩
  go_wp2_with fail
  refine (all_some p M Y v xs _ (hA1.keptN hg1)).mono ?_
  rintro e w2 ⟨wb, vv, rfl, hX2, hg2, hvn, hwn⟩
  go_wp2_with fail
  have hgW : w.grownBy w2 none := g_none (g_none hgA hg1) hg2
  have hsA : w.heap.size + 2 ≤ w1.heap.size := by have := hg1.size; simpa using this
  have hs2 : w1.heap.size ≤ w2.heap.size := hg2.size
  have bM := (bM0.kept hg1 (by simp)).kept hg2 (by simp)
  have bL := (bL0.kept hg1 (by simp)).kept hg2 (by simp)
  have hfoot : Foot [w.heap.size + 1] (some (w.heap.size + 1)) w2 := ⟨fun b hw => by
    rcases hw with hm' | ⟨r, u, hr, hc, hu⟩
    · simp at hm'; omega
    · cases hr; rw [bL.cell] at hc; cases hc; simp [Value.ownBlock] at hu, fun r hr => by cases hr; simp⟩
  have hnw : ∀ {p : Nat}, p < w2.heap.size → p ≠ w.heap.size + 1 → NotW [w.heap.size + 1] (some (w.heap.size + 1)) p w2 := fun {p} hp hne => ⟨hp, fun hw => by
    rcases hw with hm' | ⟨r, u, hr, hc, hu⟩
    · simp at hm'; exact hne hm'
    · cases hr; rw [bL.cell] at hc; cases hc; simp [Value.ownBlock] at hu⟩
  obtain ⟨hXc, hXL⟩ := hX2
  obtain ⟨a, cap, rfl, hlen, _⟩ := id hXL
  have kB : Box [w.heap.size + 1] (some (w.heap.size + 1)) w2.heap.size wb (.slice a xs.length cap) w2 := ⟨Nat.le_refl _, hnw (cell_lt hXc) (by omega), hXc⟩
  have kM : Box [w.heap.size + 1] (some (w.heap.size + 1)) w2.heap.size w.heap.size (.int .i64 m) w2 := ⟨Nat.le_refl _, hnw (by omega) (by omega), bM.cell⟩
  have kS : L3K [w.heap.size + 1] (some (w.heap.size + 1)) w2.heap.size (.slice a xs.length cap) xs w2 := by
    refine ⟨Nat.le_refl _, fun r hr => ?_, hXL⟩
    have hr2 := hvn r hr
    exact ⟨hr2.2, hnw hr2.2 (by omega)⟩
  have hI : OwnFrom w2.heap.size (fun (pre : List T3) W1 => ((((∃ v, Boxed W1 (w.heap.size + 1) 23 v ∧ W1.ownsRow w.heap.size 33 3 v pre.length (flat3 pre) ∧ pre.length < m) ∧ Box [w.heap.size + 1] (some (w.heap.size + 1)) w2.heap.size wb (.slice a xs.length cap) W1) ∧ Box [w.heap.size + 1] (some (w.heap.size + 1)) w2.heap.size w.heap.size (.int .i64 m) W1) ∧ L3K [w.heap.size + 1] (some (w.heap.size + 1)) w2.heap.size (.slice a xs.length cap) xs W1) ∧ w.grownBy W1 none) :=
    OwnFrom.and (OwnFrom.and (OwnFrom.and (OwnFrom.and (Own.from (holdsRow_own _ _ _ _ _ _ _ (fun (pre : List T3) _ => pre.length < m)) _) (Box.own hfoot)) (Box.own hfoot)) (L3K.own hfoot)) (grown_own hgW.size)
  have HI := hid hI
  clear hI
  refine wp_of_in (wp_iter (gf := 45) (lb := #[.pointer (some ⟨wb, 0, none⟩)]) rfl (Go.Proofs.enters_of Try.func45 (by kernel_rfl) rfl)
    (encs := fun x : T3 => #[.agg #[.int .i64 x.1, .int .i64 x.2.1, .int .i64 x.2.2]]) (fun _ => rfl) [w.heap.size + 1] (some (w.heap.size + 1)) hfoot
    (fun W1 _ => values1_iter wb (.slice a xs.length cap) xs W1)
    (fun pre W1 => ((((∃ v, Boxed W1 (w.heap.size + 1) 23 v ∧ W1.ownsRow w.heap.size 33 3 v pre.length (flat3 pre) ∧ pre.length < m) ∧ Box [w.heap.size + 1] (some (w.heap.size + 1)) w2.heap.size wb (.slice a xs.length cap) W1) ∧ Box [w.heap.size + 1] (some (w.heap.size + 1)) w2.heap.size w.heap.size (.int .i64 m) W1) ∧ L3K [w.heap.size + 1] (some (w.heap.size + 1)) w2.heap.size (.slice a xs.length cap) xs W1) ∧ w.grownBy W1 none)
    (fun c pre W1 => ((∃ v, Boxed W1 (w.heap.size + 1) 23 v ∧ W1.ownsRow w.heap.size 33 3 v pre.length (flat3 pre) ∧ (pre.length = m ∧ c = .exit 0)) ∧ w.grownBy W1 none))
    HI.out
    (fun c => OwnFrom.and (Own.from (holdsRow_own _ _ _ _ _ _ _ (fun (pre : List T3) _ => pre.length = m ∧ c = .exit 0)) _) (grown_own hgW.size))
    (fun pre W1 h => ⟨h.1.1.1.2.2.2, h.1.2.2.2⟩)
    ⟨⟨⟨⟨⟨_, bL, World.ownsRow_nil _ _ _ _, hm0⟩, kB⟩, kM⟩, kS⟩, hgW⟩
    (VarAt' p w.heap.size wb1 wb m)
    (fun x a' => VarAt.own) ?assign ?body ?done ?stop)
  case assign =>
    intro l' pre x W1 K hI1 _ hK
    have hB1 : w2.heap.size ≤ W1.heap.size := hI1.1.2.1
    have hgN := g_alloc (g_refl W1 none) (.cells #[.int .i64 x.1, .int .i64 x.2.1, .int .i64 x.2.2] 33)
    have hbN := Blk.new W1 [.int .i64 x.1, .int .i64 x.2.1, .int .i64 x.2.2] 33
    gi_wp2
    exact hK _ _ (KeepsFrom.of_grownBy hgN (fun j e => by cases e)) (Keeps.grown (fun b hb => Nat.lt_of_lt_of_le (hfoot.bl b hb) hB1) hfoot.mem hgN) (own_grown HI.out hI1 hgN) ⟨_, rfl, hbN⟩
  case body =>
    rintro l' pre x a' W1 hl' ⟨⟨⟨⟨⟨v1, hb1, hrow1, hlm⟩, kB1⟩, kM1⟩, kS1⟩, hgW1⟩ ⟨b, rfl, hbX⟩ hnx
    have hc1 := hb1.cell
    have hcm := kM1.2.2
    have x0 := hbX.cellOf (i := 0) rfl
    have x1 := hbX.cellOf (i := 1) rfl
    have x2 := hbX.cellOf (i := 2) rfl
    have hB1 : w2.heap.size ≤ W1.heap.size := kB1.1
    have hpl : pre.length + 1 ≤ xs.length := by
      have h1 := hnx.length_le
      simp at h1; omega
    have hcc := cells_new3 W1 [.int .i64 x.1, .int .i64 x.2.1, .int .i64 x.2.2] 33
    by_cases hlast : pre.length + 1 < m
    all_goals
      gi_wp2_with (gi_at_builtin; refine held_stop ?_)
      refine ⟨?_⟩
      refine wpListIn_append_own_at _ rfl _ _ 23 rfl w.heap.size 33 i0 (.agg #[.int .i64 0, .int .i64 0, .int .i64 0]) 3 24 Try.underlying23 hi hz0 hz1 hz2 rfl (by decide) _ _ _ rfl (hrow1.alloc _) ⟨W1.heap.size, 0, none⟩ 1 1 [.int .i64 x.1, .int .i64 x.2.1, .int .i64 x.2.2] rfl rfl hcc (by simp [Value.oneCell']) (by unfold maxLen; omega) (by omega) (by have := hgW1.size; simp; omega) ?_
      intro v' w3 hown' hgrow hnn hob
      obtain ⟨g', cap', rfl⟩ := ownsRow_succ hown'; obtain ⟨hv1, hv2, hr2, hk2, hb2⟩ := hb1.appended (by decide) hrow1 hgW1.size (by omega) hown' hgrow; have hc3 := hv1.cell; have hf3 := hv1.frozen; have hc4 := hv2.cell; have hkp := keeps_append hb1 (fun r e => (row_base hrow1 r e).2) (fun e => hb1.not_row (by decide) hrow1 e.symm) hgrow hob (fun r e => (row_base hown' r e).2); have hcm4 := (kM1.keeps hkp).2.2
      gi_wp2
      have hgF : w.grownBy (w3.setCell ⟨w.heap.size + 1, 0, none⟩ (.slice (some ⟨g', 0, none⟩) (pre.length + 1) cap')) none := g_set (g_trans (g_alloc hgW1 _) hgrow (fun r e => .inr (row_base hrow1 r e).1)) _ (.inr (by simp))
    · exact ⟨hk2.from _, hkp, ⟨⟨⟨⟨_, hv2, by rw [List.length_append, flat3_append]; exact hr2, by simp; omega⟩, kB1.keeps hkp⟩, kM1.keeps hkp⟩, kS1.keeps hkp⟩, hgF⟩
    · exact ⟨hk2.from _, hkp, ⟨_, hv2, by rw [List.length_append, flat3_append]; exact hr2, by simp; omega, rfl⟩, hgF⟩
  case done =>
    rintro D ys W1 hD rfl ⟨⟨⟨⟨⟨v1, hb1, hrow1, hlm⟩, kB1⟩, kM1⟩, kS1⟩, hgW1⟩ hK
    have hc1 := hb1.cell
    go_wp2
    refine ⟨by simp, .inl ⟨_, _, rfl, run_takeDeferred hK, ?_⟩⟩
    refine ⟨_, results_tmp rfl _ _ _, v1, rfl, ?_, g_put hgW1 D _ (Nat.le_trans hgW.size hD)⟩
    rw [List.take_of_length_le (by omega)]
    exact ownsRow_putObj hrow1 _ hK rfl
  case stop =>
    rintro D c pre W1 hD hp ⟨⟨v1, hb1, hrow1, hlm, rfl⟩, hgW1⟩ hK
    have hc1 := hb1.cell
    refine wpIn_exit ?_
    go_wp2
    refine ⟨by simp, .inl ⟨_, _, rfl, run_takeDeferred hK, ?_⟩⟩
    refine ⟨_, results_tmp rfl _ _ _, v1, rfl, ?_, g_put hgW1 D _ (Nat.le_trans hgW.size hD)⟩
    rw [← hlm, ← List.prefix_iff_eq_take.1 hp]
    exact ownsRow_putObj hrow1 _ hK rfl
end Go.Proofs.Ytjjkhbipeehljaa
