/-
  What a thread has.
-/
import Derived.Test.YtnpimkigiioiaaaLockIter
namespace Go.Proofs.Ytnpimkigiioiaaa
open Go.RowKit
set_option maxRecDepth 100000

theorem row_slice {w : World} {base size n : Nat} {e : TypeId} {v : Value} {xs : List Value} (h : w.ownsRow base e size v n xs) : ∃ a n' c, v = .slice a n' c := by
  rcases h.2 with ⟨rfl, _⟩ | ⟨g, cap, cur, rfl, _⟩
  · exact ⟨_, _, _, rfl⟩
  · exact ⟨_, _, _, rfl⟩
theorem info_int : (Try.prog.info? 3).map (fun i => (i.zero, i.size, i.bytes)) = some (some (.int .i64 0), 1, 8) := by kernel_rfl

theorem held1_any (who t : Int) (tb : Nat) (w : World) (hc : w.cell? ⟨tb, 0, none⟩ = some (.int .i64 t)) :
    Calls Try.prog 54 #[.int .i64 who, .pointer (some ⟨tb, 0, none⟩)] w fun e w' => e = .returned (.bool (who == t)) ∧ w = w' := by
  go_enter Try.func54, Try.ntmps54
  go_wp2
  go_ret
  exact ⟨rfl, rfl⟩

attribute [local go_sem] Oper.semAt_some

/-- The slice in the box, of those that were asked for. -/
def selP (t : Int) (pre : List (Nat × Int)) : List Value := (selT t pre).map (Value.int .i64)
theorem selP_yes (t : Int) (pre : List (Nat × Int)) (x : Nat × Int) (h : (x.2 == t) = true) : selP t (pre ++ [x]) = selP t pre ++ [.int .i64 x.1] ∧ (selT t (pre ++ [x])).length = (selT t pre).length + 1 := by
  have hx : selT t [x] = [(x.1 : Int)] := by simp [selT, h]
  simp [selP, selT_append, hx]
theorem selP_no (t : Int) (pre : List (Nat × Int)) (x : Nat × Int) (h : (x.2 == t) = false) : selT t (pre ++ [x]) = selT t pre := by
  have hx : selT t [x] = [] := by simp [selT, h]
  simp [selT_append, hx]

set_option maxHeartbeats 2000000 in
theorem those_any2 (gf : Nat) (lb : Array Value) (eg : ∀ args w, (callFunc gf args).run Try.prog w = .ok (.enter gf args) w) (t : Int) (tb : Nat) (l : List Int) (hl : l.length ≤ 64) (ps : List (Nat × Int)) (hps : ps.length ≤ 64) (w : World) (X : World → Prop)
    (hit : ∀ W1, w.grownBy W1 none → IterAt Try.prog gf lb (fun x : Nat × Int => #[.int .i64 x.1, .int .i64 x.2]) (fun _ W => X W) (fun pre x => pre ++ [x] <+: ps) (fun ys => ys = ps) (fun pre => pre <+: ps) W1)
    (KX : List Nat → Option Nat → World → World → Prop)
    (hKX : ∀ (bs : List Nat) (rb : Option Nat) (W0 : World), w.grownBy W0 none → Foot bs rb W0 → (∀ b, Wr bs rb W0 b → w.heap.size ≤ b) → KX bs rb W0 W0)
    (hKo : ∀ (bs : List Nat) (rb : Option Nat) (W0 : World), Foot bs rb W0 → OwnFrom W0.heap.size (fun (_ : List (Nat × Int)) W => KX bs rb W0 W))
    (hKk : ∀ (bs : List Nat) (rb : Option Nat) (W0 A W : World), KX bs rb W0 A → Keeps bs rb A W → KX bs rb W0 W)
    (hKx : ∀ (bs : List Nat) (rb : Option Nat) (W0 W : World), KX bs rb W0 W → X W) (htb : w.cell? ⟨tb, 0, none⟩ = some (.int .i64 t)) :
    Calls Try.prog 53 #[.func (.func gf) #[] lb, .func (.func 54) #[] #[.pointer (some ⟨tb, 0, none⟩)]] w fun e w' => ∃ v', e = .returned v' ∧ IntsAt w' v' (selT t ps) ∧ w.grownBy w' none ∧ ∀ r, v'.ownBlock = some r → w.heap.size ≤ r := by
  obtain ⟨i0, hi, hz0, hz1, hz2⟩ := info_parts info_int
  obtain ⟨F1, hF1⟩ : ∃ F, F = Value.func (.func 54) #[] #[.pointer (some ⟨tb, 0, none⟩)] := ⟨_, rfl⟩
  obtain ⟨F0, hF0⟩ : ∃ F, F = Value.func (.func gf) #[] lb := ⟨_, rfl⟩
  have hgA : w.grownBy ((w.alloc (.cells #[F1] 70)).alloc (.cells #[.slice none 0 0] 23)) none := g_alloc (g_alloc (g_refl w _) _) _
  have bM0 := (Boxed.new w 70 F1).alloc (.cells #[.slice none 0 0] 23)
  have bL0 := Boxed.new (w.alloc (.cells #[F1] 70)) 23 (.slice none 0 0)
  rw [World.size_alloc] at bL0
  have HIT := hid hit
  have hK1 := hid hKX
  have hK2 := hid hKo
  have hK3 := hid hKk
  have hK4 := hid hKx
  have EG := hid eg
  clear hit hKX hKo hKk hKx eg
  subst hF1; subst hF0
  refine calls_of_wp_marks Try.func53 rfl (wpIn_wide.2 ?_)
  simp only [Try.ntmps53, List.size_toArray, List.length_cons, List.length_nil, Nat.reduceAdd, Nat.reduceSub, Array.replicate_succ, Array.replicate_zero, List.push_toArray, List.append_toArray, List.nil_append, List.cons_append]
  go_wp2_with fail
  obtain ⟨W0, hW0⟩ : ∃ W0, W0 = (w.alloc (.cells #[.func (.func 54) #[] #[.pointer (some ⟨tb, 0, none⟩)]] 70)).alloc (.cells #[.slice none 0 0] 23) := ⟨_, rfl⟩
  rw [← hW0] at hgA bM0 bL0 ⊢
  have hs0 : W0.heap.size = w.heap.size + 2 := by rw [hW0]; simp
  clear hW0
  have hfoot : Foot [w.heap.size + 1] (some (w.heap.size + 1)) W0 := ⟨fun b hw => by
    rcases hw with hm' | ⟨r, u, hr, hc, hu⟩
    · simp at hm'; omega
    · cases hr; rw [bL0.cell] at hc; cases hc; simp [Value.ownBlock] at hu, fun r hr => by cases hr; simp⟩
  have hnw : ∀ {p : Nat}, p < W0.heap.size → p ≠ w.heap.size + 1 → NotW [w.heap.size + 1] (some (w.heap.size + 1)) p W0 := fun {p} hp hne => ⟨hp, fun hw => by
    rcases hw with hm' | ⟨r, u, hr, hc, hu⟩
    · simp at hm'; exact hne hm'
    · cases hr; rw [bL0.cell] at hc; cases hc; simp [Value.ownBlock] at hu⟩
  have htl := cell_lt htb
  have kM : Box [w.heap.size + 1] (some (w.heap.size + 1)) W0.heap.size w.heap.size (.func (.func 54) #[] #[.pointer (some ⟨tb, 0, none⟩)]) W0 := ⟨Nat.le_refl _, hnw (by omega) (by omega), bM0.cell⟩
  have kT : Box [w.heap.size + 1] (some (w.heap.size + 1)) W0.heap.size tb (.int .i64 t) W0 := ⟨Nat.le_refl _, hnw (by omega) (by omega), g_cellN hgA htb⟩
  have kX := hK1.out _ _ _ hgA hfoot (fun b hw => by
    rcases hw with hm' | ⟨r, u, hr, hc, hu⟩
    · simp at hm'; omega
    · cases hr; rw [bL0.cell] at hc; cases hc; simp [Value.ownBlock] at hu)
  refine wp_of_in (wp_iter (gf := gf) (lb := lb) rfl EG.out
    (encs := fun x : Nat × Int => #[.int .i64 x.1, .int .i64 x.2]) (fun _ => rfl) [w.heap.size + 1] (some (w.heap.size + 1)) hfoot
    (fun W1 hg => HIT.out W1 (g_none hgA hg))
    (fun pre W1 => ((((∃ v, Boxed W1 (w.heap.size + 1) 23 v ∧ W1.ownsRow w.heap.size 3 1 v (selT t pre).length (selP t pre) ∧ True) ∧ Box [w.heap.size + 1] (some (w.heap.size + 1)) W0.heap.size w.heap.size (.func (.func 54) #[] #[.pointer (some ⟨tb, 0, none⟩)]) W1) ∧ Box [w.heap.size + 1] (some (w.heap.size + 1)) W0.heap.size tb (.int .i64 t) W1) ∧ KX [w.heap.size + 1] (some (w.heap.size + 1)) W0 W1) ∧ w.grownBy W1 none)
    (fun c pre W1 => False)
    (OwnFrom.and (OwnFrom.and (OwnFrom.and (OwnFrom.and (Own.from (holdsRow_own _ _ _ _ _ _ _ (fun (_ : List (Nat × Int)) _ => True)) _) (Box.own hfoot)) (Box.own hfoot)) (hK2.out _ _ _ hfoot)) (grown_own hgA.size))
    (fun c s A B row h hg hr => h)
    (fun pre W1 h => hK4.out _ _ _ _ h.1.2)
    ⟨⟨⟨⟨⟨_, bL0, World.ownsRow_nil _ _ _ _, trivial⟩, kM⟩, kT⟩, kX⟩, hgA⟩
    (fun x a' _ => a' = { tmps := #[.func (.func gf) #[] lb, .func (.func 54) #[] #[.pointer (some ⟨tb, 0, none⟩)], undef, .pointer (some ⟨w.heap.size, 0, none⟩), .pointer (some ⟨w.heap.size + 1, 0, none⟩), .int .i64 x.1, .int .i64 x.2, .func (.func gf) #[] lb, .int .i64 x.1, .int .i64 x.2, undef, undef, undef, undef, undef, undef, undef, undef], defers := [] })
    (fun x a' s A B row h _ _ => h) ?assign ?body ?done ?stop)
  case assign =>
    intro l' pre x W1 K _ _ hK
    gi_wp2
    exact hK _ _ (KeepsFrom.refl _ _) (Keeps.refl _ _ _) (by assumption) rfl
  case body =>
    rintro l' pre x a' W1 hl' ⟨⟨⟨⟨⟨v1, hb1, hrow1, _⟩, kM1⟩, kT1⟩, kX1⟩, hgW1⟩ rfl hnx
    have hc1 := hb1.cell
    have hcm := kM1.2.2
    have hct := kT1.2.2
    have hpl : pre.length + 1 ≤ 64 := by
      have h1 := hnx.length_le
      simp at h1; omega
    have hsl := selT_length t pre
    have hcc := cells_new W1 [.int .i64 x.1] 3
    cases hu : (x.2 == t) with
    | false =>
      have hno := selP_no t pre x hu
      have HNO := hid hno
      clear hno
      gi_wp2_with fail
      refine (callsIn_wide.2 (held1_any x.2 t tb W1 hct)).mono ?_
      rintro e _ ⟨rfl, rfl⟩
      simp only [hu]
      gi_wp2
      exact ⟨KeepsFrom.refl _ _, Keeps.refl _ _ _, ⟨⟨⟨⟨_, hb1, by rw [selP, HNO.out]; exact hrow1, trivial⟩, kM1⟩, kT1⟩, kX1⟩, hgW1⟩
    | true =>
      obtain ⟨hy1, hy2⟩ := selP_yes t pre x hu
      have HY1 := hid hy1
      have HY2 := hid hy2
      clear hy1 hy2
      gi_wp2_with fail
      refine (callsIn_wide.2 (held1_any x.2 t tb W1 hct)).mono ?_
      rintro e _ ⟨rfl, rfl⟩
      simp only [hu]
      gi_wp2_with (gi_at_builtin; refine held_stop ?_)
      refine ⟨?_⟩
      refine wpListIn_append_own_at _ rfl _ _ 23 rfl w.heap.size 3 i0 (.int .i64 0) 1 8 Try.underlying23 hi hz0 hz1 hz2 rfl (by decide) _ _ _ rfl (hrow1.alloc _) ⟨W1.heap.size, 0, none⟩ 1 1 [.int .i64 x.1] rfl rfl hcc (by simp [Value.oneCell']) (by unfold maxLen; omega) (by omega) (by have := hgW1.size; simp; omega) ?_
      intro v' w3 hown' hgrow hnn hob
      obtain ⟨g', cap', rfl⟩ := ownsRow_succ hown'
      obtain ⟨hv1, hv2, hr2, hk2, hb2⟩ := hb1.appended (by decide) hrow1 hgW1.size (by omega) hown' hgrow
      have hc3 := hv1.cell
      have hf3 := hv1.frozen
      have hc4 := hv2.cell
      have hkp := keeps_append hb1 (fun r e => (row_base hrow1 r e).2) (fun e => hb1.not_row (by decide) hrow1 e.symm) hgrow hob (fun r e => (row_base hown' r e).2)
      have hgF : w.grownBy (w3.setCell ⟨w.heap.size + 1, 0, none⟩ (.slice (some ⟨g', 0, none⟩) ((selT t pre).length + 1) cap')) none := g_set (g_trans (g_alloc hgW1 _) hgrow (fun r e => .inr (row_base hrow1 r e).1)) _ (.inr (by simp))
      gi_wp2
      exact ⟨hk2.from _, hkp, ⟨⟨⟨⟨_, hv2, by rw [HY1.out, HY2.out]; exact hr2, trivial⟩, kM1.keeps hkp⟩, kT1.keeps hkp⟩, hK3.out _ _ _ _ _ kX1 hkp⟩, hgF⟩
  case done =>
    rintro D ys W1 hD rfl ⟨⟨⟨⟨⟨v1, hb1, hrow1, _⟩, kM1⟩, kT1⟩, kX1⟩, hgW1⟩ hK
    have hsl := selT_length t ys
    obtain ⟨a3, n3, c3, rfl⟩ := row_slice hrow1
    have hc1 := hb1.cell
    have hf1 := hb1.frozen
    have hb2 := hb1.set (.slice a3 n3 c3)
    have hgw := g_set hgW1 (a := ⟨w.heap.size + 1, 0, none⟩) (.slice a3 n3 c3) (.inr (by simp))
    have hK2 : (W1.setCell ⟨w.heap.size + 1, 0, none⟩ (.slice a3 n3 c3)).heap[D]? = some (.deferred (some [])) := by
      rw [← hK]; exact Below.heap_setCell _ _ _ D (by simp; omega)
    have hput := grownBy_putObj' (W1.setCell ⟨w.heap.size + 1, 0, none⟩ (.slice a3 n3 c3)) D (.deferred none)
    have hown := ownsRow_putObj (hrow1.kept (grownBy_setCell' W1 (w.heap.size + 1) (.slice a3 n3 c3)) (.inr (hb1.not_row (by decide) hrow1).symm)) (.deferred none) hK2 rfl
    have hfin := hid (And.intro (IntsAt.own (by omega) hown) (And.intro (g_put hgw D (.deferred none) (by omega)) (And.intro (fun r hr => (row_base hown r hr).1) (hb2.kept hput (by simp; omega)).cell)))
    go_wp2
    refine ⟨by simp, .inl ⟨_, _, rfl, run_takeDeferred hK2, ?_⟩⟩
    exact ⟨_, results_box rfl _ _ (w.heap.size + 1) _ _ rfl Try.underlying23 rfl hfin.out.2.2.2, _, rfl, hfin.out.1, hfin.out.2.1, hfin.out.2.2.1⟩
  case stop =>
    rintro D c pre W1 hD hp h hK
    exact h.elim

theorem held_some (p pc g K : Nat) (l : List Int) (t : Int) (w : World) (h : LockAt w p pc g K l) :
    Calls Try.prog 23 #[.pointer (some ⟨p, 0, none⟩), .int .i64 t] w fun e w' => ∃ v', e = .returned v' ∧ IntsAt w' v' (heldL l t) ∧ w.grownBy w' none ∧ ∀ r, v'.ownBlock = some r → w.heap.size ≤ r := by
  have hgA := g_alloc (g_refl w none) (.cells #[.int .i64 t] 3)
  have htb := (Blk.new w [.int .i64 t] 3).cellOf (i := 0) rfl
  have h1 := h.keptN hgA
  have hl := h.len
  have ht := h.thr
  go_enter Try.func23, Try.ntmps23
  go_wp2_with fail
  refine (lall_some _ _ _ _ _ _ h1).mono ?_
  rintro e w1 ⟨sb, wb, v, xs, rfl, hx, hX1, hg1, hv1, hwb, hsb⟩
  have hlk := lk_length l 0
  have htb1 := g_cellN hg1 htb
  have hgw := g_none hgA hg1
  have HX := hid hx
  clear hx
  have hC := those_any2 52 #[.pointer (some ⟨sb, 0, none⟩)] (Go.Proofs.enters_of Try.func52 (by kernel_rfl) rfl) t w.heap.size l hl (lk 0 l) (by omega) w1 (LAllX sb wb v xs)
    (fun W1 _ => all2_iter sb wb v xs l HX.out ht W1)
    (fun bs rb W0 W => LAllK bs rb W0.heap.size sb wb v xs W)
    (fun bs rb W0 hg hf hb => ⟨⟨⟨Nat.le_refl _, ⟨Nat.lt_of_lt_of_le (cell_lt hX1.1) hg.size, fun hw => absurd (cell_lt hX1.1) (Nat.not_lt.2 (hb _ hw))⟩, g_cellN hg hX1.1⟩, ⟨Nat.le_refl _, ⟨Nat.lt_of_lt_of_le (cell_lt hX1.2.1) hg.size, fun hw => absurd (cell_lt hX1.2.1) (Nat.not_lt.2 (hb _ hw))⟩, g_cellN hg hX1.2.1⟩⟩, Nat.le_refl _, fun r hr => ⟨Nat.lt_of_lt_of_le (hv1 r hr).2 hg.size, fun hw => absurd (hv1 r hr).2 (Nat.not_lt.2 (hb _ hw))⟩, hX1.2.2.keptN hg⟩)
    (fun bs rb W0 hf => LAllK.own hf) (fun bs rb W0 A W h k => h.keeps k) (fun bs rb W0 W h => h.x) htb1
  have HC := hid hC
  go_wp2_with fail
  refine HC.out.mono ?_
  rintro e w2 ⟨v', rfl, hI, hg2, hv2⟩
  go_wp2_with fail
  go_ret
  exact ⟨_, rfl, hI, g_none hgw hg2, fun r hr => Nat.le_trans hgw.size (hv2 r hr)⟩
theorem held_none (v : Option Addr) (t : Int) (w : World) (h : LNone w v) :
    Calls Try.prog 23 #[.pointer v, .int .i64 t] w fun e w' => ∃ v', e = .returned v' ∧ IntsAt w' v' [] ∧ w.grownBy w' none := by
  have hgA := g_alloc (g_refl w none) (.cells #[.int .i64 t] 3)
  have htb := (Blk.new w [.int .i64 t] 3).cellOf (i := 0) rfl
  have h1 := h.keptN hgA
  go_enter Try.func23, Try.ntmps23
  go_wp2_with fail
  refine (lall_none _ _ h1).mono ?_
  rintro e _ ⟨rfl, rfl⟩
  have hC := those_any2 50 #[] (Go.Proofs.enters_of Try.func50 (by kernel_rfl) rfl) t w.heap.size [] (by simp) [] (by simp) (w.alloc (.cells #[.int .i64 t] 3)) (fun _ => True)
    (fun W1 _ l J Jx bs rb hf hX hJ hJx hY h0 => (all1_none W1 l J Jx bs rb hf hX hJ hJx (fun _ _ _ _ h => h.elim) h0).mono fun e W' ⟨h1, h2⟩ => ⟨h1, h2.imp (fun ⟨xs, h3, h4⟩ => ⟨xs, h3, h4⟩) (fun ⟨_, h3, _⟩ => h3.elim)⟩)
    (fun _ _ _ _ => True) (fun _ _ _ _ _ _ => trivial) (fun _ _ _ _ _ _ _ _ _ _ _ => trivial) (fun _ _ _ _ _ _ _ => trivial) (fun _ _ _ _ _ => trivial) htb
  have HC := hid hC
  go_wp2_with fail
  refine HC.out.mono ?_
  rintro e w2 ⟨v', rfl, hI, hg2, hv2⟩
  go_wp2_with fail
  go_ret
  exact ⟨_, rfl, hI, g_none hgA hg2⟩
end Go.Proofs.Ytnpimkigiioiaaa
