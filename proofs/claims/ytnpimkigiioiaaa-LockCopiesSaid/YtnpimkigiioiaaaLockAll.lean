/-
  The law's lists: whose each lock is, by All.
-/
import Derived.Test.YtnpimkigiioiaaaLockStart
namespace Go.Proofs.Ytnpimkigiioiaaa
open Go.RowKit
set_option maxRecDepth 100000

/-! ### Plain -/
def putL (o : List Int) (ps : List (Nat × Int)) : List Int := ps.foldl (fun o x => o.set x.1 x.2) o
theorem putL_length (ps : List (Nat × Int)) : ∀ o, (putL o ps).length = o.length := by
  induction ps with
  | nil => intro o; rfl
  | cons x xs ih => intro o; rw [putL, List.foldl_cons]; exact (ih _).trans (by simp)
theorem putL_snoc (o : List Int) (ps : List (Nat × Int)) (x : Nat × Int) : putL o (ps ++ [x]) = (putL o ps).set x.1 x.2 := by simp [putL, List.foldl_append]
theorem putL_miss {i : Nat} : ∀ (ps : List (Nat × Int)) (o : List Int), (∀ x ∈ ps, x.1 ≠ i) → (putL o ps)[i]? = o[i]?
  | [], o, _ => rfl
  | y :: ys, o, h => by
    rw [putL, List.foldl_cons]
    refine (putL_miss ys _ (fun x hx => h x (List.mem_cons_of_mem _ hx))).trans ?_
    rw [List.getElem?_set_ne (h y List.mem_cons_self)]
theorem putL_hit {i : Nat} {t : Int} : ∀ (ps : List (Nat × Int)) (o : List Int), ps.Pairwise (fun x y => x.1 < y.1) → (i, t) ∈ ps → i < o.length → (putL o ps)[i]? = some t
  | [], o, _, h, _ => by cases h
  | y :: ys, o, hp, h, hi => by
    rw [List.pairwise_cons] at hp
    rw [putL, List.foldl_cons]
    rcases List.mem_cons.1 h with rfl | h'
    · refine (putL_miss ys _ (fun x hx => by have := hp.1 x hx; simp at this; omega)).trans ?_
      rw [List.getElem?_set_self hi]
    · exact putL_hit ys _ hp.2 h' (by simpa using hi)
theorem putL_all {l : List Int} (hthr : ∀ t ∈ l, -1 ≤ t ∧ t < 4) : putL (List.replicate l.length (-1)) (lk 0 l) = l := by
  apply List.ext_getElem?
  intro i
  by_cases hi : i < l.length
  · obtain ⟨x, hx⟩ : ∃ x, l[i]? = some x := ⟨l[i], List.getElem?_eq_getElem hi⟩
    rw [hx]
    by_cases h0 : 0 ≤ x
    · exact putL_hit _ _ (lk_rise l 0) ((lk_mem l 0 (i, x)).2 ⟨Nat.zero_le _, by simpa using hx, h0⟩) (by simpa using hi)
    · rw [putL_miss]
      · have := hthr x (List.mem_of_getElem? hx)
        have hx1 : x = -1 := by omega
        simp [hi, hx1]
      · rintro ⟨j, y⟩ hm rfl
        have h1 := ((lk_mem l 0 (j, y)).1 hm).2
        simp at h1
        rw [hx] at h1
        have := h1.1
        cases this
        exact h0 h1.2
  · rw [List.getElem?_eq_none (by rw [putL_length]; simpa using hi), List.getElem?_eq_none (by omega)]

/-! ### New, once more: what its list owns -/
set_option maxHeartbeats 1000000 in
theorem refNew_row (n : Nat) (hn : n ≤ 64) (w : World) :
    Calls Try.prog 9 #[.int .i64 n] w fun e w' => ∃ v, e = .returned (.tuple #[v, .int .i64 0]) ∧ w'.ownsRow w.heap.size 3 1 v n (intsV (List.replicate n (-1))) ∧ w.grownBy w' none := by
  obtain ⟨i0, hi, hz0, hz1, hz2⟩ := info_parts info_int
  go_enter Try.func9, Try.ntmps9
  go_wp2
  go_loopw [4, 5] (fun v4 v5 wr => ∃ (k : Nat), k ≤ n ∧ v5 = .int .i64 k ∧ wr.ownsRow w.heap.size 3 1 v4 k (intsV (List.replicate k (-1))) ∧ w.grownBy wr none) (fun _ v5 _ => n - (intOf v5).toNat)
  case atStart => exact ⟨0, Nat.zero_le _, rfl, World.ownsRow_nil _ _ _ _, g_refl w _⟩
  case round =>
    obtain ⟨k, hk, rfl, hrow, hg⟩ := hrel
    have HR := hid hrow
    by_cases hlt : k < n
    · have hcc := cells_new wr [.int .i64 (-1)] 3
      have hs : intsV (List.replicate (k + 1) (-1)) = intsV (List.replicate k (-1)) ++ [.int .i64 (-1)] := by
        rw [List.replicate_succ']; simp [intsV]
      have HS := hid hs
      clear hs hrow
      go_wp2_with (at_builtin; refine wpList_append_own_at _ rfl _ _ 23 rfl w.heap.size 3 i0 (.int .i64 0) 1 8 Try.underlying23 hi hz0 hz1 hz2 rfl (by decide) _ _ _ rfl (HR.out.alloc _) ⟨wr.heap.size, 0, none⟩ 1 1 [.int .i64 (-1)] rfl rfl hcc (by simp [Value.oneCell']) (by unfold maxLen; omega) (by omega) (by have := hg.size; simp; omega) ?_; intro v' w9 hown' hgrow hnn hob)
      go_roundw
      case rel => exact ⟨k + 1, by omega, by go_num, by rw [HS.out]; exact hown', g_trans (g_alloc hg _) hgrow (fun r e => .inr (row_base HR.out r e).1)⟩
      case measure => simp [intOf]; omega
    · obtain rfl : k = n := by omega
      clear hrow
      go_wp2
      go_ret2
      exact ⟨_, rfl, HR.out, hg⟩

/-! ### All of the law -/
/-- An iterator over pairs, and what a loop's body keeps of it. -/
def AskAll (w : World) (vp : Option Addr) (ps : List (Nat × Int)) : Prop :=
  ∀ W, w.grownBy W none → Calls Try.prog 22 #[.pointer vp] W fun e w' => ∃ gf lb, e = .returned (.func (.func gf) #[] lb) ∧ W.grownBy w' none ∧ (∀ args w, (callFunc gf args).run Try.prog w = .ok (.enter gf args) w) ∧
    ∃ (X : World → Prop) (KX : List Nat → Option Nat → World → World → Prop),
      (∀ W1, w'.grownBy W1 none → IterAt Try.prog gf lb (fun x : Nat × Int => #[.int .i64 x.1, .int .i64 x.2]) (fun _ W => X W) (fun pre x => pre ++ [x] <+: ps) (fun ys => ys = ps) (fun pre => pre <+: ps) W1) ∧
      (∀ (bs : List Nat) (rb : Option Nat) (W0 : World), w'.grownBy W0 none → Foot bs rb W0 → (∀ b, Wr bs rb W0 b → b < W.heap.size) → KX bs rb W0 W0) ∧
      (∀ (bs : List Nat) (rb : Option Nat) (W0 : World), Foot bs rb W0 → OwnFrom W0.heap.size (fun (_ : List (Nat × Int)) W => KX bs rb W0 W)) ∧
      (∀ (bs : List Nat) (rb : Option Nat) (W0 A W : World), KX bs rb W0 A → Keeps bs rb A W → KX bs rb W0 W) ∧
      (∀ (bs : List Nat) (rb : Option Nat) (W0 W : World), KX bs rb W0 W → X W)
theorem askAll_some (p pc g K : Nat) (l : List Int) (w : World) (h : LockAt w p pc g K l) : AskAll w (some ⟨p, 0, none⟩) (lk 0 l) := by
  intro W hW
  refine (lall_some p pc g K l W (h.keptN hW)).mono ?_
  rintro e w' ⟨sb, wb, v, xs, rfl, hx, hX1, hg1, hv1, hwb, hsb⟩
  refine ⟨_, _, rfl, hg1, Go.Proofs.enters_of Try.func52 (by kernel_rfl) rfl, LAllX sb wb v xs, fun bs rb W0 W => LAllK bs rb W0.heap.size sb wb v xs W, fun W1 _ => all2_iter sb wb v xs l hx h.thr W1,
    fun bs rb W0 hg hf hb => ⟨⟨⟨Nat.le_refl _, ⟨Nat.lt_of_lt_of_le (cell_lt hX1.1) hg.size, fun hw => absurd hsb (Nat.not_le.2 (hb _ hw))⟩, g_cellN hg hX1.1⟩, ⟨Nat.le_refl _, ⟨Nat.lt_of_lt_of_le (cell_lt hX1.2.1) hg.size, fun hw => absurd hwb (Nat.not_le.2 (hb _ hw))⟩, g_cellN hg hX1.2.1⟩⟩, Nat.le_refl _, fun r hr => ⟨Nat.lt_of_lt_of_le (hv1 r hr).2 hg.size, fun hw => absurd (hv1 r hr).1 (Nat.not_le.2 (hb _ hw))⟩, hX1.2.2.keptN hg⟩,
    fun bs rb W0 hf => LAllK.own hf, fun bs rb W0 A W h k => h.keeps k, fun bs rb W0 W h => h.x⟩
theorem askAll_none (v : Option Addr) (w : World) (h : LNone w v) : AskAll w v [] := by
  intro W hW
  refine (lall_none v W (h.keptN hW)).mono ?_
  rintro e w' ⟨rfl, rfl⟩
  exact ⟨_, _, rfl, g_refl _ _, Go.Proofs.enters_of Try.func50 (by kernel_rfl) rfl, fun _ => True, fun _ _ _ _ => True,
    fun W1 _ l J Jx bs rb hf hX hJ hJx hY h0 => (all1_none W1 l J Jx bs rb hf hX hJ hJx (fun _ _ _ _ h => h.elim) h0).mono fun e W' ⟨h1, h2⟩ => ⟨h1, h2.imp (fun ⟨xs, h3, h4⟩ => ⟨xs, h3, h4⟩) (fun ⟨_, h3, _⟩ => h3.elim)⟩,
    fun _ _ _ _ _ _ => trivial, fun _ _ _ _ _ _ _ _ _ _ _ => trivial, fun _ _ _ _ _ _ _ => trivial, fun _ _ _ _ _ => trivial⟩

theorem row_shape {w : World} {base size n : Nat} {e : TypeId} {v : Value} {xs : List Value} (h : w.ownsRow base e size v n xs) : ∃ a c, v = .slice a n c := by
  rcases h.2 with ⟨rfl, rfl⟩ | ⟨g, cap, cur, rfl, _⟩
  · exact ⟨_, _, rfl⟩
  · exact ⟨_, _, rfl⟩
theorem rowKeptN {w w' : World} {base size n : Nat} {e : TypeId} {v : Value} {xs : List Value} (h : w.ownsRow base e size v n xs) (hg : w.grownBy w' none) : w'.ownsRow base e size v n xs := h.kept hg (Classical.or_iff_not_imp_left.2 fun h e => h e)
theorem boxed_own {α : Type} {b : Nat} {t : TypeId} {f : α → Value} : Own (fun (s : α) W => Boxed W b t (f s)) := by
  rintro s X Y row hv hg hrow
  refine hv.kept hg (fun e' => ?_)
  obtain ⟨o, ho, hc⟩ := hrow b e'.symm
  rw [show X.heap[b]? = _ from hv] at ho; cases ho; cases hc

attribute [local go_sem] Oper.semAt_some

set_option maxHeartbeats 4000000 in
theorem alls_any (vp : Option Addr) (n m : Nat) (hn : n ≤ 64) (hm : m ≤ 1000) (ps : List (Nat × Int)) (hps : ∀ x ∈ ps, x.1 < n) (hpl : ps.length < m) (w : World) (h : AskAll w vp ps) :
    Calls Try.prog 46 #[.pointer vp, .int .i64 n, .int .i64 m] w fun e w' => ∃ v', e = .returned v' ∧ IntsAt w' v' (putL (List.replicate n (-1)) ps) ∧ w.grownBy w' none := by
  have qF : ∀ (w : World) (fn : Fn) (a b : Array Value), (binOp .eql 56 (.func fn a b) .nilFunc).run Try.prog w = .ok (.bool false) w := fun w fn a b => run_eql_func_nil w _ _ _ _ fn a b Try.underlying56
  have hgA : w.grownBy (((w.alloc (.cells #[.int .i64 n] 3)).alloc (.cells #[.int .i64 m] 3)).alloc (.cells #[.slice none 0 0] 23)) none := g_alloc (g_alloc (g_alloc (g_refl w _) _) _) _
  have b4 := ((Boxed.new w 3 (.int .i64 n)).alloc (.cells #[.int .i64 m] 3)).alloc (.cells #[.slice none 0 0] 23)
  have b5 := (Boxed.new (w.alloc (.cells #[.int .i64 n] 3)) 3 (.int .i64 m)).alloc (.cells #[.slice none 0 0] 23)
  have b6 := Boxed.new ((w.alloc (.cells #[.int .i64 n] 3)).alloc (.cells #[.int .i64 m] 3)) 23 (.slice none 0 0)
  rw [World.size_alloc] at b5
  rw [World.size_alloc, World.size_alloc] at b6
  have HALL := hid h
  clear h
  refine calls_of_wp_marks Try.func46 rfl (wpIn_wide.2 ?_)
  simp only [Try.ntmps46, List.size_toArray, List.length_cons, List.length_nil, Nat.reduceAdd, Nat.reduceSub, Array.replicate_succ, Array.replicate_zero, List.push_toArray, List.append_toArray, List.nil_append, List.cons_append]
  have c4 := b4.cell
  go_wp2_with fail
  refine (refNew_row n hn _).mono ?_
  rintro e w1 ⟨v, rfl, hrow, hg1⟩
  obtain ⟨a, c, rfl⟩ := row_shape hrow
  have hs3 : (((w.alloc (.cells #[.int .i64 n] 3)).alloc (.cells #[.int .i64 m] 3)).alloc (.cells #[.slice none 0 0] 23)).heap.size = w.heap.size + 3 := by simp
  rw [hs3] at hrow
  have hs1 := hg1.size
  rw [hs3] at hs1
  have hgN := g_alloc (g_alloc (g_refl w1 none) (.cells #[.slice a n c] 23)) (.cells #[.int .i64 0] 3)
  have b7 := (Boxed.new w1 23 (.slice a n c)).alloc (.cells #[.int .i64 0] 3)
  have b9 := Boxed.new (w1.alloc (.cells #[.slice a n c] 23)) 3 (.int .i64 0)
  rw [World.size_alloc] at b9
  obtain ⟨w9, hw9⟩ : ∃ w9, w9 = (w1.alloc (.cells #[.slice a n c] 23)).alloc (.cells #[.int .i64 0] 3) := ⟨_, rfl⟩
  have hs9 : w9.heap.size = w1.heap.size + 2 := by rw [hw9]; simp
  go_wp2_with fail
  rw [← hw9] at hgN b7 b9 ⊢
  clear hw9
  have hgw9 := g_none (g_none hgA hg1) hgN
  have b4 := (b4.kept hg1 (by simp)).kept hgN (by simp)
  have b5 := (b5.kept hg1 (by simp)).kept hgN (by simp)
  have b6 := (b6.kept hg1 (by simp)).kept hgN (by simp)
  have hrb := fun r hr => row_base hrow r hr
  have hrow := rowKeptN hrow hgN
  clear hgA hg1 hgN c4
  refine (HALL.out w9 hgw9).mono ?_
  rintro e wa ⟨gf0, lb0, rfl, hga, _, _⟩
  go_wp2_with fail
  refine (HALL.out wa (g_none hgw9 hga)).mono ?_
  rintro e wI ⟨gf, lb, rfl, hgb, eg, X, KX, hit, hKX, hKo, hKk, hKx⟩
  have hgI := g_none hga hgb
  have hgwI := g_none hgw9 hgI
  have hsa := hga.size
  have hsI := hgb.size
  have b4 := b4.kept hgI (by simp)
  have b5 := b5.kept hgI (by simp)
  have b6 := b6.kept hgI (by simp)
  have b7 := b7.kept hgI (by simp)
  have b9 := b9.kept hgI (by simp)
  have hrow := rowKeptN hrow hgI
  have hBS : ∃ bs : List Nat, w1.heap.size + 1 ∈ bs ∧ (∀ b ∈ bs, b = w1.heap.size + 1 ∨ (Value.slice a n c).ownBlock = some b) ∧ ∀ g, (Value.slice a n c).ownBlock = some g → g ∈ bs := by
    cases ho : (Value.slice a n c).ownBlock with
    | none => exact ⟨[w1.heap.size + 1], by simp, fun b hb => .inl (by simpa using hb), fun g hg => by cases hg⟩
    | some r => exact ⟨[w1.heap.size + 1, r], by simp, fun b hb => by
        simp at hb
        rcases hb with rfl | rfl
        · exact .inl rfl
        · exact .inr rfl, fun g hg => by cases hg; simp⟩
  obtain ⟨bs, hbs1, hbs2, hbs3⟩ := hBS
  have hbsl : ∀ b ∈ bs, w.heap.size + 3 ≤ b ∧ b < w9.heap.size ∧ b ≠ w1.heap.size := fun b hb => by
    rcases hbs2 b hb with rfl | hr
    · omega
    · have := hrb b hr
      omega
  have hfoot : Foot bs none wI := ⟨fun b hw => by
    rcases hw with hm' | ⟨r, u, hr, _⟩
    · have := hbsl b hm'; omega
    · exact absurd hr (by simp), fun r hr => by cases hr⟩
  have hnw : ∀ {p : Nat}, p < wI.heap.size → (p < w.heap.size + 3) → NotW bs none p wI := fun {p} hp hne => ⟨hp, fun hw => by
    rcases hw with hm' | ⟨r, u, hr, _⟩
    · have := hbsl p hm'; omega
    · cases hr⟩
  have kX := hKX bs none wI (g_refl wI none) hfoot (fun b hw => by
    rcases hw with hm' | ⟨r, u, hr, _⟩
    · have := hbsl b hm'; omega
    · cases hr)
  have k4 : Box bs none wI.heap.size w.heap.size (.int .i64 n) wI := ⟨Nat.le_refl _, hnw (by omega) (by omega), b4.cell⟩
  have k5 : Box bs none wI.heap.size (w.heap.size + 1) (.int .i64 m) wI := ⟨Nat.le_refl _, hnw (by omega) (by omega), b5.cell⟩
  have HB1 := hid hbs1
  have HB3 := hid hbs3
  have HBL := hid hbsl
  have HRB := hid hrb
  have HPS := hid hps
  have HKO := hid hKo
  have HKK := hid hKk
  have HKX := hid hKx
  have HIT := hid hit
  have EG := hid eg
  clear hKX hKo hKk hKx hit eg hnw hbs1 hbs2 hbs3 hbsl hrb hps b4 b5
  go_wp2_with fail
  refine wp_of_in (wp_iter (gf := gf) (lb := lb) rfl EG.out
    (encs := fun x : Nat × Int => #[.int .i64 x.1, .int .i64 x.2]) (fun _ => rfl) bs none hfoot
    (fun W1 hg => HIT.out W1 hg)
    (fun pre W1 => (((((((∃ v, Boxed W1 w1.heap.size 23 v ∧ W1.ownsRow (w.heap.size + 3) 3 1 v n (intsV (putL (List.replicate n (-1)) pre)) ∧ v = .slice a n c) ∧ Boxed W1 (w1.heap.size + 1) 3 (.int .i64 pre.length)) ∧ Boxed W1 (w.heap.size + 1 + 1) 23 (.slice none 0 0)) ∧ Box bs none wI.heap.size w.heap.size (.int .i64 n) W1) ∧ Box bs none wI.heap.size (w.heap.size + 1) (.int .i64 m) W1) ∧ KX bs none wI W1) ∧ w.grownBy W1 none))
    (fun c pre W1 => False)
    (OwnFrom.and (OwnFrom.and (OwnFrom.and (OwnFrom.and (OwnFrom.and (OwnFrom.and (Own.from (holdsRow_own _ _ _ _ _ _ _ (fun (_ : List (Nat × Int)) v => v = Value.slice a n c)) _) (Own.from boxed_own _)) (Own.from boxed_own _)) (Box.own hfoot)) (Box.own hfoot)) (HKO.out _ _ _ hfoot)) (grown_own hgwI.size))
    (fun c s A B row h hg hr => h)
    (fun pre W1 h => HKX.out _ _ _ _ h.1.2)
    ⟨⟨⟨⟨⟨⟨⟨_, b7, hrow, rfl⟩, b9⟩, b6⟩, k4⟩, k5⟩, kX⟩, hgwI⟩
    (fun x a' _ => a' = { tmps := #[.pointer vp, .int .i64 n, .int .i64 m, undef, .pointer (some ⟨w.heap.size, 0, none⟩), .pointer (some ⟨w.heap.size + 1, 0, none⟩), .pointer (some ⟨w.heap.size + 1 + 1, 0, none⟩), .pointer (some ⟨w1.heap.size, 0, none⟩), .int .i64 0, .pointer (some ⟨w1.heap.size + 1, 0, none⟩), .int .i64 x.1, .int .i64 x.2, .tuple #[.slice a n c, .int .i64 0], .int .i64 n, .tuple #[.slice a n c, .int .i64 0], .slice a n c, .int .i64 0, .pointer vp, .func (.func gf0) #[] lb0, .bool false, .pointer vp, .func (.func gf) #[] lb, .int .i64 x.1, .int .i64 x.2, undef, undef, undef, undef, undef, undef, undef, undef, undef, undef, undef, undef, undef, undef, undef, undef, undef], defers := [] })
    (fun x a' s A B row h _ _ => h) ?assign ?body ?done ?stop)
  case assign =>
    intro l' pre x W1 K _ _ hK
    gi_wp2
    exact hK _ _ (KeepsFrom.refl _ _) (Keeps.refl _ _ _) (by assumption) rfl
  case body =>
    rintro l' pre x a' W1 hl' ⟨⟨⟨⟨⟨⟨⟨v1, hb1, hrow1, rfl⟩, hn1⟩, hr1⟩, k41⟩, k51⟩, kX1⟩, hgW1⟩ rfl hnx
    have hxm : x ∈ ps := hnx.subset (by simp)
    have hxn := HPS.out x hxm
    have hlen : pre.length + 1 ≤ ps.length := by
      have h1 := hnx.length_le
      simpa using h1
    obtain ⟨n', rfl⟩ : ∃ n', n = n' + 1 := ⟨n - 1, by omega⟩
    obtain ⟨g, cap, hga⟩ := ownsRow_succ hrow1
    cases hga
    have hc7 := hb1.cell
    have hcn := hn1.cell
    have hfn := hn1.frozen
    have hc4 := k41.2.2
    have hc5 := k51.2.2
    have hff := hrow1.frozenAt x.1
    obtain ⟨y, hy⟩ : ∃ y, (putL (List.replicate (n' + 1) (-1)) pre)[x.1]? = some y := ⟨_, List.getElem?_eq_getElem (by rw [putL_length]; simpa using hxn)⟩
    have hcx : W1.cell? ⟨g, x.1, none⟩ = some (.int .i64 y) := by
      rw [hrow1.cellAt x.1 (by omega), intsV, List.getElem?_map, hy]; rfl
    have hst := hrow1.stored x.1 (.int .i64 x.2)
    have hs : (intsV (putL (List.replicate (n' + 1) (-1)) pre)).set x.1 (.int .i64 x.2) = intsV (putL (List.replicate (n' + 1) (-1)) (pre ++ [x])) := by
      rw [putL_snoc, intsV, intsV, List.map_set]
    rw [hs] at hst
    have HST := hid hst
    clear hs hst hy
    have hg7 : g ≠ w1.heap.size := fun e => (HBL.out g (HB3.out g rfl)).2.2 e
    have hgb := HRB.out g rfl
    have hg9 : g ≠ w1.heap.size + 1 := by omega
    have hlm : ¬ ((m : Int) ≤ (pre.length : Int) + 1) := by omega
    gi_wp2_with fail
    obtain ⟨hgl0, hgl1, _⟩ := HBL.out g (HB3.out g rfl)
    have hW1 := k41.1
    have hgS := HST.out.2
    have hgT := grownBy_setCell' (W1.setCell ⟨g, x.1, none⟩ (.int .i64 x.2)) (w1.heap.size + 1) (.int .i64 ((pre.length : Int) + 1))
    have hbl1 : ∀ b ∈ bs, b < W1.heap.size := fun b hb => by have := (HBL.out b hb).2.1; omega
    have hbl2 : ∀ b ∈ bs, b < (W1.setCell ⟨g, x.1, none⟩ (.int .i64 x.2)).heap.size := fun b hb => Nat.lt_of_lt_of_le (hbl1 b hb) hgS.size
    have kf : KeepsFrom wI.heap.size W1 ((W1.setCell ⟨g, x.1, none⟩ (.int .i64 x.2)).setCell ⟨w1.heap.size + 1, 0, none⟩ (.int .i64 ((pre.length : Int) + 1))) := (KeepsFrom.of_grownBy hgS (fun j e => by cases e; omega)).trans (KeepsFrom.of_grownBy hgT (fun j e => by cases e; omega))
    have kp : Keeps bs none W1 ((W1.setCell ⟨g, x.1, none⟩ (.int .i64 x.2)).setCell ⟨w1.heap.size + 1, 0, none⟩ (.int .i64 ((pre.length : Int) + 1))) := (Keeps.one hbl1 (by simp) hgS (.inl (.inl (HB3.out g rfl))) (by simp)).trans (Keeps.one hbl2 (by simp) hgT (.inl (.inl HB1.out)) (by simp))
    have e1 := (hb1.kept hgS (by simp; omega)).kept hgT (by simp)
    have e2 := HST.out.1.kept hgT (.inr (by simp [Value.ownBlock]; omega))
    have e3 := (hn1.kept hgS (by simp; omega)).set (.int .i64 ((pre.length : Int) + 1))
    have hlx : (((pre ++ [x]).length : Nat) : Int) = (pre.length : Int) + 1 := by simp
    have e4 := (hr1.kept hgS (by simp; omega)).kept hgT (by simp; omega)
    exact ⟨kf, kp, ⟨⟨⟨⟨⟨⟨e1, e2⟩, by rw [hlx]; exact e3⟩, e4⟩, k41.keeps kp⟩, k51.keeps kp⟩, HKK.out _ _ _ _ _ kX1 kp⟩, g_new (g_new hgW1 hgS (by omega)) hgT (by omega)⟩
  case done =>
    rintro D ys W1 hD rfl ⟨⟨⟨⟨⟨⟨⟨v1, hb1, hrow1, rfl⟩, hn1⟩, hr1⟩, k41⟩, k51⟩, kX1⟩, hgW1⟩ hK
    have hc1 := hb1.cell
    have hf1 := hr1.frozen
    have hc6 := hr1.cell
    have hgD := grownBy_setCell' W1 (w.heap.size + 1 + 1) (.slice a n c)
    have hb2 := hr1.set (.slice a n c)
    have hrow2 := hrow1.kept hgD (.inr (fun e => by have := HRB.out _ e; omega))
    have hgw := g_new hgW1 hgD (by omega)
    have hK2 : (W1.setCell ⟨w.heap.size + 1 + 1, 0, none⟩ (.slice a n c)).heap[D]? = some (.deferred (some [])) := by
      rw [← hK]; exact Below.heap_setCell _ _ _ D (by simp; omega)
    have hput := grownBy_putObj' (W1.setCell ⟨w.heap.size + 1 + 1, 0, none⟩ (.slice a n c)) D (.deferred none)
    have hown := ownsRow_putObj hrow2 (.deferred none) hK2 rfl
    have hlp : (putL (List.replicate n (-1)) ys).length = n := by rw [putL_length]; simp
    have hI := IntsAt.own (ns := putL (List.replicate n (-1)) ys) (by omega) (by rw [hlp]; exact hown)
    have hfin := hid (And.intro hI (And.intro (g_put hgw D (.deferred none) (by omega)) (hb2.kept hput (by simp; omega)).cell))
    go_wp2
    refine ⟨by simp, .inl ⟨_, _, rfl, run_takeDeferred hK2, ?_⟩⟩
    exact ⟨_, results_box rfl _ _ (w.heap.size + 1 + 1) _ _ rfl Try.underlying23 rfl hfin.out.2.2, _, rfl, hfin.out.1, hfin.out.2.1⟩
  case stop =>
    rintro D c pre W1 hD hp h hK
    exact h.elim
end Go.Proofs.Ytnpimkigiioiaaa
