/-
  At most so many picks, in a slice.
-/
import Derived.Test.YtkeicoadpdfkkaaFeedPicks2
import Derived.Maps.OwnIn
import Derived.BigQuiet
namespace Go.Proofs.Ytkeicoadpdfkkaa
open Go.RowKit

def fi (xs : List Int) : List Value := xs.map (Value.int .i64)
theorem fi_length (xs : List Int) : (fi xs).length = xs.length := by simp [fi]
theorem fi_append (a b : List Int) : fi (a ++ b) = fi a ++ fi b := by simp [fi]
theorem fi_get {xs : List Int} {i : Nat} {x : Int} (h : xs[i]? = some x) : (fi xs)[i]? = some (.int .i64 x) := by simp [fi, h]
/-- A slice that reads as a list of numbers. -/
def LI (w : World) (v : Value) (xs : List Int) : Prop :=
  ∃ (a : Option Addr) (cap : Nat), v = .slice a xs.length cap ∧ xs.length ≤ 1000 ∧ xs.length ≤ cap ∧ cap ≤ maxLen ∧ (0 < xs.length → ∃ g, a = some ⟨g, 0, none⟩ ∧
    ∀ (i : Nat) (x : Int), xs[i]? = some x → w.cell? ⟨g, 0 + i, none⟩ = some (.int .i64 x))
theorem LI.keptN {w w' : World} {v : Value} {xs : List Int} (h : LI w v xs) (hg : w.grownBy w' none) : LI w' v xs := by
  obtain ⟨a, cap, rfl, hl, hcp, hm, hc⟩ := h
  refine ⟨a, cap, rfl, hl, hcp, hm, fun h0 => ?_⟩
  obtain ⟨g, rfl, hx⟩ := hc h0
  exact ⟨g, rfl, fun i x hi => g_cellN hg (hx i x hi)⟩
theorem LI.own {w : World} {base : Nat} {e : TypeId} {v : Value} {xs : List Int} (hl : xs.length ≤ 1000) (h : w.ownsRow base e 1 v xs.length (fi xs)) : LI w v xs := by
  rcases h.2 with ⟨rfl, h0⟩ | ⟨g, cap, cur, rfl, hb, _⟩
  · cases xs with
    | nil => exact ⟨none, 0, rfl, by simp, by simp, by simp [maxLen], fun h => by simp at h⟩
    | cons x l => simp at h0
  · obtain ⟨tail, h1, h2, h3, h4, h5⟩ := row_blk h
    exact ⟨_, cap, rfl, hl, h3, h4, fun _ => ⟨g, rfl, fun i x hi => by
      rw [Nat.zero_add]
      have := fi_get hi
      exact h1.cellOf (by rw [List.getElem?_append_left (List.getElem?_eq_some_iff.1 this).1]; exact this)⟩⟩
theorem LI.at {w : World} {v : Value} {xs : List Int} (h : LI w v xs) {k : Nat} {x : Int} (hk : xs[k]? = some x) : ∃ g cap, v = .slice (some ⟨g, 0, none⟩) xs.length cap ∧ w.cell? ⟨g, 0 + k, none⟩ = some (.int .i64 x) := by
  obtain ⟨a, cap, rfl, hl, hcp, hm, hc⟩ := h
  have := (List.getElem?_eq_some_iff.1 hk).1
  obtain ⟨g, rfl, hx⟩ := hc (by omega)
  exact ⟨g, cap, rfl, hx _ _ hk⟩
theorem LI.len {w : World} {v : Value} {xs : List Int} (h : LI w v xs) : ∃ a cap, v = .slice a xs.length cap ∧ xs.length ≤ 1000 ∧ xs.length ≤ cap ∧ cap ≤ maxLen := by
  obtain ⟨a, cap, rfl, hl, hcp, hm, _⟩ := h
  exact ⟨a, cap, rfl, hl, hcp, hm⟩
theorem info_i : (Try.prog.info? 3).map (fun i => (i.zero, i.size, i.bytes)) = some (some (.int .i64 0), 1, 8) := by kernel_rfl
theorem cells_newI (W : World) (cs : List Value) (T : TypeId) : ∀ j u, cs[j]? = some u → (W.alloc (.cells cs.toArray T)).cell? ((⟨W.heap.size, 0, none⟩ : Addr).add j) = some u := by
  intro j u hj
  have : (W.alloc (.cells cs.toArray T)).cell? ⟨W.heap.size, j, none⟩ = some u := (Blk.new W cs T).cellOf hj
  unfold Addr.add
  split
  · rename_i h0; subst h0; exact this
  · simpa using this

/-- The picks one by one. -/
def pickL (xs : List Int) (k : Nat) (n : Int) (c : Nat) : List Int := (List.range c).map fun i => pickV ((xs.drop (k + i)).take 1) n
theorem pickL_length (xs : List Int) (k : Nat) (n : Int) (c : Nat) : (pickL xs k n c).length = c := by simp [pickL]
theorem pickL_succ (xs : List Int) (k : Nat) (n : Int) (c : Nat) : pickL xs k n (c + 1) = pickL xs k n c ++ [pickV ((xs.drop (k + c)).take 1) n] := by simp [pickL, List.range_succ]
theorem pickL_get {xs : List Int} {k : Nat} {n : Int} {c i : Nat} (h : i < c) : (pickL xs k n c)[i]? = some (pickV ((xs.drop (k + i)).take 1) n) := by simp [pickL, h]

/-- A feed through what leaves its blocks alone. -/
theorem FeedAt.same {A W : World} {p k : Nat} {v : Value} {xs : List Int} (h : FeedAt A p v xs k) (hp : W.heap[p]? = A.heap[p]?) (hv : ∀ r, v.ownBlock = some r → W.heap[r]? = A.heap[r]?) : FeedAt W p v xs k := by
  refine ⟨h.1.same hp, ⟨h.2.1.1, ?_⟩, h.2.2⟩
  rcases h.2.1.2 with h1 | ⟨g, cap, cur, e, hb, hg, h2⟩
  · exact .inl h1
  · exact .inr ⟨g, cap, cur, e, hb, (hv g (by rw [e]; rfl)).trans hg, h2⟩
theorem FeedAt.vlt {A : World} {p k : Nat} {v : Value} {xs : List Int} (h : FeedAt A p v xs k) : ∀ r, v.ownBlock = some r → r < A.heap.size := fun r e => (row_base h.2.1 r e).2
/-- The feed, as long as a loop's body goes: its blocks lie below the loop's. -/
theorem feed_own {α : Type} {B : Nat} {p : Nat} {v : Value} {xs : List Int} (hp : p < B) (hv : ∀ r, v.ownBlock = some r → r < B) (at' : α → Nat) : OwnFrom B (fun (s : α) W => FeedAt W p v xs (at' s)) := by
  intro s A W row hA hg hr
  refine hA.same (hg.block p hA.facts.2.2.2 (fun e => ?_)) (fun r e => hg.block r (hA.vlt r e) (fun e' => ?_))
  · have := (hr p e.symm).1; omega
  · have h1 := (hr r e'.symm).1
    have h2 := hv r e
    omega
theorem grown_ownP {α : Type} {B p : Nat} {w : World} (hB : w.heap.size ≤ B) : OwnFrom B (fun (_ : α) W => w.grownBy W (some p)) := by
  intro s A W row hA hg hr
  exact g_trans hA hg (fun r e => .inr (Nat.le_trans hB (hr r e).1))

attribute [local go_sem] Oper.semAt_some

set_option maxHeartbeats 4000000 in
theorem picksL_ok (p : Nat) (v : Value) (xs : List Int) (hu : ∀ x ∈ xs, 0 ≤ x ∧ x < 256) (k : Nat) (n : Int) (hn : 1 ≤ n) (hn2 : n ≤ 256) (m : Nat) (hm0 : 1 ≤ m) (hm : m ≤ 9) (w : World) (hF : FeedAt w p v xs k) :
    Calls Try.prog 35 #[.pointer (some ⟨p, 0, none⟩), .int .i64 n, .int .i64 m] w fun e w' => ∃ v' c, e = .returned v' ∧ c = min m (xs.length - k) ∧ LI w' v' (pickL xs k n c) ∧ FeedAt w' p v xs (k + c) ∧ w.grownBy w' (some p) := by
  obtain ⟨i0, hi, hz0, hz1, hz2⟩ := info_parts info_i
  have hpw := hF.facts.2.2.2
  have hvw := hF.vlt
  have hgA : w.grownBy ((w.alloc (.cells #[.int .i64 m] 3)).alloc (.cells #[.slice none 0 0] 68)) none := g_alloc (g_alloc (g_refl w _) _) _
  have bM := (Boxed.new w 3 (.int .i64 m)).alloc (.cells #[.slice none 0 0] 68)
  have bL := Boxed.new (w.alloc (.cells #[.int .i64 m] 3)) 68 (.slice none 0 0)
  rw [World.size_alloc] at bL
  have qF : ∀ (w : World) (fn : Fn) (a b : Array Value), (binOp .eql 78 (.func fn a b) .nilFunc).run Try.prog w = .ok (.bool false) w := fun w fn a b => run_eql_func_nil w _ _ _ _ fn a b Try.underlying78
  have hSt := Picks_any (some ⟨p, 0, none⟩) n
  refine calls_of_wp_marks Try.func35 rfl (wpIn_wide.2 ?_)
  simp only [Try.ntmps35, List.size_toArray, List.length_cons, List.length_nil, Nat.reduceAdd, Nat.reduceSub, Array.replicate_succ, Array.replicate_zero, List.push_toArray, List.append_toArray, List.nil_append, List.cons_append]
  go_wp2_with fail
  refine (hSt _).mono ?_
  rintro e w1 ⟨c, rfl, h31, h32, hc', hg1⟩
  go_wp2_with fail
  refine (hSt _).mono ?_
  rintro e w2 ⟨b, rfl, h3, h4, hb, hg2⟩
  go_wp2_with fail
  have hg12 := g_none hg1 hg2
  replace hgA := g_none hgA hg12
  replace bM := bM.kept hg12 (by simp)
  replace bL := bL.kept hg12 (by simp)
  have hF2 := hF.keptN hgA
  have hbs : w.heap.size + 2 ≤ b := by have := hg1.size; simp at this; omega
  have hs2' : w.heap.size + 2 ≤ w2.heap.size := by have := hg12.size; simpa using this
  clear h31 h32 hc' hg1 hg2 hg12 hb
  have hfoot : Foot [w.heap.size + 1] (some (w.heap.size + 1)) w2 := ⟨fun b hw => by
    rcases hw with hm' | ⟨r, u, hr, hc, hu⟩
    · simp at hm'; omega
    · cases hr; rw [bL.cell] at hc; cases hc; simp [Value.ownBlock] at hu, fun r hr => by cases hr; simp⟩
  have hnw : ∀ {p : Nat}, p < w2.heap.size → p ≠ w.heap.size + 1 → NotW [w.heap.size + 1] (some (w.heap.size + 1)) p w2 := fun {p} hp hne => ⟨hp, fun hw => by
    rcases hw with hm' | ⟨r, u, hr, hc, hu⟩
    · simp at hm'; exact hne hm'
    · cases hr; rw [bL.cell] at hc; cases hc; simp [Value.ownBlock] at hu⟩
  have kM : Box [w.heap.size + 1] (some (w.heap.size + 1)) w2.heap.size w.heap.size (.int .i64 m) w2 := ⟨Nat.le_refl _, hnw (by omega) (by omega), bM.cell⟩
  have kF : Box [w.heap.size + 1] (some (w.heap.size + 1)) w2.heap.size b (.pointer (some ⟨p, 0, none⟩)) w2 := ⟨Nat.le_refl _, hnw (cell_lt h3) (by omega), h3⟩
  have kN : Box [w.heap.size + 1] (some (w.heap.size + 1)) w2.heap.size (b + 1) (.int .i64 n) w2 := ⟨Nat.le_refl _, hnw (cell_lt h4) (by omega), h4⟩
  have hpne : p ≠ w.heap.size + 1 := by omega
  -- a write of the feed leaves the boxes alone
  have boxP : ∀ {q : Nat} {u : Value} {A W : World}, Box [w.heap.size + 1] (some (w.heap.size + 1)) w2.heap.size q u A → q ≠ p → A.grownBy W (some p) → Box [w.heap.size + 1] (some (w.heap.size + 1)) w2.heap.size q u W := by
    intro q u A W h hq hg
    refine ⟨Nat.le_trans h.1 hg.size, h.2.1.grown (fun b hb => Nat.lt_of_lt_of_le (hfoot.bl b hb) h.1) hfoot.mem hg (fun r e he => by cases e; cases he; omega), ?_⟩
    rw [← h.2.2]
    exact g_cell (a := ⟨q, 0, none⟩) hg h.2.1.1 (fun e => by cases e; exact hq rfl)
  have nwr : ∀ {W1 : World} {v1 : Value} {q nn : Nat} {l : List Value}, Boxed W1 (w.heap.size + 1) 68 v1 → W1.ownsRow w.heap.size 3 1 v1 nn l → q < w.heap.size → ¬ Wr [w.heap.size + 1] (some (w.heap.size + 1)) W1 q := by
    intro W1 v1 q nn l hb hr hq hw
    rcases hw with hm' | ⟨r, u, hr', hc, hu⟩
    · simp at hm'; omega
    · cases hr'
      rw [hb.cell] at hc
      cases hc
      have := (row_base hr q hu).1
      omega
  have hp2 : p < w2.heap.size := by omega
  have hv2 : ∀ r, v.ownBlock = some r → r < w2.heap.size := fun r e => by have := hvw r e; omega
  refine wp_of_in (wp_iterG (own := [p]) (gf := 45) (lb := #[.pointer (some ⟨b, 0, none⟩), .pointer (some ⟨b + 1, 0, none⟩)]) rfl (Go.Proofs.enters_of Try.func45 (by kernel_rfl) rfl)
    (encs := fun x : Int => #[.int .i64 x]) (fun _ => rfl) [w.heap.size + 1] (some (w.heap.size + 1)) hfoot (fun q hq => by simp at hq; subst hq; exact ⟨by simp; omega, hp2⟩)
    (fun W1 _ => picks1_ok p b (b + 1) v xs hu k n hn hn2 W1)
    (fun pre W1 => (∃ v1, Boxed W1 (w.heap.size + 1) 68 v1 ∧ W1.ownsRow w.heap.size 3 1 v1 pre.length (fi pre) ∧ pre.length < m) ∧ (Box [w.heap.size + 1] (some (w.heap.size + 1)) w2.heap.size w.heap.size (.int .i64 m) W1 ∧ Box [w.heap.size + 1] (some (w.heap.size + 1)) w2.heap.size b (.pointer (some ⟨p, 0, none⟩)) W1 ∧ Box [w.heap.size + 1] (some (w.heap.size + 1)) w2.heap.size (b + 1) (.int .i64 n) W1) ∧ FeedAt W1 p v xs (k + pre.length) ∧ w.grownBy W1 (some p) ∧ pre = pickL xs k n pre.length)
    (fun cc pre W1 => (∃ v1, Boxed W1 (w.heap.size + 1) 68 v1 ∧ W1.ownsRow w.heap.size 3 1 v1 pre.length (fi pre) ∧ (pre.length = m ∧ cc = .exit 0)) ∧ FeedAt W1 p v xs (k + pre.length) ∧ w.grownBy W1 (some p) ∧ pre = pickL xs k n pre.length)
    (OwnFrom.and (Own.from (holdsRow_own _ _ _ _ _ _ _ (fun (pre : List Int) _ => pre.length < m)) _) (OwnFrom.and (OwnFrom.and (Box.own hfoot) (OwnFrom.and (Box.own hfoot) (Box.own hfoot))) (OwnFrom.and (feed_own hp2 hv2 (fun (pre : List Int) => k + pre.length)) (OwnFrom.and (grown_ownP hgA.size) (fun _ _ _ _ h _ _ => h)))))
    (fun cc => OwnFrom.and (Own.from (holdsRow_own _ _ _ _ _ _ _ (fun (pre : List Int) _ => pre.length = m ∧ cc = .exit 0)) _) (OwnFrom.and (feed_own hp2 hv2 (fun (pre : List Int) => k + pre.length)) (OwnFrom.and (grown_ownP hgA.size) (fun _ _ _ _ h _ _ => h))))
    (fun pre W1 h => ⟨h.2.1.2.1.2.2, h.2.1.2.2.2.2, h.2.2.1⟩)
    ⟨⟨_, bL, World.ownsRow_nil _ _ _ _, hm0⟩, ⟨kM, kF, kN⟩, hF2, g_weak hgA, rfl⟩
    (fun pre x W1 W2 h => ⟨some p, h.1, fun r e => by cases e; exact hp2⟩)
    (fun ss W1 => (∃ v1, Boxed W1 (w.heap.size + 1) 68 v1 ∧ W1.ownsRow w.heap.size 3 1 v1 ss.1.length (fi ss.1) ∧ ss.1.length < m) ∧ (Box [w.heap.size + 1] (some (w.heap.size + 1)) w2.heap.size w.heap.size (.int .i64 m) W1 ∧ Box [w.heap.size + 1] (some (w.heap.size + 1)) w2.heap.size b (.pointer (some ⟨p, 0, none⟩)) W1 ∧ Box [w.heap.size + 1] (some (w.heap.size + 1)) w2.heap.size (b + 1) (.int .i64 n) W1) ∧ FeedAt W1 p v xs (k + ss.1.length + 1) ∧ w.grownBy W1 (some p) ∧ ss.1 = pickL xs k n ss.1.length)
    (OwnFrom.and (Own.from (holdsRow_own _ _ _ _ _ (fun (ss : List Int × Int) => ss.1.length) (fun ss => fi ss.1) (fun (ss : List Int × Int) _ => ss.1.length < m)) _) (OwnFrom.and (OwnFrom.and (Box.own hfoot) (OwnFrom.and (Box.own hfoot) (Box.own hfoot))) (OwnFrom.and (feed_own hp2 hv2 (fun (ss : List Int × Int) => k + ss.1.length + 1)) (OwnFrom.and (grown_ownP hgA.size) (fun _ _ _ _ h _ _ => h)))))
    (fun pre x W1 W2 ⟨⟨v1, hb1, hrow1, hlm⟩, ⟨q1, q2, q3⟩, _, hgw, hpe⟩ hst => ⟨⟨v1, hb1.kept hst.1 (fun e => by cases e; omega), hrow1.kept hst.1 (.inr (fun e => by have := (row_base hrow1 p e).1; omega)), hlm⟩, ⟨boxP q1 (by omega) hst.1, boxP q2 (by omega) hst.1, boxP q3 (by omega) hst.1⟩, hst.2, g_same hgw hst.1, hpe⟩)
    (fun x a' _ => a' = { tmps := #[.pointer (some ⟨p, 0, none⟩), .int .i64 n, .int .i64 m, undef, undef, .pointer (some ⟨w.heap.size, 0, none⟩), .slice none 0 0, .pointer (some ⟨w.heap.size + 1, 0, none⟩), .int .i64 x, .pointer (some ⟨p, 0, none⟩), .int .i64 n, .func (.func 45) #[] #[.pointer (some ⟨c, 0, none⟩), .pointer (some ⟨c + 1, 0, none⟩)], .bool false, .pointer (some ⟨p, 0, none⟩), .int .i64 n, .func (.func 45) #[] #[.pointer (some ⟨b, 0, none⟩), .pointer (some ⟨b + 1, 0, none⟩)], .int .i64 x, undef, undef, undef, undef, undef, undef, undef, undef, undef], defers := [] })
    (fun x a' s A B row h _ _ => h) ?assign ?body ?done ?stop)
  case assign =>
    intro l' pre x W1 K _ _ hK
    gi_wp2
    exact hK _ _ (KeepsFrom.refl _ _) (Keeps.refl _ _ _) (by assumption) rfl
  case body =>
    rintro l' pre x a' W1 hl' ⟨⟨v1, hb1, hrow1, hlm⟩, ⟨kM1, kR1⟩, hF1, hgW1, hpe⟩ rfl hnx
    simp only at hb1 hrow1 hlm hF1 hpe
    have hc1 := hb1.cell
    have hcm := kM1.2.2
    have hB1 : w2.heap.size ≤ W1.heap.size := kM1.1
    have hcc := cells_newI W1 [.int .i64 x] 3
    have hpx : pre ++ [x] = pickL xs k n (pre ++ [x]).length := by
      rw [List.length_append, List.length_singleton, pickL_succ, ← hpe, ← hnx.2]
    have HPX := hid hpx
    have hsw : w.heap.size ≤ W1.heap.size := hgW1.size
    clear hnx hpe hpx
    by_cases hlast : pre.length + 1 < m
    all_goals
      gi_wp2_with (gi_at_builtin; refine held_stop ?_)
      refine ⟨?_⟩
      refine wpListIn_append_own_at _ rfl _ _ 68 rfl w.heap.size 3 i0 (.int .i64 0) 1 8 Try.underlying68 hi hz0 hz1 hz2 rfl (by decide) _ _ _ rfl (hrow1.alloc _) ⟨W1.heap.size, 0, none⟩ 1 1 [.int .i64 x] rfl rfl hcc (by simp [Value.oneCell']) (by unfold maxLen; omega) (by omega) (by simp; omega) ?_
      intro v' w3 hown' hgrow hnn hob
      obtain ⟨g', cap', rfl⟩ := ownsRow_succ hown'; obtain ⟨hv1, hv2', hr2, hk2, hb2⟩ := hb1.appended (by decide) hrow1 hsw (by omega) hown' hgrow; have hc3 := hv1.cell; have hf3 := hv1.frozen; have hc4 := hv2'.cell; have hkp := keeps_append hb1 (fun r e => (row_base hrow1 r e).2) (fun e => hb1.not_row (by decide) hrow1 e.symm) hgrow hob (fun r e => (row_base hown' r e).2); have hcm4 := (kM1.keeps hkp).2.2
      gi_wp2
      have hgF : w.grownBy (w3.setCell ⟨w.heap.size + 1, 0, none⟩ (.slice (some ⟨g', 0, none⟩) (pre.length + 1) cap')) (some p) := g_set (g_trans (g_alloc hgW1 _) hgrow (fun r e => .inr (row_base hrow1 r e).1)) _ (.inr (by simp))
      have hF3 := hF1.same (hkp.same p hF1.facts.2.2.2 (nwr hb1 hrow1 hpw)) (fun r e => hkp.same r (hF1.vlt r e) (nwr hb1 hrow1 (hvw r e)))
    · exact ⟨hk2.from _, hkp, ⟨_, hv2', by rw [List.length_append, fi_append]; exact hr2, by simp; omega⟩, ⟨kM1.keeps hkp, kR1.1.keeps hkp, kR1.2.keeps hkp⟩, by simpa [Nat.add_assoc] using hF3, hgF, HPX.out⟩
    · exact ⟨hk2.from _, hkp, ⟨_, hv2', by rw [List.length_append, fi_append]; exact hr2, by simp; omega, rfl⟩, by simpa [Nat.add_assoc] using hF3, hgF, HPX.out⟩
  case done =>
    rintro D ys W1 hD hS ⟨⟨v1, hb1, hrow1, hlm⟩, kM1, hF1, hgW1, hpe⟩ hK
    have hc1 := hb1.cell
    go_wp2
    refine ⟨by simp, .inl ⟨_, _, rfl, run_takeDeferred hK, ?_⟩⟩
    have hlu := LI.own (by omega) (ownsRow_putObj hrow1 (.deferred none) hK rfl)
    rw [hpe] at hlu
    have hle := hF1.2.2.2.1
    exact ⟨_, results_tmp rfl _ _ _, v1, ys.length, rfl, by omega, hlu, hF1.kept (grownBy_putObj' W1 D _) (by simp; omega) (.inl (fun e => by have := hv2 D e; omega)), g_put hgW1 D _ (by omega)⟩
  case stop =>
    rintro D cc pre W1 hD _ ⟨⟨v1, hb1, hrow1, hlm, rfl⟩, hF1, hgW1, hpe⟩ hK
    have hc1 := hb1.cell
    refine wpIn_exit ?_
    go_wp2
    refine ⟨by simp, .inl ⟨_, _, rfl, run_takeDeferred hK, ?_⟩⟩
    have hlu := LI.own (by omega) (ownsRow_putObj hrow1 (.deferred none) hK rfl)
    rw [hpe] at hlu
    have hle := hF1.2.2.2.1
    exact ⟨_, results_tmp rfl _ _ _, v1, pre.length, rfl, by omega, hlu, hF1.kept (grownBy_putObj' W1 D _) (by simp; omega) (.inl (fun e => by have := hv2 D e; omega)), g_put hgW1 D _ (by omega)⟩
end Go.Proofs.Ytkeicoadpdfkkaa
