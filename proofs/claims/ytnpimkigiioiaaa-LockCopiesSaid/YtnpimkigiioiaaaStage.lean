/-
  A region that draws its order, by stages: a stage is some operations that leave the world alone, and behind them some that come in one order, of which the first waits for all before it. One walk in the text's order serves every order. For whatever program; in a round of a range over a function or in none.
-/
import Derived.Test.YtnpimkigiioiaaaStill
namespace Go.Proofs.Ytnpimkigiioiaaa

section
variable {P : Program} {ops : Array Oper} {md : Region.Mode} {w : World} {r : Option Nat} {m : Nat}

/-- What waits behind n waits for n, or for one between. -/
def laterB (md : Region.Mode) (ops : Array Oper) (n : Nat) : Bool :=
  (List.range ops.size).all fun t => decide (t ≤ n) || (List.range t).any fun s => decide (n ≤ s) && Region.waitsFor md ops t s
def closedB (md : Region.Mode) (ops : Array Oper) (n : Nat) (listed : Array Bool) : Bool :=
  decide (listed.size = ops.size) && ((List.range ops.size).all fun j => (match ops[j]? with
    | some oj => !(listed.getD j false) || oj.after.all fun e => !(Region.binds md e) || listed.getD e.on false
    | none => true) && (decide (j < n) || !(listed.getD j true)))
theorem closedB_inv {n : Nat} {listed : Array Bool} (h : closedB md ops n listed = true) : HeadInv md ops n listed := by
  simp only [closedB, Bool.and_eq_true, decide_eq_true_eq] at h
  obtain ⟨hs, h⟩ := h
  have h' := fun j hj => by have := List.all_eq_true.1 h j (List.mem_range.2 hj); simpa only [Bool.and_eq_true] using this
  refine ⟨hs, fun j oj hj hl e he hb => ?_, fun t ht ht' => ?_⟩
  · have h1 := (h' j (Array.getElem?_eq_some_iff.1 hj).1).1
    simp only [hj, hl, Bool.not_true, Bool.false_or] at h1
    have h2 := Array.all_eq_true'.1 h1 e he
    simpa [hb] using h2
  · have h1 := (h' t ht').2
    simp only [Bool.or_eq_true, decide_eq_true_eq] at h1
    rcases h1 with h1 | h1
    · omega
    · simpa using h1

theorem waits_later {n : Nat} {listed : Array Bool} (hs : Region.sinkB md ops n = true) (hc : laterB md ops n = true) (hn : n < ops.size) (inv : HeadInv md ops n listed) :
    ∀ (d i : Nat), n - i = d → i < n → listed.getD i true = false → ∀ t, n ≤ t → t ∉ Region.ready md ops listed := by
  intro d
  induction d using Nat.strongRecOn with
  | _ d ih =>
    intro i hd hi hun t ht hr
    obtain ⟨_, ot, hot, hall⟩ := mem_ready.1 hr
    have htlt : t < ops.size := (Array.getElem?_eq_some_iff.1 hot).1
    by_cases htn : t = n
    · subst htn
      have h1 := List.all_eq_true.1 hs i (List.mem_range.2 hi)
      obtain ⟨j, hj, hj2⟩ := List.any_eq_true.1 h1
      simp only [Bool.and_eq_true, decide_eq_true_eq] at hj2
      obtain ⟨oj, hoj, e, he, hb, hon⟩ := Region.waitsFor_spec hj2.2
      have hjle : j ≤ t := by have := List.mem_range.1 hj; omega
      by_cases hjt : j = t
      · subst hjt
        have : oj = ot := Option.some.inj (hoj.symm.trans hot)
        subst this
        have h2 := hall e he hb
        rw [hon, getD_both hun] at h2
        cases h2
      · cases hl : listed.getD j false with
        | true =>
          have h2 := inv.closed j oj hoj hl e he hb
          rw [hon, getD_both hun] at h2
          cases h2
        | false =>
          have hjs : j < listed.size := by rw [inv.size]; omega
          exact ih (t - j) (by omega) j rfl (by omega) (getD_in hjs hl) t (Nat.le_refl _) hr
    · have h1 := List.all_eq_true.1 hc t (List.mem_range.2 htlt)
      simp only [Bool.or_eq_true, decide_eq_true_eq] at h1
      rcases h1 with h1 | h1
      · omega
      · obtain ⟨s, hs1, hs2⟩ := List.any_eq_true.1 h1
        simp only [Bool.and_eq_true, decide_eq_true_eq] at hs2
        have hst := List.mem_range.1 hs1
        obtain ⟨o', ho', e, he, hb, hon⟩ := Region.waitsFor_spec hs2.2
        have : o' = ot := Option.some.inj (ho'.symm.trans hot)
        subst this
        have h2 := hall e he hb
        rw [hon, getD_both (inv.tail s hs2.1 (by omega))] at h2
        cases h2

theorem anyL_first {n i : Nat} {oi : Oper} {v : Value} {L : Array Bool → Act → Prop} (hi : ops[i]? = some oi) (hsel : ∀ (j : Nat) (o : Oper) cs b, ops[j]? = some o → o.op ≠ .select cs b)
    (hs : Region.sinkB md ops n = true) (hc : laterB md ops n = true) (hn : n < ops.size) (hin : i < n)
    (hdone : ∀ listed a, L listed a → ∀ j ∈ Region.ready md ops listed, n ≤ j) :
    ∀ (f : Nat) (listed : Array Bool) (a : Act), HeadInv md ops n listed →
      (∀ j oj, ops[j]? = some oj → j ≠ i → listed.getD j true = false → (∀ e ∈ oj.after, Region.binds md e = true → e.on ≠ i) → oi.apart ops oj = true) →
      i ∈ Region.ready md ops listed → YieldsAt P ops w oi v a →
      wpAnyL P md ops w n L f (listed.setIfInBounds i true) (a.put oi.dst v) → wpAnyL P md ops w n L (f + 1) listed a := by
  intro f
  induction f with
  | zero =>
    intro listed a inv _ hr hy H
    have hun := (mem_ready.1 hr).1
    refine ⟨fun h => (by rw [h] at hr; cases hr), fun j hj => ?_⟩
    have hjn : j < n := by
      rcases Nat.lt_or_ge j n with h | h
      · exact h
      · exact absurd hj (waits_later hs hc hn inv _ i rfl hin hun j h)
    refine ⟨hjn, ?_⟩
    by_cases hji : j = i
    · subst hji; exact hy.stOp hi H
    · have := hdone _ _ H j (ready_mono hj hji)
      omega
  | succ f ih =>
    intro listed a inv hfree hr hy H
    have hun := (mem_ready.1 hr).1
    refine ⟨fun h => (by rw [h] at hr; cases hr), fun j hj => ?_⟩
    have hjn : j < n := by
      rcases Nat.lt_or_ge j n with h | h
      · exact h
      · exact absurd hj (waits_later hs hc hn inv _ i rfl hin hun j h)
    refine ⟨hjn, ?_⟩
    by_cases hji : j = i
    · subst hji; exact hy.stOp hi H
    · have h1 := (H.2 j (ready_mono hj hji)).2
      obtain ⟨hjun, oj, hoj, hall⟩ := mem_ready.1 hj
      have hnot : ∀ e ∈ oj.after, Region.binds md e = true → e.on ≠ i := fun e he hb heq => by
        have h1 := hall e he hb
        rw [heq, getD_both hun] at h1
        cases h1
      have h2 := stOp_put hoj (hfree j oj hoj hji hjun hnot) (fun cs b => hsel i oi cs b hi) (fun cs b => hsel j oj cs b hoj) hy h1
      have hfree' : ∀ k ok, ops[k]? = some ok → k ≠ i → (listed.setIfInBounds j true).getD k true = false →
          (∀ e ∈ ok.after, Region.binds md e = true → e.on ≠ i) → oi.apart ops ok = true := fun k ok hk hki hun hno => by
        refine hfree k ok hk hki ?_ hno
        by_cases hjk : j = k
        · subst hjk; exact hjun
        · rw [getD_set_ne true hjk] at hun; exact hun
      refine stOp_mono (fun a' h3 => ih (listed.setIfInBounds j true) a' (inv.set hj hjn) hfree' (ready_mono hr (Ne.symm hji)) h3.1 ?_) h2
      rw [Array.setIfInBounds_comm _ _ hji]
      exact h3.2

def setFrom (listed : Array Bool) (k : Nat) : Nat → Array Bool
  | 0 => listed
  | f + 1 => setFrom (listed.setIfInBounds k true) (k + 1) f

/-- The still operations of a stage may come in the text's order. -/
def headB (md : Region.Mode) (ops : Array Oper) : Nat → Nat → Array Bool → Bool
  | 0, _, _ => true
  | f + 1, k, listed => (Region.ready md ops listed).contains k && Region.free md ops listed k && headB md ops f (k + 1) (listed.setIfInBounds k true)

theorem anyL_lex {n : Nat} {Lq : Act → Prop} {fin : Array Bool} (hsel : Region.noSelect ops = true) (hs : Region.sinkB md ops n = true) (hc : laterB md ops n = true) (hn : n < ops.size) (hfin : Region.ready md ops fin = [n]) :
    ∀ (l : List Oper) (k : Nat) (listed : Array Bool) (a : Act), (∀ j, j < l.length → l[j]? = ops[k + j]?) → k + l.length = n → HeadInv md ops n listed → setFrom listed k l.length = fin →
    headB md ops l.length k listed = true → wpStill P ops w Lq l a →
    wpAnyL P md ops w n (fun listed' a' => listed' = fin ∧ Lq a') l.length listed a
  | [], k, listed, a, _, hk, _, hf, hB, h => ⟨hf, h⟩
  | o :: l, k, listed, a, hl, hk, inv, hf0, hB, h => by
    have h0 : ops[k]? = some o := by simpa using (hl 0 (by simp)).symm
    simp only [List.length_cons, headB, Bool.and_eq_true] at hB
    obtain ⟨⟨hr, hf⟩, hB'⟩ := hB
    have hkn : k < n := by simp only [List.length_cons] at hk; omega
    have hr' : k ∈ Region.ready md ops listed := by simpa using hr
    have hst : stOp P ops w k (wpStill P ops w Lq l) a := by unfold stOp; simp only [h0]; exact h
    obtain ⟨v, hy, hK⟩ := yieldsAt_of_stOp h0 hst
    exact anyL_first h0 (Region.noSelect_spec hsel) hs hc hn hkn (fun listed' a' hL j hj => by
        have h2 := hL.1 ▸ hj
        rw [hfin] at h2
        have h3 : j = n := by simpa using h2
        omega) l.length listed a inv (Region.free_spec h0 hf) hr' hy
      (anyL_lex hsel hs hc hn hfin l (k + 1) _ _ (fun j hj => by have := hl (j + 1) (by simp; omega); simpa [Nat.add_assoc, Nat.add_comm 1 j] using this) (by simp only [List.length_cons] at hk; omega) (inv.set hr' hkn) (by simpa [setFrom] using hf0) hB' hK)

theorem wpIn_then {o : Oper} {F : Fence} {a : Act} {w : World} {K K2 : Act → World → Prop} {Q : Exit → Act → World → Prop}
    (hh : o.wpIn F m P a w K (Exit.then K2 Q)) : o.wpIn F m P a w K Q := by
  unfold Oper.wpIn at *
  refine ⟨hh.1, ?_⟩
  have hh := hh.2
  generalize (o.semAt F.round a.eval).run P w = r at *
  cases r with
  | ok x w' =>
    cases x <;> simp only [Oper.uponIn] at hh ⊢ <;>
      first
        | exact hh
        | exact ⟨hh.1, CallsIn.mono hh.2 (fun e w'' he => by cases e <;> first | exact he | (obtain ⟨a, w, he⟩ := he; exact ⟨a, w, he⟩))⟩
        | exact ⟨hh.1, RowsIn.mono hh.2 (fun _ _ he => he)⟩
        | exact ⟨hh.1, RoundIn.mono hh.2 (fun e w'' he => by cases e <;> first | exact he | (obtain ⟨a, w, he⟩ := he; exact ⟨a, w, he⟩))⟩
  | halt x w' => cases x <;> simp only [Oper.uponIn] at hh ⊢ <;> exact hh

/-- The operations of a stage that come in one order. -/
def runB (md : Region.Mode) (ops : Array Oper) : Nat → Nat → Array Bool → Bool
  | 0, _, _ => true
  | g + 1, k, listed => decide (Region.ready md ops listed = [k]) && runB md ops g (k + 1) (listed.setIfInBounds k true)

theorem anyIn_run {K : Act → World → Prop} {Q : Exit → Act → World → Prop} {F : Fence} {f : Nat} : ∀ (l : List Oper) (k : Nat) (listed : Array Bool) (a : Act) (w : World), (∀ j, j < l.length → l[j]? = ops[k + j]?) →
    runB md ops l.length k listed = true → (∀ a w, K a w → wpAnyIn F m P md ops Q f (setFrom listed k l.length) a w) → wpListIn F m P ops (Exit.then K Q) l a w → wpAnyIn F m P md ops Q (f + l.length) listed a w
  | [], _, listed, a, w, _, hB, hK, h => hK _ _ h
  | o :: l, k, listed, a, w, hl, hB, hK, h => by
    have h0 : ops[k]? = some o := by simpa using (hl 0 (by simp)).symm
    simp only [List.length_cons, runB, Bool.and_eq_true, decide_eq_true_eq] at hB
    refine ⟨fun h1 => (by rw [hB.1] at h1; cases h1), fun i hi => ?_⟩
    rw [hB.1] at hi
    have hik : i = k := by simpa using hi
    subst hik
    have hw : wpOpIn F m P ops Q i (wpListIn F m P ops (Exit.then K Q) l) a w := by
      unfold wpOpIn
      simp only [h0]
      unfold wpListIn at h
      split
      · rename_i hq; simp only [hq, if_true] at h; exact wpIn_then h
      · rename_i hq; simp only [hq] at h; exact h
    exact wpOpIn_mono (fun a' w' h' => anyIn_run l (i + 1) _ a' w' (fun j hj => by have := hl (j + 1) (by simp; omega); simpa [Nat.add_assoc, Nat.add_comm 1 j] using this) hB.2 (fun a w hk => by have := hK a w hk; simpa [setFrom] using this) h') hw

def stagesB (md : Region.Mode) (ops : Array Oper) : List (Nat × Nat) → Nat → Array Bool → Bool
  | [], k, listed => (Region.ready md ops listed).isEmpty && decide (k = ops.size)
  | (h, g) :: rest, k, listed =>
    (decide (h = 0) || (decide (k + h < ops.size) && Region.sinkB md ops (k + h) && laterB md ops (k + h) && closedB md ops (k + h) listed && headB md ops h k listed && decide (Region.ready md ops (setFrom listed k h) = [k + h]))) &&
      decide (k + h + g ≤ ops.size) && runB md ops g (k + h) (setFrom listed k h) && stagesB md ops rest (k + h + g) (setFrom (setFrom listed k h) (k + h) g)

def stagesP (F : Fence) (m : Nat) (P : Program) (ops : Array Oper) (Q : Exit → Act → World → Prop) : List (Nat × Nat) → List Oper → Act → World → Prop
  | [], _, a, w => Q .normal a w
  | (h, g) :: rest, l, a, w => wpStill P ops w (fun a' => wpListIn F m P ops (Exit.then (stagesP F m P ops Q rest (l.drop (h + g))) Q) ((l.drop h).take g) a' w) (l.take h) a

theorem anyIn_stages {Q : Exit → Act → World → Prop} (hsel : Region.noSelect ops = true) (hd : noDefer ops = true) : ∀ (st : List (Nat × Nat)) (k : Nat) (listed : Array Bool) (a : Act) (w : World),
    stagesB md ops st k listed = true → stagesP (wideAt r) m P ops Q st (ops.toList.drop k) a w → wpAnyIn (wideAt r) m P md ops Q (ops.size - k) listed a w
  | [], k, listed, a, w, hB, h => by
    simp only [stagesB, Bool.and_eq_true, decide_eq_true_eq, List.isEmpty_iff] at hB
    rw [hB.2, Nat.sub_self]
    exact ⟨hB.1, h⟩
  | (h, g) :: rest, k, listed, a, w, hB, hP => by
    simp only [stagesB, Bool.and_eq_true, decide_eq_true_eq, Bool.or_eq_true] at hB
    obtain ⟨⟨⟨hH, hsz⟩, hR⟩, hS⟩ := hB
    simp only [stagesP] at hP
    have hlen : ∀ j x : Nat, j + x ≤ ops.size → ((ops.toList.drop j).take x).length = x := fun j x hx => by simp; omega
    have hget : ∀ j x i : Nat, i < ((ops.toList.drop j).take x).length → ((ops.toList.drop j).take x)[i]? = ops[j + i]? := fun j x i hi => by
      have hi' : i < x := by simp at hi; omega
      rw [List.getElem?_take_of_lt hi', List.getElem?_drop]; simp
    have hdd : (ops.toList.drop k).drop h = ops.toList.drop (k + h) := by rw [List.drop_drop]
    have hdd2 : (ops.toList.drop k).drop (h + g) = ops.toList.drop (k + h + g) := by rw [List.drop_drop, Nat.add_assoc]
    rw [hdd, hdd2] at hP
    have hrun : ∀ a' : Act, wpListIn (wideAt r) m P ops (Exit.then (stagesP (wideAt r) m P ops Q rest (ops.toList.drop (k + h + g))) Q) ((ops.toList.drop (k + h)).take g) a' w → wpAnyIn (wideAt r) m P md ops Q (ops.size - (k + h)) (setFrom listed k h) a' w := fun a' ha => by
      have h1 := anyIn_run (md := md) (f := ops.size - (k + h + g)) ((ops.toList.drop (k + h)).take g) (k + h) (setFrom listed k h) a' w (hget _ _) (by rw [hlen _ _ (by omega)]; exact hR) (fun a2 w2 h2 => by
        rw [hlen _ _ (by omega)]; exact anyIn_stages hsel hd rest _ _ _ _ hS h2) ha
      rw [hlen _ _ (by omega), show ops.size - (k + h + g) + g = ops.size - (k + h) by omega] at h1
      exact h1
    rcases hH with rfl | ⟨⟨⟨⟨⟨hn, hs⟩, hc⟩, hcl⟩, hh⟩, hfin⟩
    · exact hrun a hP
    · have H := anyL_lex (w := w) hsel hs hc hn hfin ((ops.toList.drop k).take h) k listed a (hget _ _) (by rw [hlen _ _ (by omega)]) (closedB_inv hcl) (by rw [hlen _ _ (by omega)]) (by rw [hlen _ _ (by omega)]; exact hh) hP
      have := wpAnyIn_of_head (r := r) (m := m) (Q' := Q) hd (g := ops.size - (k + h)) (fun listed' a' hL => by rw [hL.1]; exact hrun a' hL.2) _ _ _ H
      rw [hlen _ _ (by omega), show h + (ops.size - (k + h)) = ops.size - k by omega] at this
      exact this

/-- The law. -/
theorem wpIn_region_stages {id : Nat} {Q : Exit → Act → World → Prop} {a : Act} {w : World} {l : List Oper} (st : List (Nat × Nat)) (hm : P.follows .mixedOrders = true) (hsel : Region.noSelect l.toArray = true) (hd : noDefer l.toArray = true)
    (hB : stagesB .any l.toArray st 0 (Array.replicate l.toArray.size false) = true)
    (h : stagesP (wideAt r) m P l.toArray Q st l a w.drew) : (Code.region id l.toArray true).wpIn (wideAt r) m P Q a w := by
  refine wpIn_region_any hm ?_
  have := anyIn_stages (r := r) (m := m) (P := P) (Q := Q) hsel hd st 0 _ a w.drew hB (by simpa using h)
  simpa using this
end
end Go.Proofs.Ytnpimkigiioiaaa
