/-
  A region that draws its order, within a round (or in none): its operations but the last ones are still or are calls that keep a condition S on the world; the last ones come in one order. For whatever program.
-/
import Derived.Test.YtjjkhbipeehljaaStill
import Derived.Test.YtjjkhbipeehljaaStage
import Derived.OrdersHeld
namespace Go.Proofs.Ytjjkhbipeehljaa

section
variable {P : Program} {ops : Array Oper} {md : Region.Mode} {S : World → Prop} {r : Option Nat} {m : Nat}

def heldUpon (P : Program) (o : Oper) (a : Act) (K : Act → World → Prop) : Result Next → Prop
  | .ok (.value v) w' => K (a.put o.dst v) w'
  | .ok .skip w' => K (a.put o.dst undef) w'
  | .ok (.enter f args) w' => Calls P f args w' fun e w'' => ∃ v, e = .returned v ∧ K (a.put o.dst v) w''
  | _ => False

def hOp (P : Program) (ops : Array Oper) (i : Nat) (K : Act → World → Prop) (a : Act) (w : World) : Prop :=
  match ops[i]? with
  | none => K a w
  | some o => if Region.wanted o (yielded ops a.tmps) then heldUpon P o a K ((execOp a.eval o).run P w) else K (a.put o.dst undef) w

theorem heldUpon_mono {o : Oper} {a : Act} {K K' : Act → World → Prop} (h : ∀ a w, K a w → K' a w) {x : Result Next} (hh : heldUpon P o a K x) : heldUpon P o a K' x := by
  cases x with
  | ok n w' =>
    cases n <;> simp only [heldUpon] at hh ⊢ <;> first | exact h _ _ hh | exact Calls.mono hh (fun e w'' ⟨v, he, hk⟩ => ⟨v, he, h _ _ hk⟩)
  | halt x w' => simp only [heldUpon] at hh

theorem hOp_mono {i : Nat} {K K' : Act → World → Prop} {a : Act} {w : World} (h : ∀ a w, K a w → K' a w) (hh : hOp P ops i K a w) : hOp P ops i K' a w := by
  unfold hOp at *
  split
  · rename_i ho; simp only [ho] at hh; exact h _ _ hh
  · rename_i o ho
    simp only [ho] at hh
    split
    · rename_i hw; simp only [hw, if_true] at hh; exact heldUpon_mono h hh
    · rename_i hw; simp only [hw] at hh; exact h _ _ hh

theorem hOp_of_if {i : Nat} {o : Oper} {v : Value} {a : Act} (hi : ops[i]? = some o) (hy : YieldsIf P ops S o v a) {K : Act → World → Prop} {w : World} (hS : S w) (h : K (a.put o.dst v) w) : hOp P ops i K a w := by
  unfold hOp
  simp only [hi]
  rcases hy with ⟨hw, hv⟩ | ⟨hw, rfl⟩
  · simp only [hw, if_true, hv w hS, heldUpon]; exact h
  · simp only [hw, Bool.false_eq_true, if_false]; exact h

theorem hOp_put {j : Nat} {oi oj : Oper} {v : Value} (hj : ops[j]? = some oj) (hap : oi.apart ops oj = true)
    (hsi : ∀ cs b, oi.op ≠ .select cs b) (hsj : ∀ cs b, oj.op ≠ .select cs b) {K : Act → World → Prop} {a : Act} {w : World}
    (hy : YieldsIf P ops S oi v a) (h : hOp P ops j K (a.put oi.dst v) w) :
    hOp P ops j (fun a' w' => YieldsIf P ops S oi v a' ∧ K (a'.put oi.dst v) w') a w := by
  obtain ⟨h1, h2, h3⟩ := Oper.apart_spec hap
  have keep : ∀ (a : Act), YieldsIf P ops S oi v a → ∀ u, YieldsIf P ops S oi v (a.put oj.dst u) := fun a hy u =>
    hy.of_same (execOp_put oi hsi a oj.dst u h3) (wanted_put oi a oj.dst u h3)
  unfold hOp at *
  simp only [hj] at *
  rw [wanted_put oj a oi.dst v h1] at h
  split
  · rename_i hw
    simp only [hw, if_true] at h
    rw [execOp_put oj hsj a oi.dst v h1] at h
    generalize (execOp a.eval oj).run P w = x at *
    cases x with
    | ok n w' =>
      cases n <;> simp only [heldUpon] at h ⊢
      case value u => exact ⟨keep a hy u, by rw [← Act.put_comm a v u h2]; exact h⟩
      case skip => exact ⟨keep a hy _, by rw [← Act.put_comm a v undef h2]; exact h⟩
      case enter f args => exact Calls.mono h fun e w'' ⟨u, he, hk⟩ => ⟨u, he, keep a hy u, by rw [← Act.put_comm a v u h2]; exact hk⟩
    | halt x w' => simp only [heldUpon] at h
  · rename_i hw
    simp only [hw] at h
    exact ⟨keep a hy _, by rw [← Act.put_comm a v undef h2]; exact h⟩

/-- The head: whichever order, S holds behind every operation. -/
def anyH (P : Program) (md : Region.Mode) (ops : Array Oper) (S : World → Prop) (L : Array Bool → Act → World → Prop) : Nat → Array Bool → Act → World → Prop
  | 0, listed, a, w => L listed a w
  | f + 1, listed, a, w => Region.ready md ops listed ≠ [] ∧ ∀ i ∈ Region.ready md ops listed, hOp P ops i (fun a' w' => S w' ∧ anyH P md ops S L f (listed.setIfInBounds i true) a' w') a w

theorem anyH_first {n i : Nat} {oi : Oper} {v : Value} {L : Array Bool → Act → World → Prop} (hi : ops[i]? = some oi) (hsel : ∀ (j : Nat) (o : Oper) cs b, ops[j]? = some o → o.op ≠ .select cs b)
    (hs : Region.sinkB md ops n = true) (hc : laterB md ops n = true) (hn : n < ops.size) (hin : i < n)
    (hdone : ∀ listed a w, L listed a w → ∀ j ∈ Region.ready md ops listed, n ≤ j) :
    ∀ (f : Nat) (listed : Array Bool) (a : Act) (w : World), HeadInv md ops n listed →
      (∀ j oj, ops[j]? = some oj → j ≠ i → listed.getD j true = false → (∀ e ∈ oj.after, Region.binds md e = true → e.on ≠ i) → oi.apart ops oj = true) →
      i ∈ Region.ready md ops listed → YieldsIf P ops S oi v a → S w →
      anyH P md ops S L f (listed.setIfInBounds i true) (a.put oi.dst v) w → anyH P md ops S L (f + 1) listed a w := by
  intro f
  induction f with
  | zero =>
    intro listed a w inv _ hr hy hS H
    have hun := (mem_ready.1 hr).1
    refine ⟨fun h => (by rw [h] at hr; cases hr), fun j hj => ?_⟩
    by_cases hji : j = i
    · subst hji; exact hOp_of_if hi hy hS ⟨hS, H⟩
    · have hjn : j < n := by
        rcases Nat.lt_or_ge j n with h | h
        · exact h
        · exact absurd hj (waits_later hs hc hn inv _ i rfl hin hun j h)
      have := hdone _ _ _ H j (ready_mono hj hji)
      omega
  | succ f ih =>
    intro listed a w inv hfree hr hy hS H
    have hun := (mem_ready.1 hr).1
    refine ⟨fun h => (by rw [h] at hr; cases hr), fun j hj => ?_⟩
    have hjn : j < n := by
      rcases Nat.lt_or_ge j n with h | h
      · exact h
      · exact absurd hj (waits_later hs hc hn inv _ i rfl hin hun j h)
    by_cases hji : j = i
    · subst hji; exact hOp_of_if hi hy hS ⟨hS, H⟩
    · have h1 := H.2 j (ready_mono hj hji)
      obtain ⟨hjun, oj, hoj, hall⟩ := mem_ready.1 hj
      have hnot : ∀ e ∈ oj.after, Region.binds md e = true → e.on ≠ i := fun e he hb heq => by
        have h1 := hall e he hb
        rw [heq, getD_both hun] at h1
        cases h1
      have h2 := hOp_put hoj (hfree j oj hoj hji hjun hnot) (fun cs b => hsel i oi cs b hi) (fun cs b => hsel j oj cs b hoj) hy h1
      have hfree' : ∀ k ok, ops[k]? = some ok → k ≠ i → (listed.setIfInBounds j true).getD k true = false →
          (∀ e ∈ ok.after, Region.binds md e = true → e.on ≠ i) → oi.apart ops ok = true := fun k ok hk hki hun hno => by
        refine hfree k ok hk hki ?_ hno
        by_cases hjk : j = k
        · subst hjk; exact hjun
        · rw [getD_set_ne true hjk] at hun; exact hun
      refine hOp_mono (fun a' w' h3 => ⟨h3.2.1, ih (listed.setIfInBounds j true) a' w' (inv.set hj hjn) hfree' (ready_mono hr (Ne.symm hji)) h3.1 h3.2.1 ?_⟩) h2
      rw [Array.setIfInBounds_comm _ _ hji]
      exact h3.2.2

def takeB (md : Region.Mode) (ops : Array Oper) (n i : Nat) (listed : Array Bool) : Bool :=
  Region.noSelect ops && Region.sinkB md ops n && laterB md ops n && decide (n < ops.size) && decide (i < n) && closedB md ops n listed && Region.free md ops listed i && (Region.ready md ops listed).contains i

/-- One that yields its value in every world that meets S comes first. -/
theorem anyH_take {n : Nat} {fin : Array Bool} (i : Nat) {oi : Oper} {v : Value} {Lq : Act → World → Prop} {f : Nat} {listed : Array Bool} {a : Act} {w : World} (hi : ops[i]? = some oi)
    (hB : takeB md ops n i listed = true) (hfin : Region.ready md ops fin = [n]) (hy : YieldsIf P ops S oi v a) (hS : S w)
    (h : anyH P md ops S (fun l a w => l = fin ∧ Lq a w) f (listed.setIfInBounds i true) (a.put oi.dst v) w) : anyH P md ops S (fun l a w => l = fin ∧ Lq a w) (f + 1) listed a w := by
  simp only [takeB, Bool.and_eq_true, decide_eq_true_eq] at hB
  obtain ⟨⟨⟨⟨⟨⟨⟨hsel, hs⟩, hc⟩, hn⟩, hin⟩, hcl⟩, hf⟩, hr⟩ := hB
  exact anyH_first hi (Region.noSelect_spec hsel) hs hc hn hin (fun listed' a' w' hL j hj => by
    rw [hL.1, hfin] at hj
    have : j = n := by simpa using hj
    omega) f listed a w (closedB_inv hcl) (Region.free_spec hi hf) (by simpa using hr) hy hS h

/-- The only one that may come. -/
theorem anyH_only {L : Array Bool → Act → World → Prop} (i : Nat) {f : Nat} {listed : Array Bool} {a : Act} {w : World} (hr : Region.ready md ops listed = [i])
    (h : hOp P ops i (fun a' w' => S w' ∧ anyH P md ops S L f (listed.setIfInBounds i true) a' w') a w) : anyH P md ops S L (f + 1) listed a w :=
  ⟨(by rw [hr]; simp), (by
    intro j hj
    rw [hr] at hj
    have : j = i := by simpa using hj
    subst this
    exact h)⟩

theorem hOp_call {i : Nat} {o : Oper} {K : Act → World → Prop} {a : Act} {w : World} (ho : ops[i]? = some o) (hg : o.guard = none) {f : FuncId} {args : Array Value} (he : (execOp a.eval o).run P w = .ok (.enter f args) w)
    (h : Calls P f args w fun e w' => ∃ v, e = .returned v ∧ K (a.put o.dst v) w') : hOp P ops i K a w := by
  unfold hOp
  simp only [ho, Region.wanted, hg, he]
  simp
  exact h

theorem wpIn_of_held {o : Oper} (hd : ∀ c, o.op ≠ .defer c) {a : Act} {w : World} {K K' : Act → World → Prop} {Q' : Exit → Act → World → Prop} (h : ∀ a w, K a w → K' a w) (hh : heldUpon P o a K ((execOp a.eval o).run P w)) : o.wpIn (wideAt r) m P a w K' Q' := by
  refine ⟨fun _ _ => trivial, ?_⟩
  rw [Oper.semAt_eq (wideAt r).round a.eval o hd]
  generalize (execOp a.eval o).run P w = x at *
  cases x with
  | ok n w' =>
    cases n <;> simp only [heldUpon] at hh <;> simp only [Oper.uponIn]
    case value v => exact h _ _ hh
    case skip => exact h _ _ hh
    case enter f args =>
      refine ⟨fun h => by simp [wideAt, Fence.wide] at h, ?_⟩
      have hc' : CallsIn Fence.wide (m - 1) P f args w' (fun e w'' => ∃ v, e = .returned v ∧ K (a.put o.dst v) w'') := callsIn_wide.2 hh
      exact CallsIn.mono (F := Fence.wide) hc' fun e w'' ⟨v, he, hk⟩ => by subst he; exact h _ _ hk
  | halt x w' => simp only [heldUpon] at hh

theorem wpOpIn_of_held (hd : noDefer ops = true) {i : Nat} {a : Act} {w : World} {K K' : Act → World → Prop} {Q' : Exit → Act → World → Prop} (h : ∀ a w, K a w → K' a w) (hh : hOp P ops i K a w) : wpOpIn (wideAt r) m P ops Q' i K' a w := by
  unfold hOp at hh
  unfold wpOpIn
  split
  · rename_i ho; simp only [ho] at hh; exact h _ _ hh
  · rename_i o ho
    simp only [ho] at hh
    split
    · rename_i hw; simp only [hw, if_true] at hh; exact wpIn_of_held (noDefer_spec hd ho) h hh
    · rename_i hw; simp only [hw] at hh; exact ⟨fun _ _ => trivial, h _ _ hh⟩

theorem wpAnyIn_of_anyH (hd : noDefer ops = true) {g : Nat} {L : Array Bool → Act → World → Prop} {Q' : Exit → Act → World → Prop} (hL : ∀ listed a w, L listed a w → wpAnyIn (wideAt r) m P md ops Q' g listed a w) :
    ∀ (f : Nat) (listed : Array Bool) (a : Act) (w : World), anyH P md ops S L f listed a w → wpAnyIn (wideAt r) m P md ops Q' (f + g) listed a w
  | 0, listed, a, w, h => by rw [Nat.zero_add]; exact hL _ _ _ h
  | f + 1, listed, a, w, h => by
    rw [show f + 1 + g = (f + g) + 1 by omega]
    exact ⟨fun h0 => absurd h0 h.1, fun i hi => wpOpIn_of_held hd (fun a' w' h' => wpAnyIn_of_anyH hd hL f _ a' w' h'.2) (h.2 i hi)⟩

/-- The law. -/
theorem wpIn_region_head {id : Nat} {Q : Exit → Act → World → Prop} {a : Act} {w : World} {l : List Oper} (S : World → Prop) (n : Nat) (fin : Array Bool) (hm : P.follows .mixedOrders = true) (hd : noDefer l.toArray = true)
    (hB : (decide (n ≤ l.length) && Region.seqB .any l.toArray (l.length - n) n fin) = true)
    (h : anyH P .any l.toArray S (fun listed a w => listed = fin ∧ wpListIn (wideAt r) m P l.toArray Q (l.drop n) a w) n (Array.replicate l.toArray.size false) a w.drew) : (Code.region id l.toArray true).wpIn (wideAt r) m P Q a w := by
  simp only [Bool.and_eq_true, decide_eq_true_eq] at hB
  refine wpIn_region_any hm ?_
  have hdl : (l.drop n).length = l.length - n := by simp
  have := wpAnyIn_of_anyH (r := r) (m := m) (Q' := Q) hd (g := l.length - n) (fun listed a' w' hL => by
    have := wpAnyIn_of_seq (r := r) (m := m) (md := .any) (Q' := Q) (l.drop n) n listed a' w' (fun j => by simp [List.getElem?_drop]) (by rw [hdl, hL.1]; exact hB.2) hL.2
    rwa [hdl] at this) _ _ _ _ h
  rw [show n + (l.length - n) = l.toArray.size by simp; omega] at this
  exact this
end
end Go.Proofs.Ytjjkhbipeehljaa
