/-
  The same for an iterator that itself writes between the rounds: St says what it does from one round's end to the next round's start. For whatever program.
-/
import Derived.Test.YtkeicoadpdfkkaaIter
namespace Go.Proofs.Ytkeicoadpdfkkaa
open Go.RowKit

/-- An iterator's contract: as IterAt; St tells what the iterator itself does ahead of a round. -/
def IterAtG {α : Type} (own : List Nat) (P : Program) (g : Nat) (lb : Array Value) (encs : α → Array Value) (X : List α → World → Prop) (St : List α → α → World → World → Prop) (Nx : List α → α → Prop) (S Sp : List α → Prop) (W : World) : Prop :=
  ∀ (l : Nat) (J Jx : List α → World → Prop) (bs : List Nat) (rb : Option Nat), Foot bs rb W → (∀ q ∈ own, q ∉ bs) → (∀ pre W', J pre W' → X pre W') → OwnFrom W.heap.size J → OwnFrom W.heap.size Jx →
    (∀ pre x W1 W2, J pre W1 → Nx pre x → St pre x W1 W2 → YieldW P l (encs x) W2 fun e W' =>
      KeepsFrom W.heap.size W2 W' ∧ Keeps bs rb W2 W' ∧ ((e = .returned (.bool true) ∧ J (pre ++ [x]) W') ∨ (e = .returned (.bool false) ∧ Jx (pre ++ [x]) W'))) →
    J [] W →
    Calls P g (#[.func (.yield l) #[] #[]] ++ lb) W fun e W' => (∃ v, e = .returned v) ∧ ((∃ xs, S xs ∧ J xs W') ∨ (∃ pre, Sp pre ∧ Jx pre W'))

/-- The statement, in a frame that is no round's. -/
theorem wp_iterG {α : Type} {P : Program} {n : Nat} {g : Operand} {ps : Array Tmp} {assign body : Code} {Q : Exit → Act → World → Prop} {a : Act} {w : World}
    {own : List Nat} {gf : Nat} {lb : Array Value} (hg : a.eval g = .func (.func gf) #[] lb) (eg : ∀ args w, (callFunc gf args).run P w = .ok (.enter gf args) w)
    {encs : α → Array Value} {X : List α → World → Prop} {St : List α → α → World → World → Prop} {Nx : List α → α → Prop} {S Sp : List α → Prop} (hps : ∀ x, (encs x).size = ps.size)
    (bs : List Nat) (rb : Option Nat) (hfoot : Foot bs rb w) (hown : ∀ q ∈ own, q ∉ bs ∧ q < w.heap.size)
    (hit : ∀ W1, w.grownBy W1 none → IterAtG own P gf lb encs X St Nx S Sp W1)
    (I : List α → World → Prop) (Ix : Code → List α → World → Prop) (hI : OwnFrom w.heap.size I) (hIx : ∀ c, OwnFrom w.heap.size (Ix c)) (hX : ∀ pre W, I pre W → X pre W) (h0 : I [] w)
    (hSt : ∀ pre x W1 W2, St pre x W1 W2 → ∃ row, W1.grownBy W2 row ∧ ∀ r, row = some r → r < w.heap.size)
    (I2 : List α × α → World → Prop) (hI2 : OwnFrom w.heap.size I2) (hI12 : ∀ pre x W1 W2, I pre W1 → St pre x W1 W2 → I2 (pre, x) W2)
    (Ax : α → Act → World → Prop) (hAx : ∀ x a', OwnFrom w.heap.size (fun (_ : Unit) W => Ax x a' W))
    (hassign : ∀ (l : Nat) (pre : List α) (x : α) (W : World) (K : Act → World → Prop), I2 (pre, x) W → Nx pre x → (∀ a' W', KeepsFrom w.heap.size W W' → Keeps bs rb W W' → I2 (pre, x) W' → Ax x a' W' → K a' W') →
      assign.wpIn (Fence.wide.inRound l) 9 P (Exit.then K (fun _ _ _ => False)) { tmps := (ps.zip (encs x)).foldl (fun t (p, v) => t.setIfInBounds p v) a.tmps, defers := [] } W)
    (hbody : ∀ (l : Nat) (pre : List α) (x : α) (a' : Act) (W : World), w.heap.size ≤ l → I2 (pre, x) W → Ax x a' W → Nx pre x → body.wpIn (Fence.wide.inRound l) 9 P (itPost w.heap.size bs rb I Ix (pre ++ [x]) W) a' W)
    (hdone : ∀ (D : Nat) (xs : List α) (W : World), w.heap.size ≤ D → S xs → I xs W → W.heap[D]? = some (.deferred (some [])) → Q .normal { a with defers := { target := .collected D, args := #[] } :: a.defers } W)
    (hstop : ∀ (D : Nat) (c : Code) (pre : List α) (W : World), w.heap.size ≤ D → Sp pre → Ix c pre W → W.heap[D]? = some (.deferred (some [])) → c.wpIn Fence.wide n P Q { a with defers := { target := .collected D, args := #[] } :: a.defers } W) :
    (Code.rangeFunc g ps assign body).wpIn Fence.wide n P Q a w := by
  refine wpIn_rangeFunc ?_
  intro fn hfn
  obtain ⟨rec, hrec⟩ : ∃ rec : LoopState → Option Code → Loop, rec = fun st pe => { state := st, pending := pe, fn, tmps := a.tmps, params := ps, assign, body, defers := w.heap.size } := ⟨_, rfl⟩
  obtain ⟨W1, hW1⟩ : ∃ W1, (w.alloc (.deferred (some []))).alloc (.loop (rec .ready none)) = W1 := ⟨_, rfl⟩
  have hL1 : W1.heap[w.heap.size + 1]? = some (.loop (rec .ready none)) := by
    rw [← hW1]; have := World.alloc_heap_new (w.alloc (.deferred (some []))) (.loop (rec .ready none)); rwa [World.size_alloc] at this
  have hK1 : W1.heap[w.heap.size]? = some (.deferred (some [])) := by
    rw [← hW1]; exact (Below.heap_alloc _ _ _ (by simp)).trans (World.alloc_heap_new w _)
  have hI1 : I [] W1 := by rw [← hW1]; exact hI.alloc _ (hI.alloc _ h0)
  have hg1 : w.grownBy W1 none := by
    rw [← hW1]; exact ⟨rfl, rfl, rfl, by simp; omega, fun k hk _ => (Below.heap_alloc _ _ _ (by simp; omega)).trans (Below.heap_alloc _ _ _ hk)⟩
  have hs1 : W1.heap.size = w.heap.size + 2 := by rw [← hW1]; simp
  refine ⟨w.heap.size + 1, [{ target := .collected w.heap.size, args := #[] }], W1, { target := .fn (.func gf) lb, args := #[.func (.yield (w.heap.size + 1)) #[] #[]] }, W1, gf,
    #[.func (.yield (w.heap.size + 1)) #[] #[]] ++ lb, W1, ?_, ?_, ?_, ?_, fun h => by simp [Fence.wide] at h, ?_⟩
  · rw [← hW1, hrec]; exact run_enterLoop_outer _ _ _ _ _
  · simp only [resolve, hg]
    simp [go_sem]
  · intro f' _; exact trivial
  · simp [invoke, go_sem, eg]
  · refine callsIn_wide.2 ?_
    have hnw : ∀ {A : World} {row : Option Nat}, (∀ r, row = some r → W1.heap.size ≤ r ∧ ∃ o : Obj, A.heap[r]? = some o ∧ o.isCells = false) → (∀ r, row = some r → w.heap.size ≤ r ∧ ∃ o : Obj, A.heap[r]? = some o ∧ o.isCells = false) :=
      fun hr r e => by obtain ⟨hB, ho⟩ := hr r e; exact ⟨by omega, ho⟩
    have hsame : ∀ {A B : World} {row : Option Nat} {k : Nat} {o : Obj}, A.grownBy B row → (∀ r, row = some r → W1.heap.size ≤ r ∧ ∃ o : Obj, A.heap[r]? = some o ∧ o.isCells = false) → k < W1.heap.size → A.heap[k]? = some o → B.heap[k]? = some o :=
      fun {A B row k o} hg' hr hk ho => (hg'.block k (Array.getElem?_eq_some_iff.1 ho).1 (fun e => by have := (hr k e.symm).1; omega)).trans ho
    have hbl : ∀ b ∈ bs, b ≠ w.heap.size + 1 := fun b hb => by have := hfoot.bl b hb; omega
    have hbw : ∀ {W : World}, W1.heap.size ≤ W.heap.size → ∀ b ∈ bs, b < W.heap.size := fun {W} hW b hb => by have := hfoot.bl b hb; omega
    have hlt : Foot ((w.heap.size + 1) :: bs) rb W1 := ⟨fun b hw => by
      rcases hw with hm | h2
      · rcases List.mem_cons.1 hm with rfl | hm
        · omega
        · exact hbw (Nat.le_refl _) b hm
      · exact Nat.lt_of_lt_of_le (hfoot.lt b (wr_back hfoot.bl hfoot.mem hg1 (fun r e => by cases e) (.inr h2))) hg1.size, fun r hr => List.mem_cons_of_mem _ (hfoot.mem r hr)⟩
    refine (hit W1 hg1 (w.heap.size + 1)
      (fun pre W => I pre W ∧ W.heap[w.heap.size + 1]? = some (.loop (rec .ready none)) ∧ W.heap[w.heap.size]? = some (.deferred (some [])))
      (fun pre W => ∃ c, Ix c pre W ∧ W.heap[w.heap.size + 1]? = some (.loop (rec .done (some c))) ∧ W.heap[w.heap.size]? = some (.deferred (some [])))
      ((w.heap.size + 1) :: bs) rb hlt (fun q hq => by have := hown q hq; simp only [List.mem_cons, not_or]; exact ⟨by omega, this.1⟩)
      (fun pre W h => hX pre W h.1)
      (fun s A B row hs hg' hr => ⟨hI s A B row hs.1 hg' (hnw hr), hsame hg' hr (by omega) hs.2.1, hsame hg' hr (by omega) hs.2.2⟩)
      (fun s A B row hs hg' hr => by
        obtain ⟨c, hc, hl, hk⟩ := hs
        exact ⟨c, hIx c s A B row hc hg' (hnw hr), hsame hg' hr (by omega) hl, hsame hg' hr (by omega) hk⟩)
      ?_ ⟨hI1, hL1, hK1⟩).mono ?_
    · -- ONE ROUND
      rintro pre x W0 W ⟨hi0, hl0, hk0⟩ hnx hst
      obtain ⟨row, hgst, hrow⟩ := hSt _ _ _ _ hst
      have hi := hI12 _ _ _ _ hi0 hst
      have hl : W.heap[w.heap.size + 1]? = some (.loop (rec .ready none)) := (hgst.block _ (Array.getElem?_eq_some_iff.1 hl0).1 (fun e => by have := hrow _ e.symm; omega)).trans hl0
      have hk : W.heap[w.heap.size]? = some (.deferred (some [])) := (hgst.block _ (Array.getElem?_eq_some_iff.1 hk0).1 (fun e => by have := hrow _ e.symm; omega)).trans hk0
      clear hi0 hl0 hk0 hgst
      have hy := run_yield (P := P) (args := encs x) hl (by rw [hrec]; exact hps x)
      rw [hrec] at hy
      refine ⟨fn, _, assign, body, hy, fun m => roundIn_any (m := 9) (roundIn_of_wpIn hfn (hassign _ pre x W _ hi hnx ?_))⟩
      clear hy
      intro a' Wa hkfa hkpa hia hax
      have hszW : w.heap.size < W.heap.size := (Array.getElem?_eq_some_iff.1 hk).1
      replace hl := hkfa.same _ _ (by omega) hl rfl
      replace hk := hkfa.same _ _ (Nat.le_refl _) hk rfl
      have hlt : w.heap.size + 1 < Wa.heap.size := (Array.getElem?_eq_some_iff.1 hl).1
      refine ⟨_, run_beginRound hl (by rw [hrec]), ?_⟩
      have hl2 : (Wa.putObj (w.heap.size + 1) (.loop { rec .ready none with state := .busy })).heap[w.heap.size + 1]? = some (.loop { rec .ready none with state := .busy }) := World.putObj_heap_same hlt
      have hk2 : (Wa.putObj (w.heap.size + 1) (.loop { rec .ready none with state := .busy })).heap[w.heap.size]? = some (.deferred (some [])) := (World.putObj_heap_other (by omega)).trans hk
      refine wpIn_mono (hbody _ pre x a' _ (by omega) (hI2.putObj (s := (pre, x)) _ hia (by omega) hl rfl) ((hAx x a').putObj (s := ()) _ hax (by omega) hl rfl) hnx) ?_
      have hkf1 : KeepsFrom W1.heap.size W (Wa.putObj (w.heap.size + 1) (.loop { rec .ready none with state := .busy })) :=
        (keepsFrom_more hkfa (by omega)).trans (keepsFrom_putBelow _ _ (by omega))
      have hbsa : ∀ b ∈ bs, b < Wa.heap.size := fun b hb => by have := hfoot.bl b hb; omega
      have hkp1 : Keeps ((w.heap.size + 1) :: bs) rb W (Wa.putObj (w.heap.size + 1) (.loop { rec .ready none with state := .busy })) := (hkpa.more _).trans (keeps_put hbsa hfoot.mem hbl _)
      have fin : ∀ (jump : Option Code) (W3 : World), KeepsFrom w.heap.size (Wa.putObj (w.heap.size + 1) (.loop { rec .ready none with state := .busy })) W3 → Keeps bs rb (Wa.putObj (w.heap.size + 1) (.loop { rec .ready none with state := .busy })) W3 →
          (Instr.endRound (w.heap.size + 1) jump).run P W3 = .ok (.bool jump.isNone) (W3.putObj (w.heap.size + 1) (.loop (rec (if jump.isNone then .ready else .done) jump))) ∧
          W3.heap[w.heap.size + 1]? = some (.loop { rec .ready none with state := .busy }) ∧
          (W3.putObj (w.heap.size + 1) (.loop (rec (if jump.isNone then .ready else .done) jump))).heap[w.heap.size + 1]? = some (.loop (rec (if jump.isNone then .ready else .done) jump)) ∧
          (W3.putObj (w.heap.size + 1) (.loop (rec (if jump.isNone then .ready else .done) jump))).heap[w.heap.size]? = some (.deferred (some [])) ∧
          KeepsFrom W1.heap.size W (W3.putObj (w.heap.size + 1) (.loop (rec (if jump.isNone then .ready else .done) jump))) ∧
          Keeps ((w.heap.size + 1) :: bs) rb W (W3.putObj (w.heap.size + 1) (.loop (rec (if jump.isNone then .ready else .done) jump))) := fun jump W3 hk3 hkp3 => by
        have hl3 := hk3.same _ _ (by omega) hl2 rfl
        have := run_endRound (P := P) jump hl3
        rw [hrec] at this ⊢
        exact ⟨this, by rw [hrec] at hl3; exact hl3, World.putObj_heap_same (Array.getElem?_eq_some_iff.1 hl3).1, (World.putObj_heap_other (by omega)).trans (hk3.same _ _ (Nat.le_refl _) hk2 rfl),
          ((by rw [hrec] at hkf1; exact hkf1 : KeepsFrom _ _ _).trans (by rw [hrec] at hk3; exact keepsFrom_more hk3 (by omega))).trans (keepsFrom_putBelow _ _ (by omega)),
          ((by rw [hrec] at hkp1; exact hkp1 : Keeps _ _ _ _).trans (by rw [hrec] at hkp3; exact hkp3.more _)).trans (keeps_put (fun b hb => by have := hfoot.bl b hb; have := (Array.getElem?_eq_some_iff.1 hl3).1; omega) hfoot.mem hbl _)⟩
      rintro e a3 W3 hp
      cases e with
      | normal =>
        obtain ⟨hk3, hkp3, hi3⟩ := hp
        obtain ⟨hr, hl3, hl4, hk4, hkf, hkp⟩ := fin none W3 hk3 hkp3
        exact ⟨_, _, hr, hkf, hkp, .inl ⟨rfl, hI.putObj _ hi3 (by omega) hl3 rfl, hl4, hk4⟩⟩
      | ret =>
        obtain ⟨hk3, hkp3, hi3⟩ := hp
        obtain ⟨hr, hl3, hl4, hk4, hkf, hkp⟩ := fin (some .ret) W3 hk3 hkp3
        exact ⟨_, _, hr, hkf, hkp, .inr ⟨rfl, .ret, (hIx _).putObj _ hi3 (by omega) hl3 rfl, hl4, hk4⟩⟩
      | exit id =>
        obtain ⟨hk3, hkp3, hi3⟩ := hp
        obtain ⟨hr, hl3, hl4, hk4, hkf, hkp⟩ := fin (some (.exit id)) W3 hk3 hkp3
        exact ⟨_, _, hr, hkf, hkp, .inr ⟨rfl, .exit id, (hIx _).putObj _ hi3 (by omega) hl3 rfl, hl4, hk4⟩⟩
      | goto t =>
        obtain ⟨hk3, hkp3, hi3⟩ := hp
        obtain ⟨hr, hl3, hl4, hk4, hkf, hkp⟩ := fin (some (.goto t)) W3 hk3 hkp3
        exact ⟨_, _, hr, hkf, hkp, .inr ⟨rfl, .goto t, (hIx _).putObj _ hi3 (by omega) hl3 rfl, hl4, hk4⟩⟩
      | panic ch => exact hp.elim
      | outgrown => exact hp.elim
    · -- BEHIND THE ITERATOR
      rintro e W2 ⟨⟨v, rfl⟩, (⟨xs, hS, hi, hl, hk⟩ | ⟨pre, hSp, c, hi, hl, hk⟩)⟩
      · exact ⟨none, _, by have := run_endLoop (P := P) hl (by rw [hrec]; simp); rw [hrec] at this; exact this, hdone _ xs _ (Nat.le_refl _) hS (hI.putObj _ hi (by omega) hl rfl) ((World.putObj_heap_other (by omega)).trans hk)⟩
      · exact ⟨some c, _, by have := run_endLoop (P := P) hl (by rw [hrec]; simp); rw [hrec] at this; exact this, hstop _ c pre _ (Nat.le_refl _) hSp ((hIx c).putObj _ hi (by omega) hl rfl) ((World.putObj_heap_other (by omega)).trans hk)⟩

end Go.Proofs.Ytkeicoadpdfkkaa
