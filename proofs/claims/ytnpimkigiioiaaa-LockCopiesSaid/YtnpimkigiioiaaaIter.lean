/-
  A law on 'for .. := range seq { .. }' over an iterator that is told by a contract of its own kind, for whatever program: the rounds' invariant is the caller's, what the iterator must find in memory is told by X, what comes next by Nx. No condition of a program's own.
-/
import Derived.RangeFuncNested
import Derived.RangeFuncBound
import Derived.RangeFuncCalls
import Derived.RangeFuncLeaves
import Derived.WalkKit
import Derived.Lib.SliceRun
import Derived.RangeFuncBox
namespace Go.Proofs.Ytnpimkigiioiaaa
open Go.RowKit

@[go_sem] theorem wide_fn (f : FuncId) : Fence.wide.fn f = True := rfl
@[go_sem] theorem wide_depth : Fence.wide.depth = none := rfl

theorem run_equalIn_func_nil {P : Program} (w : World) (d : Nat) (t : TypeId) (ps rs : Array TypeId) (va : Bool) (fn : Fn) (a b : Array Value) (h : P.underlying t = some (.func ps rs va)) :
    (Op.equalIn (d + 1) t (.func fn a b) .nilFunc).run P w = .ok false w := by
  simp [Op.equalIn, run_underlying h]
theorem run_eql_func_nil {P : Program} (w : World) (t : TypeId) (ps rs : Array TypeId) (va : Bool) (fn : Fn) (a b : Array Value) (h : P.underlying t = some (.func ps rs va)) :
    (binOp .eql t (.func fn a b) .nilFunc).run P w = .ok (.bool false) w := by
  simp only [binOp]
  simp [Op.equal, Op.maxDepth, run_equalIn_func_nil w 9999 t ps rs va fn a b h]

/-- The frame's slots, under a name. -/
theorem wp_named {P : Program} {c : Code} {Q : Exit → Act → World → Prop} {T : Array Value} {D : List Deferred} {w : World} (h : ∀ T', T' = T → c.wp P Q { tmps := T', defers := D } w) : c.wp P Q { tmps := T, defers := D } w := h T rfl

/-- A stop for the walk. -/
structure Held (p : Prop) : Prop where
  out : p
theorem held_stop {p : Prop} (h : Held p) : p := h.out

theorem roundIn_any {m m' : Nat} {P : Program} {l : Nat} {f : FuncId} {tmps : Array Value} {assign body : Code} {w : World} {R : Ending → World → Prop}
    (h : RoundIn Fence.wide m P l f tmps assign body w R) : RoundIn Fence.wide m' P l f tmps assign body w R :=
  ⟨h.1, fun c cs _ => h.2 c cs (room_wide _)⟩

/-- A call of yield: it asks for a round, and the round's contract. -/
def YieldW (P : Program) (l : Nat) (args : Array Value) (W : World) (R : Ending → World → Prop) : Prop :=
  ∃ fn tmps assign body, (Instr.yield l args).run P W = .ok (.round l fn tmps assign body) W ∧ ∀ m, RoundIn Fence.wide m P l fn tmps assign body W R

theorem YieldW.mono {P : Program} {l : Nat} {args : Array Value} {W : World} {R R' : Ending → World → Prop} (h : YieldW P l args W R) (hr : ∀ e w, R e w → R' e w) : YieldW P l args W R' := by
  obtain ⟨fn, tmps, assign, body, hy, hR⟩ := h
  exact ⟨fn, tmps, assign, body, hy, fun m => (hR m).mono hr⟩

/-- What the loop's body may write: the blocks bs, and the block of the slice in the box rb. -/
def Wr (bs : List Nat) (rb : Option Nat) (W : World) (b : Nat) : Prop := b ∈ bs ∨ ∃ r v, rb = some r ∧ W.cell? ⟨r, 0, none⟩ = some v ∧ v.ownBlock = some b
structure Foot (bs : List Nat) (rb : Option Nat) (W : World) : Prop where
  lt : ∀ b, Wr bs rb W b → b < W.heap.size
  mem : ∀ r, rb = some r → r ∈ bs
structure Keeps (bs : List Nat) (rb : Option Nat) (A B : World) : Prop where
  size : A.heap.size ≤ B.heap.size
  same : ∀ b, b < A.heap.size → ¬ Wr bs rb A b → B.heap[b]? = A.heap[b]?
  wr : ∀ b, Wr bs rb B b → Wr bs rb A b ∨ (A.heap.size ≤ b ∧ b < B.heap.size)

section
variable {bs : List Nat} {rb : Option Nat} {A B C : World}
theorem Keeps.refl (bs : List Nat) (rb : Option Nat) (A : World) : Keeps bs rb A A := ⟨Nat.le_refl _, fun _ _ _ => rfl, fun _ h => .inl h⟩
theorem Keeps.trans (h : Keeps bs rb A B) (k : Keeps bs rb B C) : Keeps bs rb A C :=
  ⟨Nat.le_trans h.size k.size, fun b hb hn => (k.same b (Nat.lt_of_lt_of_le hb h.size) (fun hw => (h.wr b hw).elim hn (fun h2 => by omega))).trans (h.same b hb hn), fun b hw => by
    rcases k.wr b hw with h1 | ⟨h1, h2⟩
    · rcases h.wr b h1 with h3 | ⟨h3, h4⟩
      · exact .inl h3
      · exact .inr ⟨h3, Nat.lt_of_lt_of_le h4 k.size⟩
    · exact .inr ⟨Nat.le_trans h.size h1, h2⟩⟩
theorem wr_back {row : Option Nat} (hf : ∀ b ∈ bs, b < A.heap.size) (hm : ∀ r, rb = some r → r ∈ bs) (hg : A.grownBy B row) (hrow : ∀ r, row = some r → rb ≠ some r) {b : Nat} (h : Wr bs rb B b) : Wr bs rb A b := by
  rcases h with h | ⟨r, v, rfl, hc, hv⟩
  · exact .inl h
  · refine .inr ⟨r, v, rfl, ?_, hv⟩
    rw [← World.cell?_of_block (w := A) (w' := B) (a := ⟨r, 0, none⟩) (hg.block r (hf r (hm r rfl)) (fun e => hrow r e.symm rfl))]; exact hc
theorem Keeps.grown (hf : ∀ b ∈ bs, b < A.heap.size) (hm : ∀ r, rb = some r → r ∈ bs) (hg : A.grownBy B none) : Keeps bs rb A B :=
  ⟨hg.size, fun b hb _ => hg.block b hb (by simp), fun b hw => .inl (wr_back hf hm hg (fun r e => by cases e) hw)⟩
/-- A block is written that may be, and is no box of a row. -/
theorem Keeps.one {r : Nat} (hf : ∀ b ∈ bs, b < A.heap.size) (hm : ∀ r, rb = some r → r ∈ bs) (hg : A.grownBy B (some r)) (hw : Wr bs rb A r ∨ A.heap.size ≤ r) (hne : rb ≠ some r) : Keeps bs rb A B :=
  ⟨hg.size, fun b hb hn => hg.block b hb (fun e => by cases e; exact hw.elim hn (fun h => by omega)), fun b hw' => .inl (wr_back hf hm hg (fun r' e => by cases e; exact hne) hw')⟩
theorem Keeps.more (h : Keeps bs rb A B) (l : Nat) : Keeps (l :: bs) rb A B :=
  ⟨h.size, fun b hb hn => h.same b hb (fun hw => hn (hw.imp (fun hm => List.mem_cons_of_mem _ hm) id)), fun b hw => by
    rcases hw with hm | h2
    · rcases List.mem_cons.1 hm with rfl | hm
      · exact .inl (.inl List.mem_cons_self)
      · rcases h.wr b (.inl hm) with h1 | h1
        · exact .inl (h1.imp (fun hm => List.mem_cons_of_mem _ hm) id)
        · exact .inr h1
    · rcases h.wr b (.inr h2) with h1 | h1
      · exact .inl (h1.imp (fun hm => List.mem_cons_of_mem _ hm) id)
      · exact .inr h1⟩
/-- A block that lay, and is not written. -/
def NotW (bs : List Nat) (rb : Option Nat) (p : Nat) (W : World) : Prop := p < W.heap.size ∧ ¬ Wr bs rb W p
theorem NotW.keeps {p : Nat} (h : NotW bs rb p A) (k : Keeps bs rb A B) : NotW bs rb p B := ⟨Nat.lt_of_lt_of_le h.1 k.size, fun hw => (k.wr p hw).elim h.2 (fun h2 => by have := h.1; omega)⟩
theorem NotW.cell {p i : Nat} {v : Value} (h : NotW bs rb p A) (k : Keeps bs rb A B) (hc : A.cell? ⟨p, i, none⟩ = some v) : B.cell? ⟨p, i, none⟩ = some v := by
  rw [← hc]; exact World.cell?_of_block (k.same p h.1 h.2)
theorem NotW.grown {p : Nat} {row : Option Nat} (h : NotW bs rb p A) (hf : ∀ b ∈ bs, b < A.heap.size) (hm : ∀ r, rb = some r → r ∈ bs) (hg : A.grownBy B row) (hrow : ∀ r, row = some r → rb ≠ some r) : NotW bs rb p B :=
  ⟨Nat.lt_of_lt_of_le h.1 hg.size, fun hw => h.2 (wr_back hf hm hg hrow hw)⟩
theorem Foot.new {W : World} (h : Foot bs rb W) {p : Nat} (hp : W.heap.size ≤ p) : ¬ Wr bs rb W p := fun hw => by have := h.lt p hw; omega
theorem Foot.bl {W : World} (h : Foot bs rb W) : ∀ b ∈ bs, b < W.heap.size := fun b hb => h.lt b (.inl hb)
theorem Foot.grown (h : Foot bs rb A) (hg : A.grownBy B none) : Foot bs rb B := ⟨fun b hw => Nat.lt_of_lt_of_le (h.lt b (wr_back h.bl h.mem hg (fun r e => by cases e) hw)) hg.size, h.mem⟩
theorem Foot.keeps (h : Foot bs rb A) (k : Keeps bs rb A B) : Foot bs rb B := ⟨fun b hw => (k.wr b hw).elim (fun h1 => Nat.lt_of_lt_of_le (h.lt b h1) k.size) (fun h1 => h1.2), h.mem⟩
theorem keeps_put {l : Nat} (_hf : ∀ b ∈ bs, b < A.heap.size) (hm : ∀ r, rb = some r → r ∈ bs) (hl : ∀ b ∈ bs, b ≠ l) (o : Obj) : Keeps (l :: bs) rb A (A.putObj l o) :=
  ⟨by simp, fun b hb hn => World.putObj_heap_other (fun e => hn (.inl (by subst e; exact List.mem_cons_self))), fun b hw => .inl (hw.imp id (fun ⟨r, v, hr, hc, hv⟩ => ⟨r, v, hr, by
    rw [← hc]; exact (World.cell?_of_block (w := A) (a := ⟨r, 0, none⟩) (World.putObj_heap_other (hl r (hm r hr)))).symm, hv⟩))⟩
end

/-- An append to what the box holds, and the box's store: what a round of that kind keeps. -/
theorem keeps_append {W w1 : World} {B : Nat} {t : TypeId} {v v' : Value} {tmp : Obj} (hv : Boxed W B t v) (hr : ∀ r, v.ownBlock = some r → r < W.heap.size) (hBr : v.ownBlock ≠ some B) (hgrow : (W.alloc tmp).grownBy w1 v.ownBlock)
    (hb : v'.ownBlock = v.ownBlock ∨ v'.ownBlock = some (W.alloc tmp).heap.size) (hsz : ∀ r, v'.ownBlock = some r → r < w1.heap.size) : Keeps [B] (some B) W (w1.setCell ⟨B, 0, none⟩ v') := by
  have hs1 : W.heap.size + 1 ≤ w1.heap.size := by have := hgrow.size; simpa using this
  have hs2 : (w1.setCell ⟨B, 0, none⟩ v').heap.size = w1.heap.size := by simp [World.setCell]
  have hv1 : Boxed w1 B t v := (hv.alloc tmp).kept hgrow (fun e => hBr e.symm)
  refine ⟨by omega, fun b hb' hn => ?_, fun b hw => ?_⟩
  · have h1 : b ≠ B := fun e => hn (.inl (by simp [e]))
    have h2 : some b ≠ v.ownBlock := fun e => hn (.inr ⟨B, v, rfl, hv.cell, e.symm⟩)
    exact (Below.heap_setCell w1 ⟨B, 0, none⟩ v' b h1).trans ((hgrow.block b (by simp; omega) h2).trans (Below.heap_alloc W tmp b hb'))
  · rcases hw with hm | ⟨r, u, hr', hc, hu⟩
    · exact .inl (.inl hm)
    · cases hr'
      rw [(hv1.set v').cell] at hc
      cases hc
      rcases hb with hb | hb
      · exact .inl (.inr ⟨B, v, rfl, hv.cell, by rw [← hb]; exact hu⟩)
      · rw [hb] at hu
        have hu' : (W.alloc tmp).heap.size = b := by simpa using hu
        exact .inr ⟨by rw [← hu']; simp, by rw [hs2]; exact hsz b (by rw [hb]; exact hu)⟩

/-- An iterator's contract, at the world in which it is called: X is what it must find before each round, Nx what comes behind what has come, S what all is, Sp what a part may be. -/
def IterAt {α : Type} (P : Program) (g : Nat) (lb : Array Value) (encs : α → Array Value) (X : List α → World → Prop) (Nx : List α → α → Prop) (S Sp : List α → Prop) (W : World) : Prop :=
  ∀ (l : Nat) (J Jx : List α → World → Prop) (bs : List Nat) (rb : Option Nat), Foot bs rb W → (∀ pre W', J pre W' → X pre W') → OwnFrom W.heap.size J → OwnFrom W.heap.size Jx →
    (∀ pre x W1, J pre W1 → Nx pre x → YieldW P l (encs x) W1 fun e W' =>
      KeepsFrom W.heap.size W1 W' ∧ Keeps bs rb W1 W' ∧ ((e = .returned (.bool true) ∧ J (pre ++ [x]) W') ∨ (e = .returned (.bool false) ∧ Jx (pre ++ [x]) W'))) →
    J [] W →
    Calls P g (#[.func (.yield l) #[] #[]] ++ lb) W fun e W' => (∃ v, e = .returned v) ∧ ((∃ xs, S xs ∧ J xs W') ∨ (∃ pre, Sp pre ∧ Jx pre W'))

/-- How a round's body may be left. -/
def itPost {α : Type} (B : Nat) (bs : List Nat) (rb : Option Nat) (I : List α → World → Prop) (Ix : Code → List α → World → Prop) (xs : List α) (W : World) : Exit → Act → World → Prop
  | .normal, _, W' => KeepsFrom B W W' ∧ Keeps bs rb W W' ∧ I xs W'
  | .ret, _, W' => KeepsFrom B W W' ∧ Keeps bs rb W W' ∧ Ix .ret xs W'
  | .exit id, _, W' => KeepsFrom B W W' ∧ Keeps bs rb W W' ∧ Ix (.exit id) xs W'
  | .goto t, _, W' => KeepsFrom B W W' ∧ Keeps bs rb W W' ∧ Ix (.goto t) xs W'
  | .panic _, _, _ => False
  | .outgrown, _, _ => False

theorem keepsFrom_more {B B' : Nat} {W W' : World} (h : KeepsFrom B W W') (hB : B ≤ B') : KeepsFrom B' W W' := ⟨h.size, fun k o hk ho hc => h.same k o (Nat.le_trans hB hk) ho hc⟩
theorem keepsFrom_putBelow {B l : Nat} (W : World) (o : Obj) (hl : l < B) : KeepsFrom B W (W.putObj l o) :=
  ⟨by simp, fun k o' hk ho _ => (World.putObj_heap_other (by omega)).trans ho⟩

/-- The statement, in a frame that is no round's. -/
theorem wp_iter {α : Type} {P : Program} {n : Nat} {g : Operand} {ps : Array Tmp} {assign body : Code} {Q : Exit → Act → World → Prop} {a : Act} {w : World}
    {gf : Nat} {lb : Array Value} (hg : a.eval g = .func (.func gf) #[] lb) (eg : ∀ args w, (callFunc gf args).run P w = .ok (.enter gf args) w)
    {encs : α → Array Value} {X : List α → World → Prop} {Nx : List α → α → Prop} {S Sp : List α → Prop} (hps : ∀ x, (encs x).size = ps.size)
    (bs : List Nat) (rb : Option Nat) (hfoot : Foot bs rb w)
    (hit : ∀ W1, w.grownBy W1 none → IterAt P gf lb encs X Nx S Sp W1)
    (I : List α → World → Prop) (Ix : Code → List α → World → Prop) (hI : OwnFrom w.heap.size I) (hIx : ∀ c, OwnFrom w.heap.size (Ix c)) (hX : ∀ pre W, I pre W → X pre W) (h0 : I [] w)
    (Ax : α → Act → World → Prop) (hAx : ∀ x a', OwnFrom w.heap.size (fun (_ : Unit) W => Ax x a' W))
    (hassign : ∀ (l : Nat) (pre : List α) (x : α) (W : World) (K : Act → World → Prop), I pre W → Nx pre x → (∀ a' W', KeepsFrom w.heap.size W W' → Keeps bs rb W W' → I pre W' → Ax x a' W' → K a' W') →
      assign.wpIn (Fence.wide.inRound l) 9 P (Exit.then K (fun _ _ _ => False)) { tmps := (ps.zip (encs x)).foldl (fun t (p, v) => t.setIfInBounds p v) a.tmps, defers := [] } W)
    (hbody : ∀ (l : Nat) (pre : List α) (x : α) (a' : Act) (W : World), w.heap.size ≤ l → I pre W → Ax x a' W → Nx pre x → body.wpIn (Fence.wide.inRound l) 9 P (itPost w.heap.size bs rb I Ix (pre ++ [x]) W) a' W)
    (hdone : ∀ (D : Nat) (xs : List α) (W : World), w.heap.size ≤ D → S xs → I xs W → W.heap[D]? = some (.deferred (some [])) → Q .normal { a with defers := { target := .collected D, args := #[] } :: a.defers } W)
    (hstop : ∀ (D : Nat) (c : Code) (pre : List α) (W : World), w.heap.size ≤ D → Sp pre → Ix c pre W → W.heap[D]? = some (.deferred (some [])) → c.wpIn Fence.wide n P Q { a with defers := { target := .collected D, args := #[] } :: a.defers } W) :
    (Code.rangeFunc g ps assign body).wpIn Fence.wide n P Q a w := by
  refine wpIn_rangeFunc ?_
  intro fn hfn
  obtain ⟨rec, hrec⟩ : ∃ rec : LoopState → Option Code → Loop, rec = fun st pe => { state := st, pending := pe, fn, tmps := a.tmps, params := ps, assign, body, defers := w.heap.size } := ⟨_, rfl⟩
  obtain ⟨W1, hW1⟩ : ∃ W1, (w.alloc (.deferred (some []))).alloc (.loop (rec .ready none)) = W1 := ⟨_, rfl⟩
  have hL1 : W1.heap[w.heap.size + 1]? = some (.loop (rec .ready none)) := by
    rw [← hW1]; have := World.alloc_heap_new (w.alloc (.deferred (some []))) (.loop (rec .ready none)); rwa [World.size_alloc] at this
  have hK1 : W1.heap[w.heap.size]? = some (.deferred (some [])) := by
    rw [← hW1]; exact (Below.heap_alloc _ _ _ (by simp)).trans (World.alloc_heap_new w _)
  have hI1 : I [] W1 := by rw [← hW1]; exact hI.alloc _ (hI.alloc _ h0)
  have hg1 : w.grownBy W1 none := by
    rw [← hW1]; exact ⟨rfl, rfl, rfl, by simp; omega, fun k hk _ => (Below.heap_alloc _ _ _ (by simp; omega)).trans (Below.heap_alloc _ _ _ hk)⟩
  have hs1 : W1.heap.size = w.heap.size + 2 := by rw [← hW1]; simp
  refine ⟨w.heap.size + 1, [{ target := .collected w.heap.size, args := #[] }], W1, { target := .fn (.func gf) lb, args := #[.func (.yield (w.heap.size + 1)) #[] #[]] }, W1, gf,
    #[.func (.yield (w.heap.size + 1)) #[] #[]] ++ lb, W1, ?_, ?_, ?_, ?_, fun h => by simp [Fence.wide] at h, ?_⟩
  · rw [← hW1, hrec]; exact run_enterLoop_outer _ _ _ _ _
  · simp only [resolve, hg]
    simp [go_sem]
  · intro f' _; exact trivial
  · simp [invoke, go_sem, eg]
  · refine callsIn_wide.2 ?_
    have hnw : ∀ {A : World} {row : Option Nat}, (∀ r, row = some r → W1.heap.size ≤ r ∧ ∃ o : Obj, A.heap[r]? = some o ∧ o.isCells = false) → (∀ r, row = some r → w.heap.size ≤ r ∧ ∃ o : Obj, A.heap[r]? = some o ∧ o.isCells = false) :=
      fun hr r e => by obtain ⟨hB, ho⟩ := hr r e; exact ⟨by omega, ho⟩
    have hsame : ∀ {A B : World} {row : Option Nat} {k : Nat} {o : Obj}, A.grownBy B row → (∀ r, row = some r → W1.heap.size ≤ r ∧ ∃ o : Obj, A.heap[r]? = some o ∧ o.isCells = false) → k < W1.heap.size → A.heap[k]? = some o → B.heap[k]? = some o :=
      fun {A B row k o} hg' hr hk ho => (hg'.block k (Array.getElem?_eq_some_iff.1 ho).1 (fun e => by have := (hr k e.symm).1; omega)).trans ho
    have hbl : ∀ b ∈ bs, b ≠ w.heap.size + 1 := fun b hb => by have := hfoot.bl b hb; omega
    have hbw : ∀ {W : World}, W1.heap.size ≤ W.heap.size → ∀ b ∈ bs, b < W.heap.size := fun {W} hW b hb => by have := hfoot.bl b hb; omega
    have hlt : Foot ((w.heap.size + 1) :: bs) rb W1 := ⟨fun b hw => by
      rcases hw with hm | h2
      · rcases List.mem_cons.1 hm with rfl | hm
        · omega
        · exact hbw (Nat.le_refl _) b hm
      · exact Nat.lt_of_lt_of_le (hfoot.lt b (wr_back hfoot.bl hfoot.mem hg1 (fun r e => by cases e) (.inr h2))) hg1.size, fun r hr => List.mem_cons_of_mem _ (hfoot.mem r hr)⟩
    refine (hit W1 hg1 (w.heap.size + 1)
      (fun pre W => I pre W ∧ W.heap[w.heap.size + 1]? = some (.loop (rec .ready none)) ∧ W.heap[w.heap.size]? = some (.deferred (some [])))
      (fun pre W => ∃ c, Ix c pre W ∧ W.heap[w.heap.size + 1]? = some (.loop (rec .done (some c))) ∧ W.heap[w.heap.size]? = some (.deferred (some [])))
      ((w.heap.size + 1) :: bs) rb hlt
      (fun pre W h => hX pre W h.1)
      (fun s A B row hs hg' hr => ⟨hI s A B row hs.1 hg' (hnw hr), hsame hg' hr (by omega) hs.2.1, hsame hg' hr (by omega) hs.2.2⟩)
      (fun s A B row hs hg' hr => by
        obtain ⟨c, hc, hl, hk⟩ := hs
        exact ⟨c, hIx c s A B row hc hg' (hnw hr), hsame hg' hr (by omega) hl, hsame hg' hr (by omega) hk⟩)
      ?_ ⟨hI1, hL1, hK1⟩).mono ?_
    · -- ONE ROUND
      rintro pre x W ⟨hi, hl, hk⟩ hnx
      have hy := run_yield (P := P) (args := encs x) hl (by rw [hrec]; exact hps x)
      rw [hrec] at hy
      refine ⟨fn, _, assign, body, hy, fun m => roundIn_any (m := 9) (roundIn_of_wpIn hfn (hassign _ pre x W _ hi hnx ?_))⟩
      clear hy
      intro a' Wa hkfa hkpa hia hax
      have hszW : w.heap.size < W.heap.size := (Array.getElem?_eq_some_iff.1 hk).1
      replace hl := hkfa.same _ _ (by omega) hl rfl
      replace hk := hkfa.same _ _ (Nat.le_refl _) hk rfl
      have hlt : w.heap.size + 1 < Wa.heap.size := (Array.getElem?_eq_some_iff.1 hl).1
      refine ⟨_, run_beginRound hl (by rw [hrec]), ?_⟩
      have hl2 : (Wa.putObj (w.heap.size + 1) (.loop { rec .ready none with state := .busy })).heap[w.heap.size + 1]? = some (.loop { rec .ready none with state := .busy }) := World.putObj_heap_same hlt
      have hk2 : (Wa.putObj (w.heap.size + 1) (.loop { rec .ready none with state := .busy })).heap[w.heap.size]? = some (.deferred (some [])) := (World.putObj_heap_other (by omega)).trans hk
      refine wpIn_mono (hbody _ pre x a' _ (by omega) (hI.putObj _ hia (by omega) hl rfl) ((hAx x a').putObj (s := ()) _ hax (by omega) hl rfl) hnx) ?_
      have hkf1 : KeepsFrom W1.heap.size W (Wa.putObj (w.heap.size + 1) (.loop { rec .ready none with state := .busy })) :=
        (keepsFrom_more hkfa (by omega)).trans (keepsFrom_putBelow _ _ (by omega))
      have hbsa : ∀ b ∈ bs, b < Wa.heap.size := fun b hb => by have := hfoot.bl b hb; omega
      have hkp1 : Keeps ((w.heap.size + 1) :: bs) rb W (Wa.putObj (w.heap.size + 1) (.loop { rec .ready none with state := .busy })) := (hkpa.more _).trans (keeps_put hbsa hfoot.mem hbl _)
      have fin : ∀ (jump : Option Code) (W3 : World), KeepsFrom w.heap.size (Wa.putObj (w.heap.size + 1) (.loop { rec .ready none with state := .busy })) W3 → Keeps bs rb (Wa.putObj (w.heap.size + 1) (.loop { rec .ready none with state := .busy })) W3 →
          (Instr.endRound (w.heap.size + 1) jump).run P W3 = .ok (.bool jump.isNone) (W3.putObj (w.heap.size + 1) (.loop (rec (if jump.isNone then .ready else .done) jump))) ∧
          W3.heap[w.heap.size + 1]? = some (.loop { rec .ready none with state := .busy }) ∧
          (W3.putObj (w.heap.size + 1) (.loop (rec (if jump.isNone then .ready else .done) jump))).heap[w.heap.size + 1]? = some (.loop (rec (if jump.isNone then .ready else .done) jump)) ∧
          (W3.putObj (w.heap.size + 1) (.loop (rec (if jump.isNone then .ready else .done) jump))).heap[w.heap.size]? = some (.deferred (some [])) ∧
          KeepsFrom W1.heap.size W (W3.putObj (w.heap.size + 1) (.loop (rec (if jump.isNone then .ready else .done) jump))) ∧
          Keeps ((w.heap.size + 1) :: bs) rb W (W3.putObj (w.heap.size + 1) (.loop (rec (if jump.isNone then .ready else .done) jump))) := fun jump W3 hk3 hkp3 => by
        have hl3 := hk3.same _ _ (by omega) hl2 rfl
        have := run_endRound (P := P) jump hl3
        rw [hrec] at this ⊢
        exact ⟨this, by rw [hrec] at hl3; exact hl3, World.putObj_heap_same (Array.getElem?_eq_some_iff.1 hl3).1, (World.putObj_heap_other (by omega)).trans (hk3.same _ _ (Nat.le_refl _) hk2 rfl),
          ((by rw [hrec] at hkf1; exact hkf1 : KeepsFrom _ _ _).trans (by rw [hrec] at hk3; exact keepsFrom_more hk3 (by omega))).trans (keepsFrom_putBelow _ _ (by omega)),
          ((by rw [hrec] at hkp1; exact hkp1 : Keeps _ _ _ _).trans (by rw [hrec] at hkp3; exact hkp3.more _)).trans (keeps_put (fun b hb => by have := hfoot.bl b hb; have := (Array.getElem?_eq_some_iff.1 hl3).1; omega) hfoot.mem hbl _)⟩
      rintro e a3 W3 hp
      cases e with
      | normal =>
        obtain ⟨hk3, hkp3, hi3⟩ := hp
        obtain ⟨hr, hl3, hl4, hk4, hkf, hkp⟩ := fin none W3 hk3 hkp3
        exact ⟨_, _, hr, hkf, hkp, .inl ⟨rfl, hI.putObj _ hi3 (by omega) hl3 rfl, hl4, hk4⟩⟩
      | ret =>
        obtain ⟨hk3, hkp3, hi3⟩ := hp
        obtain ⟨hr, hl3, hl4, hk4, hkf, hkp⟩ := fin (some .ret) W3 hk3 hkp3
        exact ⟨_, _, hr, hkf, hkp, .inr ⟨rfl, .ret, (hIx _).putObj _ hi3 (by omega) hl3 rfl, hl4, hk4⟩⟩
      | exit id =>
        obtain ⟨hk3, hkp3, hi3⟩ := hp
        obtain ⟨hr, hl3, hl4, hk4, hkf, hkp⟩ := fin (some (.exit id)) W3 hk3 hkp3
        exact ⟨_, _, hr, hkf, hkp, .inr ⟨rfl, .exit id, (hIx _).putObj _ hi3 (by omega) hl3 rfl, hl4, hk4⟩⟩
      | goto t =>
        obtain ⟨hk3, hkp3, hi3⟩ := hp
        obtain ⟨hr, hl3, hl4, hk4, hkf, hkp⟩ := fin (some (.goto t)) W3 hk3 hkp3
        exact ⟨_, _, hr, hkf, hkp, .inr ⟨rfl, .goto t, (hIx _).putObj _ hi3 (by omega) hl3 rfl, hl4, hk4⟩⟩
      | panic ch => exact hp.elim
      | outgrown => exact hp.elim
    · -- BEHIND THE ITERATOR
      rintro e W2 ⟨⟨v, rfl⟩, (⟨xs, hS, hi, hl, hk⟩ | ⟨pre, hSp, c, hi, hl, hk⟩)⟩
      · exact ⟨none, _, by have := run_endLoop (P := P) hl (by rw [hrec]; simp); rw [hrec] at this; exact this, hdone _ xs _ (Nat.le_refl _) hS (hI.putObj _ hi (by omega) hl rfl) ((World.putObj_heap_other (by omega)).trans hk)⟩
      · exact ⟨some c, _, by have := run_endLoop (P := P) hl (by rw [hrec]; simp); rw [hrec] at this; exact this, hstop _ c pre _ (Nat.le_refl _) hSp ((hIx c).putObj _ hi (by omega) hl rfl) ((World.putObj_heap_other (by omega)).trans hk)⟩

/-- A function that holds such a statement, out of its body's walk. -/
theorem calls_of_wp_marks {P : Program} {f : FuncId} {fn : Func} {c : Code} {args : Array Value} {w : World} {R : Ending → World → Prop}
    (hf : P.funcs[f]? = some fn) (hb : fn.body = some c)
    (h : c.wpIn Fence.wide 10 P (bodyPostM Fence.wide 10 P fn R) { tmps := args ++ Array.replicate (fn.ntmps - args.size) undef, defers := [] } w) : Calls P f args w R :=
  callsIn_wide.1 (callsIn_of_wp_marks hf hb trivial h rfl)

/-- Likewise, a function that calls yield, and holds no such statement. -/
theorem calls_of_wpIn {P : Program} {f : FuncId} {fn : Func} {c : Code} {args : Array Value} {w : World} {R : Ending → World → Prop}
    (hf : P.funcs[f]? = some fn) (hb : fn.body = some c)
    (h : c.wpIn Fence.wide 10 P (bodyPost P fn R) { tmps := args ++ Array.replicate (fn.ntmps - args.size) undef, defers := [] } w) : Calls P f args w R :=
  callsIn_wide.1 (callsIn_of_wp hf hb trivial h rfl)
end Go.Proofs.Ytnpimkigiioiaaa
