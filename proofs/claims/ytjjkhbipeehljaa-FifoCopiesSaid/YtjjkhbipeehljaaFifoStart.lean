/-
  FifoPlays and FifoCopies: what stands between the calls.
-/
import Derived.Test.YtjjkhbipeehljaaFifoActC
import Derived.Test.YtjjkhbipeehljaaRow
namespace Go.Proofs.Ytjjkhbipeehljaa
open Go.RowKit

/-- The calls, in memory. -/
def ActsAt (w : World) (a : Option Addr) (len : Nat) (A : Nat → Nat → Int) : Prop :=
  0 < len → ∃ b off, a = some ⟨b, off, none⟩ ∧ ∀ i, i < len → w.cell? ⟨b, off + i * 4, none⟩ = some (.int .i64 (A i 0)) ∧ w.cell? ⟨b, off + i * 4 + 1, none⟩ = some (.int .i64 (A i 1)) ∧ w.cell? ⟨b, off + i * 4 + 2, none⟩ = some (.int .i64 (A i 2)) ∧ w.cell? ⟨b, off + i * 4 + 3, none⟩ = some (.int .i64 (A i 3))
theorem ActsAt.kept {w w' : World} {a : Option Addr} {len : Nat} {A : Nat → Nat → Int} (h : ActsAt w a len A) (hg : w.grownBy w' none) : ActsAt w' a len A := fun h0 => by
  obtain ⟨b, off, ha, hx⟩ := h h0
  exact ⟨b, off, ha, fun i hi => ⟨g_cellN hg (hx i hi).1, g_cellN hg (hx i hi).2.1, g_cellN hg (hx i hi).2.2.1, g_cellN hg (hx i hi).2.2.2⟩⟩
theorem acts_of_row {w : World} {a : Option Addr} {len : Nat} {A : Nat → Nat → Int} (h : RowAt w a len [.i64, .i64, .i64, .i64] A) : ActsAt w a len A := fun h0 => by
  obtain ⟨b, off, ha, _, hx⟩ := h h0
  refine ⟨b, off, ha, fun i hi => ⟨?_, ?_, ?_, ?_⟩⟩
  · exact (hx i hi 0 _ rfl).1
  · exact (hx i hi 1 _ rfl).1
  · exact (hx i hi 2 _ rfl).1
  · exact (hx i hi 3 _ rfl).1

/-- A quarantine and the document's, in its variable. -/
structure PlayK (p b : Nat) (M Y : Int) (u v : Value) (xs : List T3) (w W : World) : Prop where
  f : FifoAt W p M Y v xs
  l : L3 W u xs
  blk : Blk W b 39 [.int .i64 M, .int .i64 Y, u]
  good : Good xs
  g : w.grownBy W none
  hp : w.heap.size ≤ p
  hb : w.heap.size ≤ b
  ne : b ≠ p
  v : ∀ r, v.ownBlock = some r → r < W.heap.size ∧ r ≠ b
  u : ∀ r, u.ownBlock = some r → r < W.heap.size ∧ r ≠ p ∧ r ≠ b
theorem PlayK.grown {p b : Nat} {M Y : Int} {u v : Value} {xs : List T3} {w W W' : World} (h : PlayK p b M Y u v xs w W) (hg : W.grownBy W' none) : PlayK p b M Y u v xs w W' :=
  ⟨h.f.keptN hg, h.l.keptN hg, h.blk.keptN hg, h.good, g_none h.g hg, h.hp, h.hb, h.ne, fun r e => ⟨Nat.lt_of_lt_of_le (h.v r e).1 hg.size, (h.v r e).2⟩, fun r e => ⟨Nat.lt_of_lt_of_le (h.u r e).1 hg.size, (h.u r e).2⟩⟩
/-- Behind a call: the document's answer lies in a variable of its own yet. -/
structure PlayM (p b t : Nat) (M Y : Int) (u v : Value) (xs : List T3) (w W : World) : Prop where
  f : FifoAt W p M Y v xs
  l : L3 W u xs
  blk : Blk W t 39 [.int .i64 M, .int .i64 Y, u]
  old : ∃ o, Blk W b 39 [.int .i64 M, .int .i64 Y, o]
  good : Good xs
  g : w.grownBy W none
  hp : w.heap.size ≤ p
  hb : w.heap.size ≤ b
  ne : b ≠ p
  tb : t ≠ b
  v : ∀ r, v.ownBlock = some r → r < W.heap.size ∧ r ≠ b
  u : ∀ r, u.ownBlock = some r → r < W.heap.size ∧ r ≠ p ∧ r ≠ b
theorem play_step {p p' b t : Nat} {M Y : Int} {u v u' v' : Value} {xs xs' : List T3} {w wq wa w6 w7 : World} (h : PlayK p b M Y u v xs w wq) (hgq : wq.grownBy wa none) (hG : Good xs')
    (hF : FifoAt w6 p' M Y v' xs') (hL : L3 w6 u' xs') (hg6 : wa.grownBy w6 (some p)) (hp : p' = p ∨ wa.heap.size ≤ p') (hv : ∀ r, v'.ownBlock = some r → (v.ownBlock = some r ∨ wa.heap.size ≤ r) ∧ r < w6.heap.size)
    (hu : ∀ r, u'.ownBlock = some r → (u.ownBlock = some r ∨ wa.heap.size ≤ r) ∧ r < w6.heap.size ∧ r ≠ p') (hg7 : w6.grownBy w7 (some t)) (ht : wq.heap.size ≤ t) (htp : p' ≠ t) (htv : v'.ownBlock ≠ some t) (htu : u'.ownBlock ≠ some t)
    (hb : Blk w7 t 39 [.int .i64 M, .int .i64 Y, u']) : PlayM p' b t M Y u' v' xs' w w7 := by
  have hbl := h.blk.lt
  have hs1 := hgq.size
  have hs2 := hg6.size
  have hs3 := hg7.size
  have hps := h.f.facts.2.2.2.2
  have hne := h.ne
  have hwp := h.hp
  have hwb := h.hb
  have hws := h.g.size
  refine ⟨hF.kept hg7 (by simpa using htp) (fun r e => by cases e; exact htv), hL.kept hg7 (fun r e => by cases e; exact htu), hb, ⟨u, ((h.blk.keptN hgq).kept hg6 (by simpa using hne)).kept hg7 (by simp; omega)⟩, hG,
    g_trans (g_trans (g_none h.g hgq) hg6 (fun r e => by cases e; exact .inr h.hp)) hg7 (fun r e => by cases e; exact .inr (by omega)), ?_, h.hb, ?_, by omega, fun r hr => ⟨by have := (hv r hr).2; omega, ?_⟩, fun r hr => ⟨by have := (hu r hr).2.1; omega, (hu r hr).2.2, ?_⟩⟩
  · rcases hp with rfl | hp <;> omega
  · rcases hp with rfl | hp
    · exact hne
    · omega
  · rcases (hv r hr).1 with h1 | h1
    · exact (h.v r h1).2
    · omega
  · rcases (hu r hr).1 with h1 | h1
    · exact (h.u r h1).2.2
    · omega
theorem PlayM.put {p b t : Nat} {M Y : Int} {u v : Value} {xs : List T3} {w W : World} (h : PlayM p b t M Y u v xs w W) : PlayK p b M Y u v xs w (((W.setCell ⟨b, 0, none⟩ (.int .i64 M)).setCell ⟨b, 1, none⟩ (.int .i64 Y)).setCell ⟨b, 2, none⟩ u) := by
  obtain ⟨o, hb⟩ := h.old
  have hvb : v.ownBlock ≠ some b := fun e => (h.v b e).2 rfl
  have hub : u.ownBlock ≠ some b := fun e => (h.u b e).2.2 rfl
  have hpb : p ≠ b := h.ne.symm
  have hF := ((h.f.kept (grownBy_setCell'' W b 0 (.int .i64 M)) (by simpa using hpb) (fun r e => by cases e; exact hvb)).kept (grownBy_setCell'' _ b 1 (.int .i64 Y)) (by simpa using hpb) (fun r e => by cases e; exact hvb)).kept (grownBy_setCell'' _ b 2 u) (by simpa using hpb) (fun r e => by cases e; exact hvb)
  have hL := ((h.l.kept (grownBy_setCell'' W b 0 (.int .i64 M)) (fun r e => by cases e; exact hub)).kept (grownBy_setCell'' _ b 1 (.int .i64 Y)) (fun r e => by cases e; exact hub)).kept (grownBy_setCell'' _ b 2 u) (fun r e => by cases e; exact hub)
  have hsz : (((W.setCell ⟨b, 0, none⟩ (.int .i64 M)).setCell ⟨b, 1, none⟩ (.int .i64 Y)).setCell ⟨b, 2, none⟩ u).heap.size = W.heap.size := by simp [World.setCell]
  exact ⟨hF, hL, ((hb.set 0 _).set 1 _).set 2 _, h.good, g_set (g_set (g_set h.g _ (.inr h.hb)) _ (.inr h.hb)) _ (.inr h.hb), h.hp, h.hb, h.ne, fun r e => ⟨by rw [hsz]; exact (h.v r e).1, (h.v r e).2⟩, fun r e => ⟨by rw [hsz]; exact (h.u r e).1, (h.u r e).2⟩⟩
theorem PlayM.grown {p b t : Nat} {M Y : Int} {u v : Value} {xs : List T3} {w W W' : World} (h : PlayM p b t M Y u v xs w W) (hg : W.grownBy W' none) : PlayM p b t M Y u v xs w W' :=
  ⟨h.f.keptN hg, h.l.keptN hg, h.blk.keptN hg, h.old.imp fun o ho => ho.keptN hg, h.good, g_none h.g hg, h.hp, h.hb, h.ne, h.tb, fun r e => ⟨Nat.lt_of_lt_of_le (h.v r e).1 hg.size, (h.v r e).2⟩, fun r e => ⟨Nat.lt_of_lt_of_le (h.u r e).1 hg.size, (h.u r e).2⟩⟩
theorem grow3 (W : World) (b : Nat) (x y z : Value) : W.grownBy (((W.setCell ⟨b, 0, none⟩ x).setCell ⟨b, 1, none⟩ y).setCell ⟨b, 2, none⟩ z) (some b) := g_same (g_same (grownBy_setCell'' W b 0 x) (grownBy_setCell'' _ b 1 y)) (grownBy_setCell'' _ b 2 z)
theorem boundB_pos {M Y : Int} (h : boundB M Y = true) : 0 ≤ M ∧ 0 ≤ Y := by
  simp [boundB, inB] at h
  omega
end Go.Proofs.Ytjjkhbipeehljaa
