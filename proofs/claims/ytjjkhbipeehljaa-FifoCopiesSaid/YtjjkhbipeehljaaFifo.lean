/-
  A quarantine in memory: lists of three numbers each; the small functions' contracts.
-/
import Derived.Test.YtjjkhbipeehljaaProg
import Derived.Test.YtjjkhbipeehljaaLib
import Derived.Test.YtjjkhbipeehljaaIter
import Derived.Test.YtjjkhbipeehljaaStill
import Derived.Test.YtjjkhbipeehljaaScope
import Derived.WalkSpells
import Derived.WalkLawsBesides
import Derived.BigQuiet
import Derived.StillTailTactics
import Derived.OwnWalk
import Derived.Maps.OwnIn
namespace Go.Proofs.Ytjjkhbipeehljaa
open Go.RowKit

/-- A thing: its class, its index, its bytes. -/
abbrev T3 := Int × Int × Int
def flat3 (xs : List T3) : List Value := xs.flatMap fun x => [.int .i64 x.1, .int .i64 x.2.1, .int .i64 x.2.2]
theorem flat3_append (a b : List T3) : flat3 (a ++ b) = flat3 a ++ flat3 b := List.flatMap_append
theorem flat3_length (xs : List T3) : (flat3 xs).length = xs.length * 3 := by
  induction xs with
  | nil => rfl
  | cons x xs ih => simp only [flat3, List.flatMap_cons, List.length_append, List.length_cons, List.length_nil] at ih ⊢; rw [ih]; omega
theorem flat3_get : ∀ (xs : List T3) (i : Nat) {a b c : Int}, xs[i]? = some (a, b, c) → (flat3 xs)[i * 3]? = some (.int .i64 a) ∧ (flat3 xs)[i * 3 + 1]? = some (.int .i64 b) ∧ (flat3 xs)[i * 3 + 2]? = some (.int .i64 c)
  | [], i, _, _, _, h => by simp at h
  | y :: l, 0, a, b, c, h => by
    simp at h; subst h
    exact ⟨rfl, rfl, rfl⟩
  | y :: l, i + 1, a, b, c, h => by
    have := flat3_get l i (a := a) (b := b) (c := c) (by simpa using h)
    rw [show (i + 1) * 3 = i * 3 + 3 by omega, show i * 3 + 3 + 1 = i * 3 + 1 + 3 by omega, show i * 3 + 3 + 2 = i * 3 + 2 + 3 by omega]
    exact this

/-- A slice that reads as a list of things, from wherever it begins. -/
def L3 (w : World) (v : Value) (xs : List T3) : Prop :=
  ∃ (a : Option Addr) (cap : Nat), v = .slice a xs.length cap ∧ xs.length ≤ 1000 ∧ xs.length ≤ cap ∧ cap ≤ maxLen ∧ ((a = none ∧ xs = []) ∨ ∃ g off, a = some ⟨g, off, none⟩ ∧
    ∀ i x y z, xs[i]? = some (x, y, z) → w.cell? ⟨g, off + i * 3, none⟩ = some (.int .i64 x) ∧ w.cell? ⟨g, off + i * 3 + 1, none⟩ = some (.int .i64 y) ∧ w.cell? ⟨g, off + i * 3 + 2, none⟩ = some (.int .i64 z))
theorem cell_lt {A : World} {p i : Nat} {v : Value} (hc : A.cell? ⟨p, i, none⟩ = some v) : p < A.heap.size := by
  by_cases h : p < A.heap.size
  · exact h
  · have h0 : A.heap[p]? = none := Array.getElem?_eq_none (by omega)
    simp [World.cell?, h0] at hc
/-- What keeps each of its cells keeps the list. -/
theorem L3.keptC {w w' : World} {v : Value} {xs : List T3} (h : L3 w v xs) (hk : ∀ r, v.ownBlock = some r → r < w.heap.size → w'.heap[r]? = w.heap[r]?) : L3 w' v xs := by
  obtain ⟨a, cap, rfl, hl, hcp, hm, hc⟩ := h
  refine ⟨a, cap, rfl, hl, hcp, hm, hc.imp id ?_⟩
  rintro ⟨g, off, rfl, hx⟩
  have kc : ∀ {i : Nat} {v : Value}, w.cell? ⟨g, i, none⟩ = some v → w'.cell? ⟨g, i, none⟩ = some v := fun {i v} h => by rw [← h]; exact World.cell?_of_block (hk g rfl (cell_lt h))
  exact ⟨g, off, rfl, fun i x y z hi => ⟨kc (hx i x y z hi).1, kc (hx i x y z hi).2.1, kc (hx i x y z hi).2.2⟩⟩
theorem L3.kept {w w' : World} {v : Value} {xs : List T3} {row : Option Nat} (h : L3 w v xs) (hg : w.grownBy w' row) (hne : ∀ r, row = some r → v.ownBlock ≠ some r) : L3 w' v xs :=
  h.keptC fun r hr hl => hg.block r hl (fun e => hne r e.symm hr)
theorem L3.keptN {w w' : World} {v : Value} {xs : List T3} (h : L3 w v xs) (hg : w.grownBy w' none) : L3 w' v xs := h.kept hg (fun r e => by cases e)
theorem L3.nil (w : World) : L3 w (.slice none 0 0) [] := ⟨none, 0, rfl, by simp, by simp, by simp [maxLen], .inl ⟨rfl, rfl⟩⟩
theorem L3.own {w : World} {base : Nat} {e : TypeId} {v : Value} {xs : List T3} (hl : xs.length ≤ 1000) (h : w.ownsRow base e 3 v xs.length (flat3 xs)) : L3 w v xs := by
  rcases h.2 with ⟨rfl, h0⟩ | ⟨g, cap, cur, rfl, hb, _⟩
  · cases xs with
    | nil => exact L3.nil w
    | cons x l => simp at h0
  · obtain ⟨tail, h1, h2, h3, h4, h5⟩ := row_blk h
    refine ⟨_, cap, rfl, hl, h3, h4, .inr ⟨g, 0, rfl, fun i x y z hi => ?_⟩⟩
    obtain ⟨q0, q1, q2⟩ := flat3_get xs i hi
    have kq : ∀ {j : Nat} {u : Value}, (flat3 xs)[j]? = some u → w.cell? ⟨g, 0 + j, none⟩ = some u := fun {j u} hj => by
      rw [Nat.zero_add]; exact h1.cellOf (by rw [List.getElem?_append_left (List.getElem?_eq_some_iff.1 hj).1]; exact hj)
    exact ⟨kq q0, kq q1, kq q2⟩
theorem L3.cells {w : World} {g off n cap : Nat} {xs : List T3} (h : L3 w (.slice (some ⟨g, off, none⟩) n cap) xs) : ∀ j u, (flat3 xs)[j]? = some u → w.cell? ((⟨g, off, none⟩ : Addr).add j) = some u := by
  obtain ⟨a, cap', e, hl, hcp, hm, hc⟩ := h
  cases e
  intro j u hj
  have hjl := (List.getElem?_eq_some_iff.1 hj).1
  rw [flat3_length] at hjl
  rcases hc with ⟨e, _⟩ | ⟨g', off', e, hx⟩
  · cases e
  cases e
  have hi : j / 3 < xs.length := by omega
  obtain ⟨⟨x, y, z⟩, hxi⟩ : ∃ t, xs[j / 3]? = some t := ⟨xs[j / 3], List.getElem?_eq_getElem hi⟩
  obtain ⟨c0, c1, c2⟩ := hx _ _ _ _ hxi
  obtain ⟨q0, q1, q2⟩ := flat3_get xs _ hxi
  have key : w.cell? ⟨g, off + j, none⟩ = some u := by
    have hm3 : j % 3 = 0 ∨ j % 3 = 1 ∨ j % 3 = 2 := by omega
    rcases hm3 with h | h | h
    · have e : j = j / 3 * 3 := by omega
      rw [← e] at q0 c0; rw [q0] at hj; cases hj; exact c0
    · have e : j = j / 3 * 3 + 1 := by omega
      rw [← e] at q1; rw [q1] at hj; cases hj; rw [e, ← Nat.add_assoc]; exact c1
    · have e : j = j / 3 * 3 + 2 := by omega
      rw [← e] at q2; rw [q2] at hj; cases hj; rw [e, ← Nat.add_assoc]; exact c2
  unfold Addr.add
  split
  · rename_i h0; subst h0; exact key
  · exact key
/-- The same list from number k on. -/
theorem L3.drop {w : World} {g off n cap : Nat} {xs : List T3} (h : L3 w (.slice (some ⟨g, off, none⟩) n cap) xs) {k : Nat} (hk : k ≤ xs.length) : L3 w (.slice (some ⟨g, off + k * 3, none⟩) (n - k) (cap - k)) (xs.drop k) := by
  obtain ⟨a, cap', e, hl, hcp, hm, hc⟩ := h
  cases e
  rcases hc with ⟨e, _⟩ | ⟨g', off', e, hx⟩
  · cases e
  cases e
  refine ⟨_, cap - k, by rw [List.length_drop], by simp; omega, by simp; omega, by omega, .inr ⟨g, off + k * 3, rfl, fun i x y z hi => ?_⟩⟩
  rw [List.getElem?_drop] at hi
  have := hx _ _ _ _ hi
  rw [show off + k * 3 + i * 3 = off + (k + i) * 3 by omega]
  exact this
theorem flat3_oneCell (xs : List T3) : ∀ u ∈ flat3 xs, u.oneCell' = true := by
  intro u hu
  obtain ⟨x, _, hx⟩ := List.mem_flatMap.1 hu
  simp at hx
  rcases hx with rfl | rfl | rfl <;> rfl

theorem info_held : (Try.prog.info? 33).map (fun i => (i.zero, i.size, i.bytes)) = some (some (.agg #[.int .i64 0, .int .i64 0, .int .i64 0]), 3, 24) := by kernel_rfl

theorem num_any (n : Int) (w : World) : Calls Try.prog 8 #[.int .i64 n] w fun e w' => e = .returned (.int .i64 n) ∧ w = w' := by
  go_enter Try.func8, Try.ntmps8
  go_wp2
  go_ret
  exact ⟨rfl, rfl⟩
theorem of_any (i n : Int) (w : World) : Calls Try.prog 19 #[.int .i64 i, .int .i64 n] w fun e w' => e = .returned (.agg #[.int .i64 0, .int .i64 i, .int .i64 n]) ∧ w.grownBy w' none := by
  have hb := Blk.new w [.int .i64 0, .int .i64 i, .int .i64 n] 33
  go_enter Try.func19, Try.ntmps19
  go_wp2
  refine bodyPost_ret (results_cell_row rfl _ _ w.heap.size _ _ _ _ rfl hb Try.underlying33 rfl (by kernel_rfl)) rfl ?_
  exact ⟨rfl, g_alloc (g_refl w _) _⟩
end Go.Proofs.Ytjjkhbipeehljaa
