/-
  A feed in memory: bytes, and a place in them; the small functions' contracts.
-/
import Derived.Test.YtkeicoadpdfkkaaProg
import Derived.Test.YtkeicoadpdfkkaaLib
import Derived.Test.YtkeicoadpdfkkaaIter
import Derived.Test.YtkeicoadpdfkkaaStill
import Derived.Test.YtkeicoadpdfkkaaScope
import Derived.Test.YtkeicoadpdfkkaaStage
import Derived.Test.YtkeicoadpdfkkaaKeep
import Derived.WalkSpells
import Derived.WalkLawsBesides
import Derived.BigQuiet
import Derived.StillTailTactics
import Derived.OwnWalk
import Derived.Maps.OwnIn
import Derived.Deep.RegionHeld3
import Derived.Deep.AppendLies
import Derived.Deep.RegionWith
import Derived.Laws.BytesArg
namespace Go.Proofs.Ytkeicoadpdfkkaa
open Go.RowKit

def fb (xs : List Int) : List Value := xs.map (Value.int .u8)
theorem fb_length (xs : List Int) : (fb xs).length = xs.length := by simp [fb]
theorem fb_append (a b : List Int) : fb (a ++ b) = fb a ++ fb b := by simp [fb]
theorem fb_get {xs : List Int} {i : Nat} {x : Int} (h : xs[i]? = some x) : (fb xs)[i]? = some (.int .u8 x) := by simp [fb, h]
theorem fb_oneCell (xs : List Int) : ∀ u ∈ fb xs, u.oneCell' = true := by
  intro u hu
  simp [fb] at hu
  obtain ⟨x, _, rfl⟩ := hu
  rfl

theorem cell_lt {A : World} {p i : Nat} {v : Value} (hc : A.cell? ⟨p, i, none⟩ = some v) : p < A.heap.size := by
  by_cases h : p < A.heap.size
  · exact h
  · have h0 : A.heap[p]? = none := Array.getElem?_eq_none (by omega)
    simp [World.cell?, h0] at hc
theorem row_base {w : World} {base size n : Nat} {e : TypeId} {v : Value} {xs : List Value} (h : w.ownsRow base e size v n xs) (r : Nat) (hr : v.ownBlock = some r) : base ≤ r ∧ r < w.heap.size := by
  rcases h.2 with ⟨rfl, _⟩ | ⟨g, cap, cur, rfl, hb, hg, _⟩
  · simp [Value.ownBlock] at hr
  · simp [Value.ownBlock] at hr
    subst hr
    exact ⟨hb, (Array.getElem?_eq_some_iff.1 hg).1⟩
theorem row_down {w2 : World} {base size n : Nat} {e : TypeId} {v : Value} {xs : List Value} (h : w2.ownsRow base e size v n xs) (base' : Nat) (hb : base' ≤ base) : w2.ownsRow base' e size v n xs := by
  refine ⟨h.1, h.2.imp id ?_⟩
  rintro ⟨g, cap, cur, rfl, hb', h3⟩
  exact ⟨g, cap, cur, rfl, by omega, h3⟩
theorem row_slice {w : World} {base size n : Nat} {e : TypeId} {v : Value} {xs : List Value} (h : w.ownsRow base e size v n xs) : ∃ a c, v = .slice a n c ∧ n ≤ c ∧ c ≤ maxLen := by
  rcases h.2 with ⟨rfl, h0⟩ | ⟨g, cap, cur, rfl, hb, hg, h1, h2, _⟩
  · exact ⟨_, _, by rw [h0], by omega, by simp [maxLen]⟩
  · exact ⟨_, _, rfl, h1, h2⟩
theorem grownBy_setCell'' (W : World) (b i : Nat) (v : Value) : W.grownBy (W.setCell ⟨b, i, none⟩ v) (some b) :=
  ⟨rfl, rfl, rfl, (KeepsWalks.setCell W _ v).size, fun k _ hk => Below.heap_setCell _ _ _ k (fun e => hk (by rw [e]))⟩
theorem g_drewN {w w1 : World} {row : Option Nat} (h : w.grownBy w1 none) (_ : row = row) : w.grownBy w1.drew row := ⟨h.os, h.tape, h.output, h.size, fun i hi _ => h.block i hi (by simp)⟩
theorem g_drewM {w w1 : World} {row : Option Nat} (h : w.grownBy w1 row) (n : Nat) : w.grownBy (w1.drewN n) row := ⟨h.os, h.tape, h.output, h.size, h.block⟩
theorem drewN_cell (w : World) (n : Nat) (a : Addr) : (w.drewN n).cell? a = w.cell? a := rfl

/-- A slice that reads as a list of bytes, from wherever it begins. -/
def LB (w : World) (v : Value) (xs : List Int) : Prop :=
  ∃ (a : Option Addr) (cap : Nat), v = .slice a xs.length cap ∧ xs.length ≤ 20000 ∧ xs.length ≤ cap ∧ cap ≤ maxLen ∧ (0 < xs.length → ∃ g off, a = some ⟨g, off, none⟩ ∧
    ∀ (i : Nat) (x : Int), xs[i]? = some x → w.cell? ⟨g, off + i, none⟩ = some (.int .u8 x))
theorem LB.kept {w w' : World} {v : Value} {xs : List Int} {row : Option Nat} (h : LB w v xs) (hg : w.grownBy w' row) (hne : ∀ r, row = some r → v.ownBlock ≠ some r) : LB w' v xs := by
  obtain ⟨a, cap, rfl, hl, hcp, hm, hc⟩ := h
  refine ⟨a, cap, rfl, hl, hcp, hm, fun h0 => ?_⟩
  obtain ⟨g, off, rfl, hx⟩ := hc h0
  exact ⟨g, off, rfl, fun i x hi => by rw [← hx i x hi]; exact g_cell (a := ⟨g, off + i, none⟩) hg (cell_lt (hx i x hi)) (fun e => hne g e.symm rfl)⟩
theorem LB.keptN {w w' : World} {v : Value} {xs : List Int} (h : LB w v xs) (hg : w.grownBy w' none) : LB w' v xs := h.kept hg (fun r e => by cases e)
theorem LB.nil (w : World) (a : Option Addr) (cap : Nat) (hc : cap ≤ maxLen) : LB w (.slice a 0 cap) [] := ⟨a, cap, rfl, by simp, by simp, hc, fun h => by simp at h⟩
theorem LB.own {w : World} {base : Nat} {e : TypeId} {v : Value} {xs : List Int} (hl : xs.length ≤ 20000) (h : w.ownsRow base e 1 v xs.length (fb xs)) : LB w v xs := by
  rcases h.2 with ⟨rfl, h0⟩ | ⟨g, cap, cur, rfl, hb, _⟩
  · cases xs with
    | nil => exact LB.nil w none 0 (by simp)
    | cons x l => simp at h0
  · obtain ⟨tail, h1, h2, h3, h4, h5⟩ := row_blk h
    exact ⟨_, cap, rfl, hl, h3, h4, fun _ => ⟨g, 0, rfl, fun i x hi => by
      rw [Nat.zero_add]
      have := fb_get hi
      exact h1.cellOf (by rw [List.getElem?_append_left (List.getElem?_eq_some_iff.1 this).1]; exact this)⟩⟩
theorem LB.cells {w : World} {ad : Addr} {n cap : Nat} {xs : List Int} (h : LB w (.slice (some ad) n cap) xs) : ∀ j u, (fb xs)[j]? = some u → w.cell? (ad.add j) = some u := by
  obtain ⟨a, cap', e, hl, hcp, hm, hc⟩ := h
  cases e
  intro j u hj
  have hjl := (List.getElem?_eq_some_iff.1 hj).1
  rw [fb_length] at hjl
  obtain ⟨g, off, e, hx⟩ := hc (by omega)
  cases e
  have hxi : xs[j]? = some (xs[j]) := List.getElem?_eq_getElem hjl
  have := fb_get hxi
  rw [this] at hj
  cases hj
  have key := hx j _ hxi
  unfold Addr.add
  split
  · rename_i h0; subst h0; exact key
  · exact key
theorem LB.at {w : World} {v : Value} {xs : List Int} (h : LB w v xs) {k : Nat} {x : Int} (hk : xs[k]? = some x) : ∃ g off cap, v = .slice (some ⟨g, off, none⟩) xs.length cap ∧ w.cell? ⟨g, off + k, none⟩ = some (.int .u8 x) := by
  obtain ⟨a, cap, rfl, hl, hcp, hm, hc⟩ := h
  have := (List.getElem?_eq_some_iff.1 hk).1
  obtain ⟨g, off, rfl, hx⟩ := hc (by omega)
  exact ⟨g, off, cap, rfl, hx _ _ hk⟩
/-- The first m of them. -/
theorem LB.take {w : World} {a : Option Addr} {n cap : Nat} {xs : List Int} (h : LB w (.slice a n cap) xs) {m : Nat} (hm : m ≤ xs.length) : LB w (.slice a m cap) (xs.take m) := by
  obtain ⟨a', cap', e, hl, hcp, hmx, hc⟩ := h
  cases e
  have hlt : (xs.take m).length = m := by simp; omega
  refine ⟨a, cap, by rw [hlt], by omega, by omega, hmx, fun h0 => ?_⟩
  obtain ⟨g, off, rfl, hx⟩ := hc (by omega)
  exact ⟨g, off, rfl, fun i x hi => hx i x (by rw [← hi, List.getElem?_take_of_lt (by have := (List.getElem?_eq_some_iff.1 hi).1; omega)])⟩
/-- Those from number k on. -/
theorem LB.drop {w : World} {g off n cap : Nat} {xs : List Int} (h : LB w (.slice (some ⟨g, off, none⟩) n cap) xs) {k : Nat} (hk : k ≤ xs.length) : LB w (.slice (if cap = k then some ⟨g, off, none⟩ else some ⟨g, off + k, none⟩) (n - k) (cap - k)) (xs.drop k) := by
  obtain ⟨a', cap', e, hl, hcp, hmx, hc⟩ := h
  cases e
  refine ⟨_, cap - k, by rw [List.length_drop], by simp; omega, by simp; omega, by omega, fun h0 => ?_⟩
  simp at h0
  obtain ⟨g', off', e, hx⟩ := hc (by omega)
  cases e
  refine ⟨g, off + k, by rw [if_neg (by omega)], fun i x hi => ?_⟩
  rw [List.getElem?_drop] at hi
  rw [show off + k + i = off + (k + i) by omega]
  exact hx _ _ hi

theorem info_byte : (Try.prog.info? 5).map (fun i => (i.zero, i.size, i.bytes)) = some (some (.int .u8 0), 1, 1) := by kernel_rfl

theorem num_any (n : Int) (w : World) : Calls Try.prog 10 #[.int .i64 n] w fun e w' => e = .returned (.int .i64 n) ∧ w = w' := by
  go_enter Try.func10, Try.ntmps10
  go_wp2
  go_ret
  exact ⟨rfl, rfl⟩

/-- A clone of bytes. -/
theorem clone_any (v : Value) (xs : List Int) (w : World) (h : LB w v xs) :
    Calls Try.prog 21 #[v] w fun e w' => ∃ v', e = .returned v' ∧ w'.ownsRow w.heap.size 5 1 v' xs.length (fb xs) ∧ w.grownBy w' none := by
  obtain ⟨i0, hi, hz0, hz1, hz2⟩ := info_parts info_byte
  have hfl := fb_length xs
  obtain ⟨a, cap, hv, hl, hcp, hm, hc⟩ := id h
  subst hv
  have qT : ∀ (w : World) (a : Option Addr) (n c : Nat), (binOp .eql 22 (.slice a n c) (.slice none 0 0)).run Try.prog w = .ok (.bool a.isNone) w := fun w a n c => Lib.run_eql_slice_nil w _ _ a n c 0 0 Try.underlying22
  cases a with
  | none =>
    have hx : xs = [] := by
      rcases Nat.eq_zero_or_pos xs.length with h0 | h0
      · exact List.length_eq_zero_iff.1 h0
      · obtain ⟨g, off, e, _⟩ := hc h0
        cases e
    subst hx
    clear hc
    go_enter Try.func21, Try.ntmps21
    go_wp2
    go_ret
    exact ⟨_, rfl, World.ownsRow_nil _ _ _ _, g_refl _ _⟩
  | some ad =>
    clear hc
    have hrow : (w.alloc (.cells #[] 5)).ownsRow w.heap.size 5 1 (.slice (some ⟨w.heap.size, 0, none⟩) 0 0) 0 [] := World.ownsRow_made w #[] 0 (Nat.le_refl _) (by simp [maxLen]) rfl
    have h' := h.keptN (g_alloc (g_refl w none) (.cells #[] 5))
    go_enter Try.func21, Try.ntmps21
    go_wp2_with (at_builtin; refine wpList_append_own _ rfl _ _ 22 rfl w.heap.size 5 i0 (.int .u8 0) 1 1 Try.underlying22 hi hz0 hz1 hz2 rfl (by decide) _ _ _ rfl hrow ad xs.length cap (fb xs) rfl (by omega) h'.cells (fb_oneCell xs) (by unfold maxLen at *; omega) (by omega) (by simp) ?_; intro v' w1 hown' hgrow hnn)
    go_ret
    simp only [Nat.zero_add, List.nil_append] at hown'
    exact ⟨v', rfl, hown', g_new (g_alloc (g_refl w _) _) hgrow (Nat.le_refl _)⟩
/-- The same, of a feed's own bytes. -/
theorem cloneF_any (v : Value) (xs : List Int) (w : World) (h : LB w v xs) :
    Calls Try.prog 23 #[v] w fun e w' => ∃ v', e = .returned v' ∧ w'.ownsRow w.heap.size 5 1 v' xs.length (fb xs) ∧ w.grownBy w' none := by
  obtain ⟨i0, hi, hz0, hz1, hz2⟩ := info_parts info_byte
  have hfl := fb_length xs
  obtain ⟨a, cap, hv, hl, hcp, hm, hc⟩ := id h
  subst hv
  have qT : ∀ (w : World) (a : Option Addr) (n c : Nat), (binOp .eql 53 (.slice a n c) (.slice none 0 0)).run Try.prog w = .ok (.bool a.isNone) w := fun w a n c => Lib.run_eql_slice_nil w _ _ a n c 0 0 Try.underlying53
  cases a with
  | none =>
    have hx : xs = [] := by
      rcases Nat.eq_zero_or_pos xs.length with h0 | h0
      · exact List.length_eq_zero_iff.1 h0
      · obtain ⟨g, off, e, _⟩ := hc h0
        cases e
    subst hx
    clear hc
    go_enter Try.func23, Try.ntmps23
    go_wp2
    go_ret
    exact ⟨_, rfl, World.ownsRow_nil _ _ _ _, g_refl _ _⟩
  | some ad =>
    clear hc
    have hrow : (w.alloc (.cells #[] 5)).ownsRow w.heap.size 5 1 (.slice (some ⟨w.heap.size, 0, none⟩) 0 0) 0 [] := World.ownsRow_made w #[] 0 (Nat.le_refl _) (by simp [maxLen]) rfl
    have h' := h.keptN (g_alloc (g_refl w none) (.cells #[] 5))
    go_enter Try.func23, Try.ntmps23
    go_wp2_with (at_builtin; refine wpList_append_own _ rfl _ _ 53 rfl w.heap.size 5 i0 (.int .u8 0) 1 1 Try.underlying53 hi hz0 hz1 hz2 rfl (by decide) _ _ _ rfl hrow ad xs.length cap (fb xs) rfl (by omega) h'.cells (fb_oneCell xs) (by unfold maxLen at *; omega) (by omega) (by simp) ?_; intro v' w1 hown' hgrow hnn)
    go_ret
    simp only [Nat.zero_add, List.nil_append] at hown'
    exact ⟨v', rfl, hown', g_new (g_alloc (g_refl w _) _) hgrow (Nat.le_refl _)⟩
end Go.Proofs.Ytkeicoadpdfkkaa
