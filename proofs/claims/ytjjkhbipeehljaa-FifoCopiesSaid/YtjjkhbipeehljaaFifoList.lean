/-
  A quarantine in memory: a list of one's own, with one thing more; what may be; where a thing lies in a quarantine; what there is not.
-/
import Derived.Test.YtjjkhbipeehljaaFifoFind
namespace Go.Proofs.Ytjjkhbipeehljaa
open Go.RowKit

/-- A quarantine: its bounds, and what it holds, ahead in the order in which it came. -/
def FifoAt (w : World) (p : Nat) (M Y : Int) (v : Value) (xs : List T3) : Prop :=
  Blk w p 64 [.int .i64 M, .int .i64 Y, v, .bool true] ∧ L3 w v xs ∧ v.ownBlock ≠ some p
theorem FifoAt.kept {w w' : World} {p : Nat} {M Y : Int} {v : Value} {xs : List T3} {row : Option Nat} (h : FifoAt w p M Y v xs) (hg : w.grownBy w' row) (h1 : some p ≠ row) (h2 : ∀ r, row = some r → v.ownBlock ≠ some r) : FifoAt w' p M Y v xs :=
  ⟨h.1.kept hg h1, h.2.1.kept hg h2, h.2.2⟩
theorem FifoAt.keptN {w w' : World} {p : Nat} {M Y : Int} {v : Value} {xs : List T3} (h : FifoAt w p M Y v xs) (hg : w.grownBy w' none) : FifoAt w' p M Y v xs :=
  h.kept hg (by simp) (fun r e => by cases e)
theorem FifoAt.facts {w : World} {p : Nat} {M Y : Int} {v : Value} {xs : List T3} (h : FifoAt w p M Y v xs) :
    w.cell? ⟨p, 0, none⟩ = some (.int .i64 M) ∧ w.cell? ⟨p, 1, none⟩ = some (.int .i64 Y) ∧ w.cell? ⟨p, 2, none⟩ = some v ∧ w.cell? ⟨p, 3, none⟩ = some (.bool true) ∧ p < w.heap.size :=
  ⟨h.1.cellOf rfl, h.1.cellOf rfl, h.1.cellOf rfl, h.1.cellOf rfl, h.1.lt⟩

theorem none_some (w : World) (p : Nat) (M Y : Int) (v : Value) (xs : List T3) (h : FifoAt w p M Y v xs) :
    Calls Try.prog 22 #[.pointer (some ⟨p, 0, none⟩)] w fun e w' => e = .returned (.bool false) ∧ w = w' := by
  obtain ⟨c0, c1, c2, c3, hl⟩ := h.facts
  go_enter Try.func22, Try.ntmps22
  go_wp2
  go_ret
  exact ⟨rfl, rfl⟩

/-- No quarantine: nil, or one that New did not make. -/
def IsNone (w : World) (v : Option Addr) : Prop := v = none ∨ ∃ p : Nat, v = some ⟨p, 0, none⟩ ∧ w.cell? ⟨p, 3, none⟩ = some (.bool false)
theorem none_none (w : World) (v : Option Addr) (h : IsNone w v) :
    Calls Try.prog 22 #[.pointer v] w fun e w' => e = .returned (.bool true) ∧ w = w' := by
  rcases h with rfl | ⟨p, rfl, c3⟩
  · go_enter Try.func22, Try.ntmps22
    go_wp2
    go_ret
    exact ⟨rfl, rfl⟩
  · go_enter Try.func22, Try.ntmps22
    go_wp2
    go_ret
    exact ⟨rfl, rfl⟩

theorem at_any (w : World) (p : Nat) (M Y : Int) (v : Value) (xs : List T3) (c i : Int) (h : FifoAt w p M Y v xs) :
    Calls Try.prog 23 #[.pointer (some ⟨p, 0, none⟩), .int .i64 c, .int .i64 i] w fun e w' => e = .returned (.int .i64 (atOf xs c i)) ∧ w.grownBy w' none := by
  have hgA := g_alloc (g_alloc (g_refl w none) (.cells #[.int .i64 c] 3)) (.cells #[.int .i64 i] 3)
  have h' := h.keptN hgA
  have b1 := ((Blk.new w [.int .i64 c] 3).alloc (.cells #[.int .i64 i] 3)).cellOf (i := 0) rfl
  have b2 := (Blk.new (w.alloc (.cells #[.int .i64 c] 3)) [.int .i64 i] 3).cellOf (i := 0) rfl
  rw [World.size_alloc] at b2
  obtain ⟨c0, c1, c2, c3, hl⟩ := h'.facts
  obtain ⟨a, cap, hv, _⟩ := id h.2.1
  subst hv
  go_enter Try.func23, Try.ntmps23
  go_wp2_with fail
  refine (idx3_any c i _ _ xs _ _ h'.2.1 b1 b2).mono ?_
  rintro e w2 ⟨rfl, hg2⟩
  go_wp2
  go_ret
  exact ⟨rfl, g_none hgA hg2⟩

def fitB (M Y : Int) (n : Int) (s : Int) : Bool := decide (n ≤ M) && decide (s ≤ Y)
theorem fit_any (M Y n s : Int) (w : World) :
    Calls Try.prog 43 #[.agg #[.int .i64 M, .int .i64 Y], .int .i64 n, .int .i64 s] w fun e w' => e = .returned (.bool (fitB M Y n s)) ∧ w.grownBy w' none := by
  have hgA := g_alloc (g_refl w none) (.cells #[.int .i64 M, .int .i64 Y] 62)
  by_cases h : n ≤ M
  · go_enter Try.func43, Try.ntmps43
    go_wp2
    go_ret
    exact ⟨by simp [fitB, h], hgA⟩
  · have e : decide (n ≤ M) = false := by simp; omega
    go_enter Try.func43, Try.ntmps43
    go_wp2
    go_ret
    exact ⟨by simp [fitB, e], hgA⟩

theorem clone3_any (v : Value) (xs : List T3) (w : World) (h : L3 w v xs) :
    Calls Try.prog 34 #[v] w fun e w' => ∃ v', e = .returned v' ∧ w'.ownsRow w.heap.size 33 3 v' xs.length (flat3 xs) ∧ w.grownBy w' none := by
  obtain ⟨i0, hi, hz0, hz1, hz2⟩ := info_parts info_held
  have hfl := flat3_length xs
  obtain ⟨a, cap, hv, hl, hcp, hm, hc⟩ := id h
  subst hv
  rcases hc with ⟨rfl, rfl⟩ | ⟨g, off, rfl, _⟩
  · go_enter Try.func34, Try.ntmps34
    have qT : ∀ (w : World) (a : Option Addr) (n c : Nat), (binOp .eql 23 (.slice a n c) (.slice none 0 0)).run Try.prog w = .ok (.bool a.isNone) w := fun w a n c => Lib.run_eql_slice_nil w _ _ a n c 0 0 Try.underlying23
    go_wp2
    go_ret
    exact ⟨_, rfl, World.ownsRow_nil _ _ _ _, g_refl _ _⟩
  · skip
    have hrow : (w.alloc (.cells #[] 33)).ownsRow w.heap.size 33 3 (.slice (some ⟨w.heap.size, 0, none⟩) 0 0) 0 [] := World.ownsRow_made w #[] 0 (Nat.le_refl _) (by simp [maxLen]) rfl
    have h' := h.keptN (g_alloc (g_refl w none) (.cells #[] 33))
    have qT : ∀ (w : World) (a : Option Addr) (n c : Nat), (binOp .eql 23 (.slice a n c) (.slice none 0 0)).run Try.prog w = .ok (.bool a.isNone) w := fun w a n c => Lib.run_eql_slice_nil w _ _ a n c 0 0 Try.underlying23
    go_enter Try.func34, Try.ntmps34
    go_wp2_with (at_builtin; refine wpList_append_own _ rfl _ _ 23 rfl w.heap.size 33 i0 (.agg #[.int .i64 0, .int .i64 0, .int .i64 0]) 3 24 Try.underlying23 hi hz0 hz1 hz2 rfl (by decide) _ _ _ rfl hrow ⟨g, off, none⟩ xs.length cap (flat3 xs) rfl (by omega) h'.cells (flat3_oneCell xs) (by unfold maxLen at *; omega) (by omega) (by simp) ?_; intro v' w1 hown' hgrow hnn)
    go_ret
    simp only [Nat.zero_add, List.nil_append] at hown'
    exact ⟨v', rfl, hown', g_new (g_alloc (g_refl w _) _) hgrow (Nat.le_refl _)⟩
end Go.Proofs.Ytjjkhbipeehljaa
