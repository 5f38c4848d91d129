/-
  FifoPlays at whatever arguments can be read.
-/
import Derived.Test.YtjjkhbipeehljaaFifoPlays
namespace Go.Proofs.Ytjjkhbipeehljaa
open Go.RowKit

set_option maxRecDepth 100000 in
set_option maxHeartbeats 2000000 in
theorem plays_else (M Y : Int) (a0 : Option Addr) (len0 cap0 : Nat) (w : World) (hl : len0 ≤ 9223372036854775807) (h : 60 < len0 ∨ boundB M Y = false) :
    Calls Try.prog 4 #[.agg #[.int .i64 M, .int .i64 Y], .slice a0 len0 cap0] w fun e w' => e = .returned (.bool true) ∧ w.grownBy w' none := by
  have hgA := g_alloc (g_refl w none) (.cells #[.int .i64 M, .int .i64 Y] 22)
  have bB := Blk.new w [.int .i64 M, .int .i64 Y] 22
  have kb0 := bB.cellOf (i := 0) rfl
  have kb1 := bB.cellOf (i := 1) rfl
  by_cases h0 : 60 < len0
  · go_enter Try.func4, Try.ntmps4
    go_wp2_with fail
    refine (works_true _).mono ?_
    rintro e w1 ⟨rfl, hg⟩
    go_wp2
    go_ret
    exact ⟨rfl, g_none hgA hg⟩
  have hb : boundB M Y = false := h.resolve_left h0
  clear h
  have h60 : ¬ (60 < (len0 : Int)) := by omega
  go_enter Try.func4, Try.ntmps4
  go_wp2_with fail
  refine (new_no M Y _ hb).mono ?_
  rintro e w1 ⟨rfl, hg1⟩
  have hb1 := bB.keptN hg1
  have q0 := hb1.cellOf (i := 0) rfl
  have q1 := hb1.cellOf (i := 1) rfl
  have g1 := g_none hgA hg1
  go_wp2_with fail
  refine (refNew_no M Y _ hb).mono ?_
  rintro e w2 ⟨rfl, hg2⟩
  have g2 := g_alloc (g_none g1 hg2) (.cells #[.int .i64 0, .int .i64 0, .slice none 0 0] 39)
  go_wp2_with fail
  refine (none_any2 _ _).mono ?_
  rintro e w3 ⟨rfl, hg3⟩
  have g3 := g_none g2 hg3
  go_wp2_with (go_at_call 8; refine (num_any _ _).mono ?_; rintro e _ ⟨rfl, rfl⟩)
  refine (works_true _).mono ?_
  rintro e w4 ⟨rfl, hg⟩
  go_wp2
  go_ret
  exact ⟨rfl, g_none g3 hg⟩

theorem plays_law (B : Nat → Int) (a0 : Option Addr) (len0 cap0 : Nat) (A : Nat → Nat → Int) (w : World)
    (_ : ∀ (j : Nat) (k : IntKind), [IntKind.i64, IntKind.i64][j]? = some k → (Lit.int k (B j)).wf = true) (h0 : len0 ≤ cap0) (h1 : cap0 ≤ 9223372036854775807) (hA : RowAt w a0 len0 [.i64, .i64, .i64, .i64] A) :
    Calls Try.prog 4 #[.agg #[.int .i64 (B 0), .int .i64 (B 1)], .slice a0 len0 cap0] w fun e w' => e = .returned (.bool true) ∧ w.grownBy w' none := by
  by_cases h : 60 < len0 ∨ boundB (B 0) (B 1) = false
  · exact plays_else _ _ a0 len0 cap0 w (by omega) h
  · exact plays_walk _ _ (by cases hb : boundB (B 0) (B 1) with
      | true => rfl
      | false => exact absurd (Or.inr hb) h) a0 len0 cap0 A w (acts_of_row hA) (by omega)
end Go.Proofs.Ytjjkhbipeehljaa
