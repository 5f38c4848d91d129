/-
  FifoCopies at whatever arguments can be read.
-/
import Derived.Test.YtjjkhbipeehljaaFifoCopies
namespace Go.Proofs.Ytjjkhbipeehljaa
open Go.RowKit

set_option maxRecDepth 100000 in
set_option maxHeartbeats 2000000 in
theorem copies_else (M Y : Int) (a0 : Option Addr) (len0 cap0 : Nat) (B : Nat → Int) (w : World) (hl : len0 ≤ 9223372036854775807) (h : 30 < len0 ∨ boundB M Y = false) :
    Calls Try.prog 5 #[.agg #[.int .i64 M, .int .i64 Y], .slice a0 len0 cap0, .agg #[.int .i64 (B 0), .int .i64 (B 1), .int .i64 (B 2), .int .i64 (B 3), .int .i64 (B 4), .int .i64 (B 5), .int .i64 (B 6), .int .i64 (B 7)]] w fun e w' => e = .returned (.bool true) ∧ w.grownBy w' none := by
  have hgA := g_alloc (g_alloc (g_refl w none) (.cells #[.int .i64 M, .int .i64 Y] 22)) (.cells #[.int .i64 (B 0), .int .i64 (B 1), .int .i64 (B 2), .int .i64 (B 3), .int .i64 (B 4), .int .i64 (B 5), .int .i64 (B 6), .int .i64 (B 7)] 50)
  have bB := (Blk.new w [.int .i64 M, .int .i64 Y] 22).alloc (.cells #[.int .i64 (B 0), .int .i64 (B 1), .int .i64 (B 2), .int .i64 (B 3), .int .i64 (B 4), .int .i64 (B 5), .int .i64 (B 6), .int .i64 (B 7)] 50)
  have kb0 := bB.cellOf (i := 0) rfl
  have kb1 := bB.cellOf (i := 1) rfl
  cases hb : boundB M Y with
  | true =>
    have h0 : 30 < len0 := h.resolve_right (by rw [hb]; simp)
    have HB := hid hb
    clear h hb
    go_enter Try.func5, Try.ntmps5
    go_wp2_with fail
    refine (new_yes M Y _ HB.out).mono ?_
    rintro e w1 ⟨p, rfl, _, hg1, _⟩
    have hb1 := bB.keptN hg1
    have q0 := hb1.cellOf (i := 0) rfl
    have q1 := hb1.cellOf (i := 1) rfl
    have g1 := g_none hgA hg1
    go_wp2_with fail
    refine (refNew_yes M Y _ HB.out).mono ?_
    rintro e w2 ⟨rfl, hg2⟩
    have g2 := g_alloc (g_none g1 hg2) (.cells #[.int .i64 M, .int .i64 Y, .slice none 0 0] 39)
    go_wp2_with fail
    refine (works_true _).mono ?_
    rintro e w4 ⟨rfl, hg⟩
    go_wp2
    go_ret
    exact ⟨rfl, g_none g2 hg⟩
  | false =>
    have HB := hid hb
    clear h hb
    by_cases h0 : 30 < len0
    all_goals
      have h30 := h0
      clear h0
      go_enter Try.func5, Try.ntmps5
      go_wp2_with fail
      refine (new_no M Y _ HB.out).mono ?_
      rintro e w1 ⟨rfl, hg1⟩
      have hb1 := bB.keptN hg1
      have q0 := hb1.cellOf (i := 0) rfl
      have q1 := hb1.cellOf (i := 1) rfl
      have g1 := g_none hgA hg1
      go_wp2_with fail
      refine (refNew_no M Y _ HB.out).mono ?_
      rintro e w2 ⟨rfl, hg2⟩
      have g2 := g_alloc (g_none g1 hg2) (.cells #[.int .i64 0, .int .i64 0, .slice none 0 0] 39)
      go_wp2_with fail
      refine (works_true _).mono ?_
      rintro e w4 ⟨rfl, hg⟩
      go_wp2
      go_ret
      exact ⟨rfl, g_none g2 hg⟩

theorem copies_law (C : Nat → Int) (a0 : Option Addr) (len0 cap0 : Nat) (A : Nat → Nat → Int) (B : Nat → Int) (w : World)
    (_ : ∀ (j : Nat) (k : IntKind), [IntKind.i64, IntKind.i64][j]? = some k → (Lit.int k (C j)).wf = true) (h0 : len0 ≤ cap0) (h1 : cap0 ≤ 9223372036854775807) (hA : RowAt w a0 len0 [.i64, .i64, .i64, .i64] A)
    (_ : ∀ (j : Nat) (k : IntKind), [IntKind.i64, IntKind.i64, IntKind.i64, IntKind.i64, IntKind.i64, IntKind.i64, IntKind.i64, IntKind.i64][j]? = some k → (Lit.int k (B j)).wf = true) :
    Calls Try.prog 5 #[.agg #[.int .i64 (C 0), .int .i64 (C 1)], .slice a0 len0 cap0, .agg #[.int .i64 (B 0), .int .i64 (B 1), .int .i64 (B 2), .int .i64 (B 3), .int .i64 (B 4), .int .i64 (B 5), .int .i64 (B 6), .int .i64 (B 7)]] w fun e w' => e = .returned (.bool true) ∧ w.grownBy w' none := by
  by_cases h : 30 < len0 ∨ boundB (C 0) (C 1) = false
  · exact copies_else _ _ a0 len0 cap0 B w (by omega) h
  · exact copies_walk _ _ (by cases hb : boundB (C 0) (C 1) with
      | true => rfl
      | false => exact absurd (Or.inr hb) h) a0 len0 cap0 A B w (acts_of_row hA) (by omega)
end Go.Proofs.Ytjjkhbipeehljaa
