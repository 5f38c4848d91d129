/-
  Are two quarantines the same?
-/
import Derived.Test.YtjjkhbipeehljaaFifoMore
namespace Go.Proofs.Ytjjkhbipeehljaa
open Go.RowKit

theorem same_some (p q : Nat) (M1 Y1 M2 Y2 : Int) (v u : Value) (xs ys : List T3) (w : World) (h : FifoAt w p M1 Y1 v xs) (h' : FifoAt w q M2 Y2 u ys) :
    Calls Try.prog 15 #[.pointer (some ⟨p, 0, none⟩), .pointer (some ⟨q, 0, none⟩)] w fun e w' => e = .returned (.bool (decide (M1 = M2 ∧ Y1 = Y2 ∧ xs = ys))) ∧ ∃ n, w.drewN n = w' := by
  obtain ⟨c0, c1, c2, c3, hpl⟩ := h.facts
  obtain ⟨d0, d1, d2, d3, hql⟩ := h'.facts
  obtain ⟨a1, cap1, hv, _⟩ := id h.2.1
  obtain ⟨a2, cap2, hu, _⟩ := id h'.2.1
  subst hv hu
  have H := hid h
  have H' := hid h'
  have heq : ∀ n, Calls Try.prog 33 #[.slice a1 xs.length cap1, .slice a2 ys.length cap2] (w.drewN n) fun e w' => e = .returned (.bool (decide (xs = ys))) ∧ ∃ m, w' = w.drewN m := fun n => Calls.quiet_of ((equal_any _ _ xs ys (w.drewN n) (h.2.1.keptN (g_drewM (g_refl w none) n)) (h'.2.1.keptN (g_drewM (g_refl w none) n))).mono (by rintro e w2 ⟨rfl, n2, rfl⟩; exact ⟨rfl, n2, rfl⟩))
  have HE := hid heq
  clear h h' heq
  by_cases hM : M1 = M2
  · by_cases hY : Y1 = Y2
    · subst hM hY
      go_enter Try.func15, Try.ntmps15
      go_wp2_with fail
      refine (none_some _ p M1 Y1 _ xs H.out).mono ?_
      rintro e w1 ⟨rfl, rfl⟩
      go_wp2_with fail
      refine (none_some _ q M1 Y1 _ ys H'.out).mono ?_
      rintro e w1 ⟨rfl, rfl⟩
      go_wp2_with fail
      go_quiet ((go_at_call 33; exact HE.out _))
      go_wp2
      go_ret
      exact ⟨by simp, _, rfl⟩
    · have hY' : (Y1 == Y2) = false := by simpa using hY
      subst hM
      go_enter Try.func15, Try.ntmps15
      go_wp2_with fail
      refine (none_some _ p M1 Y1 _ xs H.out).mono ?_
      rintro e w1 ⟨rfl, rfl⟩
      go_wp2_with fail
      refine (none_some _ q M1 Y2 _ ys H'.out).mono ?_
      rintro e w1 ⟨rfl, rfl⟩
      go_wp2_with fail
      go_quiet (fail)
      go_wp2
      go_ret
      exact ⟨by simp [hY], _, rfl⟩
  · have hM' : (M1 == M2) = false := by simpa using hM
    go_enter Try.func15, Try.ntmps15
    go_wp2_with fail
    refine (none_some _ p M1 Y1 _ xs H.out).mono ?_
    rintro e w1 ⟨rfl, rfl⟩
    go_wp2_with fail
    refine (none_some _ q M2 Y2 _ ys H'.out).mono ?_
    rintro e w1 ⟨rfl, rfl⟩
    go_wp2_with fail
    go_quiet (fail)
    go_wp2
    go_ret
    exact ⟨by simp [hM], _, rfl⟩
theorem same_sn (p : Nat) (M Y : Int) (v : Value) (xs : List T3) (u : Option Addr) (w : World) (h : FifoAt w p M Y v xs) (h' : IsNone w u) :
    Calls Try.prog 15 #[.pointer (some ⟨p, 0, none⟩), .pointer u] w fun e w' => e = .returned (.bool false) ∧ w = w' := by
  go_enter Try.func15, Try.ntmps15
  go_wp2_with fail
  refine (none_some _ p M Y v xs h).mono ?_
  rintro e w1 ⟨rfl, rfl⟩
  go_wp2_with fail
  refine (none_none _ u h').mono ?_
  rintro e w1 ⟨rfl, rfl⟩
  go_wp2_with fail
  refine (none_some _ p M Y v xs h).mono ?_
  rintro e w1 ⟨rfl, rfl⟩
  go_wp2
  go_ret
  exact ⟨rfl, rfl⟩
theorem same_ns (p : Nat) (M Y : Int) (v : Value) (xs : List T3) (u : Option Addr) (w : World) (h : FifoAt w p M Y v xs) (h' : IsNone w u) :
    Calls Try.prog 15 #[.pointer u, .pointer (some ⟨p, 0, none⟩)] w fun e w' => e = .returned (.bool false) ∧ w = w' := by
  go_enter Try.func15, Try.ntmps15
  go_wp2_with fail
  refine (none_none _ u h').mono ?_
  rintro e w1 ⟨rfl, rfl⟩
  go_wp2_with fail
  refine (none_none _ u h').mono ?_
  rintro e w1 ⟨rfl, rfl⟩
  go_wp2_with fail
  refine (none_some _ p M Y v xs h).mono ?_
  rintro e w1 ⟨rfl, rfl⟩
  go_wp2
  go_ret
  exact ⟨rfl, rfl⟩
theorem same_none (v u : Option Addr) (w : World) (h : IsNone w v) (h' : IsNone w u) :
    Calls Try.prog 15 #[.pointer v, .pointer u] w fun e w' => e = .returned (.bool true) ∧ w = w' := by
  go_enter Try.func15, Try.ntmps15
  go_wp2_with fail
  refine (none_none _ v h).mono ?_
  rintro e w1 ⟨rfl, rfl⟩
  go_wp2_with fail
  refine (none_none _ v h).mono ?_
  rintro e w1 ⟨rfl, rfl⟩
  go_wp2_with fail
  refine (none_none _ u h').mono ?_
  rintro e w1 ⟨rfl, rfl⟩
  go_wp2
  go_ret
  exact ⟨rfl, rfl⟩
end Go.Proofs.Ytjjkhbipeehljaa
