/-
  LockPlays, walked.
-/
import Derived.Test.YtnpimkigiioiaaaLockIs
namespace Go.Proofs.Ytnpimkigiioiaaa
open Go.RowKit
set_option maxRecDepth 100000

set_option maxHeartbeats 8000000 in
theorem plays_walk (n : Nat) (hn : n ≤ 64) (a0 : Option Addr) (len0 cap0 : Nat) (A : Nat → Nat → Int) (w : World) (hA : ActsAt w a0 len0 A) (hl0 : len0 ≤ 60) :
    Calls Try.prog 5 #[.int .i64 n, .slice a0 len0 cap0] w fun e w' => e = .returned (.bool true) ∧ w.grownBy w' none := by
  have h60 : ¬ (60 < (len0 : Int)) := by omega
  have HA := hid hA
  clear hA
  go_enter Try.func5, Try.ntmps5
  go_wp2_with fail
  refine (lnew_yes n hn w).mono ?_
  rintro e w1 ⟨p, pc, g, rfl, hL1, hg1, hp, hpc, hgg⟩
  go_wp2_with fail
  refine (refNew_yes n hn w1).mono ?_
  rintro e w2 ⟨v, rfl, hI2, hg2, hv2⟩
  go_wp2_with fail
  refine (none_any _ w2).mono ?_
  rintro e w3 ⟨rfl, hg3⟩
  have hg23 := g_none hg2 hg3
  have hL2 := hL1.keptN hg23
  have hgg2 : w.grownBy w3 none := g_none hg1 hg23
  have hne2 : (List.replicate n (-1 : Int)) ≠ [] → v.ownBlock ≠ some g := fun _ e => by
    have h1 := hv2 g e
    have h2 := hL1.lt
    omega
  have H2 := hid (And.intro hL2 (And.intro (hI2.keptN hg3) (And.intro hgg2 hne2)))
  clear hL1 hg1 hp hpc hI2 hg2 hg3 hg23 hv2 hL2 hgg2 hne2
  go_wp2_with fail
  go_loopw [5, 7, 9] (fun v5 v7 v9 wr => ∃ (i p pc g : Nat) (v : Value) (l : List Int), i ≤ len0 ∧ v9 = .int .i64 i ∧ v5 = .pointer (some ⟨p, 0, none⟩) ∧ v7 = v ∧ LockAt wr p pc g (64 * i) l ∧ IntsAt wr v l ∧ w.grownBy wr none ∧ (l ≠ [] → v.ownBlock ≠ some g) ∧ w.heap.size ≤ g) (fun _ _ v9 _ => len0 - (intOf v9).toNat)
  case atStart => exact ⟨0, p, pc, g, v, _, Nat.zero_le _, rfl, rfl, rfl, H2.out.1, H2.out.2.1, H2.out.2.2.1, H2.out.2.2.2, hgg⟩
  case round =>
    obtain ⟨i, p, pc, g, v, l, hil, rfl, rfl, rfl, hL, hI, hg, hne, hgl⟩ := hrel
    have HL := hid hL
    have HI := hid hI
    have HG := hid hg
    have HN := hid hne
    by_cases hlt : i < len0
    · obtain ⟨lb, off, hla, hcell⟩ := (HA.out.kept hg) (by omega)
      subst hla
      obtain ⟨e0, e1, e2⟩ := hcell i hlt
      clear hcell hL hI hg hne
      go_wp2_with fail
      refine (act_any p pc g (64 * i) (by omega) l _ (A i 0) (A i 1) (A i 2) wr HL.out HI.out HN.out).mono ?_
      rintro e w6 ⟨p', pc', g', v', rfl, hL6, hI6, hg6, hor, hfr, hn6⟩
      have hgl2 : w.heap.size ≤ g' := by
        have := HG.out.size
        rcases hor with ⟨_, _, h⟩ | ⟨_, _, h⟩ <;> omega
      have HL6 := hid hL6
      have HI6 := hid hI6
      have HG6 := hid (g_new HG.out hg6 hgl)
      have HN6 := hid hn6
      clear hL6 hI6 hg6 hor hfr hn6
      go_wp2_with fail
      go_roundw
      case rel => exact ⟨i + 1, p', pc', g', v', _, by omega, by go_num, rfl, rfl, by rw [Nat.mul_add]; exact HL6.out, HI6.out, HG6.out, HN6.out, hgl2⟩
      case measure => simp [intOf]; omega
    · obtain rfl : i = len0 := by omega
      clear hL hI hg hne HN
      have hIs := is_true p pc g (64 * i) l _ wr HL.out HI.out
      have HIS := hid hIs
      clear hIs
      go_wp2_with (go_at_call 13; refine (num_any _ _).mono ?_; rintro e _ ⟨rfl, rfl⟩)
      refine HIS.out.mono ?_
      rintro e w2 ⟨rfl, hg2⟩
      go_wp2_with fail
      refine (lsame_sn p pc g (64 * i) l none w2 (HL.out.keptN hg2) (.inl rfl)).mono ?_
      rintro e _ ⟨rfl, rfl⟩
      go_wp2_with fail
      refine (lsame_ns none p pc g (64 * i) l w2 (.inl rfl) (HL.out.keptN hg2)).mono ?_
      rintro e _ ⟨rfl, rfl⟩
      go_wp2_with fail
      refine (works_any w2).mono ?_
      rintro e w3 ⟨rfl, hg3⟩
      go_wp2_with fail
      go_ret
      exact ⟨rfl, g_none (g_none HG.out hg2) hg3⟩

theorem plays_no (n : Int) (hn : n < 0 ∨ 64 < n) (a0 : Option Addr) (len0 cap0 : Nat) (w : World) (hl0 : len0 ≤ 60) :
    Calls Try.prog 5 #[.int .i64 n, .slice a0 len0 cap0] w fun e w' => e = .returned (.bool true) ∧ w.grownBy w' none := by
  have h60 : ¬ (60 < (len0 : Int)) := by omega
  go_enter Try.func5, Try.ntmps5
  go_wp2_with fail
  refine (lnew_no n hn w).mono ?_
  rintro e _ ⟨rfl, rfl⟩
  go_wp2_with fail
  refine (refNew_no n hn w).mono ?_
  rintro e _ ⟨rfl, rfl⟩
  go_wp2_with fail
  refine (none_any _ w).mono ?_
  rintro e w3 ⟨rfl, hg3⟩
  go_wp2_with (go_at_call 13; refine (num_any _ _).mono ?_; rintro e _ ⟨rfl, rfl⟩)
  refine (works_any w3).mono ?_
  rintro e w4 ⟨rfl, hg4⟩
  go_wp2_with fail
  go_ret
  exact ⟨rfl, g_none hg3 hg4⟩
theorem plays_else (n : Int) (a0 : Option Addr) (len0 cap0 : Nat) (w : World) (h : 60 < len0) (_ : len0 ≤ 9223372036854775807) :
    Calls Try.prog 5 #[.int .i64 n, .slice a0 len0 cap0] w fun e w' => e = .returned (.bool true) ∧ w.grownBy w' none := by
  go_enter Try.func5, Try.ntmps5
  go_wp2_with fail
  refine (works_any _).mono ?_
  rintro e w1 ⟨rfl, hg⟩
  go_wp2
  go_ret
  exact ⟨rfl, hg⟩
theorem plays_law (n : Int) (a0 : Option Addr) (len0 cap0 : Nat) (A : Nat → Nat → Int) (w : World) (_ : (Lit.int .i64 n).wf = true)
    (h0 : len0 ≤ cap0) (h1 : cap0 ≤ 9223372036854775807) (hA : RowAt w a0 len0 [.i64, .i64, .i64] A) :
    Calls Try.prog 5 #[.int .i64 n, .slice a0 len0 cap0] w fun e w' => e = .returned (.bool true) ∧ w.grownBy w' none := by
  by_cases h : 60 < len0
  · exact plays_else n a0 len0 cap0 w h (by omega)
  · by_cases hn : n < 0 ∨ 64 < n
    · exact plays_no n hn a0 len0 cap0 w (by omega)
    · obtain ⟨k, rfl⟩ : ∃ k : Nat, n = k := ⟨n.toNat, by omega⟩
      exact plays_walk k (by omega) a0 len0 cap0 A w (acts_of_row hA) (by omega)
end Go.Proofs.Ytnpimkigiioiaaa
