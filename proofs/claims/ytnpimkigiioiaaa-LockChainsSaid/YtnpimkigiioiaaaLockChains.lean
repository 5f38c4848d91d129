/-
  LockChains, walked.
-/
import Derived.Test.YtnpimkigiioiaaaLockStart
namespace Go.Proofs.Ytnpimkigiioiaaa
open Go.RowKit
set_option maxRecDepth 100000

set_option maxHeartbeats 8000000 in
theorem chains_walk (a0 : Option Addr) (len0 cap0 : Nat) (A : Nat → Nat → Int) (t : Int) (vw : Value) (ws : List Int) (w : World) (hA : ActsAt w a0 len0 A) (hl0 : len0 ≤ 40) (hW : IntsAt w vw ws) (hl1 : ws.length ≤ 6) (hwf : ∀ n ∈ ws, (Lit.int .i64 n).wf = true) :
    Calls Try.prog 3 #[.slice a0 len0 cap0, .int .i64 t, vw] w fun e w' => e = .returned (.bool true) ∧ w.grownBy w' none := by
  obtain ⟨i0, hi, hz0, hz1, hz2⟩ := info_parts info_int
  obtain ⟨aw, capw, rfl, hlw, hcpw⟩ := hW.shape
  have h40 : ¬ (40 < (len0 : Int)) := by omega
  have h6 : ¬ (6 < (ws.length : Int)) := by omega
  have HA := hid hA
  have HW := hid hW
  have HWF := hid hwf
  clear hA hW hwf
  go_enter Try.func3, Try.ntmps3
  go_wp2_with fail
  refine (lnew_yes 6 (by omega) w).mono ?_
  rintro e w1 ⟨p, pc, g, rfl, hL1, hg1, hp, hpc, hgg⟩
  go_wp2_with fail
  refine (refNew_yes 6 (by omega) w1).mono ?_
  rintro e w2 ⟨v, rfl, hI2, hg2, hv2⟩
  have hL2 := hL1.keptN hg2
  have hgg2 : w.grownBy w2 none := g_none hg1 hg2
  have hne2 : (List.replicate 6 (-1 : Int)) ≠ [] → v.ownBlock ≠ some g := fun _ e => by
    have h1 := hv2 g e
    have h2 := hL1.lt
    omega
  have H2 := hid (And.intro hL2 (And.intro hI2 (And.intro hgg2 hne2)))
  clear hL1 hg1 hp hpc hI2 hg2 hv2 hL2 hgg2 hne2
  go_wp2_with fail
  go_loopw [7, 9, 11] (fun v7 v9 v11 wr => ∃ (i p pc g : Nat) (v : Value) (l : List Int), i ≤ len0 ∧ v11 = .int .i64 i ∧ v7 = .pointer (some ⟨p, 0, none⟩) ∧ v9 = v ∧ LockAt wr p pc g (64 * i) l ∧ IntsAt wr v l ∧ w.grownBy wr none ∧ (l ≠ [] → v.ownBlock ≠ some g) ∧ w.heap.size ≤ g) (fun _ _ v11 _ => len0 - (intOf v11).toNat)
  case atStart => exact ⟨0, p, pc, g, v, _, Nat.zero_le _, rfl, rfl, rfl, H2.out.1, H2.out.2.1, H2.out.2.2.1, H2.out.2.2.2, hgg⟩
  case round =>
    obtain ⟨i, p, pc, g, v, l, hil, rfl, rfl, rfl, hL, hI, hg, hne, hgl⟩ := hrel
    have HL := hid hL
    have HI := hid hI
    have HG := hid hg
    have HN := hid hne
    by_cases hlt : i < len0
    · obtain ⟨lb, off, hla, hcell⟩ := (HA.out.kept hg) (by omega)
      subst hla
      obtain ⟨e0, e1, e2⟩ := hcell i hlt
      clear hcell hL hI hg hne
      go_wp2_with fail
      refine (act_any p pc g (64 * i) (by omega) l _ (A i 0) (A i 1) (A i 2) wr HL.out HI.out HN.out).mono ?_
      rintro e w6 ⟨p', pc', g', v', rfl, hL6, hI6, hg6, hor, hfr, hn6⟩
      have hgl2 : w.heap.size ≤ g' := by
        have := HG.out.size
        rcases hor with ⟨_, _, h⟩ | ⟨_, _, h⟩ <;> omega
      have HL6 := hid hL6
      have HI6 := hid hI6
      have HG6 := hid (g_new HG.out hg6 hgl)
      have HN6 := hid hn6
      clear hL6 hI6 hg6 hor hfr hn6
      go_wp2_with fail
      go_roundw
      case rel => exact ⟨i + 1, p', pc', g', v', _, by omega, by go_num, rfl, rfl, by rw [Nat.mul_add]; exact HL6.out, HI6.out, HG6.out, HN6.out, hgl2⟩
      case measure => simp [intOf]; omega
    · obtain rfl : i = len0 := by omega
      clear hL hI hg hne HN
      have hrow : (wr.alloc (.cells #[] 3)).ownsRow wr.heap.size 3 1 (.slice (some ⟨wr.heap.size, 0, none⟩) 0 0) 0 [] := World.ownsRow_made wr #[] 0 (Nat.le_refl _) (by simp [maxLen]) rfl
      have h' := (HW.out.keptN HG.out).keptN (g_alloc (g_refl wr none) (.cells #[] 3))
      go_wp2_with (at_builtin; first | (refine wpList_append_ints rfl _ _ rfl wr.heap.size wr.heap.size rfl hrow _ ws rfl h' (by simp) ?_; intro v1 w1 hown1 hg1) | (refine wpList_append_lies _ rfl _ _ 23 rfl wr.heap.size 3 i0 (.int .i64 0) 1 8 Try.underlying23 hi hz0 hz1 hz2 rfl (by decide) v1 ws.length (intsV ws) rfl (hown1.alloc _) ⟨w1.heap.size, 0, none⟩ 1 1 [.int .i64 77] rfl rfl (cells_new w1 [.int .i64 77] _) (by simp [Value.oneCell']) (by decide) (by unfold maxLen; omega) (by omega) (by have := hg1.size; simp at this ⊢; omega) _ rfl ?_; intro gm capm w2 hown2 hg2 hat hlt3; obtain ⟨hIm, h77, hcm1, hcm2, hbm⟩ := rowI_more rfl (by omega) hown2))
      have hgA := g_alloc (g_new (g_alloc (g_refl wr none) (.cells #[] 3)) hg1 (Nat.le_refl _)) (.cells #[.int .i64 77] 3)
      have hgB := g_trans hgA hg2 (fun r e => .inr (row_base hown1 r e).1)
      have hgw2 := g_none HG.out hgB
      have hC := chain_some p pc g (64 * i) l t ws _ HWF.out w2 (HL.out.keptN hgB) hIm
      have hthr := HL.out.thr
      have HC := hid hC
      have HTHR := hid hthr
      have HIM := hid hIm
      have HI2 := hid (HI.out.keptN hgB)
      have HW2 := hid (HW.out.keptN hgw2)
      clear hrow h' hg1 hg2 hat hlt3 hown1 hown2 hgA hgB hIm hC hthr HL HI hbm
      refine HC.out.mono ?_
      rintro e w3 ⟨vc, rfl, hI3, hg3, _⟩
      have h773 := g_cellN hg3 h77
      have hR := refChain _ (.slice aw ws.length capw) l ws HTHR.out t w3 (HI2.out.keptN hg3) (HW2.out.keptN hg3)
      have HR := hid hR
      have HI3 := hid hI3
      clear hR hI3
      go_wp2_with fail
      refine HR.out.mono ?_
      rintro e w4 ⟨vr, rfl, hI4, hg4⟩
      have h774 := g_cellN hg4 h773
      have hg34 := g_none hg3 hg4
      have hS := refSame_yes vc vr (chainL l t ws) w4 (HI3.out.keptN hg4) hI4
      have HS := hid hS
      clear hS hI4
      go_wp2_with (go_at_call 13; refine (num_any _ _).mono ?_; rintro e _ ⟨rfl, rfl⟩)
      refine HS.out.mono ?_
      rintro e w5 ⟨rfl, hg5⟩
      have hg35 := g_none hg34 hg5
      have hS2 := refSame_yes _ _ ws w5 (HIM.out.keptN hg35) (HW2.out.keptN hg35)
      have HS2 := hid hS2
      clear hS2
      go_wp2_with (go_at_call 13; refine (num_any _ _).mono ?_; rintro e _ ⟨rfl, rfl⟩)
      refine HS2.out.mono ?_
      rintro e w6 ⟨rfl, hg6⟩
      have h776 := g_cellN (g_none hg5 hg6) h774
      go_wp2_with fail
      refine (works_any w6).mono ?_
      rintro e w7 ⟨rfl, hg7⟩
      go_wp2_with fail
      go_ret
      exact ⟨rfl, g_none (g_none (g_none hgw2 hg35) hg6) hg7⟩
end Go.Proofs.Ytnpimkigiioiaaa
