/-
  RoundSums at whatever arguments: the walk.
-/
import Derived.Test.YtgdnafafojiabaaDoorRoundSums
namespace Go.Proofs.YtgdnafafojiabaaDoor
open Go.RowKit

theorem LU.ofRow {w : World} {base g n cap : Nat} {xs : List Nat} {more : List Value} (hn : n = xs.length) (h : w.ownsRow base 24 1 (.slice (some ⟨g, 0, none⟩) (n + 1) cap) (n + 1) (fu xs ++ more)) (hl : xs.length ≤ 20) (hx : ∀ x, x ∈ xs → x < 18446744073709551616) :
    LU w (.slice (some ⟨g, 0, none⟩) xs.length cap) xs := by
  obtain ⟨tail, h1, h2, h3, h4, h5⟩ := row_blk h
  refine ⟨_, cap, rfl, by omega, by omega, h4, hx, fun _ => ⟨g, 0, rfl, fun i x hi => ?_⟩⟩
  rw [Nat.zero_add]
  have hf := fu_get hi
  refine h1.cellOf ?_
  rw [List.append_assoc, List.getElem?_append_left (List.getElem?_eq_some_iff.1 hf).1]
  exact hf
theorem last_cell {w : World} {base g n cap : Nat} {xs : List Nat} {u : Value} (hn : n = xs.length) (h : w.ownsRow base 24 1 (.slice (some ⟨g, 0, none⟩) (n + 1) cap) (n + 1) (fu xs ++ [u])) : w.cell? ⟨g, xs.length, none⟩ = some u ∧ xs.length + 1 ≤ cap ∧ cap ≤ maxLen := by
  obtain ⟨tail, h1, h2, h3, h4, h5⟩ := row_blk h
  refine ⟨h1.cellOf ?_, by omega, h4⟩
  rw [List.append_assoc, List.getElem?_append_right (by rw [fu_length]; omega), fu_length, Nat.sub_self]
  rfl

set_option maxRecDepth 100000 in
set_option maxHeartbeats 4000000 in
theorem sums_walk (a0 : Option Addr) (cap0 : Nat) (xs : List Nat) (w : World) (hLU : LU w (.slice a0 xs.length cap0) xs) (hl : xs.length ≤ 20) (hT : Tab w) :
    Calls Tryd.prog 3 #[.slice a0 xs.length cap0] w fun e w' => e = .returned (.bool true) ∧ w.grownBy w' none := by
  obtain ⟨i0, hi, hz0, hz1, hz2⟩ := info_parts info_u64
  have hx64 : ∀ x, x ∈ xs → x < 18446744073709551616 := by obtain ⟨_, _, _, _, _, _, h, _⟩ := hLU; exact h
  obtain ⟨ao, cc, he, _, hcp0, hcm0, _⟩ := id hLU
  cases he
  have h20 : ¬ (20 < (xs.length : Int)) := by omega
  have hrow : (w.alloc (.cells #[] 24)).ownsRow w.heap.size 24 1 (.slice (some ⟨w.heap.size, 0, none⟩) 0 0) 0 [] := World.ownsRow_made w #[] 0 (Nat.le_refl _) (by simp [maxLen]) rfl
  have h' := hLU.keptN (g_alloc (g_refl w none) (.cells #[] 24))
  obtain ⟨S, hS⟩ : ∃ S, S = valO (addO xs) := ⟨_, rfl⟩
  obtain ⟨SE, hSE⟩ : ∃ S, S = errO (addO xs) := ⟨_, rfl⟩
  obtain ⟨P, hP⟩ : ∃ S, S = valO (mulO xs) := ⟨_, rfl⟩
  obtain ⟨PE, hPE⟩ : ∃ S, S = errO (mulO xs) := ⟨_, rfl⟩
  have cA : ∀ (v : Value) (w : World), LU w v xs → Calls Tryd.prog 9 #[v] w fun e w' => e = .returned (.tuple #[.int .u64 (S : Int), .int .i64 SE]) ∧ w.grownBy w' none := fun v w h => by rw [hS, hSE]; exact add_any v _ w h
  have cM : ∀ (v : Value) (w : World), LU w v xs → Calls Tryd.prog 10 #[v] w fun e w' => e = .returned (.tuple #[.int .u64 (P : Int), .int .i64 PE]) ∧ w.grownBy w' none := fun v w h => by rw [hP, hPE]; exact mul_any v _ w h
  have cRA : ∀ (v : Value) (w : World), LU w v xs → Calls Tryd.prog 11 #[v] w fun e w' => e = .returned (.tuple #[.int .u64 (S : Int), .int .i64 SE]) ∧ w = w' := fun v w h => by rw [hS, hSE]; exact refAdd_any v _ w h
  have cRM : ∀ (v : Value) (w : World), LU w v xs → Calls Tryd.prog 12 #[v] w fun e w' => e = .returned (.tuple #[.int .u64 (P : Int), .int .i64 PE]) ∧ w = w' := fun v w h => by rw [hP, hPE]; exact refMul_any v _ w h
  clear hS hSE hP hPE
  go_enter Tryd.func3, Tryd.ntmps3
  go_wp2_with (at_builtin; first | (refine wpList_append_LU rfl _ _ rfl w.heap.size w.heap.size rfl hrow _ xs rfl h' (by simp) ?_; intro v1 w1 hown1 hg1) | (refine wpList_append_lies _ rfl _ _ 22 rfl w.heap.size 24 i0 (.int .u64 0) 1 8 Tryd.underlying22 hi hz0 hz1 hz2 rfl (by decide) v1 xs.length (fu xs) rfl (hown1.alloc _) ⟨w1.heap.size, 0, none⟩ 1 1 [.int .u64 77] rfl rfl (cells_new w1 [.int .u64 77] _) (by simp [Value.oneCell']) (by decide) (by unfold maxLen; omega) (by omega) (by have := hg1.size; simp at this ⊢; omega) _ rfl ?_; intro g cap w2 hown2 hg2 hat hlt; have hlc := last_cell rfl hown2; have hlc1 := hlc.2.1; have hlc2 := hlc.2.2))
  have hgA := g_alloc (g_new (g_alloc (g_refl w none) (.cells #[] 24)) hg1 (Nat.le_refl _)) (.cells #[.int .u64 77] 24)
  have hgB := g_trans hgA hg2 (fun r e => .inr (row_base hown1 r e).1)
  have hm2 := LU.ofRow rfl hown2 hl hx64
  have hc2 := hlc.1
  clear hrow h' hg1 hg2 hat hlt hown1 hown2 hgA hlc
  refine (cA _ _ hm2).mono ?_
  rintro e w3 ⟨rfl, hg3⟩
  have gg3 := g_none hgB hg3
  have hm3 := hm2.keptN hg3
  have hc3 := g_cellN hg3 hc2
  clear hgB hg3 hm2 hc2
  go_wp2_with fail
  refine (cM _ _ hm3).mono ?_
  rintro e w4 ⟨rfl, hg4⟩
  have gg4 := g_none gg3 hg4
  have hm4 := hm3.keptN hg4
  have hc4 := g_cellN hg4 hc3
  have hl4 := hLU.keptN gg4
  clear gg3 hg4 hm3 hc3
  go_wp2_with fail
  refine (cRA _ _ hl4).mono ?_
  rintro e w5 ⟨rfl, rfl⟩
  go_wp2_with fail
  refine (cRM _ _ hl4).mono ?_
  rintro e w5 ⟨rfl, rfl⟩
  go_wp2_with fail
  clear cA cM cRA cRM
  go_loopw [12] (fun v wr => ∃ k : Nat, k ≤ xs.length ∧ v = .int .i64 k ∧ w4.grownBy wr none) (fun v _ => xs.length - (intOf v).toNat)
  case atStart => exact ⟨0, by omega, rfl, g_refl _ _⟩
  case round =>
    obtain ⟨k, hk, rfl, hgr⟩ := hrel
    have hmr := hm4.keptN hgr
    have hlr := hl4.keptN hgr
    by_cases hlt : k < xs.length
    · obtain ⟨x, hx⟩ : ∃ x, xs[k]? = some x := ⟨xs[k], List.getElem?_eq_getElem hlt⟩
      obtain ⟨g1, off1, c1, e1, hd1⟩ := hmr.at hx
      cases e1
      obtain ⟨g2, off2, c2, e2, hd2⟩ := hlr.at hx
      cases e2
      rw [Nat.zero_add] at hd1
      have HX := hid hx
      clear hx hmr hlr
      go_wp2_with fail
      go_quiet (fail)
      go_wp2_with fail
      go_roundw
      case rel => exact ⟨k + 1, by omega, by go_num, g_drewM hgr nq⟩
      case measure => simp [intOf]; omega
    · obtain rfl : k = xs.length := by omega
      have hcr := g_cellN hgr hc4
      have ggr := g_none gg4 hgr
      have hw := works_true wr (hT.keptN ggr)
      clear hmr hlr hm4 hl4 hc4
      go_wp2_with (go_at_call 13; refine (num_any _ _).mono ?_; rintro e _ ⟨rfl, rfl⟩)
      refine hw.mono ?_
      rintro e w6 ⟨rfl, hg6⟩
      go_wp2_with fail
      go_ret
      exact ⟨rfl, g_none ggr hg6⟩
end Go.Proofs.YtgdnafafojiabaaDoor
