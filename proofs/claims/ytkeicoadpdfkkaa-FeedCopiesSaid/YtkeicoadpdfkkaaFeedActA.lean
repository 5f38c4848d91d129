/-
  A call by both, whatever it is.
-/
import Derived.Test.YtkeicoadpdfkkaaFeedActP
namespace Go.Proofs.Ytkeicoadpdfkkaa
open Go.RowKit

abbrev CpS (xs : List Int) (k : Nat) (b : Nat) (w w' : World) : Prop := w'.cell? ⟨b, 0, none⟩ = some (.string (strOfNums xs)) ∧ w'.cell? ⟨b, 1, none⟩ = some (.int .i64 k) ∧ w.grownBy w' none
theorem CpS.more {xs : List Int} {k b : Nat} {w w1 w2 : World} (h : CpS xs k b w w1) (hg : w1.grownBy w2 none) : CpS xs k b w w2 := ⟨g_cellN hg h.1, g_cellN hg h.2.1, g_none h.2.2 hg⟩
theorem CpS.put {xs : List Int} {k b b' : Nat} {w w1 : World} (u v : Value) (h : CpS xs k b w w1) (hb : b ≠ b') (hw : w.heap.size ≤ b') : CpS xs k b w ((w1.setCell ⟨b', 0, none⟩ u).setCell ⟨b', 1, none⟩ v) := by
  have e : ∀ (W : World) (i j : Nat) (x : Value), (W.setCell ⟨b', i, none⟩ x).cell? ⟨b, j, none⟩ = W.cell? ⟨b, j, none⟩ := fun W i j x => World.cell?_of_block (Below.heap_setCell W ⟨b', i, none⟩ x b hb)
  refine ⟨by rw [e, e]; exact h.1, by rw [e, e]; exact h.2.1, g_set (g_set h.2.2 _ (.inr hw)) _ (.inr hw)⟩

set_option maxRecDepth 100000 in
set_option maxHeartbeats 8000000 in
theorem act_copy (p : Nat) (v : Value) (xs : List Int) (k : Nat) (what N : Int) (h0' : ¬ what = 0) (h1' : ¬ what = 1) (h2' : ¬ what = 2) (h3' : ¬ what = 3) (h4' : ¬ what = 4)
    (w : World) (h : FeedAt w p v xs k) :
    Calls Try.prog 16 #[.pointer (some ⟨p, 0, none⟩), RF xs k, .agg #[.int .i64 what, .int .i64 N]] w (ActPost p v xs w) := by
  have q0 : (what == 0) = false := by simpa using h0'
  have q1 : (what == 1) = false := by simpa using h1'
  have q2 : (what == 2) = false := by simpa using h2'
  have q3 : (what == 3) = false := by simpa using h3'
  have q4 : (what == 4) = false := by simpa using h4'
  obtain ⟨b1, b2, b3, hgA⟩ := act_cells xs k what N w
  have x0 := b2.cellOf (i := 0) rfl
  have a0 := b1.cellOf (i := 0) rfl
  have a1 := b1.cellOf (i := 1) rfl
  obtain ⟨W, hW⟩ : ∃ W, W = ((w.alloc (.cells #[.string (strOfNums xs), .int .i64 k] 41)).alloc (.cells #[.int .i64 what, .int .i64 N] 45)).alloc (.cells #[.string { data := #[] }, .int .i64 0] 41) := ⟨_, rfl⟩
  have H : Hid (∀ w1, CpS xs k w.heap.size w w1 → FeedAt w1 p v xs k) := hid fun w1 hg => h.keptN hg.2.2
  clear h0' h1' h2' h3' h4' h
  go_enter Try.func16, Try.ntmps16
  go_wp2_with fail
  rw [← hW] at b1 b2 b3 hgA x0 a0 a1 ⊢
  have hsW : W.heap.size = w.heap.size + 3 := by rw [hW]; simp
  clear hW
  have hS0 : CpS xs k w.heap.size w W := ⟨a0, a1, hgA⟩
  have hS1 : CpS xs k w.heap.size w W.drew := ⟨a0, a1, g_drew hgA⟩
  go_region_held3 (fun w' => w'.cell? ⟨w.heap.size, 0, none⟩ = some (.string (strOfNums xs)) ∧ w'.cell? ⟨w.heap.size, 1, none⟩ = some (.int .i64 k) ∧ w.grownBy w' none)
    (first | assumption | exact CpS.more (by assumption) hg2 | exact CpS.put _ _ (by assumption) (by omega) (by omega))
    (first
      | (go_at_call 8; refine (copy_some p v xs k _ (H.out _ (by assumption))).mono ?_; rintro e w2 ⟨p', v', rfl, hF2, hg2, hp2, hv2⟩; have b8 := (b3.keptN (g_drew (g_refl _ none))).keptN hg2; have f0 := b8.frozen 0; have f1 := (b8.set 0 (.string (strOfNums xs))).frozen 1; have c0 := b8.cellOf (i := 0) rfl; have c1 := (b8.set 0 (.string (strOfNums xs))).cellOf (i := 1) rfl)
      | fail)
  all_goals
    go_wp2
    have hsd : W.drew.heap.size = w.heap.size + 3 := hsW
    rw [hsd] at hp2 hv2
    have b10 := (b8.set 0 (.string (strOfNums xs))).set 1 (.int .i64 (k : Int))
    have h1 := hF2.kept (grownBy_setCell'' w2 (w.heap.size + 2) 0 (.string (strOfNums xs))) (by simp; omega) (.inl (fun e => by have := (hv2 _ e).1; omega))
    have h2 := h1.kept (grownBy_setCell'' _ (w.heap.size + 2) 1 (.int .i64 (k : Int))) (by simp; omega) (.inl (fun e => by have := (hv2 _ e).1; omega))
    have hgf : w.grownBy _ (some p) := g_weak (show CpS xs k w.heap.size w _ by assumption).2.2
    refine bodyPost_ret (results_trt rfl _ _ (w.heap.size + 2) _ _ _ _ rfl b10 Try.underlying41 rfl (by kernel_rfl)) rfl ?_
    exact ⟨p', v', k, rfl, h2, .inr ⟨by omega, fun r e => by have := (hv2 r e).1; omega⟩, hgf⟩

theorem act_any (p : Nat) (v : Value) (xs : List Int) (hu : ∀ x ∈ xs, 0 ≤ x ∧ x < 256) (k : Nat) (what N : Int) (w : World) (h : FeedAt w p v xs k) :
    Calls Try.prog 16 #[.pointer (some ⟨p, 0, none⟩), RF xs k, .agg #[.int .i64 what, .int .i64 N]] w (ActPost p v xs w) := by
  have hl := h.2.2.1
  have hk := h.2.2.2.1
  have kept : ∀ {w1 w2 : World}, FeedAt w1 p v xs k → w1.grownBy w2 none → FeedAt w2 p v xs k ∧ w1.grownBy w2 (some p) := fun h1 hg => ⟨h1.keptN hg, g_weak hg⟩
  by_cases h0 : what = 0
  · by_cases hN : N < 1 ∨ 256 < N
    · exact act_pick p v xs k k what N 0 2 h0 (refPick_no xs k N hN hl) (fun w1 h1 => (pick_no p v xs k N hN w1 h1).mono fun e w' ⟨he, hg⟩ => ⟨he, kept h1 hg⟩) w h
    · have hN1 : 1 ≤ N := by omega
      have hN2 : N ≤ 256 := by omega
      by_cases hkl : k < xs.length
      · obtain ⟨x, hx⟩ : ∃ x, xs[k]? = some x := ⟨xs[k], List.getElem?_eq_getElem hkl⟩
        have hpy : pickV ((xs.drop k).take 1) N = x % N := by
          rw [List.drop_eq_getElem_cons hkl, (List.getElem?_eq_some_iff.1 hx).2]
          rfl
        exact act_pick p v xs k (k + 1) what N (x % N) 0 h0 (refPick_ok xs hu k x hx N hN1 hN2 hl) (fun w1 h1 => (pick_ok p v xs hu k 1 (by omega) N hN1 hN2 w1 h1).mono fun e w' ⟨he, hF, hg⟩ => ⟨by rw [he, hpy], hF, hg⟩) w h
      · obtain rfl : k = xs.length := by omega
        exact act_pick p v xs xs.length xs.length what N 0 0 h0 (refPick_end xs N hN1 hN2 hl) (fun w1 h1 => (pick_ok p v xs hu xs.length 0 (by omega) N hN1 hN2 w1 h1).mono fun e w' ⟨he, hF, hg⟩ => ⟨by rw [he]; rfl, hF, hg⟩) w h
  by_cases h1 : what = 1
  · exact act_draw p v xs k (k + min 4 (xs.length - k)) what N _ 0 h1 (refDraw_ok xs hu k _ rfl hk hl) (fun w1 hF => draw_ok p v xs k _ rfl w1 hF) w h
  by_cases h2 : what = 2
  · by_cases hN : N < 0
    · exact act_take_no p v xs k k what N h2 (refTake_no xs k N hN hl) (fun w1 hF => (take_no p v xs k N hN w1 hF).mono fun e w' ⟨he, hw⟩ => by subst hw; exact ⟨he, hF, g_refl _ _⟩) w h
    · obtain ⟨m, rfl⟩ := Int.eq_ofNat_of_zero_le (a := N) (by omega)
      exact act_take_ok p v xs k _ m _ what h2 rfl rfl (refTake_ok xs k m _ rfl hk hl) (fun w1 hF => take_ok p v xs k m _ rfl w1 hF) w h
  by_cases h3 : what = 3
  · by_cases hN : N < 0 ∨ (xs.length : Int) < N
    · exact act_seek p v xs k k what N 0 4 h3 (refSeek_out xs k N hN hl) (fun w1 hF => (seek_out p v xs k N hN w1 hF).mono fun e w' ⟨he, hw⟩ => by subst hw; exact ⟨he, hF, g_refl _ _⟩) w h
    · obtain ⟨m, rfl⟩ := Int.eq_ofNat_of_zero_le (a := N) (by omega)
      exact act_seek p v xs k m what m k 0 h3 (refSeek_in xs k m (by omega) hl) (fun w1 hF => seek_in p v xs k m (by omega) w1 hF) w h
  by_cases h4 : what = 4
  · by_cases hN : N < 1 ∨ 256 < N
    · exact act_picks_no p v xs k k what N h4 hN rfl w h
    · exact act_picks_ok p v xs hu k what N h4 (by omega) (by omega) w h
  · exact act_copy p v xs k what N h0 h1 h2 h3 h4 w h
end Go.Proofs.Ytkeicoadpdfkkaa
