/-
  Does a quarantine stand as the document's?
-/
import Derived.Test.YtjjkhbipeehljaaFifoNone
import Derived.Test.YtjjkhbipeehljaaFifoRef3
namespace Go.Proofs.Ytjjkhbipeehljaa
open Go.RowKit

abbrev IsS (b : Nat) (M Y : Int) (v : Value) (w0 w' : World) : Prop := w'.cell? ⟨b, 0, none⟩ = some (.int .i64 M) ∧ w'.cell? ⟨b, 1, none⟩ = some (.int .i64 Y) ∧ w'.cell? ⟨b, 2, none⟩ = some v ∧ w0.grownBy w' none
theorem IsS.more {b : Nat} {M Y : Int} {v : Value} {wr w1 w2 : World} (h : IsS b M Y v wr w1) (hg : w1.grownBy w2 none) : IsS b M Y v wr w2 := ⟨g_cellN hg h.1, g_cellN hg h.2.1, g_cellN hg h.2.2.1, g_none h.2.2.2 hg⟩
theorem IsS.l3 {b : Nat} {M Y : Int} {v u : Value} {xs : List T3} {wr w1 : World} (hL : L3 wr u xs) (h : IsS b M Y v wr w1) : L3 w1 u xs := hL.keptN h.2.2.2
theorem IsS.fifo {b p : Nat} {M Y M' Y' : Int} {v u : Value} {xs : List T3} {wr w1 : World} (hL : FifoAt wr p M' Y' u xs) (h : IsS b M Y v wr w1) : FifoAt w1 p M' Y' u xs := hL.keptN h.2.2.2

set_option maxRecDepth 100000 in
set_option maxHeartbeats 4000000 in
theorem is_any (p : Nat) (M Y : Int) (v v2 : Value) (xs : List T3) (hG : Good xs) (hx : xs.length ≤ 200) (w : World) (h : FifoAt w p M Y v xs) (h2 : L3 w v2 xs) :
    Calls Try.prog 14 #[.pointer (some ⟨p, 0, none⟩), RQ M Y v2] w fun e w' => e = .returned (.bool true) ∧ w.grownBy w' none := by
  obtain ⟨a2, cap2, hv2, hl2, hcp2, hm2, _⟩ := id h2
  subst hv2
  have hb := rq_box M Y (.slice a2 xs.length cap2) w
  have hgA := g_alloc (g_refl w none) (.cells #[.int .i64 M, .int .i64 Y, .slice a2 xs.length cap2] 39)
  have hF := h.keptN hgA
  have hL := h2.keptN hgA
  obtain ⟨W, hW⟩ : ∃ W, W = w.alloc (.cells #[.int .i64 M, .int .i64 Y, .slice a2 xs.length cap2] 39) := ⟨_, rfl⟩
  have hHG := hid hG
  clear h h2 hG
  go_enter Try.func14, Try.ntmps14
  go_wp2_with fail
  rw [← hW] at hb hgA hF hL ⊢
  clear hW
  refine (len_some p M Y v xs hHG.out _ hF).mono ?_
  rintro e w1 ⟨rfl, hg1⟩
  go_wp2_with fail
  refine (bounds_some p M Y v xs _ (hF.keptN hg1)).mono ?_
  rintro e w2 ⟨rfl, hg2⟩
  have gW := g_none hg1 hg2
  have hF2 := hF.keptN gW
  have hL2 := hL.keptN gW
  have hb2 := hb.keptN gW
  have c0 := hb2.cellOf (i := 0) rfl
  have c1 := hb2.cellOf (i := 1) rfl
  have c2 := hb2.cellOf (i := 2) rfl
  have hS1 : IsS w.heap.size M Y (.slice a2 xs.length cap2) w2 w2.drew := ⟨c0, c1, c2, g_drewN (g_refl w2 none) rfl⟩
  have ht : xs.take 200 = xs := List.take_of_length_le hx
  have HF2 := hid hF2
  have HL2 := hid hL2
  obtain ⟨S, hS⟩ : ∃ S, S = sum3 xs := ⟨_, rfl⟩
  have HS := hid hS
  have HT := hid ht
  clear hF hL hb c0 c1 c2 ht hF2 hL2 hS
  simp only [← HS.out]
  go_wp2_with fail
  go_region_held3 (fun w' => w'.cell? ⟨w.heap.size, 0, none⟩ = some (.int .i64 M) ∧ w'.cell? ⟨w.heap.size, 1, none⟩ = some (.int .i64 Y) ∧ w'.cell? ⟨w.heap.size, 2, none⟩ = some (.slice a2 xs.length cap2) ∧ w2.grownBy w' none)
    (first | assumption | exact IsS.more (by assumption) hg9)
    (first
      | (go_at_call 31; refine (refSum_any M Y xs _ _ (IsS.l3 HL2.out (by assumption)) hHG.out).mono ?_; rintro e w9 ⟨rfl, hg9⟩; simp only [← HS.out])
      | (go_at_call 29; refine (alls_some p M Y v xs 200 (by omega) (by omega) _ (IsS.fifo HF2.out (by assumption))).mono ?_; rintro e w9 ⟨v9, rfl, hr9, hg9⟩; obtain ⟨a9, n9, q9, hv9⟩ := row_slice hr9; subst hv9; rw [HT.out] at hr9; have hL9 := (outL3 hl2 hr9).1)
      | (go_at_call 18; refine (refSame_any _ _ xs xs _ (by assumption) (IsS.l3 HL2.out (by assumption))).mono ?_; rintro e w10 ⟨rfl, n9, rfl⟩; have hg9 := g_drewM (g_refl w9 none) n9; simp only [decide_true])
      | fail)
  rename _ ∧ _ ∧ _ ∧ World.grownBy _ _ _ => hS9
  have hF9 := IsS.fifo HF2.out hS9
  have hL9' := IsS.l3 HL2.out hS9
  have hb9 := hb2.keptN hS9.2.2.2
  have gW9 := g_none (g_none hgA gW) hS9.2.2.2
  clear hS1 hb2
  go_wp2_with fail
  go_loopw [9] (fun u wr => ∃ i : Int, -1 ≤ i ∧ i ≤ 30 ∧ u = .int .i64 i ∧ Hid (FifoAt wr p M Y v xs) ∧ Hid (L3 wr (.slice a2 xs.length cap2) xs) ∧ Hid (Blk wr w.heap.size 39 [.int .i64 M, .int .i64 Y, .slice a2 xs.length cap2]) ∧ Hid (w.grownBy wr none)) (fun u _ => (30 - intOf u).toNat)
  case atStart => exact ⟨-1, by omega, by omega, rfl, hid hF9, hid hL9', hid hb9, hid gW9⟩
  case round =>
    obtain ⟨i, hi0, hi1, rfl, hFr, hLr, hbr, hgr⟩ := hrel
    by_cases hlt : i < 30
    · obtain ⟨hb1, hb2, hb3⟩ := atOf_bounds xs 0 i
      have hag : (0 ≤ atOf xs 0 i → ageOf xs 0 i = (xs.length : Int) - 1 - atOf xs 0 i) ∧ (¬ 0 ≤ atOf xs 0 i → ageOf xs 0 i = 0) := ⟨fun h => by simp [ageOf, h], fun h => by simp [ageOf, h]⟩
      have hage := age_some p M Y v xs 0 i wr hFr.out
      have hat := fun w h => refAt_any M Y xs (.slice a2 xs.length cap2) 0 i w h
      obtain ⟨a, ha⟩ : ∃ a, a = atOf xs 0 i := ⟨_, rfl⟩
      obtain ⟨ag, hagg⟩ : ∃ ag, ag = ageOf xs 0 i := ⟨_, rfl⟩
      rw [← ha] at hb1 hb2 hb3 hag hage
      simp only [← ha] at hat
      rw [← hagg] at hag hage
      clear ha hagg
      by_cases h0 : 0 ≤ a
      · obtain rfl := hag.1 h0
        have h0' : decide (0 ≤ a) = true := by simpa using h0
        rw [h0'] at hage
        have HAT := hid hat
        clear hat hag hb3 h0'
        go_wp2_with fail
        refine hage.mono ?_
        rintro e w3 ⟨rfl, hg3⟩
        have d0 := (hbr.out.keptN hg3).cellOf (i := 0) rfl
        have d1 := (hbr.out.keptN hg3).cellOf (i := 1) rfl
        have d2 := (hbr.out.keptN hg3).cellOf (i := 2) rfl
        go_wp2_with fail
        refine (HAT.out _ (hLr.out.keptN hg3)).mono ?_
        rintro e w4 ⟨rfl, hg4⟩
        have e2 := g_cellN hg4 d2
        have hgg := g_none hg3 hg4
        go_wp2
        go_roundw
        case rel => exact ⟨i + 1, by omega, by omega, by go_num, hid (hFr.out.keptN hgg), hid (hLr.out.keptN hgg), hid (hbr.out.keptN hgg), hid (g_none hgr.out hgg)⟩
        case measure => simp [intOf]; omega
      · obtain rfl := hag.2 h0
        have h0' : decide (0 ≤ a) = false := by simpa using h0
        rw [h0'] at hage
        obtain rfl := hb3 (by omega)
        have HAT := hid hat
        clear hat hag hb3 h0' h0
        go_wp2_with fail
        refine hage.mono ?_
        rintro e w3 ⟨rfl, hg3⟩
        have d0 := (hbr.out.keptN hg3).cellOf (i := 0) rfl
        have d1 := (hbr.out.keptN hg3).cellOf (i := 1) rfl
        have d2 := (hbr.out.keptN hg3).cellOf (i := 2) rfl
        go_wp2_with fail
        refine (HAT.out _ (hLr.out.keptN hg3)).mono ?_
        rintro e w4 ⟨rfl, hg4⟩
        have e2 := g_cellN hg4 d2
        have hgg := g_none hg3 hg4
        go_wp2
        go_roundw
        case rel => exact ⟨i + 1, by omega, by omega, by go_num, hid (hFr.out.keptN hgg), hid (hLr.out.keptN hgg), hid (hbr.out.keptN hgg), hid (g_none hgr.out hgg)⟩
        case measure => simp [intOf]; omega
    · go_wp2
      go_ret
      exact ⟨rfl, hgr.out⟩
end Go.Proofs.Ytjjkhbipeehljaa
