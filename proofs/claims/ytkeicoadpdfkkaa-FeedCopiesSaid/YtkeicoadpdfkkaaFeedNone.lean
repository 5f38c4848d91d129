/-
  Of no feed, nothing is told.
-/
import Derived.Test.YtkeicoadpdfkkaaFeedIs
namespace Go.Proofs.Ytkeicoadpdfkkaa
open Go.RowKit

theorem IsNone.keptN {w w' : World} {v : Option Addr} (h : IsNone w v) (hg : w.grownBy w' none) : IsNone w' v := h.imp id fun ⟨p, hv, hc⟩ => ⟨p, hv, g_cellN hg hc⟩

set_option maxRecDepth 100000 in
set_option maxHeartbeats 4000000 in
theorem none_nil (w : World) : Calls Try.prog 18 #[.bool false] w fun e w' => e = .returned (.bool true) ∧ w.grownBy w' none := by
  have hn0 : IsNone w none := .inl rfl
  go_enter Try.func18, Try.ntmps18
  go_wp2_with fail
  refine (pick_none none 1 _ hn0).mono ?_
  rintro e w1 ⟨rfl, hg1⟩
  have hn1 := hn0.keptN hg1
  have gg1 := g_none (g_refl w none) hg1
  go_wp2_with fail
  refine (draw_none none _ hn1).mono ?_
  rintro e w2 ⟨rfl, rfl⟩
  go_wp2_with fail
  refine (take_none none 1 _ hn1).mono ?_
  rintro e w2 ⟨rfl, rfl⟩
  go_wp2_with fail
  refine (seek_none none 0 _ hn1).mono ?_
  rintro e w2 ⟨rfl, rfl⟩
  go_wp2_with (go_at_call 10; refine (num_any _ _).mono ?_; rintro e _ ⟨rfl, rfl⟩)
  refine (at_none none _ hn1).mono ?_
  rintro e w2 ⟨rfl, rfl⟩
  go_wp2_with fail
  refine (lft_none none _ hn1).mono ?_
  rintro e w2 ⟨rfl, rfl⟩
  go_wp2_with fail
  refine (picksL_none none 2 9 (by omega) (by omega) _ hn1).mono ?_
  rintro e w2 ⟨v2, rfl, hL2, hg2⟩
  obtain ⟨a2, c2, rfl, _⟩ := hL2.len
  have hn2 := hn1.keptN hg2
  have gg2 := g_none gg1 hg2
  go_wp2_with fail
  refine (copy_none none _ hn2).mono ?_
  rintro e w3 ⟨rfl, rfl⟩
  go_wp2_with fail
  refine (same_none none none _ hn2 (.inl rfl)).mono ?_
  rintro e w3 ⟨rfl, rfl⟩
  go_wp2_with fail
  go_ret
  exact ⟨rfl, gg2⟩

set_option maxRecDepth 100000 in
set_option maxHeartbeats 4000000 in
theorem none_zero (w : World) : Calls Try.prog 18 #[.bool true] w fun e w' => e = .returned (.bool true) ∧ w.grownBy w' none := by
  have hn0 : IsNone (w.alloc (.cells #[.slice none 0 0, .int .i64 0, .bool false] 55)) (some ⟨w.heap.size, 0, none⟩) := .inr ⟨_, rfl, (Blk.new w [.slice none 0 0, .int .i64 0, .bool false] 55).cellOf rfl⟩
  have hgA := g_alloc (g_refl w none) (.cells #[.slice none 0 0, .int .i64 0, .bool false] 55)
  go_enter Try.func18, Try.ntmps18
  go_wp2_with fail
  refine (pick_none (some ⟨w.heap.size, 0, none⟩) 1 _ hn0).mono ?_
  rintro e w1 ⟨rfl, hg1⟩
  have hn1 := hn0.keptN hg1
  have gg1 := g_none hgA hg1
  go_wp2_with fail
  refine (draw_none (some ⟨w.heap.size, 0, none⟩) _ hn1).mono ?_
  rintro e w2 ⟨rfl, rfl⟩
  go_wp2_with fail
  refine (take_none (some ⟨w.heap.size, 0, none⟩) 1 _ hn1).mono ?_
  rintro e w2 ⟨rfl, rfl⟩
  go_wp2_with fail
  refine (seek_none (some ⟨w.heap.size, 0, none⟩) 0 _ hn1).mono ?_
  rintro e w2 ⟨rfl, rfl⟩
  go_wp2_with (go_at_call 10; refine (num_any _ _).mono ?_; rintro e _ ⟨rfl, rfl⟩)
  refine (at_none (some ⟨w.heap.size, 0, none⟩) _ hn1).mono ?_
  rintro e w2 ⟨rfl, rfl⟩
  go_wp2_with fail
  refine (lft_none (some ⟨w.heap.size, 0, none⟩) _ hn1).mono ?_
  rintro e w2 ⟨rfl, rfl⟩
  go_wp2_with fail
  refine (picksL_none (some ⟨w.heap.size, 0, none⟩) 2 9 (by omega) (by omega) _ hn1).mono ?_
  rintro e w2 ⟨v2, rfl, hL2, hg2⟩
  obtain ⟨a2, c2, rfl, _⟩ := hL2.len
  have hn2 := hn1.keptN hg2
  have gg2 := g_none gg1 hg2
  go_wp2_with fail
  refine (copy_none (some ⟨w.heap.size, 0, none⟩) _ hn2).mono ?_
  rintro e w3 ⟨rfl, rfl⟩
  go_wp2_with fail
  refine (same_none (some ⟨w.heap.size, 0, none⟩) none _ hn2 (.inl rfl)).mono ?_
  rintro e w3 ⟨rfl, rfl⟩
  go_wp2_with fail
  go_ret
  exact ⟨rfl, gg2⟩

theorem none_any2 (z : Bool) (w : World) : Calls Try.prog 18 #[.bool z] w fun e w' => e = .returned (.bool true) ∧ w.grownBy w' none := by
  cases z with
  | false => exact none_nil w
  | true => exact none_zero w
end Go.Proofs.Ytkeicoadpdfkkaa
