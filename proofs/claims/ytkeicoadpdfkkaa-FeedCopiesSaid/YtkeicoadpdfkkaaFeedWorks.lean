/-
  A feed in memory: the chapter's rows.
-/
import Derived.Test.YtkeicoadpdfkkaaFeedMore
namespace Go.Proofs.Ytkeicoadpdfkkaa
open Go.RowKit

/-- Bytes as a string. -/
theorem LB.str {w : World} {v : Value} {xs : List Int} (h : LB w v xs) : (convert 22 9 v).run Try.prog w = .ok (.string (strOfNums xs)) w := by
  obtain ⟨a, cap, hv, hl, hcp, hm, hc⟩ := id h
  subst hv
  cases a with
  | none =>
    have hx : xs = [] := by
      rcases Nat.eq_zero_or_pos xs.length with h0 | h0
      · exact List.length_eq_zero_iff.1 h0
      · obtain ⟨g, off, e, _⟩ := hc h0
        cases e
    subst hx
    exact run_convert_bytes_nil w _ 5 Try.underlying22 Try.underlying5 _ _ _ Try.underlying9
  | some ad =>
    rw [run_convert_bytes_string w _ _ 5 (some ad) xs.length cap Try.underlying22 Try.underlying5 Try.underlying9]
    have h1 := run_loadCells_list (P := Try.prog) w ad (fb xs) (h.cells)
    rw [fb_length] at h1
    rw [run_bytesToString w ad xs.length cap xs h1, foldl_push_bytes]
    simp [strOfNums, ByteArray.empty, ByteArray.emptyWithCapacity]
    rfl

theorem LB.build6 (w : World) (a b c d e f : Int) (t : TypeId) (n : Nat) (hn : w.heap.size = n) : LB (w.alloc (.cells #[.int .u8 a, .int .u8 b, .int .u8 c, .int .u8 d, .int .u8 e, .int .u8 f] t)) (.slice (some ⟨n, 0, none⟩) 6 6) [a, b, c, d, e, f] := by
  subst hn
  have h := Blk.new w [.int .u8 a, .int .u8 b, .int .u8 c, .int .u8 d, .int .u8 e, .int .u8 f] t
  refine ⟨_, 6, rfl, by simp, by simp, by unfold maxLen; omega, fun _ => ⟨w.heap.size, 0, rfl, fun i x hi => ?_⟩⟩
  rw [Nat.zero_add]
  refine h.cellOf ?_
  match i, hi with
  | 0, hi => simp at hi; subst hi; rfl
  | 1, hi => simp at hi; subst hi; rfl
  | 2, hi => simp at hi; subst hi; rfl
  | 3, hi => simp at hi; subst hi; rfl
  | 4, hi => simp at hi; subst hi; rfl
  | 5, hi => simp at hi; subst hi; rfl
  | i + 6, hi => simp at hi

set_option maxRecDepth 100000 in
set_option maxHeartbeats 4000000 in
theorem works_true (w : World) : Calls Try.prog 6 #[] w fun e w' => e = .returned (.bool true) ∧ w.grownBy w' none := by
  have hg0 := g_alloc (g_refl w none) (.cells #[.int .u8 7, .int .u8 1, .int .u8 2, .int .u8 0, .int .u8 0, .int .u8 255] 5)
  go_enter Try.func6, Try.ntmps6
  go_wp2_with fail
  refine (new_any _ [7, 1, 2, 0, 0, 255] (by simp) _ (LB.build6 w 7 1 2 0 0 255 5 _ rfl)).mono ?_
  rintro e w1 ⟨p, v, rfl, h1, ga1, hp0, _⟩
  have gg1 := g_none hg0 ga1
  have hp : w.heap.size ≤ p := by simp at hp0; omega
  have hu : ∀ x ∈ ([7, 1, 2, 0, 0, 255] : List Int), 0 ≤ x ∧ x < 256 := by decide
  go_wp2_with fail
  refine (pick_ok p v [7, 1, 2, 0, 0, 255] hu 0 1 (by decide) 3 (by decide) (by decide) w1 h1).mono ?_
  rintro e w2 ⟨rfl, h2, ga2⟩
  rw [show pickV ((([7, 1, 2, 0, 0, 255] : List Int).drop 0).take 1) 3 = 1 by decide]
  have gg2 := g_trans (row := none) gg1 ga2 (fun r e => by cases e; exact .inr hp)
  go_wp2_with fail
  refine (draw_ok p v [7, 1, 2, 0, 0, 255] 1 4 (by decide) w2 h2).mono ?_
  rintro e w3 ⟨rfl, h3, ga3⟩
  rw [show sumV ((([7, 1, 2, 0, 0, 255] : List Int).drop 1).take 4) = 513 by decide +kernel]
  have gg3 := g_trans (row := none) gg2 ga3 (fun r e => by cases e; exact .inr hp)
  go_wp2_with fail
  refine (pick_ok p v [7, 1, 2, 0, 0, 255] hu 5 1 (by decide) 256 (by decide) (by decide) w3 h3).mono ?_
  rintro e w4 ⟨rfl, h4, ga4⟩
  rw [show pickV ((([7, 1, 2, 0, 0, 255] : List Int).drop 5).take 1) 256 = 255 by decide]
  have gg4 := g_trans (row := none) gg3 ga4 (fun r e => by cases e; exact .inr hp)
  go_wp2_with fail
  refine (pick_ok p v [7, 1, 2, 0, 0, 255] hu 6 0 (by decide) 5 (by decide) (by decide) w4 h4).mono ?_
  rintro e w5 ⟨rfl, h5, ga5⟩
  rw [show pickV ((([7, 1, 2, 0, 0, 255] : List Int).drop 6).take 0) 5 = 0 by decide]
  have gg5 := g_trans (row := none) gg4 ga5 (fun r e => by cases e; exact .inr hp)
  go_wp2_with fail
  refine (lft_some p v [7, 1, 2, 0, 0, 255] 6 w5 h5).mono ?_
  rintro e w6 ⟨rfl, n6, hw6⟩
  have ga6 : w5.grownBy w6 none := hw6 ▸ g_drewM (g_refl w5 none) n6
  clear hw6
  have h6 := h5.keptN ga6
  have gg6 := g_none gg5 ga6
  go_wp2_with fail
  refine (seek_in p v [7, 1, 2, 0, 0, 255] 6 4 (by decide) w6 h6).mono ?_
  rintro e w7 ⟨rfl, h7, ga7⟩

  have gg7 := g_trans (row := none) gg6 ga7 (fun r e => by cases e; exact .inr hp)
  go_wp2_with fail
  refine (take_ok p v [7, 1, 2, 0, 0, 255] 4 9 2 (by decide) w7 h7).mono ?_
  rintro e w8 ⟨a8, c8, rfl, hr8, h8, ga8⟩
  rw [show ((([7, 1, 2, 0, 0, 255] : List Int).drop 4).take 2) = [0, 255] by decide] at hr8
  have hb8 : ∀ r, (Value.slice a8 2 c8).ownBlock = some r → p ≠ r := fun r e => by have := (row_base hr8 r e).1; have := h7.1.lt; omega
  have L8 : LB w8 (.slice a8 2 c8) [0, 255] := LB.own (by simp) hr8
  have HL8 := hid L8
  clear hr8 L8
  have gg8 := g_trans (row := none) gg7 ga8 (fun r e => by cases e; exact .inr hp)
  go_wp2_with fail
  refine (pick_no p v [7, 1, 2, 0, 0, 255] 6 0 (by decide) w8 h8).mono ?_
  rintro e w9 ⟨rfl, ga9⟩
  have h9 := h8.keptN ga9
  have L9 := HL8.out.keptN ga9
  have gg9 := g_none gg8 ga9
  go_wp2_with fail
  refine (seek_out p v [7, 1, 2, 0, 0, 255] 6 7 (by decide) w9 h9).mono ?_
  rintro e w10 ⟨rfl, rfl⟩

  have hs := L9.str
  rw [show strOfNums [0, 255] = { data := #[0, 255] } by decide] at hs
  clear L9
  go_wp2_with (go_at_call 10; refine (num_any _ _).mono ?_; rintro e _ ⟨rfl, rfl⟩)
  go_ret
  exact ⟨rfl, gg9⟩
end Go.Proofs.Ytkeicoadpdfkkaa
