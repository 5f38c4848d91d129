/-
  A feed in memory: a pick, of a byte that is taken of it.
-/
import Derived.Test.YtkeicoadpdfkkaaFeedOf
namespace Go.Proofs.Ytkeicoadpdfkkaa
open Go.RowKit

theorem takenI_none (v : Option Addr) (m : Int) (of : Value) (w : World) (h : IsNone w v) :
    Calls Try.prog 36 #[.pointer v, .int .i64 m, of] w fun e w' => e = .returned (.tuple #[.int .i64 0, .int .i64 1]) ∧ w = w' := by
  go_enter Try.func36, Try.ntmps36
  go_wp2
  refine wp_scope_fwd 0 rfl ?_
  go_wp2_with fail
  refine (none_none _ v h).mono ?_
  rintro e w1 ⟨rfl, rfl⟩
  go_wp2_with fail
  go_step3
  simp only [Exit.then]
  refine fwd_goto ?_
  go_wp2
  refine noGoto_retI ?_
  go_ret2
  exact ⟨rfl, rfl⟩
theorem takenI_no (p : Nat) (v : Value) (xs : List Int) (k : Nat) (m : Int) (hm : m < 0) (of : Value) (w : World) (h : FeedAt w p v xs k) :
    Calls Try.prog 36 #[.pointer (some ⟨p, 0, none⟩), .int .i64 m, of] w fun e w' => e = .returned (.tuple #[.int .i64 0, .int .i64 2]) ∧ w = w' := by
  go_enter Try.func36, Try.ntmps36
  go_wp2
  refine wp_scope_fwd 0 rfl ?_
  go_wp2_with fail
  refine (none_some _ p v xs k h).mono ?_
  rintro e w1 ⟨rfl, rfl⟩
  go_wp2_with fail
  go_step3
  simp only [Exit.then]
  refine fwd_goto ?_
  go_wp2
  refine noGoto_retI ?_
  go_ret2
  exact ⟨rfl, rfl⟩

set_option maxHeartbeats 1000000 in
theorem takenI_ok (p : Nat) (v : Value) (xs : List Int) (k m d : Nat) (hd : d = min m (xs.length - k)) (hd1 : d ≤ 1) (hu : ∀ x ∈ xs, 0 ≤ x ∧ x < 256) (nb : Nat) (n : Int) (hn : 1 ≤ n) (hn2 : n ≤ 256) (w : World) (h : FeedAt w p v xs k) (hnb : w.cell? ⟨nb, 0, none⟩ = some (.int .i64 n)) :
    Calls Try.prog 36 #[.pointer (some ⟨p, 0, none⟩), .int .i64 m, .func (.func 37) #[] #[.pointer (some ⟨nb, 0, none⟩)]] w fun e w' => e = .returned (.tuple #[.int .i64 (pickV ((xs.drop k).take d) n), .int .i64 0]) ∧ FeedAt w' p v xs (k + d) ∧ w.grownBy w' (some p) := by
  have hkx := h.2.2.2.1
  have hxl := h.2.2.1
  obtain ⟨L, hL⟩ : ∃ L, L = xs.length - k := ⟨_, rfl⟩
  rw [← hL] at hd
  have hkL : k + L ≤ 20000 := by omega
  have hdL : d ≤ L ∧ k + d ≤ xs.length := by omega
  have H := hid h
  have HL := hid hL
  have HD := hid hd
  clear h
  by_cases hm : m ≤ L
  · obtain rfl : m = d := by omega
    clear hd hL
    go_enter Try.func36, Try.ntmps36
    go_wp2
    refine wp_scope_fwd 0 rfl ?_
    go_wp2_with fail
    refine (none_some _ p v xs k H.out).mono ?_
    rintro e w1 ⟨rfl, rfl⟩
    go_wp2_with fail
    refine (left_any p v xs k _ H.out).mono ?_
    rintro e w1 ⟨a1, c1, rfl, hL1, n1, rfl⟩
    rw [← HL.out] at hL1 ⊢
    have hc1 : L ≤ c1 := by
      obtain ⟨_, _, e, _, hh, _⟩ := hL1
      cases e
      have := HL.out
      simp at hh
      omega
    go_wp2_with fail
    refine (left_any p v xs k _ (H.out.keptN (g_drewM (g_refl w none) n1))).mono ?_
    rintro e w2 ⟨a2, c2, rfl, hL2, n2, rfl⟩
    rw [← HL.out] at hL2 ⊢
    have hT := (hL1.take (m := m) (by have := HL.out; rw [List.length_drop]; omega)).keptN (w' := w.drewN (n1 + n2)) ⟨rfl, rfl, rfl, Nat.le_refl _, fun _ _ _ => rfl⟩
    have HT := hid hT
    clear hL1 hL2 hT
    go_wp2_with fail
    refine (ofPick_any _ _ (fun x hx => hu x (List.mem_of_mem_drop (List.mem_of_mem_take hx))) (by simp; omega) nb n hn hn2 _ HT.out hnb).mono ?_
    rintro e w3 ⟨rfl, hg3⟩
    have hgo : w.grownBy w3 none := g_none (g_drewM (row := none) (g_refl w none) (n1 + n2)) hg3
    have h3 := H.out.keptN hgo
    obtain ⟨c0, c1', c2', hpl⟩ := h3.facts
    have f3 := h3.1.frozen 1
    have H3 := hid h3
    clear h3 c2'
    go_wp2_with fail
    go_region_with (first | (go_at_call 26; refine (left_any p v xs k _ (H3.out.keptN (g_drewN (g_refl w3 none) rfl))).mono ?_; rintro e w4 ⟨a4, c4, rfl, hL4, n4, rfl⟩; rw [← HL.out] at hL4 ⊢; clear hL4) | fail)
    all_goals
      have hwr : IntKind.i64.wrap ((k : Int) + if L < m then (L : Int) else m) = ((k + m : Nat) : Int) := by
        rw [if_neg (by omega)]
        rw [wrap_in _ (by omega) (by omega)]
        omega
      rw [hwr]
      clear hwr
      have h5 := (H3.out.keptN (g_drewM (g_refl w3 none) (1 + n4))).put (k + m) hdL.2
      have hg5 : w.grownBy ((w3.drewN (1 + n4)).setCell ⟨p, 1, none⟩ (.int .i64 ((k + m : Nat) : Int))) (some p) := g_trans (g_weak (g_none hgo (g_drewM (row := none) (g_refl w3 none) (1 + n4)))) (grownBy_setCell'' _ p 1 _) (fun r e => by cases e; exact .inl rfl)
      go_wp2_with fail
      go_ret2
      exact ⟨rfl, h5, hg5⟩
  · obtain rfl : L = d := by omega
    clear hd hL
    go_enter Try.func36, Try.ntmps36
    go_wp2
    refine wp_scope_fwd 0 rfl ?_
    go_wp2_with fail
    refine (none_some _ p v xs k H.out).mono ?_
    rintro e w1 ⟨rfl, rfl⟩
    go_wp2_with fail
    refine (left_any p v xs k _ H.out).mono ?_
    rintro e w1 ⟨a1, c1, rfl, hL1, n1, rfl⟩
    rw [← HL.out] at hL1 ⊢
    have hc1 : L ≤ c1 := by
      obtain ⟨_, _, e, _, hh, _⟩ := hL1
      cases e
      have := HL.out
      simp at hh
      omega
    go_wp2_with fail
    refine (left_any p v xs k _ (H.out.keptN (g_drewM (g_refl w none) n1))).mono ?_
    rintro e w2 ⟨a2, c2, rfl, hL2, n2, rfl⟩
    rw [← HL.out] at hL2 ⊢
    have hT := (hL1.take (m := L) (by have := HL.out; rw [List.length_drop]; omega)).keptN (w' := w.drewN (n1 + n2)) ⟨rfl, rfl, rfl, Nat.le_refl _, fun _ _ _ => rfl⟩
    have HT := hid hT
    clear hL1 hL2 hT
    go_wp2_with fail
    refine (ofPick_any _ _ (fun x hx => hu x (List.mem_of_mem_drop (List.mem_of_mem_take hx))) (by simp; omega) nb n hn hn2 _ HT.out hnb).mono ?_
    rintro e w3 ⟨rfl, hg3⟩
    have hgo : w.grownBy w3 none := g_none (g_drewM (row := none) (g_refl w none) (n1 + n2)) hg3
    have h3 := H.out.keptN hgo
    obtain ⟨c0, c1', c2', hpl⟩ := h3.facts
    have f3 := h3.1.frozen 1
    have H3 := hid h3
    clear h3 c2'
    go_wp2_with fail
    go_region_with (first | (go_at_call 26; refine (left_any p v xs k _ (H3.out.keptN (g_drewN (g_refl w3 none) rfl))).mono ?_; rintro e w4 ⟨a4, c4, rfl, hL4, n4, rfl⟩; rw [← HL.out] at hL4 ⊢; clear hL4) | fail)
    all_goals
      have hwr : IntKind.i64.wrap ((k : Int) + if L < m then (L : Int) else m) = ((k + L : Nat) : Int) := by
        rw [if_pos (by omega)]
        rw [wrap_in _ (by omega) (by omega)]
        omega
      rw [hwr]
      clear hwr
      have h5 := (H3.out.keptN (g_drewM (g_refl w3 none) (1 + n4))).put (k + L) hdL.2
      have hg5 : w.grownBy ((w3.drewN (1 + n4)).setCell ⟨p, 1, none⟩ (.int .i64 ((k + L : Nat) : Int))) (some p) := g_trans (g_weak (g_none hgo (g_drewM (row := none) (g_refl w3 none) (1 + n4)))) (grownBy_setCell'' _ p 1 _) (fun r e => by cases e; exact .inl rfl)
      go_wp2_with fail
      go_ret2
      exact ⟨rfl, h5, hg5⟩
end Go.Proofs.Ytkeicoadpdfkkaa
