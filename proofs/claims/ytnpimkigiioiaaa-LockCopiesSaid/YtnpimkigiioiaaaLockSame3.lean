/-
  Are two that there are the same?
-/
import Derived.Test.YtnpimkigiioiaaaLockIs
namespace Go.Proofs.Ytnpimkigiioiaaa
open Go.RowKit
set_option maxRecDepth 100000

theorem llen_some (p pc g K : Nat) (l : List Int) (w : World) (h : LockAt w p pc g K l) :
    Calls Try.prog 36 #[.pointer (some ⟨pc, 0, none⟩)] w fun e w' => e = .returned (.int .i64 l.length) ∧ w = w' := by
  obtain ⟨xs, hB, hC, hx, hs, hl, ht, hne⟩ := h
  have hlx := (words_get hx).1
  have hL := len_some pc g xs w hC
  rwa [hlx] at hL

def sel (x p : Nat) (l l2 : List Int) : List Int := if x = p then l else l2
theorem sel_same (p : Nat) (l l2 : List Int) : sel p p l l2 = l := by simp [sel]
theorem sel_other {p q : Nat} (h : p ≠ q) (l l2 : List Int) : sel q p l l2 = l2 := by rw [sel, if_neg (fun e => h e.symm)]

/-- Two, in a world that has grown. -/
structure Two (p pc g K q qc g2 K2 : Nat) (l l2 : List Int) (w : World) : Prop where
  a : LockAt w p pc g K l
  b : LockAt w q qc g2 K2 l2
  ne : p ≠ q
theorem two_len {p pc g K q qc g2 K2 : Nat} {l l2 : List Int} {w0 : World} (T : Hid (Two p pc g K q qc g2 K2 l l2 w0)) (hl : Hid (l.length = l2.length)) (x : Nat) (hx : x = pc ∨ x = qc) (w : World) (hg : w0.grownBy w none) :
    Calls Try.prog 36 #[.pointer (some ⟨x, 0, none⟩)] w fun e w' => e = .returned (.int .i64 l.length) ∧ w = w' := by
  rcases hx with rfl | rfl
  · exact llen_some p x g K l w (T.out.a.keptN hg)
  · rw [hl.out]; exact llen_some q x g2 K2 l2 w (T.out.b.keptN hg)
theorem two_threads {p pc g K q qc g2 K2 : Nat} {l l2 : List Int} {w0 : World} (T : Hid (Two p pc g K q qc g2 K2 l l2 w0)) (x : Nat) (hx : x = p ∨ x = q) (w : World) (hg : w0.grownBy w none) :
    Calls Try.prog 49 #[.pointer (some ⟨x, 0, none⟩)] w fun e w' => ∃ v, e = .returned v ∧ IntsAt w' v (sel x p l l2) ∧ w.grownBy w' none := by
  rcases hx with rfl | rfl
  · rw [sel_same]; exact threads_some x pc g K l w (T.out.a.keptN hg)
  · rw [sel_other T.out.ne]; exact threads_some x qc g2 K2 l2 w (T.out.b.keptN hg)
theorem two_equal {p pc g K q qc g2 K2 : Nat} {l l2 : List Int} {w0 : World} (T : Hid (Two p pc g K q qc g2 K2 l l2 w0)) (v1 v2 : Value) (w W1 W2 : World) (h1 : IntsAt W1 v1 (sel p p l l2)) (h2 : IntsAt W2 v2 (sel q p l l2)) (g1 : W1.grownBy w none) (g2 : W2.grownBy w none) :
    Calls Try.prog 48 #[v1, v2] w fun e w' => e = .returned (.bool (decide (l = l2))) ∧ w.grownBy w' none := by
  rw [sel_same] at h1
  rw [sel_other T.out.ne] at h2
  exact (equal_any v1 v2 l l2 w (h1.keptN g1) (h2.keptN g2)).mono fun e w' ⟨he, n, hn⟩ => ⟨he, by rw [← hn]; exact g_drewN (g_refl w none) n⟩

abbrev SameS (p pc q qc : Nat) (w w' : World) : Prop := w'.cell? ⟨p, 0, none⟩ = some (.pointer (some ⟨pc, 0, none⟩)) ∧ w'.cell? ⟨q, 0, none⟩ = some (.pointer (some ⟨qc, 0, none⟩)) ∧ w.grownBy w' none
theorem SameS.more {p pc q qc : Nat} {w w1 w2 : World} (h : SameS p pc q qc w w1) (hg : w1.grownBy w2 none) : SameS p pc q qc w w2 := ⟨g_cellN hg h.1, g_cellN hg h.2.1, g_none h.2.2 hg⟩
theorem SameS.grown {p pc q qc : Nat} {w w1 : World} (h : SameS p pc q qc w w1) : w.grownBy w1 none := h.2.2

set_option maxHeartbeats 4000000 in
theorem lsame_some (p pc g K q qc g2 K2 : Nat) (l l2 : List Int) (w : World) (h : LockAt w p pc g K l) (h' : LockAt w q qc g2 K2 l2) (hne : p ≠ q) :
    Calls Try.prog 21 #[.pointer (some ⟨p, 0, none⟩), .pointer (some ⟨q, 0, none⟩)] w fun e w' => e = .returned (.bool (decide (l = l2))) ∧ w.grownBy w' none := by
  have hc := h.cell
  have hc' := h'.cell
  have hS1 : SameS p pc q qc w w.drew := ⟨hc, hc', g_drew (g_refl _ _)⟩
  have T := hid (Two.mk h h' hne)
  clear h h' hne
  by_cases hlen : l.length = l2.length
  · have HLEN := hid hlen
    obtain ⟨N, hN⟩ : ∃ N, l.length = N := ⟨_, rfl⟩
    clear hlen
    go_enter Try.func21, Try.ntmps21
    go_wp2_with fail
    refine (lnone_some p pc g K l w T.out.a).mono ?_
    rintro e _ ⟨rfl, rfl⟩
    go_wp2_with fail
    refine (lnone_some q qc g2 K2 l2 w T.out.b).mono ?_
    rintro e _ ⟨rfl, rfl⟩
    go_wp2_with fail
    go_region_held3 (fun w' => w'.cell? ⟨p, 0, none⟩ = some (.pointer (some ⟨pc, 0, none⟩)) ∧ w'.cell? ⟨q, 0, none⟩ = some (.pointer (some ⟨qc, 0, none⟩)) ∧ w.grownBy w' none)
      (first | assumption | exact SameS.more (by assumption) hg2)
      (first
        | (go_at_call 36; refine (two_len T HLEN _ (by first | exact .inl rfl | exact .inr rfl) _ (SameS.grown (by assumption))).mono ?_; rintro e _ ⟨rfl, rfl⟩)
        | (go_at_call 49; refine (two_threads T _ (by first | exact .inl rfl | exact .inr rfl) _ (SameS.grown (by assumption))).mono ?_; rintro e w2 ⟨v2, rfl, hI2, hg2⟩)
        | (go_at_call 48; refine (two_equal T _ _ _ _ _ (by assumption) (by assumption) (by first | exact g_refl _ _ | assumption) (by first | exact g_refl _ _ | assumption)).mono ?_; rintro e w4 ⟨rfl, hg2⟩)
        | fail)
    rename _ ∧ _ ∧ World.grownBy _ _ _ => hSE
    go_wp2
    go_ret
    exact ⟨rfl, hSE.2.2⟩
  · have hlb : ((l.length : Int) == (l2.length : Int)) = false := by simp; omega
    have hfin : decide (l = l2) = false := by
      simp only [decide_eq_false_iff_not]; rintro rfl; exact hlen rfl
    have HF := hid hfin
    have h1 : ∀ n, Calls Try.prog 36 #[.pointer (some ⟨pc, 0, none⟩)] (w.drewN n) fun e w' => e = .returned (.int .i64 l.length) ∧ ∃ m, w' = w.drewN m := fun n => (llen_some p pc g K l (w.drewN n) (T.out.a.keptN (g_drewN (g_refl w none) n))).mono fun e w' ⟨he, hw⟩ => ⟨he, n, hw.symm⟩
    have h2 : ∀ n, Calls Try.prog 36 #[.pointer (some ⟨qc, 0, none⟩)] (w.drewN n) fun e w' => e = .returned (.int .i64 l2.length) ∧ ∃ m, w' = w.drewN m := fun n => (llen_some q qc g2 K2 l2 (w.drewN n) (T.out.b.keptN (g_drewN (g_refl w none) n))).mono fun e w' ⟨he, hw⟩ => ⟨he, n, hw.symm⟩
    have H1 := hid h1
    have H2 := hid h2
    clear hfin h1 h2 hlen hS1
    go_enter Try.func21, Try.ntmps21
    go_wp2_with fail
    refine (lnone_some p pc g K l w T.out.a).mono ?_
    rintro e _ ⟨rfl, rfl⟩
    go_wp2_with fail
    refine (lnone_some q qc g2 K2 l2 w T.out.b).mono ?_
    rintro e _ ⟨rfl, rfl⟩
    go_wp2_with fail
    go_quiet ((go_at_call 36; first | exact H1.out _ | exact H2.out _))
    go_wp2
    go_ret
    exact ⟨by rw [HF.out]; rfl, g_drewN (g_refl _ none) _⟩
end Go.Proofs.Ytnpimkigiioiaaa
