/-
  The document's Try, Free, Drop.
-/
import Derived.Test.YtnpimkigiioiaaaLockRef
namespace Go.Proofs.Ytnpimkigiioiaaa
open Go.RowKit
set_option maxRecDepth 100000

/-- What is there, or something new. -/
def Fr (w : World) (v v' : Value) : Prop := v' = v ∨ ∀ r, v'.ownBlock = some r → w.heap.size ≤ r
/-! ### with -/
set_option maxHeartbeats 1000000 in
theorem with_any (v : Value) (l : List Int) (k : Nat) (hk : k < l.length) (x : Int) (w : World) (h : IntsAt w v l) :
    Calls Try.prog 55 #[v, .int .i64 k, .int .i64 x] w fun e w' => ∃ v', e = .returned v' ∧ IntsAt w' v' (l.set k x) ∧ w.grownBy w' none ∧ ∀ r, v'.ownBlock = some r → w.heap.size ≤ r := by
  obtain ⟨i0, hi, hz0, hz1, hz2⟩ := info_parts info_int
  obtain ⟨y, hy⟩ : ∃ y, l[k]? = some y := ⟨l[k], List.getElem?_eq_getElem hk⟩
  obtain ⟨g, off, cap, rfl, _⟩ := h.at hy
  obtain ⟨a, cap', e, hl, hcp⟩ := h.shape
  cases e
  have hgA := g_alloc (g_refl w none) (.cells #[] 3)
  have h' := h.keptN hgA
  have hrow : (w.alloc (.cells #[] 3)).ownsRow w.heap.size 3 1 (.slice (some ⟨w.heap.size, 0, none⟩) 0 0) 0 [] := World.ownsRow_made w #[] 0 (Nat.le_refl _) (by simp [maxLen]) rfl
  have hil := intsV_length l
  have HX := hid hy
  clear hy h
  go_enter Try.func55, Try.ntmps55
  go_wp2_with (at_builtin; refine wpList_append_own _ rfl _ _ 23 rfl w.heap.size 3 i0 (.int .i64 0) 1 8 Try.underlying23 hi hz0 hz1 hz2 rfl (by decide) _ _ _ rfl hrow ⟨g, off, none⟩ l.length cap (intsV l) rfl (by omega) h'.cells (intsV_oneCell l) (by unfold maxLen at *; omega) (by omega) (by simp) ?_; intro v' w1 hown' hgrow hnn; simp only [Nat.zero_add, List.nil_append] at hown'; obtain ⟨m, hm⟩ : ∃ m, l.length = m + 1 := ⟨l.length - 1, by omega⟩; rw [hm] at hown' hk; obtain ⟨g', cap2, rfl⟩ := ownsRow_succ hown'; have hf := hown'.frozenAt k; have hcl := hown'.cellAt k (by omega); rw [intsV, List.getElem?_map, HX.out] at hcl; have hst := hown'.stored k (.int .i64 x); have HM := hid hm; have HST := hid hst; clear hst hm)
  go_ret
  refine ⟨_, rfl, ?_, ?_, fun r hr => (row_base hown' r hr).1⟩
  · have h1 := HST.out.1
    have h2 : (intsV l).set k (.int .i64 x) = intsV (l.set k x) := by rw [intsV, intsV, List.map_set]
    have h3 : m + 1 = (l.set k x).length := by rw [List.length_set, HM.out]
    rw [h2] at h1
    have h4 := IntsAt.own (ns := l.set k x) (by rw [List.length_set]; omega) (by rw [← h3]; exact h1)
    exact h4
  · exact g_new (g_new hgA hgrow (Nat.le_refl _)) HST.out.2 (row_base hown' g' rfl).1

/-! ### Asks -/
theorem atB_iff {l : List Int} {k : Nat} {t a : Int} (h : l[k]? = some t) : atB l k a = (t == a) := by simp [atB, List.getD_eq_getElem?_getD, h]
theorem tryE_of (l : List Int) (t n : Int) (h : thB t = true) (h2 : inL l n = true) : tryE l t n = if ordB l t n then 220 else 0 := by rw [tryE, if_pos h, if_pos h2]

set_option maxHeartbeats 1000000 in
theorem asks_any (v : Value) (l : List Int) (t n : Int) (w : World) (h : IntsAt w v l) :
    Calls Try.prog 39 #[v, .int .i64 t, .int .i64 n] w fun e w' => e = .returned (.int .i64 (tryE l t n)) ∧ w.grownBy w' none := by
  obtain ⟨a, cap, rfl, hl, hcp⟩ := h.shape
  have H := hid h
  clear h
  cases hth : thB t with
  | false =>
    have he : tryE l t n = 2 := by rw [tryE, hth]; rfl
    rw [he]
    have HTH := hid hth
    clear he hth
    go_enter Try.func39, Try.ntmps39
    go_wp2_with fail
    refine (thread_ref t w).mono ?_
    rintro e _ ⟨rfl, rfl⟩
    rw [HTH.out]
    go_wp2_with fail
    go_ret
    exact ⟨rfl, g_refl w _⟩
  | true =>
    have HTH := hid hth
    cases hin : inL l n with
    | false =>
      have he : tryE l t n = 4 := by rw [tryE, hth, hin]; rfl
      rw [he]
      have hn : n < 0 ∨ (l.length : Int) ≤ n := by
        by_cases h0 : 0 ≤ n
        · right
          by_cases h1 : n < (l.length : Int)
          · simp [inL, h0, h1] at hin
          · omega
        · left; omega
      clear he hth hin
      rcases hn with hn | hn
      · go_enter Try.func39, Try.ntmps39
        go_wp2_with fail
        refine (thread_ref t w).mono ?_
        rintro e _ ⟨rfl, rfl⟩
        rw [HTH.out]
        go_wp2_with fail
        go_ret
        exact ⟨rfl, g_refl w _⟩
      · go_enter Try.func39, Try.ntmps39
        go_wp2_with fail
        refine (thread_ref t w).mono ?_
        rintro e _ ⟨rfl, rfl⟩
        rw [HTH.out]
        go_wp2_with fail
        go_ret
        exact ⟨rfl, g_refl w _⟩
    | true =>
      have he := tryE_of l t n hth hin
      obtain ⟨k, rfl, hk⟩ := inL_nat hin
      obtain ⟨b, hb⟩ : ∃ b, ordB l t k = b := ⟨_, rfl⟩
      rw [hb] at he
      rw [he]
      have HB := hid hb
      have hHe := refHeld (.slice a l.length cap) l t w H.out
      obtain ⟨Hs, hHs⟩ : ∃ Hs, heldL l t = Hs := ⟨_, rfl⟩
      have hlast : ∀ r, Hs[Hs.length - 1]? = some r → decide ((k : Int) ≤ r) = b := fun r hr => by
        rw [← hHs] at hr
        rw [← ordB_last hr]; exact HB.out
      have hnil : Hs = [] → b = false := fun h0 => by
        rw [h0] at hHs
        rw [← HB.out]; exact ordB_nil hHs
      rw [hHs] at hHe
      have HHE := hid hHe
      have HLAST := hid hlast
      have HNIL := hid hnil
      have hHl := heldL_length l t
      rw [hHs] at hHl
      clear he hth hin hb hHe hHs hlast hnil
      go_enter Try.func39, Try.ntmps39
      go_wp2_with fail
      refine (thread_ref t w).mono ?_
      rintro e _ ⟨rfl, rfl⟩
      rw [HTH.out]
      go_wp2_with fail
      refine HHE.out.mono ?_
      rintro e w1 ⟨v', rfl, hI, hg⟩
      obtain ⟨a2, cap2, rfl, hl2, hcp2⟩ := hI.shape
      by_cases hpos : 0 < Hs.length
      · obtain ⟨m, hm⟩ : ∃ m, Hs.length = m + 1 := ⟨Hs.length - 1, by omega⟩
        obtain ⟨r, hr⟩ : ∃ r, Hs[m]? = some r := ⟨Hs[m]'(by omega), List.getElem?_eq_getElem _⟩
        obtain ⟨g2, off2, cap3, e2, hc2⟩ := hI.at hr
        cases e2
        have hd := HLAST.out r (by rw [hm]; simpa using hr)
        rw [hm] at hl2 hcp2 ⊢
        have HI := hid hI
        clear hI hr hpos hm hHl
        cases b with
        | true =>
          have hd2 : (k : Int) ≤ r := by simpa using hd
          go_wp2_with fail
          go_ret
          exact ⟨rfl, hg⟩
        | false =>
          have hd2 : r < (k : Int) := by simp at hd; omega
          go_wp2_with fail
          go_ret
          exact ⟨rfl, hg⟩
      · have h0 : Hs = [] := List.length_eq_zero_iff.1 (by omega)
        have hbf := HNIL.out h0
        subst hbf
        subst h0
        go_wp2_with fail
        go_ret
        exact ⟨rfl, hg⟩
end Go.Proofs.Ytnpimkigiioiaaa
