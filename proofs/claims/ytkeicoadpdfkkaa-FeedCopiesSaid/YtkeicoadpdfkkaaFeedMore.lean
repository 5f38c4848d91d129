/-
  A feed in memory: what is taken, drawn, picked; a copy; are two the same?
-/
import Derived.Test.YtkeicoadpdfkkaaFeedTakenB
import Derived.Test.YtkeicoadpdfkkaaFeedTakenU
import Derived.Test.YtkeicoadpdfkkaaFeedTakenI
namespace Go.Proofs.Ytkeicoadpdfkkaa
open Go.RowKit

theorem take_none (v : Option Addr) (m : Int) (w : World) (h : IsNone w v) :
    Calls Try.prog 9 #[.pointer v, .int .i64 m] w fun e w' => e = .returned (.tuple #[.slice none 0 0, .int .i64 1]) ∧ w = w' := by
  go_enter Try.func9, Try.ntmps9
  go_wp2_with fail
  refine (takenB_none v m _ w h).mono ?_
  rintro e w1 ⟨rfl, rfl⟩
  go_wp2
  go_ret2
  exact ⟨rfl, rfl⟩
theorem take_no (p : Nat) (v : Value) (xs : List Int) (k : Nat) (m : Int) (hm : m < 0) (w : World) (h : FeedAt w p v xs k) :
    Calls Try.prog 9 #[.pointer (some ⟨p, 0, none⟩), .int .i64 m] w fun e w' => e = .returned (.tuple #[.slice none 0 0, .int .i64 2]) ∧ w = w' := by
  go_enter Try.func9, Try.ntmps9
  go_wp2_with fail
  refine (takenB_no p v xs k m hm _ w h).mono ?_
  rintro e w1 ⟨rfl, rfl⟩
  go_wp2
  go_ret2
  exact ⟨rfl, rfl⟩
theorem take_ok (p : Nat) (v : Value) (xs : List Int) (k m d : Nat) (hd : d = min m (xs.length - k)) (w : World) (h : FeedAt w p v xs k) :
    Calls Try.prog 9 #[.pointer (some ⟨p, 0, none⟩), .int .i64 m] w fun e w' => ∃ a c, e = .returned (.tuple #[.slice a d c, .int .i64 0]) ∧ w'.ownsRow w.heap.size 5 1 (.slice a d c) d (fb ((xs.drop k).take d)) ∧ FeedAt w' p v xs (k + d) ∧ w.grownBy w' (some p) := by
  have HD := hid hd
  clear hd
  go_enter Try.func9, Try.ntmps9
  go_wp2_with fail
  refine (takenB_ok p v xs k m d HD.out w h).mono ?_
  rintro e w1 ⟨out, rfl, hr, hF, hg⟩
  obtain ⟨a, c, hv, _⟩ := row_slice hr
  subst hv
  go_wp2
  go_ret2
  exact ⟨_, _, rfl, hr, hF, hg⟩

theorem draw_none (v : Option Addr) (w : World) (h : IsNone w v) :
    Calls Try.prog 15 #[.pointer v] w fun e w' => e = .returned (.tuple #[.int .u32 0, .int .i64 1]) ∧ w = w' := by
  go_enter Try.func15, Try.ntmps15
  go_wp2_with fail
  refine (takenU_none v 4 _ w h).mono ?_
  rintro e w1 ⟨rfl, rfl⟩
  go_wp2
  go_ret2
  exact ⟨rfl, rfl⟩
theorem draw_ok (p : Nat) (v : Value) (xs : List Int) (k d : Nat) (hd : d = min 4 (xs.length - k)) (w : World) (h : FeedAt w p v xs k) :
    Calls Try.prog 15 #[.pointer (some ⟨p, 0, none⟩)] w fun e w' => e = .returned (.tuple #[.int .u32 (sumV ((xs.drop k).take d)), .int .i64 0]) ∧ FeedAt w' p v xs (k + d) ∧ w.grownBy w' (some p) := by
  have HD := hid hd
  clear hd
  go_enter Try.func15, Try.ntmps15
  go_wp2_with fail
  refine (takenU_ok p v xs k 4 d HD.out w h).mono ?_
  rintro e w1 ⟨rfl, hF, hg⟩
  go_wp2
  go_ret2
  exact ⟨rfl, hF, hg⟩

theorem pick_none (v : Option Addr) (n : Int) (w : World) (h : IsNone w v) :
    Calls Try.prog 20 #[.pointer v, .int .i64 n] w fun e w' => e = .returned (.tuple #[.int .i64 0, .int .i64 1]) ∧ w.grownBy w' none := by
  have hgA := g_alloc (g_refl w none) (.cells #[.int .i64 n] 3)
  have hA : IsNone (w.alloc (.cells #[.int .i64 n] 3)) v := h.imp id fun ⟨p, hv, hc⟩ => ⟨p, hv, g_cellN hgA hc⟩
  have bN := (Blk.new w [.int .i64 n] 3).cellOf (i := 0) rfl
  by_cases h0 : n < 1
  · go_enter Try.func20, Try.ntmps20
    go_wp2_with fail
    refine (takenI_none v (-1) _ _ hA).mono ?_
    rintro e w1 ⟨rfl, rfl⟩
    go_wp2
    go_ret2
    exact ⟨rfl, hgA⟩
  · by_cases h1 : 256 < n
    · go_enter Try.func20, Try.ntmps20
      go_wp2_with fail
      refine (takenI_none v (-1) _ _ hA).mono ?_
      rintro e w1 ⟨rfl, rfl⟩
      go_wp2
      go_ret2
      exact ⟨rfl, hgA⟩
    · go_enter Try.func20, Try.ntmps20
      go_wp2_with fail
      refine (takenI_none v 1 _ _ hA).mono ?_
      rintro e w1 ⟨rfl, rfl⟩
      go_wp2
      go_ret2
      exact ⟨rfl, hgA⟩
theorem pick_no (p : Nat) (v : Value) (xs : List Int) (k : Nat) (n : Int) (hn : n < 1 ∨ 256 < n) (w : World) (h : FeedAt w p v xs k) :
    Calls Try.prog 20 #[.pointer (some ⟨p, 0, none⟩), .int .i64 n] w fun e w' => e = .returned (.tuple #[.int .i64 0, .int .i64 2]) ∧ w.grownBy w' none := by
  have hgA := g_alloc (g_refl w none) (.cells #[.int .i64 n] 3)
  have hA := h.keptN hgA
  have bN := (Blk.new w [.int .i64 n] 3).cellOf (i := 0) rfl
  by_cases h0 : n < 1
  · clear hn
    go_enter Try.func20, Try.ntmps20
    go_wp2_with fail
    refine (takenI_no p v xs k (-1) (by omega) _ _ hA).mono ?_
    rintro e w1 ⟨rfl, rfl⟩
    go_wp2
    go_ret2
    exact ⟨rfl, hgA⟩
  · have h1 : 256 < n := hn.resolve_left h0
    clear hn
    go_enter Try.func20, Try.ntmps20
    go_wp2_with fail
    refine (takenI_no p v xs k (-1) (by omega) _ _ hA).mono ?_
    rintro e w1 ⟨rfl, rfl⟩
    go_wp2
    go_ret2
    exact ⟨rfl, hgA⟩
theorem pick_ok (p : Nat) (v : Value) (xs : List Int) (hu : ∀ x ∈ xs, 0 ≤ x ∧ x < 256) (k d : Nat) (hd : d = min 1 (xs.length - k)) (n : Int) (hn : 1 ≤ n) (hn2 : n ≤ 256) (w : World) (h : FeedAt w p v xs k) :
    Calls Try.prog 20 #[.pointer (some ⟨p, 0, none⟩), .int .i64 n] w fun e w' => e = .returned (.tuple #[.int .i64 (pickV ((xs.drop k).take d) n), .int .i64 0]) ∧ FeedAt w' p v xs (k + d) ∧ w.grownBy w' (some p) := by
  have hgA := g_alloc (g_refl w none) (.cells #[.int .i64 n] 3)
  have hA := h.keptN hgA
  have bN := (Blk.new w [.int .i64 n] 3).cellOf (i := 0) rfl
  have HD := hid hd
  clear hd
  go_enter Try.func20, Try.ntmps20
  go_wp2_with fail
  refine (takenI_ok p v xs k 1 d HD.out (by have := HD.out; omega) hu w.heap.size n hn hn2 _ hA bN).mono ?_
  rintro e w1 ⟨rfl, hF, hg⟩
  go_wp2
  go_ret2
  exact ⟨rfl, hF, g_trans (g_weak hgA) hg (fun r e => .inl e)⟩

/-! ### A copy -/
abbrev CopyS (p : Nat) (v : Value) (k : Nat) (w w' : World) : Prop := w'.cell? ⟨p, 0, none⟩ = some v ∧ w'.cell? ⟨p, 1, none⟩ = some (.int .i64 k) ∧ w.grownBy w' none
theorem CopyS.more {p k : Nat} {v : Value} {w w1 w2 : World} (h : CopyS p v k w w1) (hg : w1.grownBy w2 none) : CopyS p v k w w2 := ⟨g_cellN hg h.1, g_cellN hg h.2.1, g_none h.2.2 hg⟩
theorem copy_some (p : Nat) (v : Value) (xs : List Int) (k : Nat) (w : World) (h : FeedAt w p v xs k) :
    Calls Try.prog 8 #[.pointer (some ⟨p, 0, none⟩)] w fun e w' => ∃ p' v', e = .returned (.pointer (some ⟨p', 0, none⟩)) ∧ FeedAt w' p' v' xs k ∧ w.grownBy w' none ∧ w.heap.size ≤ p' ∧ (∀ r, v'.ownBlock = some r → w.heap.size ≤ r ∧ r < w'.heap.size) := by
  obtain ⟨c0, c1, c2, hpl⟩ := h.facts
  obtain ⟨a0, q0, hv, hq1, hq2⟩ := row_slice h.2.1
  subst hv
  have HF := hid h
  clear c2
  go_enter Try.func8, Try.ntmps8
  go_wp2_with fail
  refine (none_some _ p _ xs k h).mono ?_
  rintro e w1 ⟨rfl, rfl⟩
  go_wp2_with fail
  have hS1 : CopyS p (.slice a0 xs.length q0) k w w.drew := ⟨c0, c1, g_drewN (g_refl w none) rfl⟩
  clear h c0 c1
  go_region_held3 (fun w' => w'.cell? ⟨p, 0, none⟩ = some (.slice a0 xs.length q0) ∧ w'.cell? ⟨p, 1, none⟩ = some (.int .i64 k) ∧ w.grownBy w' none)
    (first | assumption | exact CopyS.more (by assumption) hg2 | exact CopyS.more (by assumption) (g_alloc (g_refl _ none) _))
    (first
      | (go_at_call 23; refine (cloneF_any _ xs _ (HF.out.list.keptN (g_drewN (g_refl w none) rfl))).mono ?_; rintro e w2 ⟨v2, rfl, hr2, hg2⟩; obtain ⟨a2, q2, hv2, _⟩ := row_slice hr2; subst hv2)
      | fail)
  go_wp2
  go_ret
  have hb := Blk.new w2 [.slice a2 xs.length q2, .int .i64 k, .bool true] 55
  have hgA := g_alloc (g_refl w2 none) (.cells #[.slice a2 xs.length q2, .int .i64 k, .bool true] 55)
  have hr := row_base hr2
  have hs : w.drew.heap.size = w.heap.size := rfl
  rw [hs] at hr2 hr
  refine ⟨w2.heap.size, _, rfl, ⟨by simpa using hb, (row_down hr2 0 (by omega)).alloc _, HF.out.2.2.1, HF.out.2.2.2.1, fun e => by have := (hr _ e).2; omega⟩, g_none (g_none (g_drewN (g_refl w none) rfl) hg2) hgA, by have := hg2.size; omega, fun r e => ⟨(hr r e).1, by have := (hr r e).2; simp; omega⟩⟩
theorem copy_none (v : Option Addr) (w : World) (h : IsNone w v) :
    Calls Try.prog 8 #[.pointer v] w fun e w' => e = .returned (.pointer none) ∧ w = w' := by
  go_enter Try.func8, Try.ntmps8
  go_wp2_with fail
  refine (none_none _ v h).mono ?_
  rintro e w1 ⟨rfl, rfl⟩
  go_wp2
  go_ret
  exact ⟨rfl, rfl⟩

/-! ### Are two the same? -/
theorem takeB_step {xs ys : List Int} {k : Nat} {x y : Int} (hx : xs[k]? = some x) (hy : ys[k]? = some y) (h : xs.take k = ys.take k) (h1 : x = y) : xs.take (k + 1) = ys.take (k + 1) := by
  rw [List.take_add_one, List.take_add_one, hx, hy, h, h1]
theorem not_sameB {xs ys : List Int} {k : Nat} {x y : Int} (hx : xs[k]? = some x) (hy : ys[k]? = some y) (h : x ≠ y) : decide (xs = ys) = false := by
  simp only [decide_eq_false_iff_not]
  rintro rfl
  rw [hx] at hy; cases hy
  exact h rfl
set_option maxHeartbeats 1000000 in
theorem equal_any (v1 v2 : Value) (xs ys : List Int) (w : World) (h1 : LB w v1 xs) (h2 : LB w v2 ys) :
    Calls Try.prog 27 #[v1, v2] w fun e w' => e = .returned (.bool (decide (xs = ys))) ∧ ∃ n, w.drewN n = w' := by
  obtain ⟨a1, cap1, hv1, hl1, hcp1, hm1, _⟩ := id h1
  obtain ⟨a2, cap2, hv2, hl2, hcp2, hm2, _⟩ := id h2
  subst hv1 hv2
  by_cases hlen : xs.length = ys.length
  · have hb : ((xs.length : Int) != (ys.length : Int)) = false := by simp [hlen]
    have HL := hid hlen
    have H1 := hid h1
    have H2 := hid h2
    clear h1 h2 hlen
    go_enter Try.func27, Try.ntmps27
    go_wp2
    go_loopw [13] (fun v wr => ∃ (k m : Nat), k ≤ xs.length ∧ v = .int .i64 k ∧ xs.take k = ys.take k ∧ wr = w.drewN m) (fun v _ => xs.length - (intOf v).toNat)
    case atStart => exact ⟨0, 0, Nat.zero_le _, rfl, rfl, rfl⟩
    case round =>
      obtain ⟨k, m, hk, rfl, ht, rfl⟩ := hrel
      have HT := hid ht
      clear ht
      by_cases hlt : k < xs.length
      · obtain ⟨x1, hi1⟩ : ∃ x, xs[k]? = some x := ⟨xs[k], List.getElem?_eq_getElem hlt⟩
        obtain ⟨x2, hi2⟩ : ∃ x, ys[k]? = some x := ⟨ys[k]'(by have := HL.out; omega), List.getElem?_eq_getElem _⟩
        obtain ⟨g1, off1, q1, e1, d1⟩ := H1.out.at hi1
        obtain ⟨g2, off2, q2, e2, d2⟩ := H2.out.at hi2
        cases e1
        cases e2
        have HI1 := hid hi1
        have HI2 := hid hi2
        have hk2 : k < ys.length := by have := HL.out; omega
        clear hi1 hi2
        by_cases hx : x1 = x2
        · subst hx
          go_wp2
          go_quiet (fail)
          go_wp2
          go_roundw
          case rel => exact ⟨k + 1, m + nq, by omega, by go_num, takeB_step HI1.out HI2.out HT.out rfl, rfl⟩
          case measure => simp [intOf]; omega
        · have hx' : (x1 == x2) = false := by simpa using hx
          have hfin := hid (not_sameB HI1.out HI2.out hx)
          go_wp2
          go_quiet (fail)
          go_wp2
          go_ret
          exact ⟨by rw [hfin.out]; rfl, m + nq, by simp⟩
      · have hfin : decide (xs = ys) = true := by
          have h := HT.out
          have hl := HL.out
          rw [List.take_of_length_le (by omega), List.take_of_length_le (by omega)] at h
          simp [h]
        have HF := hid hfin
        clear hfin
        go_wp2
        go_ret
        exact ⟨by rw [HF.out]; rfl, m, rfl⟩
  · have hb : ((xs.length : Int) != (ys.length : Int)) = true := by simp; omega
    have hfin : decide (xs = ys) = false := by
      simp only [decide_eq_false_iff_not]
      rintro rfl; exact hlen rfl
    have HF := hid hfin
    clear hfin
    go_enter Try.func27, Try.ntmps27
    go_wp2
    go_ret
    exact ⟨by rw [HF.out]; rfl, 0, rfl⟩

theorem same_some (p q : Nat) (v u : Value) (xs ys : List Int) (k j : Nat) (w : World) (h : FeedAt w p v xs k) (h' : FeedAt w q u ys j) :
    Calls Try.prog 13 #[.pointer (some ⟨p, 0, none⟩), .pointer (some ⟨q, 0, none⟩)] w fun e w' => e = .returned (.bool (decide (xs.drop k = ys.drop j))) ∧ ∃ n, w.drewN n = w' := by
  go_enter Try.func13, Try.ntmps13
  go_wp2_with fail
  refine (none_some _ p v xs k h).mono ?_
  rintro e w1 ⟨rfl, rfl⟩
  go_wp2_with fail
  refine (none_some _ q u ys j h').mono ?_
  rintro e w1 ⟨rfl, rfl⟩
  go_wp2_with fail
  refine (left_any p v xs k _ h).mono ?_
  rintro e w1 ⟨a1, c1, rfl, hL1, n1, rfl⟩
  go_wp2_with fail
  refine (left_any q u ys j _ (h'.keptN (g_drewM (g_refl w none) n1))).mono ?_
  rintro e w2 ⟨a2, c2, rfl, hL2, n2, rfl⟩
  have hL1' : LB (w.drewN (n1 + n2)) (.slice a1 (xs.length - k) c1) (xs.drop k) := hL1
  have hL2' : LB (w.drewN (n1 + n2)) (.slice a2 (ys.length - j) c2) (ys.drop j) := hL2
  have HL1 := hid hL1'
  have HL2 := hid hL2'
  clear hL1 hL2 hL1' hL2'
  go_wp2_with fail
  refine (equal_any _ _ _ _ _ HL1.out HL2.out).mono ?_
  rintro e w3 ⟨rfl, n3, rfl⟩
  go_wp2
  go_ret
  exact ⟨rfl, _, rfl⟩
theorem same_none (v u : Option Addr) (w : World) (h : IsNone w v) (h' : IsNone w u) :
    Calls Try.prog 13 #[.pointer v, .pointer u] w fun e w' => e = .returned (.bool true) ∧ w = w' := by
  go_enter Try.func13, Try.ntmps13
  go_wp2_with fail
  refine (none_none _ v h).mono ?_
  rintro e w1 ⟨rfl, rfl⟩
  go_wp2_with fail
  refine (none_none _ v h).mono ?_
  rintro e w1 ⟨rfl, rfl⟩
  go_wp2_with fail
  refine (none_none _ u h').mono ?_
  rintro e w1 ⟨rfl, rfl⟩
  go_wp2
  go_ret
  exact ⟨rfl, rfl⟩
end Go.Proofs.Ytkeicoadpdfkkaa
