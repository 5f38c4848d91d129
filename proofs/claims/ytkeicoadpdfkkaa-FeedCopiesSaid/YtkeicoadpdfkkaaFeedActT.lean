/-
  A call by both, that takes bytes.
-/
import Derived.Test.YtkeicoadpdfkkaaFeedAct
namespace Go.Proofs.Ytkeicoadpdfkkaa
open Go.RowKit

theorem fb_set (zs : List Int) (i : Nat) (z : Int) : (fb zs).set i (.int .u8 z) = fb (zs.set i z) := by simp [fb, List.map_set]
/-- A byte of an own row is written. -/
theorem row_setB {w : World} {base g n c i : Nat} {zs : List Int} (z : Int) (h : w.ownsRow base 5 1 (.slice (some ⟨g, 0, none⟩) n c) n (fb zs)) (hi : i < zs.length) : (w.setCell ⟨g, i, none⟩ (.int .u8 z)).ownsRow base 5 1 (.slice (some ⟨g, 0, none⟩) n c) n (fb (zs.set i z)) := by
  obtain ⟨tail, h1, h2, h3, h4, h5⟩ := row_blk h
  have h6 := h1.set i (.int .u8 z)
  rw [List.set_append_left _ _ (by rw [fb_length]; exact hi), fb_set] at h6
  exact blk_row h6 (by rw [fb_length, List.length_set, ← fb_length, h.1]) (by rw [List.length_append, fb_length, List.length_set, ← fb_length, ← List.length_append]; exact h2) h3 h4 h5

set_option maxRecDepth 100000 in
set_option maxHeartbeats 8000000 in
theorem act_take_no (p : Nat) (v : Value) (xs : List Int) (k k' : Nat) (what N : Int) (hw : what = 2)
    (hR : ∀ w : World, Calls Try.prog 33 #[RF xs k, .int .i64 N] w fun e w' => e = .returned (.tuple #[RF xs k', .string { data := #[] }, .int .i64 2]) ∧ w.grownBy w' none)
    (hC : ∀ w : World, FeedAt w p v xs k → Calls Try.prog 9 #[.pointer (some ⟨p, 0, none⟩), .int .i64 N] w fun e w' => e = .returned (.tuple #[.slice none 0 0, .int .i64 2]) ∧ FeedAt w' p v xs k' ∧ w.grownBy w' (some p))
    (w : World) (h : FeedAt w p v xs k) :
    Calls Try.prog 16 #[.pointer (some ⟨p, 0, none⟩), RF xs k, .agg #[.int .i64 what, .int .i64 N]] w (ActPost p v xs w) := by
  subst hw
  have hpw := h.facts.2.2.2
  have hvw := h.vlt
  obtain ⟨b1, b2, b3, hgA⟩ := act_cells xs k 2 N w
  have h0 := h.keptN hgA
  have x0 := b2.cellOf (i := 0) rfl
  have x1 := b2.cellOf (i := 1) rfl
  have a0 := b1.cellOf (i := 0) rfl
  have a1 := b1.cellOf (i := 1) rfl
  have HF := hid h0
  clear h h0
  go_enter Try.func16, Try.ntmps16
  go_wp2_with fail
  refine (hR _).mono ?_
  rintro e w1 ⟨rfl, hg1⟩
  have hs1 : w.heap.size + 3 ≤ w1.heap.size := by have := hg1.size; simpa using this
  have gg1 := g_none hgA hg1
  have hF1 := (HF.out.keptN hg1).keptN (g_alloc (g_refl w1 none) (.cells #[.string (strOfNums xs), .int .i64 k'] 41))
  have gg2 := g_alloc gg1 (.cells #[.string (strOfNums xs), .int .i64 k'] 41)
  have b4 := Blk.new w1 [.string (strOfNums xs), .int .i64 (k' : Int)] 41
  have b5 := (b2.keptN hg1).alloc (.cells #[.string (strOfNums xs), .int .i64 k'] 41)
  have b6 := (b3.keptN hg1).alloc (.cells #[.string (strOfNums xs), .int .i64 k'] 41)
  have x2 := b5.cellOf (i := 1) rfl
  clear hg1 gg1 b1 b2 b3 a0 a1 hgA x0 x1 HF
  go_wp2_with fail
  refine (hC _ hF1).mono ?_
  rintro e w2 ⟨rfl, hF2, hg2⟩
  have b7 := b4.kept hg2 (by simp; omega)
  have b8 := b6.kept hg2 (by simp; omega)
  have gg3 := g_same (g_weak gg2) hg2
  have hs2 : w1.heap.size < w2.heap.size := b7.lt
  have hstr : ∀ W : World, (convert 22 9 (.slice none 0 0)).run Try.prog W = .ok (.string { data := #[] }) W := fun W => by
    have h1 := LB.str (LB.nil W none 0 (by simp [maxLen]))
    rw [show strOfNums [] = { data := #[] } by decide] at h1
    exact h1
  clear hg2 gg2 b4 b5 b6 x2 hF1
  go_wp2_with (go_at_call 10; refine (num_any _ _).mono ?_; rintro e _ ⟨rfl, rfl⟩)
  go_loopw [24] (fun i wr => i = .int .i64 0 ∧ w2 = wr) (fun _ _ => 0)
  case atStart => exact ⟨rfl, rfl⟩
  case round =>
      obtain ⟨rfl, rfl⟩ := hrel
      have b9 := b8.set 0 (.string (strOfNums xs))
      have b10 := b9.set 1 (.int .i64 (k' : Int))
      have f0 := b8.frozen 0
      have f1 := b9.frozen 1
      have c0 := b8.cellOf (i := 0) rfl
      have c1 := b9.cellOf (i := 1) rfl
      have k2 := b7.cellOf (i := 0) rfl
      have k3 := b7.cellOf (i := 1) rfl
      have hne3 : w1.heap.size ≠ w.heap.size + 2 := by omega
      have kS0 : ∀ u v, ((w2.drew.setCell ⟨w.heap.size + 2, 0, none⟩ u).setCell ⟨w.heap.size + 2, 1, none⟩ v).cell? ⟨w1.heap.size, 0, none⟩ = some (.string (strOfNums xs)) := fun u v => ((b7.drew.other (a := ⟨w.heap.size + 2, 0, none⟩) hne3 u).other (a := ⟨w.heap.size + 2, 1, none⟩) hne3 v).cellOf rfl
      have kS1 : ∀ u v, ((w2.drew.setCell ⟨w.heap.size + 2, 0, none⟩ u).setCell ⟨w.heap.size + 2, 1, none⟩ v).cell? ⟨w1.heap.size, 1, none⟩ = some (.int .i64 k') := fun u v => ((b7.drew.other (a := ⟨w.heap.size + 2, 0, none⟩) hne3 u).other (a := ⟨w.heap.size + 2, 1, none⟩) hne3 v).cellOf rfl
      clear b7 b8 b9
      go_wp2_with fail
      go_region_held3 (fun w' => w'.cell? ⟨w1.heap.size, 0, none⟩ = some (.string (strOfNums xs)) ∧ w'.cell? ⟨w1.heap.size, 1, none⟩ = some (.int .i64 k')) (first | assumption | exact ⟨k2, k3⟩ | exact ⟨kS0 _ _, kS1 _ _⟩) (fail)
      all_goals
        go_wp2
        obtain ⟨hFf, hgf⟩ := act_fin (d := 1) (x := .string (strOfNums xs)) (y := .int .i64 (k' : Int)) hF2 gg3 hpw hvw (show w.heap.size ≤ w.heap.size + 2 by omega)
        refine bodyPost_ret (results_trt rfl _ _ (w.heap.size + 2) _ _ _ _ rfl b10 Try.underlying41 rfl (by kernel_rfl)) rfl ?_
        exact ⟨p, v, k', rfl, hFf, .inl ⟨rfl, rfl⟩, hgf⟩

set_option maxRecDepth 100000 in
set_option maxHeartbeats 8000000 in
theorem act_take_ok (p : Nat) (v : Value) (xs : List Int) (k k' m d : Nat) (what : Int) (hw : what = 2) (hd : d = min m (xs.length - k)) (hk' : k' = k + d)
    (hR : ∀ w : World, Calls Try.prog 33 #[RF xs k, .int .i64 m] w fun e w' => e = .returned (.tuple #[RF xs k', .string (strOfNums ((xs.drop k).take d)), .int .i64 0]) ∧ w.grownBy w' none)
    (hC : ∀ w : World, FeedAt w p v xs k → Calls Try.prog 9 #[.pointer (some ⟨p, 0, none⟩), .int .i64 m] w fun e w' => ∃ a c, e = .returned (.tuple #[.slice a d c, .int .i64 0]) ∧ w'.ownsRow w.heap.size 5 1 (.slice a d c) d (fb ((xs.drop k).take d)) ∧ FeedAt w' p v xs k' ∧ w.grownBy w' (some p))
    (w : World) (h : FeedAt w p v xs k) :
    Calls Try.prog 16 #[.pointer (some ⟨p, 0, none⟩), RF xs k, .agg #[.int .i64 what, .int .i64 m]] w (ActPost p v xs w) := by
  have hl := h.2.2.1
  have hyl : ((xs.drop k).take d).length = d := by simp; omega
  have hd2 : d ≤ 20000 := by omega
  generalize (xs.drop k).take d = ys at *
  clear hd hk' hl
  subst hw
  have hpw := h.facts.2.2.2
  have hvw := h.vlt
  obtain ⟨b1, b2, b3, hgA⟩ := act_cells xs k 2 m w
  have h0 := h.keptN hgA
  have x0 := b2.cellOf (i := 0) rfl
  have x1 := b2.cellOf (i := 1) rfl
  have a0 := b1.cellOf (i := 0) rfl
  have a1 := b1.cellOf (i := 1) rfl
  have HF := hid h0
  clear h h0
  go_enter Try.func16, Try.ntmps16
  go_wp2_with fail
  refine (hR _).mono ?_
  rintro e w1 ⟨rfl, hg1⟩
  have hs1 : w.heap.size + 3 ≤ w1.heap.size := by have := hg1.size; simpa using this
  have gg1 := g_none hgA hg1
  have hF1 := (HF.out.keptN hg1).keptN (g_alloc (g_refl w1 none) (.cells #[.string (strOfNums xs), .int .i64 k'] 41))
  have gg2 := g_alloc gg1 (.cells #[.string (strOfNums xs), .int .i64 k'] 41)
  have b4 := Blk.new w1 [.string (strOfNums xs), .int .i64 (k' : Int)] 41
  have b5 := (b2.keptN hg1).alloc (.cells #[.string (strOfNums xs), .int .i64 k'] 41)
  have b6 := (b3.keptN hg1).alloc (.cells #[.string (strOfNums xs), .int .i64 k'] 41)
  have x2 := b5.cellOf (i := 1) rfl
  clear hg1 gg1 b1 b2 b3 a0 a1 hgA x0 x1 HF
  go_wp2_with fail
  refine (hC _ hF1).mono ?_
  rintro e w2 ⟨a, c, rfl, hrow, hF2, hg2⟩
  rw [World.size_alloc] at hrow
  have b7 := b4.kept hg2 (by simp; omega)
  have b8 := b6.kept hg2 (by simp; omega)
  have gg3 := g_same (g_weak gg2) hg2
  have hs2 : w1.heap.size < w2.heap.size := b7.lt
  have hstr : (convert 22 9 (.slice a d c)).run Try.prog w2 = .ok (.string (strOfNums ys)) w2 := by
    have h1 := LB.own (by omega : ys.length ≤ 20000) (by rw [hyl]; exact hrow)
    exact LB.str h1
  have HROW := hid hrow
  have HYL := hid hyl
  have B7 := hid b7
  have B8 := hid b8
  have G3 := hid gg3
  have F2 := hid hF2
  clear hg2 gg2 b4 b5 b6 x2 hF1 hrow hyl b7 b8 gg3 hF2
  go_wp2_with (go_at_call 10; refine (num_any _ _).mono ?_; rintro e _ ⟨rfl, rfl⟩)
  clear hstr
  go_loopw [24] (fun i wr => ∃ (j : Nat) (zs : List Int), j ≤ d ∧ i = .int .i64 j ∧ zs.length = d ∧ wr.ownsRow (w1.heap.size + 1) 5 1 (.slice a d c) d (fb zs) ∧ FeedAt wr p v xs k' ∧ w.grownBy wr (some p) ∧ Blk wr w1.heap.size 41 [.string (strOfNums xs), .int .i64 (k' : Int)] ∧ Blk wr (w.heap.size + 2) 41 [.string { data := #[] }, .int .i64 0]) (fun i _ => d - (intOf i).toNat)
  case atStart => exact ⟨0, ys, by omega, rfl, HYL.out, HROW.out, F2.out, G3.out, B7.out, B8.out⟩
  case round =>
    obtain ⟨j, zs, hj, rfl, hzl, hrow, hFR, gg3, b7, b8⟩ := hrel
    by_cases hlt : j < d
    · have HZ := hid hzl
      have HR3 := hid hrow
      obtain ⟨z, hz⟩ : ∃ z, zs[j]? = some z := ⟨zs[j]'(by omega), List.getElem?_eq_getElem _⟩
      rcases hrow.2 with ⟨he, h0⟩ | ⟨g, cap, cur, he, hb', hg', _⟩
      · omega
      cases he
      obtain ⟨tail, h1, h2, h3, h4, h5⟩ := row_blk hrow
      have hzf := fb_get hz
      have hcz : wr.cell? ⟨g, j, none⟩ = some (.int .u8 z) := h1.cellOf (by rw [List.getElem?_append_left (List.getElem?_eq_some_iff.1 hzf).1]; exact hzf)
      have hfz := h1.frozen j
      have hnew := row_setB (IntKind.u8.wrap (z + 1)) hrow (by omega : j < zs.length)
      have hFn := hFR.kept (grownBy_setCell'' wr g j (.int .u8 (IntKind.u8.wrap (z + 1)))) (by simp; omega) (.inl (fun e => by have := hvw g e; omega))
      have hgn := g_set gg3 (a := ⟨g, j, none⟩) (.int .u8 (IntKind.u8.wrap (z + 1))) (.inr (by show w.heap.size ≤ g; omega))
      have b7n := b7.other (a := ⟨g, j, none⟩) (by show w1.heap.size ≠ g; omega) (.int .u8 (IntKind.u8.wrap (z + 1)))
      have b8n := b8.other (a := ⟨g, j, none⟩) (by show w.heap.size + 2 ≠ g; omega) (.int .u8 (IntKind.u8.wrap (z + 1)))
      have HN1 := hid hnew
      have HN2 := hid hFn
      have HN3 := hid hgn
      have HN4 := hid b7n
      have HN5 := hid b8n
      clear hnew hFn hgn b7n b8n h1 h2 hzf hrow hFR gg3 b7 b8 hz hg' hzl
      go_wp2_with fail
      go_roundw
      case rel => exact ⟨j + 1, _, by omega, by go_num, by rw [List.length_set]; exact HZ.out, HN1.out, HN2.out, HN3.out, HN4.out, HN5.out⟩
      case measure => simp [intOf]; omega
    · obtain rfl : j = d := by omega
      clear hrow
      have b9 := b8.set 0 (.string (strOfNums xs))
      have b10 := b9.set 1 (.int .i64 (k' : Int))
      have f0 := b8.frozen 0
      have f1 := b9.frozen 1
      have c0 := b8.cellOf (i := 0) rfl
      have c1 := b9.cellOf (i := 1) rfl
      have k2 := b7.cellOf (i := 0) rfl
      have k3 := b7.cellOf (i := 1) rfl
      have hne3 : w1.heap.size ≠ w.heap.size + 2 := by omega
      have kS0 : ∀ u v, ((wr.drew.setCell ⟨w.heap.size + 2, 0, none⟩ u).setCell ⟨w.heap.size + 2, 1, none⟩ v).cell? ⟨w1.heap.size, 0, none⟩ = some (.string (strOfNums xs)) := fun u v => ((b7.drew.other (a := ⟨w.heap.size + 2, 0, none⟩) hne3 u).other (a := ⟨w.heap.size + 2, 1, none⟩) hne3 v).cellOf rfl
      have kS1 : ∀ u v, ((wr.drew.setCell ⟨w.heap.size + 2, 0, none⟩ u).setCell ⟨w.heap.size + 2, 1, none⟩ v).cell? ⟨w1.heap.size, 1, none⟩ = some (.int .i64 k') := fun u v => ((b7.drew.other (a := ⟨w.heap.size + 2, 0, none⟩) hne3 u).other (a := ⟨w.heap.size + 2, 1, none⟩) hne3 v).cellOf rfl
      clear b7 b8 b9
      go_wp2_with fail
      go_region_held3 (fun w' => w'.cell? ⟨w1.heap.size, 0, none⟩ = some (.string (strOfNums xs)) ∧ w'.cell? ⟨w1.heap.size, 1, none⟩ = some (.int .i64 k')) (first | assumption | exact ⟨k2, k3⟩ | exact ⟨kS0 _ _, kS1 _ _⟩) (fail)
      all_goals
        go_wp2
        obtain ⟨hFf, hgf⟩ := act_fin (d := 1) (x := .string (strOfNums xs)) (y := .int .i64 (k' : Int)) hFR gg3 hpw hvw (show w.heap.size ≤ w.heap.size + 2 by omega)
        refine bodyPost_ret (results_trt rfl _ _ (w.heap.size + 2) _ _ _ _ rfl b10 Try.underlying41 rfl (by kernel_rfl)) rfl ?_
        exact ⟨p, v, k', rfl, hFf, .inl ⟨rfl, rfl⟩, hgf⟩
end Go.Proofs.Ytkeicoadpdfkkaa
