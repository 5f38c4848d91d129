/-
  A quarantine in memory: its bounds, what it lets go, a copy; are two the same?
-/
import Derived.Test.YtjjkhbipeehljaaFifoRef
namespace Go.Proofs.Ytjjkhbipeehljaa
open Go.RowKit

set_option maxHeartbeats 1000000 in
theorem equal_any (v1 v2 : Value) (xs ys : List T3) (w : World) (h1 : L3 w v1 xs) (h2 : L3 w v2 ys) :
    Calls Try.prog 33 #[v1, v2] w fun e w' => e = .returned (.bool (decide (xs = ys))) ∧ ∃ n, w.drewN n = w' := by
  obtain ⟨a1, cap1, hv1, hl1, hcp1, hm1, _⟩ := id h1
  obtain ⟨a2, cap2, hv2, hl2, hcp2, hm2, _⟩ := id h2
  subst hv1 hv2
  by_cases hlen : xs.length = ys.length
  · have hb : ((xs.length : Int) != (ys.length : Int)) = false := by simp [hlen]
    have HL := hid hlen
    have H1 := hid h1
    have H2 := hid h2
    clear h1 h2 hlen
    go_enter Try.func33, Try.ntmps33
    go_wp2
    go_loopw [13] (fun v wr => ∃ (k m : Nat), k ≤ xs.length ∧ v = .int .i64 k ∧ xs.take k = ys.take k ∧ wr = w.drewN m) (fun v _ => xs.length - (intOf v).toNat)
    case atStart => exact ⟨0, 0, Nat.zero_le _, rfl, rfl, rfl⟩
    case round =>
      obtain ⟨k, m, hk, rfl, ht, rfl⟩ := hrel
      have HT := hid ht
      clear ht
      by_cases hlt : k < xs.length
      · obtain ⟨⟨x1, y1, z1⟩, hi1⟩ : ∃ x, xs[k]? = some x := ⟨xs[k], List.getElem?_eq_getElem hlt⟩
        obtain ⟨⟨x2, y2, z2⟩, hi2⟩ : ∃ x, ys[k]? = some x := ⟨ys[k]'(by have := HL.out; omega), List.getElem?_eq_getElem _⟩
        obtain ⟨g1, off1, q1, e1, d1, d2, d3⟩ := H1.out.at hi1
        obtain ⟨g2, off2, q2, e2, f1, f2, f3⟩ := H2.out.at hi2
        cases e1
        cases e2
        have HI1 := hid hi1
        have HI2 := hid hi2
        have hk2 : k < ys.length := by have := HL.out; omega
        clear hi1 hi2
        by_cases hx : x1 = x2
        · by_cases hy : y1 = y2
          · by_cases hz : z1 = z2
            · subst hx hy hz
              go_wp2
              go_quiet (fail)
              go_wp2
              go_roundw
              case rel => exact ⟨k + 1, m + nq, by omega, by go_num, take3_step HI1.out HI2.out HT.out rfl rfl rfl, rfl⟩
              case measure => simp [intOf]; omega
            · subst hx hy
              have hz' : (z1 == z2) = false := by simpa using hz
              have hfin := hid (not_same3 HI1.out HI2.out (fun h => hz h.2.2))
              go_wp2
              go_quiet (fail)
              go_wp2
              go_ret
              exact ⟨by rw [hfin.out]; rfl, m + nq, by simp⟩
          · subst hx
            have hy' : (y1 == y2) = false := by simpa using hy
            have hfin := hid (not_same3 HI1.out HI2.out (fun h => hy h.2.1))
            go_wp2
            go_quiet (fail)
            go_wp2
            go_ret
            exact ⟨by rw [hfin.out]; rfl, m + nq, by simp⟩
        · have hx' : (x1 == x2) = false := by simpa using hx
          have hfin := hid (not_same3 HI1.out HI2.out (fun h => hx h.1))
          go_wp2
          go_quiet (fail)
          go_wp2
          go_ret
          exact ⟨by rw [hfin.out]; rfl, m + nq, by simp⟩
      · have hfin : decide (xs = ys) = true := by
          have h := HT.out
          have hl := HL.out
          rw [List.take_of_length_le (by omega), List.take_of_length_le (by omega)] at h
          simp [h]
        have HF := hid hfin
        clear hfin
        go_wp2
        go_ret
        exact ⟨by rw [HF.out]; rfl, m, rfl⟩
  · have hb : ((xs.length : Int) != (ys.length : Int)) = true := by simp; omega
    have hfin : decide (xs = ys) = false := by
      simp only [decide_eq_false_iff_not]
      rintro rfl; exact hlen rfl
    have HF := hid hfin
    clear hfin
    go_enter Try.func33, Try.ntmps33
    go_wp2
    go_ret
    exact ⟨by rw [HF.out]; rfl, 0, rfl⟩

theorem bounds_some (p : Nat) (M Y : Int) (v : Value) (xs : List T3) (w : World) (h : FifoAt w p M Y v xs) :
    Calls Try.prog 28 #[.pointer (some ⟨p, 0, none⟩)] w fun e w' => e = .returned (.tuple #[.int .i64 M, .int .i64 Y]) ∧ w.grownBy w' none := by
  obtain ⟨c0, c1, c2, c3, hpl⟩ := h.facts
  go_enter Try.func28, Try.ntmps28
  go_wp2_with fail
  refine (none_some _ p M Y _ xs h).mono ?_
  rintro e w1 ⟨rfl, rfl⟩
  go_wp2_with fail
  go_quiet (fail)
  go_wp2
  go_ret2
  exact ⟨rfl, g_drewM (g_refl _ _) nq⟩
theorem bounds_none (v : Option Addr) (w : World) (h : IsNone w v) :
    Calls Try.prog 28 #[.pointer v] w fun e w' => e = .returned (.tuple #[.int .i64 0, .int .i64 0]) ∧ w = w' := by
  go_enter Try.func28, Try.ntmps28
  go_wp2_with fail
  refine (none_none _ _ h).mono ?_
  rintro e w1 ⟨rfl, rfl⟩
  go_wp2
  go_ret2
  exact ⟨rfl, rfl⟩

theorem clear_none (v : Option Addr) (w : World) (h : IsNone w v) :
    Calls Try.prog 27 #[.pointer v] w fun e w' => e = .returned (.tuple #[.slice none 0 0, .int .i64 1]) ∧ w = w' := by
  go_enter Try.func27, Try.ntmps27
  go_wp2_with fail
  refine (none_none _ _ h).mono ?_
  rintro e w1 ⟨rfl, rfl⟩
  go_wp2
  go_ret2
  exact ⟨rfl, rfl⟩
theorem clear_some (p : Nat) (M Y : Int) (v : Value) (xs : List T3) (w : World) (h : FifoAt w p M Y v xs) :
    Calls Try.prog 27 #[.pointer (some ⟨p, 0, none⟩)] w fun e w' => ∃ a n c, e = .returned (.tuple #[.slice a n c, .int .i64 0]) ∧ FifoAt w' p M Y (.slice none 0 0) [] ∧ w'.ownsRow w.heap.size 33 3 (.slice a n c) xs.length (flat3 xs) ∧ w.grownBy w' (some p) := by
  obtain ⟨c0, c1, c2, c3, hpl⟩ := h.facts
  obtain ⟨a0, cap0, hv, hl0, hcp0, hm0, hcc⟩ := id h.2.1
  clear hcc
  subst hv
  have H := hid h
  clear h
  go_enter Try.func27, Try.ntmps27
  go_wp2_with fail
  refine (none_some _ p M Y _ xs H.out).mono ?_
  rintro e w1 ⟨rfl, rfl⟩
  go_wp2_with fail
  refine (clone3_any _ xs w H.out.2.1).mono ?_
  rintro e w2 ⟨v2, rfl, hr2, hg2⟩
  obtain ⟨a, n, c, rfl⟩ := row_slice hr2
  have b2 := H.out.1.keptN hg2
  have f2 := b2.frozen 2
  have k2 := b2.cellOf (i := 2) rfl
  have hs2 := hg2.size
  have hr3 := hr2.kept (grownBy_setCell'' w2 p 2 (.slice none 0 0)) (.inr (fun e => by have := (row_base hr2 p e).1; omega))
  have b3 := b2.set 2 (.slice none 0 0)
  have hgF := g_set (g_weak hg2) (a := ⟨p, 2, none⟩) (.slice none 0 0) (.inl rfl)
  clear c0 c1 c2 c3 hr2 b2
  go_wp2_with fail
  go_ret2
  exact ⟨a, n, c, rfl, ⟨b3, L3.nil _, by simp [Value.ownBlock]⟩, hr3, hgF⟩

abbrev CopyQ (p : Nat) (M Y : Int) (v : Value) (w w' : World) : Prop := w'.cell? ⟨p, 0, none⟩ = some (.int .i64 M) ∧ w'.cell? ⟨p, 1, none⟩ = some (.int .i64 Y) ∧ w'.cell? ⟨p, 2, none⟩ = some v ∧ w.grownBy w' none
theorem CopyQ.more {p : Nat} {M Y : Int} {v : Value} {w w1 w2 : World} (h : CopyQ p M Y v w w1) (hg : w1.grownBy w2 none) : CopyQ p M Y v w w2 := ⟨g_cellN hg h.1, g_cellN hg h.2.1, g_cellN hg h.2.2.1, g_none h.2.2.2 hg⟩
theorem copy_none (v : Option Addr) (w : World) (h : IsNone w v) :
    Calls Try.prog 16 #[.pointer v] w fun e w' => e = .returned (.pointer none) ∧ w = w' := by
  go_enter Try.func16, Try.ntmps16
  go_wp2_with fail
  refine (none_none _ _ h).mono ?_
  rintro e w1 ⟨rfl, rfl⟩
  go_wp2
  go_ret
  exact ⟨rfl, rfl⟩
theorem copy_some (p : Nat) (M Y : Int) (v : Value) (xs : List T3) (w : World) (h : FifoAt w p M Y v xs) :
    Calls Try.prog 16 #[.pointer (some ⟨p, 0, none⟩)] w fun e w' => ∃ p' v', e = .returned (.pointer (some ⟨p', 0, none⟩)) ∧ FifoAt w' p' M Y v' xs ∧ w.grownBy w' none ∧ w.heap.size ≤ p' ∧ (∀ r, v'.ownBlock = some r → w.heap.size ≤ r ∧ r < w'.heap.size) := by
  obtain ⟨c0, c1, c2, c3, hpl⟩ := h.facts
  obtain ⟨a0, cap0, hv, hl0, hcp0, hm0, hcc⟩ := id h.2.1
  clear hcc
  subst hv
  have H := hid h
  have HL := hid (h.2.1.keptN (g_drewN (g_refl w none) rfl))
  clear h c3
  go_enter Try.func16, Try.ntmps16
  go_wp2_with fail
  refine (none_some _ p M Y _ xs H.out).mono ?_
  rintro e w1 ⟨rfl, rfl⟩
  go_wp2_with fail
  have hS1 : CopyQ p M Y (.slice a0 xs.length cap0) w w.drew := ⟨c0, c1, c2, g_drewN (g_refl w none) rfl⟩
  clear c0 c1 c2
  go_region_held3 (fun w' => w'.cell? ⟨p, 0, none⟩ = some (.int .i64 M) ∧ w'.cell? ⟨p, 1, none⟩ = some (.int .i64 Y) ∧ w'.cell? ⟨p, 2, none⟩ = some (.slice a0 xs.length cap0) ∧ w.grownBy w' none)
    (first | assumption | exact CopyQ.more (by assumption) hg2 | exact CopyQ.more (by assumption) (g_alloc (g_refl _ none) _))
    (first
      | (go_at_call 34; refine (clone3_any _ xs _ HL.out).mono ?_; rintro e w2 ⟨v2, rfl, hr2, hg2⟩; obtain ⟨a2, n2, q2, hv2⟩ := row_slice hr2; subst hv2)
      | fail)
  all_goals
    go_wp2
    go_ret
    have hb := Blk.new w2 [.int .i64 M, .int .i64 Y, .slice a2 n2 q2, .bool true] 64
    have hgA := g_alloc (g_refl w2 none) (.cells #[.int .i64 M, .int .i64 Y, .slice a2 n2 q2, .bool true] 64)
    have hr := row_base hr2
    have hL3 : L3 w2 (.slice a2 n2 q2) xs := (outL3 hl0 hr2).1
    have hs : w.drew.heap.size = w.heap.size := rfl
    rw [hs] at hr
    exact ⟨w2.heap.size, _, rfl, ⟨by simpa using hb, hL3.keptN hgA, fun e => by have := (hr _ e).2; omega⟩, g_none (g_none (g_drewN (g_refl w none) rfl) hg2) hgA, by have := hg2.size; omega, fun r e => ⟨(hr r e).1, by have := (hr r e).2; simp; omega⟩⟩
end Go.Proofs.Ytjjkhbipeehljaa
