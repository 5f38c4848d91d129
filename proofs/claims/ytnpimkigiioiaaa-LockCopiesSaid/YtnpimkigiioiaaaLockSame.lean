/-
  Two lists of numbers: the same?
-/
import Derived.Test.YtnpimkigiioiaaaLockChain
import Derived.Deep.QuietTactic
namespace Go.Proofs.Ytnpimkigiioiaaa
open Go.RowKit
set_option maxRecDepth 100000

theorem IntsAt.at {w : World} {v : Value} {ns : List Int} (h : IntsAt w v ns) {i : Nat} {n : Int} (hi : ns[i]? = some n) : ∃ g off cap, v = .slice (some ⟨g, off, none⟩) ns.length cap ∧ w.cell? ⟨g, off + i, none⟩ = some (.int .i64 n) := by
  obtain ⟨a, cap, rfl, _, _, _, hc⟩ := h
  rcases hc with ⟨_, rfl⟩ | ⟨g, off, rfl, hx⟩
  · simp at hi
  · exact ⟨g, off, cap, rfl, hx i n hi⟩
theorem takeI_step {xs ys : List Int} {k : Nat} {x y : Int} (hx : xs[k]? = some x) (hy : ys[k]? = some y) (h : xs.take k = ys.take k) (hu : x = y) : xs.take (k + 1) = ys.take (k + 1) := by
  rw [List.take_add_one, List.take_add_one, h, hx, hy, hu]
theorem not_sameI {xs ys : List Int} {k : Nat} {x y : Int} (hx : xs[k]? = some x) (hy : ys[k]? = some y) (h : ¬ x = y) : decide (xs = ys) = false := by
  simp only [decide_eq_false_iff_not]
  rintro rfl
  rw [hx] at hy; cases hy; exact h rfl

set_option maxHeartbeats 1000000 in
theorem equal_any (v1 v2 : Value) (xs ys : List Int) (w : World) (h1 : IntsAt w v1 xs) (h2 : IntsAt w v2 ys) :
    Calls Try.prog 48 #[v1, v2] w fun e w' => e = .returned (.bool (decide (xs = ys))) ∧ ∃ n, w.drewN n = w' := by
  obtain ⟨a1, cap1, hv1, hl1, hcp1, hm1, _⟩ := id h1
  obtain ⟨a2, cap2, hv2, hl2, hcp2, hm2, _⟩ := id h2
  subst hv1 hv2
  by_cases hlen : xs.length = ys.length
  · have hb : ((xs.length : Int) != (ys.length : Int)) = false := by simp [hlen]
    have HL := hid hlen
    have H1 := hid h1
    have H2 := hid h2
    clear h1 h2 hlen
    go_enter Try.func48, Try.ntmps48
    go_wp2
    go_loopw [13] (fun v wr => ∃ (k m : Nat), k ≤ xs.length ∧ v = .int .i64 k ∧ xs.take k = ys.take k ∧ wr = w.drewN m) (fun v _ => xs.length - (intOf v).toNat)
    case atStart => exact ⟨0, 0, Nat.zero_le _, rfl, rfl, rfl⟩
    case round =>
      obtain ⟨k, m, hk, rfl, ht, rfl⟩ := hrel
      have HT := hid ht
      clear ht
      by_cases hlt : k < xs.length
      · obtain ⟨x1, hi1⟩ : ∃ x, xs[k]? = some x := ⟨xs[k], List.getElem?_eq_getElem hlt⟩
        obtain ⟨x2, hi2⟩ : ∃ x, ys[k]? = some x := ⟨ys[k]'(by have := HL.out; omega), List.getElem?_eq_getElem _⟩
        obtain ⟨g1, off1, q1, e1, d1⟩ := H1.out.at hi1
        obtain ⟨g2, off2, q2, e2, f1⟩ := H2.out.at hi2
        cases e1
        cases e2
        have HI1 := hid hi1
        have HI2 := hid hi2
        have hk2 : k < ys.length := by have := HL.out; omega
        clear hi1 hi2
        by_cases hx : x1 = x2
        · subst hx
          go_wp2
          go_quiet (fail)
          go_wp2
          go_roundw
          case rel => exact ⟨k + 1, m + nq, by omega, by go_num, takeI_step HI1.out HI2.out HT.out rfl, rfl⟩
          case measure => simp [intOf]; omega
        · have hx' : (x1 == x2) = false := by simpa using hx
          have hfin := hid (not_sameI HI1.out HI2.out hx)
          go_wp2
          go_quiet (fail)
          go_wp2
          go_ret
          exact ⟨by rw [hfin.out]; rfl, m + nq, by simp⟩
      · obtain rfl : k = xs.length := by omega
        have hfin : decide (xs = ys) = true := by
          have h1 := HT.out
          have h2 := HL.out
          rw [List.take_length, h2, List.take_length] at h1
          simpa using h1
        have HF := hid hfin
        clear hfin
        go_wp2
        go_ret
        exact ⟨by rw [HF.out]; rfl, m, rfl⟩
  · have hb : ((xs.length : Int) != (ys.length : Int)) = true := by simp; omega
    have hfin : decide (xs = ys) = false := by
      simp only [decide_eq_false_iff_not]; rintro rfl; exact hlen rfl
    have HF := hid hfin
    clear hfin h1 h2
    go_enter Try.func48, Try.ntmps48
    go_wp2
    go_ret
    exact ⟨by rw [HF.out]; rfl, 0, rfl⟩

set_option maxHeartbeats 1000000 in
theorem refSame_any (v1 v2 : Value) (xs ys : List Int) (w : World) (h1 : IntsAt w v1 xs) (h2 : IntsAt w v2 ys) :
    Calls Try.prog 14 #[v1, v2] w fun e w' => e = .returned (.bool (decide (xs = ys))) ∧ ∃ n, w.drewN n = w' := by
  obtain ⟨a1, cap1, hv1, hl1, hcp1, hm1, _⟩ := id h1
  obtain ⟨a2, cap2, hv2, hl2, hcp2, hm2, _⟩ := id h2
  subst hv1 hv2
  by_cases hlen : xs.length = ys.length
  · have hb : ((xs.length : Int) != (ys.length : Int)) = false := by simp [hlen]
    have HL := hid hlen
    have H1 := hid h1
    have H2 := hid h2
    clear h1 h2 hlen
    go_enter Try.func14, Try.ntmps14
    go_wp2
    go_loopw [5] (fun v wr => ∃ (k m : Nat), k ≤ xs.length ∧ v = .int .i64 k ∧ xs.take k = ys.take k ∧ wr = w.drewN m) (fun v _ => xs.length - (intOf v).toNat)
    case atStart => exact ⟨0, 0, Nat.zero_le _, rfl, rfl, rfl⟩
    case round =>
      obtain ⟨k, m, hk, rfl, ht, rfl⟩ := hrel
      have HT := hid ht
      clear ht
      by_cases hlt : k < xs.length
      · obtain ⟨x1, hi1⟩ : ∃ x, xs[k]? = some x := ⟨xs[k], List.getElem?_eq_getElem hlt⟩
        obtain ⟨x2, hi2⟩ : ∃ x, ys[k]? = some x := ⟨ys[k]'(by have := HL.out; omega), List.getElem?_eq_getElem _⟩
        obtain ⟨g1, off1, q1, e1, d1⟩ := H1.out.at hi1
        obtain ⟨g2, off2, q2, e2, f1⟩ := H2.out.at hi2
        cases e1
        cases e2
        have HI1 := hid hi1
        have HI2 := hid hi2
        have hk2 : k < ys.length := by have := HL.out; omega
        clear hi1 hi2
        by_cases hx : x1 = x2
        · subst hx
          go_wp2
          go_quiet (fail)
          go_wp2
          go_roundw
          case rel => exact ⟨k + 1, m + nq, by omega, by go_num, takeI_step HI1.out HI2.out HT.out rfl, rfl⟩
          case measure => simp [intOf]; omega
        · have hx' : (x1 == x2) = false := by simpa using hx
          have hfin := hid (not_sameI HI1.out HI2.out hx)
          go_wp2
          go_quiet (fail)
          go_wp2
          go_ret
          exact ⟨by rw [hfin.out]; rfl, m + nq, by simp⟩
      · obtain rfl : k = xs.length := by omega
        have hfin : decide (xs = ys) = true := by
          have h1 := HT.out
          have h2 := HL.out
          rw [List.take_length, h2, List.take_length] at h1
          simpa using h1
        have HF := hid hfin
        clear hfin
        go_wp2
        go_ret
        exact ⟨by rw [HF.out]; rfl, m, rfl⟩
  · have hb : ((xs.length : Int) != (ys.length : Int)) = true := by simp; omega
    have hfin : decide (xs = ys) = false := by
      simp only [decide_eq_false_iff_not]; rintro rfl; exact hlen rfl
    have HF := hid hfin
    clear hfin h1 h2
    go_enter Try.func14, Try.ntmps14
    go_wp2
    go_ret
    exact ⟨by rw [HF.out]; rfl, 0, rfl⟩

theorem refSame_gr (v1 v2 : Value) (xs ys : List Int) (w : World) (h1 : IntsAt w v1 xs) (h2 : IntsAt w v2 ys) :
    Calls Try.prog 14 #[v1, v2] w fun e w' => e = .returned (.bool (decide (xs = ys))) ∧ w.grownBy w' none :=
  (refSame_any v1 v2 xs ys w h1 h2).mono fun e w' ⟨he, n, hn⟩ => ⟨he, by rw [← hn]; exact g_drewN (g_refl w none) n⟩
end Go.Proofs.Ytnpimkigiioiaaa
