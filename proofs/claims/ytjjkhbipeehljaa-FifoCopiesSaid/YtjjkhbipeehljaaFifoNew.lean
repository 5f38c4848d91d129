/-
  A quarantine in memory: a new one, how many it holds, a thing's age; whether two lists are the same.
-/
import Derived.Test.YtjjkhbipeehljaaFifoPush
namespace Go.Proofs.Ytjjkhbipeehljaa
open Go.RowKit

theorem L1.new2 (w : World) (n m : Int) (t : TypeId) : L1 (w.alloc (.cells #[.int .i64 n, .int .i64 m] t)) (.slice (some ⟨w.heap.size, 0, none⟩) 2 2) [n, m] :=
  ⟨w.heap.size, 0, 2, rfl, by simp, by simp, by unfold maxLen; omega, fun i k hi => by
    have h := Blk.new w [.int .i64 n, .int .i64 m] t
    match i, hi with
    | 0, hi => simp at hi; subst hi; exact h.cellOf rfl
    | 1, hi => simp at hi; subst hi; exact h.cellOf rfl
    | i + 2, hi => simp at hi⟩

def boundB (M Y : Int) : Bool := inB 0 1048576 M && inB 0 1048576 Y
theorem inB_bad (lo hi n : Int) : (!bad lo hi n) = inB lo hi n := by
  simp only [bad, inB, Bool.not_or]
  congr 1
  · by_cases h : lo ≤ n
    · simp [h]
    · simp [h]; omega
  · by_cases h : n ≤ hi
    · simp [h]
    · simp [h]; omega
theorem within2_any (M Y : Int) (t : TypeId) (b : Nat) (w : World) (hb : w.heap.size = b) :
    Calls Try.prog 21 #[.int .i64 0, .int .i64 1048576, .slice (some ⟨b, 0, none⟩) 2 2] (w.alloc (.cells #[.int .i64 M, .int .i64 Y] t)) fun e w' => e = .returned (.bool (boundB M Y)) ∧ (w.alloc (.cells #[.int .i64 M, .int .i64 Y] t)).grownBy w' none := by
  subst hb
  exact (within_any 0 1048576 [M, Y] _ _ (L1.new2 w M Y t)).mono fun e w' ⟨he, hg⟩ => ⟨by
    rw [he]
    congr 2
    simp only [List.any_cons, List.any_nil, Bool.or_false, Bool.not_or, inB_bad, boundB], hg⟩

theorem new_no (M Y : Int) (w : World) (h : boundB M Y = false) :
    Calls Try.prog 7 #[.int .i64 M, .int .i64 Y] w fun e w' => e = .returned (.tuple #[.pointer none, .int .i64 2]) ∧ w.grownBy w' none := by
  go_enter Try.func7, Try.ntmps7
  go_wp2_with fail
  refine (within2_any M Y _ _ _ (by simp)).mono ?_
  rintro e w2 ⟨rfl, hg2⟩
  simp only [h]
  go_wp2
  go_ret2
  exact ⟨rfl, g_none (g_alloc (g_refl w none) _) hg2⟩
theorem new_yes (M Y : Int) (w : World) (h : boundB M Y = true) :
    Calls Try.prog 7 #[.int .i64 M, .int .i64 Y] w fun e w' => ∃ p, e = .returned (.tuple #[.pointer (some ⟨p, 0, none⟩), .int .i64 0]) ∧ FifoAt w' p M Y (.slice none 0 0) [] ∧ w.grownBy w' none ∧ w.heap.size ≤ p := by
  go_enter Try.func7, Try.ntmps7
  go_wp2_with fail
  refine (within2_any M Y _ _ _ (by simp)).mono ?_
  rintro e w2 ⟨rfl, hg2⟩
  simp only [h]
  have hgW := g_none (g_alloc (g_refl w none) _) hg2
  go_wp2
  go_ret2
  refine ⟨w2.heap.size, rfl, ⟨?_, L3.nil _, by simp [Value.ownBlock]⟩, g_alloc hgW _, hgW.size⟩
  have := Blk.new w2 [.int .i64 M, .int .i64 Y, .slice none 0 0, .bool true] 64
  simpa using this

theorem len_some (p : Nat) (M Y : Int) (v : Value) (xs : List T3) (hG : Good xs) (w : World) (h : FifoAt w p M Y v xs) :
    Calls Try.prog 10 #[.pointer (some ⟨p, 0, none⟩)] w fun e w' => e = .returned (.tuple #[.int .i64 xs.length, .int .i64 (sum3 xs)]) ∧ w.grownBy w' none := by
  obtain ⟨a0, cap0, hv, hl0, hcp0, hm0, hcc⟩ := id h.2.1
  clear hcc
  subst hv
  obtain ⟨c0, c1, c2, c3, hpl⟩ := h.facts
  have HL := hid (h.2.1.keptN (g_drewN (g_refl w none) rfl))
  go_enter Try.func10, Try.ntmps10
  go_wp2_with fail
  refine (none_some _ p M Y _ xs h).mono ?_
  rintro e w1 ⟨rfl, rfl⟩
  go_wp2_with fail
  clear h
  have hS1 : w.drew.cell? ⟨p, 2, none⟩ = some (.slice a0 xs.length cap0) ∧ w.grownBy w.drew none := ⟨c2, g_drewN (g_refl w none) rfl⟩
  clear c0 c1 c2 c3
  go_region_held3 (fun w' => w'.cell? ⟨p, 2, none⟩ = some (.slice a0 xs.length cap0) ∧ w.grownBy w' none)
    (first | assumption | exact ⟨g_cellN hg2 (And.left (by assumption)), g_none (And.right (by assumption)) hg2⟩)
    (first
      | (go_at_call 26; refine (sum_any xs _ _ HL.out hG).mono ?_; rintro e w2 ⟨rfl, hg2⟩)
      | fail)
  go_wp2
  go_ret2
  exact ⟨rfl, And.right (by assumption)⟩
theorem len_none (v : Option Addr) (w : World) (h : IsNone w v) :
    Calls Try.prog 10 #[.pointer v] w fun e w' => e = .returned (.tuple #[.int .i64 0, .int .i64 0]) ∧ w = w' := by
  go_enter Try.func10, Try.ntmps10
  go_wp2_with fail
  refine (none_none _ _ h).mono ?_
  rintro e w1 ⟨rfl, rfl⟩
  go_wp2
  go_ret2
  exact ⟨rfl, rfl⟩

/-! ### A thing's age -/
def ageOf (xs : List T3) (c i : Int) : Int := if decide (0 ≤ atOf xs c i) then (xs.length : Int) - 1 - atOf xs c i else 0
theorem atOf_bounds (xs : List T3) (c i : Int) : -1 ≤ atOf xs c i ∧ atOf xs c i < xs.length ∧ (atOf xs c i < 0 → atOf xs c i = -1) := by
  unfold atOf
  split
  · rename_i k hk
    rw [List.findIdx?_eq_some_iff_getElem] at hk
    obtain ⟨h, _⟩ := hk
    omega
  · omega
theorem age_some (p : Nat) (M Y : Int) (v : Value) (xs : List T3) (c i : Int) (w : World) (h : FifoAt w p M Y v xs) :
    Calls Try.prog 20 #[.pointer (some ⟨p, 0, none⟩), .int .i64 c, .int .i64 i] w fun e w' => e = .returned (.tuple #[.int .i64 (ageOf xs c i), .bool (decide (0 ≤ atOf xs c i))]) ∧ w.grownBy w' none := by
  obtain ⟨a0, cap0, hv, hl0, hcp0, hm0, hcc⟩ := id h.2.1
  clear hcc
  subst hv
  obtain ⟨h1, h2, h3⟩ := atOf_bounds xs c i
  have h4 := at_any w p M Y _ xs c i h
  clear h3
  by_cases ha : 0 ≤ atOf xs c i
  · rw [show ageOf xs c i = (xs.length : Int) - 1 - atOf xs c i by simp [ageOf, ha], show (decide (0 ≤ atOf xs c i)) = true by simpa using ha]
    revert h4 h1 h2 ha
    generalize atOf xs c i = a
    intro h1 h2 h4 ha
    go_enter Try.func20, Try.ntmps20
    go_wp2_with fail
    refine (none_some _ p M Y _ xs h).mono ?_
    rintro e w1 ⟨rfl, rfl⟩
    go_wp2_with fail
    refine h4.mono ?_
    rintro e w2 ⟨rfl, hg2⟩
    obtain ⟨c0, c1, c2, c3, hpl⟩ := (h.keptN hg2).facts
    go_wp2
    go_ret2
    exact ⟨rfl, hg2⟩
  · rw [show ageOf xs c i = 0 by simp [ageOf, ha], show (decide (0 ≤ atOf xs c i)) = false by simpa using ha]
    replace ha : atOf xs c i < 0 := by omega
    revert h4 h1 h2 ha
    generalize atOf xs c i = a
    intro h1 h2 h4 ha
    go_enter Try.func20, Try.ntmps20
    go_wp2_with fail
    refine (none_some _ p M Y _ xs h).mono ?_
    rintro e w1 ⟨rfl, rfl⟩
    go_wp2_with fail
    refine h4.mono ?_
    rintro e w2 ⟨rfl, hg2⟩
    go_wp2
    go_ret2
    exact ⟨rfl, hg2⟩
theorem age_none (v : Option Addr) (c i : Int) (w : World) (h : IsNone w v) :
    Calls Try.prog 20 #[.pointer v, .int .i64 c, .int .i64 i] w fun e w' => e = .returned (.tuple #[.int .i64 0, .bool false]) ∧ w = w' := by
  go_enter Try.func20, Try.ntmps20
  go_wp2_with fail
  refine (none_none _ _ h).mono ?_
  rintro e w1 ⟨rfl, rfl⟩
  go_wp2
  go_ret2
  exact ⟨rfl, rfl⟩

/-! ### Are two lists the same -/
theorem drewN_cell (w : World) (n : Nat) (a : Addr) : (w.drewN n).cell? a = w.cell? a := rfl
theorem drewN_frozen (w : World) (n : Nat) (a : Addr) : (w.drewN n).frozen? a = w.frozen? a := rfl
theorem g_drewM {w w1 : World} {row : Option Nat} (h : w.grownBy w1 row) (n : Nat) : w.grownBy (w1.drewN n) row := ⟨h.os, h.tape, h.output, h.size, h.block⟩
theorem take3_step {xs ys : List T3} {k : Nat} {x y z x' y' z' : Int} (hx : xs[k]? = some (x, y, z)) (hy : ys[k]? = some (x', y', z')) (h : xs.take k = ys.take k) (h1 : x = x') (h2 : y = y') (h3 : z = z') : xs.take (k + 1) = ys.take (k + 1) := by
  rw [List.take_add_one, List.take_add_one, hx, hy, h, h1, h2, h3]
theorem not_same3 {xs ys : List T3} {k : Nat} {x y z x' y' z' : Int} (hx : xs[k]? = some (x, y, z)) (hy : ys[k]? = some (x', y', z')) (h : ¬ (x = x' ∧ y = y' ∧ z = z')) : decide (xs = ys) = false := by
  simp only [decide_eq_false_iff_not]
  rintro rfl
  rw [hx] at hy; cases hy
  exact h ⟨rfl, rfl, rfl⟩

set_option maxHeartbeats 1000000 in
theorem refSame_any (v1 v2 : Value) (xs ys : List T3) (w : World) (h1 : L3 w v1 xs) (h2 : L3 w v2 ys) :
    Calls Try.prog 18 #[v1, v2] w fun e w' => e = .returned (.bool (decide (xs = ys))) ∧ ∃ n, w.drewN n = w' := by
  obtain ⟨a1, cap1, hv1, hl1, hcp1, hm1, _⟩ := id h1
  obtain ⟨a2, cap2, hv2, hl2, hcp2, hm2, _⟩ := id h2
  subst hv1 hv2
  by_cases hlen : xs.length = ys.length
  · have hb : ((xs.length : Int) != (ys.length : Int)) = false := by simp [hlen]
    have HL := hid hlen
    have H1 := hid h1
    have H2 := hid h2
    clear h1 h2 hlen
    go_enter Try.func18, Try.ntmps18
    go_wp2
    go_loopw [5] (fun v wr => ∃ (k m : Nat), k ≤ xs.length ∧ v = .int .i64 k ∧ xs.take k = ys.take k ∧ wr = w.drewN m) (fun v _ => xs.length - (intOf v).toNat)
    case atStart => exact ⟨0, 0, Nat.zero_le _, rfl, rfl, rfl⟩
    case round =>
      obtain ⟨k, m, hk, rfl, ht, rfl⟩ := hrel
      have HT := hid ht
      clear ht
      by_cases hlt : k < xs.length
      · obtain ⟨⟨x1, y1, z1⟩, hi1⟩ : ∃ x, xs[k]? = some x := ⟨xs[k], List.getElem?_eq_getElem hlt⟩
        obtain ⟨⟨x2, y2, z2⟩, hi2⟩ : ∃ x, ys[k]? = some x := ⟨ys[k]'(by have := HL.out; omega), List.getElem?_eq_getElem _⟩
        obtain ⟨g1, off1, q1, e1, d1, d2, d3⟩ := H1.out.at hi1
        obtain ⟨g2, off2, q2, e2, f1, f2, f3⟩ := H2.out.at hi2
        cases e1
        cases e2
        have HI1 := hid hi1
        have HI2 := hid hi2
        have hk2 : k < ys.length := by have := HL.out; omega
        clear hi1 hi2
        by_cases hx : x1 = x2
        · by_cases hy : y1 = y2
          · by_cases hz : z1 = z2
            · subst hx hy hz
              go_wp2
              go_quiet (fail)
              go_wp2
              go_roundw
              case rel => exact ⟨k + 1, m + nq, by omega, by go_num, take3_step HI1.out HI2.out HT.out rfl rfl rfl, rfl⟩
              case measure => simp [intOf]; omega
            · subst hx hy
              have hz' : (z1 == z2) = false := by simpa using hz
              have hfin := hid (not_same3 HI1.out HI2.out (fun h => hz h.2.2))
              go_wp2
              go_quiet (fail)
              go_wp2
              go_ret
              exact ⟨by rw [hfin.out]; rfl, m + nq, by simp⟩
          · subst hx
            have hy' : (y1 == y2) = false := by simpa using hy
            have hfin := hid (not_same3 HI1.out HI2.out (fun h => hy h.2.1))
            go_wp2
            go_quiet (fail)
            go_wp2
            go_ret
            exact ⟨by rw [hfin.out]; rfl, m + nq, by simp⟩
        · have hx' : (x1 == x2) = false := by simpa using hx
          have hfin := hid (not_same3 HI1.out HI2.out (fun h => hx h.1))
          go_wp2
          go_quiet (fail)
          go_wp2
          go_ret
          exact ⟨by rw [hfin.out]; rfl, m + nq, by simp⟩
      · have hfin : decide (xs = ys) = true := by
          have h := HT.out
          have hl := HL.out
          rw [List.take_of_length_le (by omega), List.take_of_length_le (by omega)] at h
          simp [h]
        have HF := hid hfin
        clear hfin
        go_wp2
        go_ret
        exact ⟨by rw [HF.out]; rfl, m, rfl⟩
  · have hb : ((xs.length : Int) != (ys.length : Int)) = true := by simp; omega
    have hfin : decide (xs = ys) = false := by
      simp only [decide_eq_false_iff_not]
      rintro rfl; exact hlen rfl
    have HF := hid hfin
    clear hfin
    go_enter Try.func18, Try.ntmps18
    go_wp2
    go_ret
    exact ⟨by rw [HF.out]; rfl, 0, rfl⟩
end Go.Proofs.Ytjjkhbipeehljaa
