/-
  Lists of two numbers each, read: are two the same?
-/
import Derived.Test.YthoelbildokmpaaCellMore
import Derived.BigQuiet
namespace Go.Proofs.Ythoelbildokmpaa
open Go.RowKit

/-- A slice that reads as a list of two numbers each. -/
def SliceOf (w : World) (k1 k2 : IntKind) (v : Value) (xs : List (Int × Int)) : Prop :=
  ∃ (a : Option Addr) (cap : Nat), v = .slice a xs.length cap ∧ xs.length ≤ 1000000 ∧ (0 < xs.length → ∃ g, a = some ⟨g, 0, none⟩ ∧
    ∀ i u c, xs[i]? = some (u, c) → w.cell? ⟨g, i * 2, none⟩ = some (.int k1 u) ∧ w.cell? ⟨g, i * 2 + 1, none⟩ = some (.int k2 c))

theorem drewN_cell (w : World) (n : Nat) (a : Addr) : (w.drewN n).cell? a = w.cell? a := rfl
theorem drewN_frozen (w : World) (n : Nat) (a : Addr) : (w.drewN n).frozen? a = w.frozen? a := rfl
theorem g_drewN {w w1 : World} {row : Option Nat} (h : w.grownBy w1 row) (n : Nat) : w.grownBy (w1.drewN n) row := ⟨h.os, h.tape, h.output, h.size, h.block⟩
theorem SliceOf.drewN {w : World} {k1 k2 : IntKind} {v : Value} {xs : List (Int × Int)} (h : SliceOf w k1 k2 v xs) (n : Nat) : SliceOf (w.drewN n) k1 k2 v xs := h
theorem SliceOf.keptN {w w' : World} {k1 k2 : IntKind} {v : Value} {xs : List (Int × Int)} (h : SliceOf w k1 k2 v xs) (hg : w.grownBy w' none) : SliceOf w' k1 k2 v xs := by
  obtain ⟨a, cap, hv, hl, hc⟩ := h
  refine ⟨a, cap, hv, hl, fun h0 => ?_⟩
  obtain ⟨g, ha, hx⟩ := hc h0
  exact ⟨g, ha, fun i u c hi => ⟨g_cellN hg (hx i u c hi).1, g_cellN hg (hx i u c hi).2⟩⟩
theorem SliceOf.list {w : World} {e : TypeId} {v : Value} {xs : List (Int × Int)} (h : ListAt w e v xs) (hx : xs.length ≤ 1000000) : SliceOf w .u64 .i64 v xs := by
  obtain ⟨g, cap, rfl, _, _, hc⟩ := h.facts
  exact ⟨_, cap, rfl, hx, fun _ => ⟨g, rfl, fun i u c hi => hc i u c hi⟩⟩

/-- The first so many are the same. -/
theorem take_step {xs ys : List (Int × Int)} {k : Nat} {u c u' c' : Int} (hx : xs[k]? = some (u, c)) (hy : ys[k]? = some (u', c')) (h : xs.take k = ys.take k) (hu : u = u') (hc : c = c') : xs.take (k + 1) = ys.take (k + 1) := by
  rw [List.take_add_one, List.take_add_one, hx, hy, h, hu, hc]
theorem not_same {xs ys : List (Int × Int)} {k : Nat} {u c u' c' : Int} (hx : xs[k]? = some (u, c)) (hy : ys[k]? = some (u', c')) (h : ¬ (u = u' ∧ c = c')) : decide (xs = ys) = false := by
  simp only [decide_eq_false_iff_not]
  rintro rfl
  rw [hx] at hy; cases hy
  exact h ⟨rfl, rfl⟩

set_option maxHeartbeats 1000000 in
theorem refSame_any (v1 v2 : Value) (xs ys : List (Int × Int)) (w : World) (h1 : SliceOf w .u64 .i64 v1 xs) (h2 : SliceOf w .u64 .i64 v2 ys) :
    Calls Try.prog 21 #[v1, v2] w fun e w' => e = .returned (.bool (decide (xs = ys))) ∧ ∃ n, w.drewN n = w' := by
  obtain ⟨a1, cap1, rfl, hl1, hc1⟩ := h1
  obtain ⟨a2, cap2, rfl, hl2, hc2⟩ := h2
  by_cases hlen : xs.length = ys.length
  · have hb : ((xs.length : Int) != (ys.length : Int)) = false := by simp [hlen]
    have HL := hid hlen
    have H1 := hid hc1
    have H2 := hid hc2
    clear hc1 hc2 hlen
    go_enter Try.func21, Try.ntmps21
    go_wp2
    go_loopw [5] (fun v wr => ∃ (k m : Nat), k ≤ xs.length ∧ v = .int .i64 k ∧ xs.take k = ys.take k ∧ wr = w.drewN m) (fun v _ => xs.length - (intOf v).toNat)
    case atStart => exact ⟨0, 0, Nat.zero_le _, rfl, rfl, rfl⟩
    case round =>
      obtain ⟨k, m, hk, rfl, ht, rfl⟩ := hrel
      have HT := hid ht
      clear ht
      by_cases hlt : k < xs.length
      · obtain ⟨g1, rfl, hx1⟩ := H1.out (by omega)
        obtain ⟨g2, rfl, hx2⟩ := H2.out (by have := HL.out; omega)
        obtain ⟨⟨u1, c1⟩, hi1⟩ : ∃ x, xs[k]? = some x := ⟨xs[k], List.getElem?_eq_getElem hlt⟩
        obtain ⟨⟨u2, c2⟩, hi2⟩ : ∃ x, ys[k]? = some x := ⟨ys[k]'(by have := HL.out; omega), List.getElem?_eq_getElem _⟩
        obtain ⟨d1, e1⟩ := hx1 k u1 c1 hi1
        obtain ⟨d2, e2⟩ := hx2 k u2 c2 hi2
        have HI1 := hid hi1
        have HI2 := hid hi2
        have hk2 : k < ys.length := by have := HL.out; omega
        clear hx1 hx2 hi1 hi2
        by_cases hu : u1 = u2
        · subst hu
          by_cases hc : c1 = c2
          · subst hc
            go_wp2
            go_quiet (fail)
            go_wp2
            go_roundw
            case rel => exact ⟨k + 1, m + nq, by omega, by go_num, take_step HI1.out HI2.out HT.out rfl rfl, rfl⟩
            case measure => simp [intOf]; omega
          · have hc' : (c1 == c2) = false := by simpa using hc
            have hfin := hid (not_same HI1.out HI2.out (fun h => hc h.2))
            go_wp2
            go_quiet (fail)
            go_wp2
            go_ret
            exact ⟨by rw [hfin.out]; rfl, m + nq, by simp⟩
        · have hu' : (u1 == u2) = false := by simpa using hu
          have hfin := hid (not_same HI1.out HI2.out (fun h => hu h.1))
          go_wp2
          go_quiet (fail)
          go_wp2
          go_ret
          exact ⟨by rw [hfin.out]; rfl, m + nq, by simp⟩
      · have hfin : decide (xs = ys) = true := by
          have h1 := HT.out
          rw [List.take_of_length_le (by omega), List.take_of_length_le (by have := HL.out; omega)] at h1
          simpa using h1
        have HF := hid hfin
        clear hfin
        go_wp2
        go_ret
        exact ⟨by rw [HF.out]; rfl, _, rfl⟩
  · have hb : ((xs.length : Int) != (ys.length : Int)) = true := by simp; omega
    have hfin : decide (xs = ys) = false := by
      simp only [decide_eq_false_iff_not]; rintro rfl; exact hlen rfl
    have HF := hid hfin
    clear hlen hfin hc1 hc2
    go_enter Try.func21, Try.ntmps21
    go_wp2
    go_ret
    exact ⟨by rw [HF.out]; rfl, 0, rfl⟩
set_option maxHeartbeats 1000000 in
theorem lawSame_any (v1 v2 : Value) (xs ys : List (Int × Int)) (w : World) (h1 : SliceOf w .i64 .u64 v1 xs) (h2 : SliceOf w .i64 .u64 v2 ys) :
    Calls Try.prog 23 #[v1, v2] w fun e w' => e = .returned (.bool (decide (xs = ys))) ∧ ∃ n, w.drewN n = w' := by
  obtain ⟨a1, cap1, rfl, hl1, hc1⟩ := h1
  obtain ⟨a2, cap2, rfl, hl2, hc2⟩ := h2
  by_cases hlen : xs.length = ys.length
  · have hb : ((xs.length : Int) != (ys.length : Int)) = false := by simp [hlen]
    have HL := hid hlen
    have H1 := hid hc1
    have H2 := hid hc2
    clear hc1 hc2 hlen
    go_enter Try.func23, Try.ntmps23
    go_wp2
    go_loopw [5] (fun v wr => ∃ (k m : Nat), k ≤ xs.length ∧ v = .int .i64 k ∧ xs.take k = ys.take k ∧ wr = w.drewN m) (fun v _ => xs.length - (intOf v).toNat)
    case atStart => exact ⟨0, 0, Nat.zero_le _, rfl, rfl, rfl⟩
    case round =>
      obtain ⟨k, m, hk, rfl, ht, rfl⟩ := hrel
      have HT := hid ht
      clear ht
      by_cases hlt : k < xs.length
      · obtain ⟨g1, rfl, hx1⟩ := H1.out (by omega)
        obtain ⟨g2, rfl, hx2⟩ := H2.out (by have := HL.out; omega)
        obtain ⟨⟨u1, c1⟩, hi1⟩ : ∃ x, xs[k]? = some x := ⟨xs[k], List.getElem?_eq_getElem hlt⟩
        obtain ⟨⟨u2, c2⟩, hi2⟩ : ∃ x, ys[k]? = some x := ⟨ys[k]'(by have := HL.out; omega), List.getElem?_eq_getElem _⟩
        obtain ⟨d1, e1⟩ := hx1 k u1 c1 hi1
        obtain ⟨d2, e2⟩ := hx2 k u2 c2 hi2
        have HI1 := hid hi1
        have HI2 := hid hi2
        have hk2 : k < ys.length := by have := HL.out; omega
        clear hx1 hx2 hi1 hi2
        by_cases hu : u1 = u2
        · subst hu
          by_cases hc : c1 = c2
          · subst hc
            go_wp2
            go_quiet (fail)
            go_wp2
            go_roundw
            case rel => exact ⟨k + 1, m + nq, by omega, by go_num, take_step HI1.out HI2.out HT.out rfl rfl, rfl⟩
            case measure => simp [intOf]; omega
          · have hc' : (c1 == c2) = false := by simpa using hc
            have hfin := hid (not_same HI1.out HI2.out (fun h => hc h.2))
            go_wp2
            go_quiet (fail)
            go_wp2
            go_ret
            exact ⟨by rw [hfin.out]; rfl, m + nq, by simp⟩
        · have hu' : (u1 == u2) = false := by simpa using hu
          have hfin := hid (not_same HI1.out HI2.out (fun h => hu h.1))
          go_wp2
          go_quiet (fail)
          go_wp2
          go_ret
          exact ⟨by rw [hfin.out]; rfl, m + nq, by simp⟩
      · have hfin : decide (xs = ys) = true := by
          have h1 := HT.out
          rw [List.take_of_length_le (by omega), List.take_of_length_le (by have := HL.out; omega)] at h1
          simpa using h1
        have HF := hid hfin
        clear hfin
        go_wp2
        go_ret
        exact ⟨by rw [HF.out]; rfl, _, rfl⟩
  · have hb : ((xs.length : Int) != (ys.length : Int)) = true := by simp; omega
    have hfin : decide (xs = ys) = false := by
      simp only [decide_eq_false_iff_not]; rintro rfl; exact hlen rfl
    have HF := hid hfin
    clear hlen hfin hc1 hc2
    go_enter Try.func23, Try.ntmps23
    go_wp2
    go_ret
    exact ⟨by rw [HF.out]; rfl, 0, rfl⟩
set_option maxHeartbeats 1000000 in
theorem equal_any (v1 v2 : Value) (xs ys : List (Int × Int)) (w : World) (h1 : SliceOf w .u64 .i64 v1 xs) (h2 : SliceOf w .u64 .i64 v2 ys) :
    Calls Try.prog 34 #[v1, v2] w fun e w' => e = .returned (.bool (decide (xs = ys))) ∧ ∃ n, w.drewN n = w' := by
  obtain ⟨a1, cap1, rfl, hl1, hc1⟩ := h1
  obtain ⟨a2, cap2, rfl, hl2, hc2⟩ := h2
  by_cases hlen : xs.length = ys.length
  · have hb : ((xs.length : Int) != (ys.length : Int)) = false := by simp [hlen]
    have HL := hid hlen
    have H1 := hid hc1
    have H2 := hid hc2
    clear hc1 hc2 hlen
    go_enter Try.func34, Try.ntmps34
    go_wp2
    go_loopw [13] (fun v wr => ∃ (k m : Nat), k ≤ xs.length ∧ v = .int .i64 k ∧ xs.take k = ys.take k ∧ wr = w.drewN m) (fun v _ => xs.length - (intOf v).toNat)
    case atStart => exact ⟨0, 0, Nat.zero_le _, rfl, rfl, rfl⟩
    case round =>
      obtain ⟨k, m, hk, rfl, ht, rfl⟩ := hrel
      have HT := hid ht
      clear ht
      by_cases hlt : k < xs.length
      · obtain ⟨g1, rfl, hx1⟩ := H1.out (by omega)
        obtain ⟨g2, rfl, hx2⟩ := H2.out (by have := HL.out; omega)
        obtain ⟨⟨u1, c1⟩, hi1⟩ : ∃ x, xs[k]? = some x := ⟨xs[k], List.getElem?_eq_getElem hlt⟩
        obtain ⟨⟨u2, c2⟩, hi2⟩ : ∃ x, ys[k]? = some x := ⟨ys[k]'(by have := HL.out; omega), List.getElem?_eq_getElem _⟩
        obtain ⟨d1, e1⟩ := hx1 k u1 c1 hi1
        obtain ⟨d2, e2⟩ := hx2 k u2 c2 hi2
        have HI1 := hid hi1
        have HI2 := hid hi2
        have hk2 : k < ys.length := by have := HL.out; omega
        clear hx1 hx2 hi1 hi2
        by_cases hu : u1 = u2
        · subst hu
          by_cases hc : c1 = c2
          · subst hc
            go_wp2
            go_quiet (fail)
            go_wp2
            go_roundw
            case rel => exact ⟨k + 1, m + nq, by omega, by go_num, take_step HI1.out HI2.out HT.out rfl rfl, rfl⟩
            case measure => simp [intOf]; omega
          · have hc' : (c1 == c2) = false := by simpa using hc
            have hfin := hid (not_same HI1.out HI2.out (fun h => hc h.2))
            go_wp2
            go_quiet (fail)
            go_wp2
            go_ret
            exact ⟨by rw [hfin.out]; rfl, m + nq, by simp⟩
        · have hu' : (u1 == u2) = false := by simpa using hu
          have hfin := hid (not_same HI1.out HI2.out (fun h => hu h.1))
          go_wp2
          go_quiet (fail)
          go_wp2
          go_ret
          exact ⟨by rw [hfin.out]; rfl, m + nq, by simp⟩
      · have hfin : decide (xs = ys) = true := by
          have h1 := HT.out
          rw [List.take_of_length_le (by omega), List.take_of_length_le (by have := HL.out; omega)] at h1
          simpa using h1
        have HF := hid hfin
        clear hfin
        go_wp2
        go_ret
        exact ⟨by rw [HF.out]; rfl, _, rfl⟩
  · have hb : ((xs.length : Int) != (ys.length : Int)) = true := by simp; omega
    have hfin : decide (xs = ys) = false := by
      simp only [decide_eq_false_iff_not]; rintro rfl; exact hlen rfl
    have HF := hid hfin
    clear hlen hfin hc1 hc2
    go_enter Try.func34, Try.ntmps34
    go_wp2
    go_ret
    exact ⟨by rw [HF.out]; rfl, 0, rfl⟩
end Go.Proofs.Ythoelbildokmpaa
