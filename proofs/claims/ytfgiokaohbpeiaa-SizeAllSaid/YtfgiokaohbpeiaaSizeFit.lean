/-
  Classes and sizes in memory: the least class, by both.
-/
import Derived.Test.YtfgiokaohbpeiaaSizeClass
namespace Go.Proofs.Ytfgiokaohbpeiaa
open Go.RowKit

theorem first_any (n : Int) (nb : Nat) (v : Value) (w : World) (h : L1 w v pays) (hn : w.cell? ⟨nb, 0, none⟩ = some (.int .i64 n)) :
    Calls Try.prog 29 #[.func (.func 30) #[] #[.pointer (some ⟨nb, 0, none⟩)], v] w fun e w' => e = .returned (.int .i64 (classV n)) ∧ w = w' := by
  obtain ⟨g, off, cap, hv, _⟩ := id h
  subst hv
  go_enter Try.func29, Try.ntmps29
  go_wp2_with fail
  refine (idx_any n nb _ w h hn).mono ?_
  rintro e w1 ⟨rfl, rfl⟩
  go_wp2
  go_ret
  exact ⟨rfl, rfl⟩

theorem L1.pays {w : World} {b : Nat} {t : TypeId} (h : Blk w b t [.int .i64 16, .int .i64 32, .int .i64 48, .int .i64 64, .int .i64 96, .int .i64 128, .int .i64 192, .int .i64 256]) : L1 w (.slice (some ⟨b, 0, none⟩) 8 8) pays := by
  refine ⟨b, 0, 8, rfl, by simp [Go.Proofs.Ytfgiokaohbpeiaa.pays], by simp [Go.Proofs.Ytfgiokaohbpeiaa.pays], by unfold maxLen; omega, fun i n hi => ?_⟩
  rw [Nat.zero_add]
  refine h.cellOf ?_
  match i, hi with
  | 0, hi => simp [Go.Proofs.Ytfgiokaohbpeiaa.pays] at hi; subst hi; rfl
  | 1, hi => simp [Go.Proofs.Ytfgiokaohbpeiaa.pays] at hi; subst hi; rfl
  | 2, hi => simp [Go.Proofs.Ytfgiokaohbpeiaa.pays] at hi; subst hi; rfl
  | 3, hi => simp [Go.Proofs.Ytfgiokaohbpeiaa.pays] at hi; subst hi; rfl
  | 4, hi => simp [Go.Proofs.Ytfgiokaohbpeiaa.pays] at hi; subst hi; rfl
  | 5, hi => simp [Go.Proofs.Ytfgiokaohbpeiaa.pays] at hi; subst hi; rfl
  | 6, hi => simp [Go.Proofs.Ytfgiokaohbpeiaa.pays] at hi; subst hi; rfl
  | 7, hi => simp [Go.Proofs.Ytfgiokaohbpeiaa.pays] at hi; subst hi; rfl
  | i + 8, hi => simp [Go.Proofs.Ytfgiokaohbpeiaa.pays] at hi

/-- The number of the class, or 0. -/
def cls (n : Int) : Int := if 0 ≤ classV n then classV n else 0
theorem class_any (n : Int) (w : World) :
    Calls Try.prog 17 #[.int .i64 n] w fun e w' => e = .returned (.tuple #[.int .i64 (cls n), .bool (decide (0 ≤ classV n))]) ∧ w.grownBy w' none := by
  have hgA := g_alloc (g_refl w none) (.cells #[.int .i64 n] 3)
  have b1 := Blk.new w [.int .i64 n] 3
  have hcb := classV_bounds n
  by_cases hk : 0 ≤ classV n
  · rw [show cls n = classV n by simp [cls, hk], show (decide (0 ≤ classV n)) = true by simpa using hk]
    obtain ⟨K, hK⟩ : ∃ K, K = classV n := ⟨_, rfl⟩
    rw [← hK] at hk hcb ⊢
    have HK := hid hK
    clear hK
    go_enter Try.func17, Try.ntmps17
    go_wp2_with fail
    refine (payloads_any _).mono ?_
    rintro e w1 ⟨rfl, hg1⟩
    have hgB := g_alloc (g_refl w1 none) (.cells #[.int .i64 16, .int .i64 32, .int .i64 48, .int .i64 64, .int .i64 96, .int .i64 128, .int .i64 192, .int .i64 256] 53)
    have b2 := Blk.new w1 [.int .i64 16, .int .i64 32, .int .i64 48, .int .i64 64, .int .i64 96, .int .i64 128, .int .i64 192, .int .i64 256] 53
    go_wp2_with fail
    refine (first_any n _ _ _ (L1.pays b2) (((b1.keptN hg1).keptN hgB).cellOf (i := 0) rfl)).mono ?_
    rintro e w2 ⟨rfl, rfl⟩
    rw [← HK.out]
    go_wp2
    all_goals go_ret2
    all_goals
      refine ⟨?_, g_none (g_none hgA hg1) hgB⟩
      first
        | rfl
        | (obtain rfl : K = 0 := by omega
           rfl)
  · rw [show cls n = 0 by simp [cls, hk], show (decide (0 ≤ classV n)) = false by simpa using hk]
    have hK : classV n = -1 := by omega
    have HK := hid hK
    clear hK hk hcb
    go_enter Try.func17, Try.ntmps17
    go_wp2_with fail
    refine (payloads_any _).mono ?_
    rintro e w1 ⟨rfl, hg1⟩
    have hgB := g_alloc (g_refl w1 none) (.cells #[.int .i64 16, .int .i64 32, .int .i64 48, .int .i64 64, .int .i64 96, .int .i64 128, .int .i64 192, .int .i64 256] 53)
    have b2 := Blk.new w1 [.int .i64 16, .int .i64 32, .int .i64 48, .int .i64 64, .int .i64 96, .int .i64 128, .int .i64 192, .int .i64 256] 53
    go_wp2_with fail
    refine (first_any n _ _ _ (L1.pays b2) (((b1.keptN hg1).keptN hgB).cellOf (i := 0) rfl)).mono ?_
    rintro e w2 ⟨rfl, rfl⟩
    rw [HK.out]
    go_wp2
    go_ret2
    exact ⟨rfl, g_none (g_none hgA hg1) hgB⟩

theorem pays_get {k : Nat} (hk : k < 8) : pays[k]? = some (pay k) := by
  rcases eight hk with rfl | rfl | rfl | rfl | rfl | rfl | rfl | rfl <;> rfl
theorem refClass_any (n : Int) (w : World) :
    Calls Try.prog 18 #[.int .i64 n] w fun e w' => e = .returned (.int .i64 (classV n)) ∧ w = w' := by
  by_cases h0 : 0 ≤ n
  · go_enter Try.func18, Try.ntmps18
    go_wp2
    go_loopw [3] (fun v wr => ∃ (k : Nat), k ≤ 8 ∧ v = .int .i64 k ∧ (pays.take k).any (cB n) = false ∧ w = wr) (fun v _ => 8 - (intOf v).toNat)
    case atStart => exact ⟨0, Nat.zero_le _, rfl, rfl, rfl⟩
    case round =>
      obtain ⟨k, hk, rfl, ht, rfl⟩ := hrel
      have HT := hid ht
      clear ht
      by_cases hlt : k < 8
      · have hp := refPay_in k hlt w
        have HG := hid (pays_get hlt)
        obtain ⟨P, hP⟩ : ∃ P, P = pay k := ⟨_, rfl⟩
        rw [← hP] at hp
        have HP := hid hP
        have HC := hid hp
        clear hp hP
        by_cases hb : n ≤ P
        · go_wp2_with fail
          refine HC.out.mono ?_
          rintro e w2 ⟨rfl, rfl⟩
          go_wp2_with fail
          go_ret
          refine ⟨?_, rfl⟩
          have : pays.findIdx? (cB n) = some k := by
            rw [List.findIdx?_eq_some_iff_getElem]
            have hx := (List.getElem?_eq_some_iff.1 HG.out)
            refine ⟨hx.1, by rw [hx.2, ← HP.out]; simp [cB, h0, hb], fun j hj => ?_⟩
            have hjp : j < pays.length := by simp [pays]; omega
            have h3 := List.any_eq_false.1 HT.out (pays[j]) (List.mem_take_iff_getElem.2 ⟨j, by omega, rfl⟩)
            simpa using h3
          show Ending.returned (.int .i64 k) = _
          rw [classV, this]
        · go_wp2_with fail
          refine HC.out.mono ?_
          rintro e w2 ⟨rfl, rfl⟩
          go_wp2_with fail
          go_roundw
          case rel => exact ⟨k + 1, by omega, by go_num, by rw [List.take_add_one, HG.out, List.any_append, HT.out, ← HP.out]; simp [cB, h0]; omega, trivial⟩
          case measure => simp [intOf]; omega
      · obtain rfl : k = 8 := by omega
        go_wp2
        go_ret
        refine ⟨?_, rfl⟩
        have := HT.out
        rw [List.take_of_length_le (by simp [pays])] at this
        have : pays.findIdx? (cB n) = none := by
          rw [List.findIdx?_eq_none_iff]
          intro x hx
          simpa using List.any_eq_false.1 this x hx
        show Ending.returned (.int .i64 (-1)) = _
        rw [classV, this]
  · have hc : classV n = -1 := by
      have : pays.findIdx? (cB n) = none := by
        rw [List.findIdx?_eq_none_iff]
        intro x _
        simp [cB, h0]
      rw [classV, this]
    rw [hc]
    clear hc
    have e0 : decide (0 ≤ n) = false := by simpa using h0
    go_enter Try.func18, Try.ntmps18
    go_wp2
    go_loopw [3] (fun v wr => v = .int .i64 0 ∧ w = wr) (fun v _ => 0)
    case atStart => exact ⟨rfl, rfl⟩
    case round =>
      obtain ⟨rfl, rfl⟩ := hrel
      go_wp2
      go_ret
      exact ⟨rfl, rfl⟩

/-! ### SizeFits, SizeClasses but for the rows -/
end Go.Proofs.Ytfgiokaohbpeiaa
