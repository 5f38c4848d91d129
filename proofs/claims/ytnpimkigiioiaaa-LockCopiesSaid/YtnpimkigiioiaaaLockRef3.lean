/-
  The document's Try, Free, Drop.
-/
import Derived.Test.YtnpimkigiioiaaaLockRef2
namespace Go.Proofs.Ytnpimkigiioiaaa
open Go.RowKit
set_option maxRecDepth 100000

/-! ### Try -/
set_option maxHeartbeats 1000000 in
theorem refTry (v : Value) (l : List Int) (hthr : ∀ t ∈ l, -1 ≤ t ∧ t < 4) (t n : Int) (w : World) (h : IntsAt w v l) :
    Calls Try.prog 25 #[v, .int .i64 t, .int .i64 n] w fun e w' => ∃ v', e = .returned (.tuple #[v', .bool (tryB l t n), .int .i64 (tryE l t n)]) ∧ IntsAt w' v' (tryL l t n) ∧ w.grownBy w' none ∧ Fr w v v' := by
  obtain ⟨a, cap, rfl, hl, hcp⟩ := h.shape
  have hA := asks_any _ l t n w h
  have H := hid h
  have HTHR := hid hthr
  clear h hthr
  obtain ⟨E, hE⟩ : ∃ E, tryE l t n = E := ⟨_, rfl⟩
  rw [hE] at hA
  have HE := hid hE
  have HA := hid hA
  clear hA
  by_cases hz : E = 0
  · subst hz
    have hth : thB t = true := by
      have h1 := HE.out; unfold tryE at h1; by_cases hh : thB t = true
      · exact hh
      · rw [if_neg hh] at h1; cases h1
    have hin : inL l n = true := by
      have h1 := HE.out; unfold tryE at h1; rw [if_pos hth] at h1; by_cases hh : inL l n = true
      · exact hh
      · rw [if_neg hh] at h1; cases h1
    obtain ⟨k, rfl, hk⟩ := inL_nat hin
    obtain ⟨x, hx⟩ : ∃ x, l[k]? = some x := ⟨l[k], List.getElem?_eq_getElem hk⟩
    have hxt := HTHR.out x (List.mem_of_getElem? hx)
    have hab := atB_iff (a := -1) hx
    have hB : tryB l t k = (x == -1) := by rw [tryB, HE.out, Int.toNat_natCast, hab]; rfl
    have hL : tryL l t k = if (x == -1) then l.set k t else l := by rw [tryL, hB, Int.toNat_natCast]
    have HB := hid hB
    have HL := hid hL
    have HX := hid hx
    clear hth hin hab hB hL hx hE
    by_cases h0 : 0 ≤ x
    · have hne : (x == -1) = false := by simp; omega
      go_enter Try.func25, Try.ntmps25
      go_wp2_with fail
      refine HA.out.mono ?_
      rintro e w1 ⟨rfl, hg⟩
      obtain ⟨g, off, cap2, e, hc⟩ := (H.out.keptN hg).at HX.out
      cases e
      go_wp2_with fail
      go_ret3
      exact ⟨_, by rw [HB.out, hne, HE.out]; rfl, by rw [HL.out, hne]; exact H.out.keptN hg, hg, .inl rfl⟩
    · have hne : (x == -1) = true := by simp; omega
      go_enter Try.func25, Try.ntmps25
      go_wp2_with fail
      refine HA.out.mono ?_
      rintro e w1 ⟨rfl, hg⟩
      obtain ⟨g, off, cap2, e, hc⟩ := (H.out.keptN hg).at HX.out
      cases e
      go_wp2_with fail
      refine (with_any _ l k hk t w1 (H.out.keptN hg)).mono ?_
      rintro e w2 ⟨v', rfl, hI, hg2, hv2⟩
      go_wp2_with fail
      go_ret3
      exact ⟨_, by rw [HB.out, hne, HE.out]; rfl, by rw [HL.out, hne]; exact hI, g_none hg hg2, .inr fun r hr => Nat.le_trans hg.size (hv2 r hr)⟩
  · have hB : tryB l t n = false := by rw [tryB, HE.out]; simp [hz]
    have hL : tryL l t n = l := by rw [tryL, hB]; rfl
    have HB := hid hB
    have HL := hid hL
    clear hB hL hE
    go_enter Try.func25, Try.ntmps25
    go_wp2_with fail
    refine HA.out.mono ?_
    rintro e w1 ⟨rfl, hg⟩
    go_wp2_with fail
    go_ret3
    exact ⟨_, by rw [HB.out, HE.out]; rfl, by rw [HL.out]; exact H.out.keptN hg, hg, .inl rfl⟩

/-! ### Free -/
set_option maxHeartbeats 1000000 in
theorem refFree (v : Value) (l : List Int) (t n : Int) (w : World) (h : IntsAt w v l) :
    Calls Try.prog 26 #[v, .int .i64 t, .int .i64 n] w fun e w' => ∃ v', e = .returned (.tuple #[v', .int .i64 (freeE l t n)]) ∧ IntsAt w' v' (freeL l t n) ∧ w.grownBy w' none ∧ Fr w v v' := by
  obtain ⟨a, cap, rfl, hl, hcp⟩ := h.shape
  have H := hid h
  clear h
  cases hth : thB t with
  | false =>
    have ha : askE l t n = 2 := by rw [askE, hth]; rfl
    have he : freeE l t n = 2 := by rw [freeE, ha]; rfl
    have hL : freeL l t n = l := by rw [freeL, ha]; rfl
    rw [he]
    have HL := hid hL
    have HTH := hid hth
    clear he hth hL ha
    go_enter Try.func26, Try.ntmps26
    go_wp2_with fail
    refine (thread_ref t w).mono ?_
    rintro e _ ⟨rfl, rfl⟩
    rw [HTH.out]
    go_wp2_with fail
    go_ret2
    exact ⟨_, rfl, by rw [HL.out]; exact H.out, g_refl w _, .inl rfl⟩
  | true =>
    have HTH := hid hth
    cases hin : inL l n with
    | false =>
      have ha : askE l t n = 4 := by rw [askE, hth, hin]; rfl
      have he : freeE l t n = 4 := by rw [freeE, ha]; rfl
      have hL : freeL l t n = l := by rw [freeL, ha]; rfl
      rw [he]
      have HL := hid hL
      have hn : n < 0 ∨ (l.length : Int) ≤ n := by
        by_cases h0 : 0 ≤ n
        · right
          by_cases h1 : n < (l.length : Int)
          · simp [inL, h0, h1] at hin
          · omega
        · left; omega
      clear he hth hin ha hL
      rcases hn with hn | hn
      · go_enter Try.func26, Try.ntmps26
        go_wp2_with fail
        refine (thread_ref t w).mono ?_
        rintro e _ ⟨rfl, rfl⟩
        rw [HTH.out]
        go_wp2_with fail
        go_ret2
        exact ⟨_, rfl, by rw [HL.out]; exact H.out, g_refl w _, .inl rfl⟩
      · go_enter Try.func26, Try.ntmps26
        go_wp2_with fail
        refine (thread_ref t w).mono ?_
        rintro e _ ⟨rfl, rfl⟩
        rw [HTH.out]
        go_wp2_with fail
        go_ret2
        exact ⟨_, rfl, by rw [HL.out]; exact H.out, g_refl w _, .inl rfl⟩
    | true =>
      obtain ⟨k, rfl, hk⟩ := inL_nat hin
      obtain ⟨x, hx⟩ : ∃ x, l[k]? = some x := ⟨l[k], List.getElem?_eq_getElem hk⟩
      have hab := atB_iff (a := t) hx
      have ha : askE l t k = 0 := by rw [askE, hth, hin]; rfl
      have he : freeE l t k = if (x == t) then 0 else 221 := by rw [freeE, ha, Int.toNat_natCast, hab]; rfl
      have hL : freeL l t k = if (x == t) then l.set k (-1) else l := by rw [freeL, ha, Int.toNat_natCast, swapL, hab]; rfl
      rw [he]
      have HL := hid hL
      obtain ⟨g, off, cap2, e, hc⟩ := H.out.at hx
      cases e
      clear he hth hin ha hL hab hx
      cases hxt : (x == t) with
      | true =>
        have HXT := hid hxt
        clear hxt
        have hxt2 : x = t := by simpa using HXT.out
        subst hxt2
        go_enter Try.func26, Try.ntmps26
        go_wp2_with fail
        refine (thread_ref x w).mono ?_
        rintro e _ ⟨rfl, rfl⟩
        rw [HTH.out]
        go_wp2_with fail
        refine (with_any _ l k hk (-1) w H.out).mono ?_
        rintro e w2 ⟨v', rfl, hI, hg2, hv2⟩
        go_wp2_with fail
        go_ret2
        exact ⟨_, rfl, by rw [HL.out, HXT.out]; exact hI, hg2, .inr hv2⟩
      | false =>
        have HXT := hid hxt
        have hxt2 : (x != t) = true := by simp [bne, hxt]
        go_enter Try.func26, Try.ntmps26
        go_wp2_with fail
        refine (thread_ref t w).mono ?_
        rintro e _ ⟨rfl, rfl⟩
        rw [HTH.out]
        go_wp2_with fail
        go_ret2
        exact ⟨_, rfl, by rw [HL.out, HXT.out]; exact H.out, g_refl w _, .inl rfl⟩

/-! ### Drop -/
set_option maxHeartbeats 1000000 in
theorem refDrop (v : Value) (l : List Int) (t : Int) (w : World) (h : IntsAt w v l) :
    Calls Try.prog 28 #[v, .int .i64 t] w fun e w' => ∃ v', e = .returned (.tuple #[v', .int .i64 (heldL l t).length]) ∧ IntsAt w' v' (dropL l t) ∧ w.grownBy w' none ∧ Fr w v v' := by
  have hHe := refHeld v l t w h
  have hhl := heldL_length l t
  obtain ⟨H, hH⟩ : ∃ H, heldL l t = H := ⟨_, rfl⟩
  have hHin : ∀ n ∈ H, ∃ k : Nat, n = k ∧ k < l.length := fun n hn => by
    rw [← hH] at hn
    obtain ⟨k, h1, h2, _⟩ := heldL_in hn
    exact ⟨k, h1, h2⟩
  have hfin : dropN l H = dropL l t := by rw [dropL, hH]
  rw [hH] at hHe hhl ⊢
  have HHE := hid hHe
  have HIN := hid hHin
  have HF := hid hfin
  have HV := hid h
  have hll : l.length ≤ 1000 := by obtain ⟨_, _, _, h1, _⟩ := h.shape; exact h1
  clear hHe hHin hfin hH h
  go_enter Try.func28, Try.ntmps28
  go_wp2_with fail
  refine HHE.out.mono ?_
  rintro e w1 ⟨vh, rfl, hI, hg1⟩
  obtain ⟨a2, cap2, rfl, hl2, hcp2⟩ := hI.shape
  have HI := hid hI
  clear hI
  go_wp2_with fail
  go_loopw [0, 7] (fun v0 v7 wr => ∃ (j : Nat), j ≤ H.length ∧ v7 = .int .i64 j ∧ IntsAt wr v0 (dropN l (H.take j)) ∧ w1.grownBy wr none ∧ Fr w v v0) (fun _ v7 _ => H.length - (intOf v7).toNat)
  case atStart => exact ⟨0, Nat.zero_le _, rfl, HV.out.keptN hg1, g_refl w1 _, .inl rfl⟩
  case round =>
    obtain ⟨j, hj, rfl, hIr, hg, hfr⟩ := hrel
    have HFR := hid hfr
    clear hfr
    have HIR := hid hIr
    by_cases hlt : j < H.length
    · obtain ⟨n, hn⟩ : ∃ n, H[j]? = some n := ⟨H[j], List.getElem?_eq_getElem hlt⟩
      obtain ⟨k, rfl, hk⟩ := HIN.out n (List.mem_of_getElem? hn)
      obtain ⟨g2, off2, cap3, e2, hc2⟩ := (HI.out.keptN hg).at hn
      cases e2
      have hlen := dropN_length l (H.take j)
      have htk : H.take (j + 1) = H.take j ++ [(k : Int)] := by
        rw [List.take_add_one, hn]; rfl
      have hst : dropN l (H.take (j + 1)) = (dropN l (H.take j)).set k (-1) := by rw [htk, dropN_snoc]; simp
      have hW := with_any _ (dropN l (H.take j)) k (by omega) (-1) wr hIr
      have HST := hid hst
      have HW := hid hW
      clear hn hlen htk hst hW hIr
      go_wp2_with fail
      refine HW.out.mono ?_
      rintro e w8 ⟨v8, rfl, hI8, hg8, hv8⟩
      go_wp2_with fail
      go_roundw
      case rel => exact ⟨j + 1, by omega, by go_num, by rw [HST.out]; exact hI8, g_none hg hg8, .inr fun r hr => Nat.le_trans hg1.size (Nat.le_trans hg.size (hv8 r hr))⟩
      case measure => simp [intOf]; omega
    · obtain rfl : j = H.length := by omega
      have hfin : dropN l (H.take H.length) = dropL l t := by rw [List.take_length]; exact HF.out
      have HF2 := hid hfin
      clear hfin hIr
      go_wp2_with fail
      go_ret2
      exact ⟨_, rfl, by rw [← HF2.out]; exact HIR.out, g_none hg1 hg, HFR.out⟩
end Go.Proofs.Ytnpimkigiioiaaa
