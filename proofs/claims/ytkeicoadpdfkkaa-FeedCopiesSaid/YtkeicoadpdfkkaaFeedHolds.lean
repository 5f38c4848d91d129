/-
  FeedHolds, walked: whatever bytes, whatever parts: true, and nothing that was there is written.
-/
import Derived.Test.YtkeicoadpdfkkaaFeedWorks
import Derived.Laws.Concat
namespace Go.Proofs.Ytkeicoadpdfkkaa
open Go.RowKit

theorem str_append (a b : List Int) : strOfNums a ++ strOfNums b = strOfNums (a ++ b) := by
  simp only [strOfNums, List.map_append]
  exact ByteArray.mk_append_mk _ _
theorem str_size (a : List Int) : (strOfNums a).size = a.length := strOfNums_size a
theorem take_part (xs : List Int) (k d : Nat) : xs.take k ++ (xs.drop k).take d = xs.take (k + d) := by
  rw [List.take_add]

/-- The copy stays as it is. -/
theorem holds_other {p q k : Nat} {v : Value} {xs : List Int} {w1s : Nat} {w2 wr : World} (h : FeedAt w2 q v xs k) (hb : ∀ r, v.ownBlock = some r → w1s ≤ r ∧ r < w2.heap.size) (hpq : p < q) (hp : p < w1s) (hk : KeepW [p] w2 wr) : FeedAt wr q v xs k := by
  refine ⟨hk.blk h.1 (by simp; omega), ?_, h.2.2.1, h.2.2.2.1, h.2.2.2.2⟩
  rcases h.2.1.2 with ⟨e, h0⟩ | ⟨g, cap, cur, e, hb', hg, h3⟩
  · exact ⟨h.2.1.1, .inl ⟨e, h0⟩⟩
  · have hgb := hb g (by rw [e]; rfl)
    exact ⟨h.2.1.1, .inr ⟨g, cap, cur, e, hb', (hk.same g hgb.2 (by simp; omega)).trans hg, h3⟩⟩

/-- What came in stays. -/
theorem holds_in {p q : Nat} {w w2 W : World} {v : Value} {xs : List Int} (hg : w.grownBy w2 none) (h : LB w v xs) (hk : KeepW [p, q] w2 W) (hp : w.heap.size ≤ p) (hq : w.heap.size ≤ q) : LB W v xs := by
  obtain ⟨a, cap, rfl, h1, h2, h3, hc⟩ := h
  refine ⟨a, cap, rfl, h1, h2, h3, fun h0 => ?_⟩
  obtain ⟨g, off, rfl, hx⟩ := hc h0
  exact ⟨g, off, rfl, fun i x hi => hk.cell (g_cellN hg (hx i x hi)) (by have := cell_lt (hx i x hi); simp; omega)⟩
theorem hkw2 {p q : Nat} {w2 W : World} (h : KeepW [p] w2 W) : KeepW [p, q] w2 W := ⟨h.os, h.tape, h.output, h.size, fun b hb hn => h.same b hb (fun hm => hn (by simp at hm; simp [hm]))⟩

/-- The rounds' invariant. -/
def HoldI (len1 p : Nat) (v : Value) (xs : List Int) (w1 : World) (va vs vi : Value) (wr : World) : Prop :=
  ∃ (i at' s : Nat), i ≤ len1 ∧ vi = .int .i64 i ∧ vs = .int .i64 s ∧ va = .string (strOfNums (xs.take at')) ∧ at' = min s xs.length ∧ s ≤ 255 * i ∧ FeedAt wr p v xs at' ∧ KeepW [p] w1 wr

set_option maxRecDepth 100000 in
set_option maxHeartbeats 4000000 in
theorem holds_walk (a0 : Option Addr) (cap0 : Nat) (xs : List Int) (a1 : Option Addr) (cap1 : Nat) (ys : List Int) (w : World) (hX : LB w (.slice a0 xs.length cap0) xs) (hY : LB w (.slice a1 ys.length cap1) ys)
    (hx : xs.length ≤ 300) (hy : ys.length ≤ 40) (hyu : ∀ y ∈ ys, 0 ≤ y ∧ y < 256) :
    Calls Try.prog 3 #[.slice a0 xs.length cap0, .slice a1 ys.length cap1] w fun e w' => e = .returned (.bool true) ∧ w.grownBy w' none := by
  have HX := hid hX
  have HY := hid hY
  have HU := hid hyu
  have hcx : xs.length ≤ cap0 := by
    obtain ⟨_, _, e, _, hh, _⟩ := hX
    cases e; exact hh
  clear hX hY hyu
  go_enter Try.func3, Try.ntmps3
  go_wp2_with fail
  refine (new_any _ xs (by omega) w HX.out).mono ?_
  rintro e w1 ⟨p, v, rfl, h1, ga1, hp, hvb⟩
  go_wp2_with fail
  refine (copy_some p v xs 0 w1 h1).mono ?_
  rintro e w2 ⟨q, u, rfl, q2, ga2, hq, hub⟩
  have h2 := h1.keptN ga2
  have gg2 := g_none ga1 ga2
  have hpq : p < q := by have := h1.1.lt; omega
  have hp2 := h2.1.lt
  have HQ := hid q2
  have HUB := hid hub
  have H0 := hid h2
  have HP1 := hid h1.1.lt
  have HVB := hid (fun r e => (⟨(hvb r e).1, Nat.lt_of_lt_of_le (hvb r e).2 hq⟩ : w.heap.size ≤ r ∧ r < q))
  have hpw := hp
  have hqw2 : w.heap.size ≤ q := by omega
  clear h1 q2 h2 hub
  have hYk : ∀ W : World, KeepW [p] w2 W → ∀ (i : Nat) (y : Int), ys[i]? = some y → ∃ b off, a1 = some ⟨b, off, none⟩ ∧ W.cell? ⟨b, off + i, none⟩ = some (.int .u8 y) := fun W hW i y hi => by
    obtain ⟨b, off, c, e, hc⟩ := HY.out.at hi
    cases e
    exact ⟨b, off, rfl, hW.cell (g_cellN gg2 hc) (by have := cell_lt hc; simp; omega)⟩
  have HYK := hid hYk
  clear hYk
  go_wp2_with fail
  go_loopw [7, 8, 9] (HoldI ys.length p v xs w2) (fun _ _ v _ => ys.length - (intOf v).toNat)
  case atStart => exact ⟨0, 0, 0, Nat.zero_le _, rfl, rfl, rfl, by simp, by omega, H0.out, KeepW.refl _ _⟩
  case round =>
    obtain ⟨i, at', s, hi, rfl, rfl, rfl, hat, hs, hF, hkw⟩ := hrel
    have HAT := hid hat
    have HF := hid hF
    have HW := hid hkw
    have hatl : at' ≤ xs.length := by omega
    have hsl : s ≤ 10200 := by omega
    clear hat hF hkw
    by_cases hlt : i < ys.length
    · obtain ⟨y, hyi⟩ : ∃ y, ys[i]? = some y := ⟨ys[i], List.getElem?_eq_getElem hlt⟩
      obtain ⟨b, off, rfl, d0⟩ := HYK.out wr HW.out i y hyi
      have hyb := HU.out y (List.mem_of_getElem? hyi)
      obtain ⟨n, rfl⟩ := Int.eq_ofNat_of_zero_le hyb.1
      have hn : n < 256 := by omega
      clear hyb
      obtain ⟨d, hd⟩ : ∃ d, d = min n (xs.length - at') := ⟨_, rfl⟩
      have hdl : at' + d ≤ xs.length := by omega
      have hdn : d ≤ n := by omega
      have HD := hid hd
      have HYI := hid hyi
      clear hd hyi
      go_wp2_with fail
      refine (take_ok p v xs at' n d HD.out wr HF.out).mono ?_
      rintro e w3 ⟨a, c, rfl, hr3, hF3, hg3⟩
      have hkw3 := HW.out.grown hg3 (fun r e => by cases e; exact .inl (by simp))
      obtain ⟨b', off', e', d1⟩ := HYK.out w3 hkw3 i n HYI.out
      cases e'
      clear d0
      have hLX : LB w3 (.slice a d c) ((xs.drop at').take d) := LB.own (by simp; omega) (by rw [show ((xs.drop at').take d).length = d by simp; omega]; exact hr3)
      obtain ⟨R, hR⟩ : ∃ R, R = xs.length - (at' + d) := ⟨_, rfl⟩
      obtain ⟨A, hA⟩ : ∃ A, A = at' + d := ⟨_, rfl⟩
      rw [← hA] at hR hF3
      have HA := hid hA
      have HF3 := hid hF3
      have hAR : (A : Int) + (R : Int) = xs.length := by omega
      have hAl : A ≤ 300 := by omega
      have hRl : R ≤ 300 := by omega
      have HR := hid hR
      have HL := hid hLX
      have HW3 := hid hkw3
      clear hr3 hF3 hR hA hLX hkw3
      go_wp2_with (go_at_call 10; refine (num_any _ _).mono ?_; rintro e _ ⟨rfl, rfl⟩)
      refine (at_some p v xs A w3 HF3.out).mono ?_
      rintro e _ ⟨rfl, rfl⟩
      go_wp2_with fail
      refine (lft_some p v xs A w3 HF3.out).mono ?_
      rintro e w4 ⟨rfl, m4, rfl⟩
      rw [← HR.out]
      have hstr : (convert 22 9 (.slice a d c)).run Try.prog (w3.drewN m4) = .ok (.string (strOfNums ((xs.drop at').take d))) (w3.drewN m4) := LB.str (HL.out.keptN (g_drewM (g_refl w3 none) m4))
      have hbf : (((A : Int) + (R : Int)) != (xs.length : Int)) = false := by simp [hAR]
      have hsz : ¬ 9223372036854775807 < (strOfNums (xs.take at')).size + (strOfNums ((xs.drop at').take d)).size := by
        rw [str_size, str_size]; simp; omega
      go_wp2_with fail
      go_roundw
      case rel =>
        have hD := HD.out
        have hA := HA.out
        have hAT := HAT.out
        refine ⟨i + 1, A, s + n, by omega, by go_num, by go_num, ?_, by omega, by omega, HF3.out.keptN (g_drewM (g_refl w3 none) m4), HW3.out.grownN (g_drewM (g_refl w3 none) m4)⟩
        rw [hA, ← take_part, ← str_append]
      case measure => simp [intOf]; omega
    · obtain rfl : i = ys.length := by omega
      have hqw := holds_other HQ.out HUB.out hpq HP1.out HW.out
      have HQW := hid hqw
      have hqp := hqw.1.lt
      clear hqw
      by_cases hsx : s ≤ xs.length
      · obtain rfl : s = at' := by have := HAT.out; omega
        have hDl : s ≤ xs.length := by omega
        by_cases hq4 : xs.length ≤ s + 4
        · obtain ⟨K, hK⟩ : ∃ K, K = xs.length := ⟨_, rfl⟩
          have hKd : s + (K - s) = K := by omega
          have hdm : K - s = min 4 (xs.length - s) := by omega
          have HKD := hid hKd
          have HDM := hid hdm
          have HKK := hid hK
          have HAT2 := hid (show s = min s (xs.length - 0) by have := HAT.out; omega)
          have Hs := hid (show s = min s (xs.length - 0) by omega)
          clear hKd hdm hK
          go_wp2_with fail
          refine (take_ok q u xs 0 s s HAT2.out wr HQW.out).mono ?_
          rintro e w3 ⟨a3, c3, rfl, hr3, hQ3, hg3⟩
          rw [List.drop_zero] at hr3
          rw [Nat.zero_add] at hQ3
          have hF3 := HF.out.kept hg3 (by simp; omega) (.inl (fun e => by have := (HVB.out q e).2; omega))
          have hkw3 : KeepW [p, q] w2 w3 := (hkw2 HW.out).grown hg3 (fun r e => by cases e; exact .inl (by simp))
          have htl : (xs.take s).length = s := by first | (simp; done) | (simp; omega)
          have hL3 : LB w3 (.slice a3 s c3) (xs.take s) := LB.own (by omega) (by rw [htl]; exact hr3)
          have hs3 := hL3.str
          have HF3 := hid hF3
          have HQ3 := hid hQ3
          have HW3 := hid hkw3
          have hp3 := hF3.1.lt
          clear hr3 hL3 hF3 hQ3 hkw3 htl
          go_wp2_with (go_at_call 10; refine (num_any _ _).mono ?_; rintro e _ ⟨rfl, rfl⟩)
          refine (same_some p q v u xs xs s s w3 HF3.out HQ3.out).mono ?_
          rintro e w4 ⟨rfl, m4, hw4⟩
          rw [show (decide (xs.drop s = xs.drop s)) = true by simp]
          have hg4 : w3.grownBy w4 none := hw4 ▸ g_drewM (g_refl w3 none) m4
          clear hw4
          have hF4 := HF3.out.keptN hg4
          have hkw4 := HW3.out.grownN hg4
          have hX4 : LB w4 (.slice a0 s cap0) (xs.take s) := (holds_in gg2 HX.out hkw4 hpw hqw2).take hDl
          have hs4 := hX4.str
          have HF4 := hid hF4
          have HW4 := hid hkw4
          clear hF4 hkw4 hX4 hs3
          go_wp2_with fail
          refine (seek_in p v xs s 0 (by omega) w4 HF4.out).mono ?_
          rintro e w5 ⟨rfl, hF5, hg5⟩
          have hkw5 := HW4.out.grown hg5 (fun r e => by cases e; exact .inl (by simp))
          have HF5 := hid hF5
          have HW5 := hid hkw5
          clear hF5 hkw5 hs4
          go_wp2_with fail
          refine (take_ok p v xs 0 s s Hs.out w5 HF5.out).mono ?_
          rintro e w6 ⟨a6, c6, rfl, hr6, hF6, hg6⟩
          rw [List.drop_zero] at hr6
          rw [Nat.zero_add] at hF6
          have hkw6 := HW5.out.grown hg6 (fun r e => by cases e; exact .inl (by simp))
          have htl : (xs.take s).length = s := by first | (simp; done) | (simp; omega)
          have hL6 : LB w6 (.slice a6 s c6) (xs.take s) := LB.own (by omega) (by rw [htl]; exact hr6)
          have hb6 : ∀ r, (Value.slice a6 s c6).ownBlock = some r → p ≠ r := fun r e => by
            have h1 := (row_base hr6 r e).1
            have h2 := HF5.out.1.lt
            omega
          have HB6 := hid hb6
          have HF6 := hid hF6
          have HL6 := hid hL6
          have HW6 := hid hkw6
          clear hr6 hF6 hL6 hkw6 hb6 htl
          go_wp2_with fail
          refine (draw_ok p v xs s (K - s) HDM.out w6 HF6.out).mono ?_
          rintro e w7 ⟨rfl, hF7, hg7⟩
          rw [HKD.out] at hF7
          have hkw7 := HW6.out.grown hg7 (fun r e => by cases e; exact .inl (by simp))
          have hL7 := HL6.out.kept hg7 (fun r e e2 => by cases e; exact HB6.out p e2 rfl)
          obtain ⟨S, hS⟩ : ∃ S, S = sumV ((xs.drop s).take (K - s)) := ⟨_, rfl⟩
          rw [← hS]
          have HS := hid hS
          have HF7 := hid hF7
          have HL7 := hid hL7
          have HW7 := hid hkw7
          clear hF7 hL7 hkw7 hS
          go_wp2_with fail
          refine (seek_in p v xs K s hDl w7 HF7.out).mono ?_
          rintro e w8 ⟨rfl, hF8, hg8⟩
          have hkw8 := HW7.out.grown hg8 (fun r e => by cases e; exact .inl (by simp))
          have hL8 := HL7.out.kept hg8 (fun r e e2 => by cases e; exact HB6.out p e2 rfl)
          have HF8 := hid hF8
          have HL8 := hid hL8
          have HW8 := hid hkw8
          clear hF8 hL8 hkw8
          go_wp2_with fail
          refine (draw_ok p v xs s (K - s) HDM.out w8 HF8.out).mono ?_
          rintro e w9 ⟨rfl, hF9, hg9⟩
          rw [← HS.out]
          have hkw9 := HW8.out.grown hg9 (fun r e => by cases e; exact .inl (by simp))
          have hL9 := HL8.out.kept hg9 (fun r e e2 => by cases e; exact HB6.out p e2 rfl)
          have hs9 := hL9.str
          have HW9 := hid hkw9
          clear hF9 hL9 hkw9
          have hKK := HKK.out
          subst hKK
          go_wp2_with (go_at_call 10; refine (num_any _ _).mono ?_; rintro e _ ⟨rfl, rfl⟩)
          refine (works_true w9).mono ?_
          rintro e w10 ⟨rfl, hg10⟩
          go_wp2
          go_ret
          exact ⟨rfl, g_none (HW9.out.byOne gg2 (fun b hb => by
            simp at hb
            rcases hb with rfl | rfl
            · exact .inr hp
            · exact .inr (by omega))) hg10⟩
        · obtain ⟨K, hK⟩ : ∃ K, K = s + 4 := ⟨_, rfl⟩
          have hKd : s + (K - s) = K := by omega
          have hdm : K - s = min 4 (xs.length - s) := by omega
          have HKD := hid hKd
          have HDM := hid hdm
          have HKK := hid hK
          have HAT2 := hid (show s = min s (xs.length - 0) by have := HAT.out; omega)
          have Hs := hid (show s = min s (xs.length - 0) by omega)
          clear hKd hdm hK
          go_wp2_with fail
          refine (take_ok q u xs 0 s s HAT2.out wr HQW.out).mono ?_
          rintro e w3 ⟨a3, c3, rfl, hr3, hQ3, hg3⟩
          rw [List.drop_zero] at hr3
          rw [Nat.zero_add] at hQ3
          have hF3 := HF.out.kept hg3 (by simp; omega) (.inl (fun e => by have := (HVB.out q e).2; omega))
          have hkw3 : KeepW [p, q] w2 w3 := (hkw2 HW.out).grown hg3 (fun r e => by cases e; exact .inl (by simp))
          have htl : (xs.take s).length = s := by first | (simp; done) | (simp; omega)
          have hL3 : LB w3 (.slice a3 s c3) (xs.take s) := LB.own (by omega) (by rw [htl]; exact hr3)
          have hs3 := hL3.str
          have HF3 := hid hF3
          have HQ3 := hid hQ3
          have HW3 := hid hkw3
          have hp3 := hF3.1.lt
          clear hr3 hL3 hF3 hQ3 hkw3 htl
          go_wp2_with (go_at_call 10; refine (num_any _ _).mono ?_; rintro e _ ⟨rfl, rfl⟩)
          refine (same_some p q v u xs xs s s w3 HF3.out HQ3.out).mono ?_
          rintro e w4 ⟨rfl, m4, hw4⟩
          rw [show (decide (xs.drop s = xs.drop s)) = true by simp]
          have hg4 : w3.grownBy w4 none := hw4 ▸ g_drewM (g_refl w3 none) m4
          clear hw4
          have hF4 := HF3.out.keptN hg4
          have hkw4 := HW3.out.grownN hg4
          have hX4 : LB w4 (.slice a0 s cap0) (xs.take s) := (holds_in gg2 HX.out hkw4 hpw hqw2).take hDl
          have hs4 := hX4.str
          have HF4 := hid hF4
          have HW4 := hid hkw4
          clear hF4 hkw4 hX4 hs3
          go_wp2_with fail
          refine (seek_in p v xs s 0 (by omega) w4 HF4.out).mono ?_
          rintro e w5 ⟨rfl, hF5, hg5⟩
          have hkw5 := HW4.out.grown hg5 (fun r e => by cases e; exact .inl (by simp))
          have HF5 := hid hF5
          have HW5 := hid hkw5
          clear hF5 hkw5 hs4
          go_wp2_with fail
          refine (take_ok p v xs 0 s s Hs.out w5 HF5.out).mono ?_
          rintro e w6 ⟨a6, c6, rfl, hr6, hF6, hg6⟩
          rw [List.drop_zero] at hr6
          rw [Nat.zero_add] at hF6
          have hkw6 := HW5.out.grown hg6 (fun r e => by cases e; exact .inl (by simp))
          have htl : (xs.take s).length = s := by first | (simp; done) | (simp; omega)
          have hL6 : LB w6 (.slice a6 s c6) (xs.take s) := LB.own (by omega) (by rw [htl]; exact hr6)
          have hb6 : ∀ r, (Value.slice a6 s c6).ownBlock = some r → p ≠ r := fun r e => by
            have h1 := (row_base hr6 r e).1
            have h2 := HF5.out.1.lt
            omega
          have HB6 := hid hb6
          have HF6 := hid hF6
          have HL6 := hid hL6
          have HW6 := hid hkw6
          clear hr6 hF6 hL6 hkw6 hb6 htl
          go_wp2_with fail
          refine (draw_ok p v xs s (K - s) HDM.out w6 HF6.out).mono ?_
          rintro e w7 ⟨rfl, hF7, hg7⟩
          rw [HKD.out] at hF7
          have hkw7 := HW6.out.grown hg7 (fun r e => by cases e; exact .inl (by simp))
          have hL7 := HL6.out.kept hg7 (fun r e e2 => by cases e; exact HB6.out p e2 rfl)
          obtain ⟨S, hS⟩ : ∃ S, S = sumV ((xs.drop s).take (K - s)) := ⟨_, rfl⟩
          rw [← hS]
          have HS := hid hS
          have HF7 := hid hF7
          have HL7 := hid hL7
          have HW7 := hid hkw7
          clear hF7 hL7 hkw7 hS
          go_wp2_with fail
          refine (seek_in p v xs K s hDl w7 HF7.out).mono ?_
          rintro e w8 ⟨rfl, hF8, hg8⟩
          have hkw8 := HW7.out.grown hg8 (fun r e => by cases e; exact .inl (by simp))
          have hL8 := HL7.out.kept hg8 (fun r e e2 => by cases e; exact HB6.out p e2 rfl)
          have HF8 := hid hF8
          have HL8 := hid hL8
          have HW8 := hid hkw8
          clear hF8 hL8 hkw8
          go_wp2_with fail
          refine (draw_ok p v xs s (K - s) HDM.out w8 HF8.out).mono ?_
          rintro e w9 ⟨rfl, hF9, hg9⟩
          rw [← HS.out]
          have hkw9 := HW8.out.grown hg9 (fun r e => by cases e; exact .inl (by simp))
          have hL9 := HL8.out.kept hg9 (fun r e e2 => by cases e; exact HB6.out p e2 rfl)
          have hs9 := hL9.str
          have HW9 := hid hkw9
          clear hF9 hL9 hkw9
          have hKK := HKK.out
          subst hKK
          go_wp2_with (go_at_call 10; refine (num_any _ _).mono ?_; rintro e _ ⟨rfl, rfl⟩)
          refine (works_true w9).mono ?_
          rintro e w10 ⟨rfl, hg10⟩
          go_wp2
          go_ret
          exact ⟨rfl, g_none (HW9.out.byOne gg2 (fun b hb => by
            simp at hb
            rcases hb with rfl | rfl
            · exact .inr hp
            · exact .inr (by omega))) hg10⟩
      · obtain rfl : at' = xs.length := by have := HAT.out; omega
        have hDl : xs.length ≤ xs.length := by omega
        by_cases hq4 : xs.length ≤ xs.length + 4
        · obtain ⟨K, hK⟩ : ∃ K, K = xs.length := ⟨_, rfl⟩
          have hKd : xs.length + (K - xs.length) = K := by omega
          have hdm : K - xs.length = min 4 (xs.length - xs.length) := by omega
          have HKD := hid hKd
          have HDM := hid hdm
          have HKK := hid hK
          have HAT2 := hid (show xs.length = min s (xs.length - 0) by have := HAT.out; omega)
          have Hxs.length := hid (show xs.length = min xs.length (xs.length - 0) by omega)
          clear hKd hdm hK
          go_wp2_with fail
          refine (take_ok q u xs 0 s xs.length HAT2.out wr HQW.out).mono ?_
          rintro e w3 ⟨a3, c3, rfl, hr3, hQ3, hg3⟩
          rw [List.drop_zero] at hr3
          rw [Nat.zero_add] at hQ3
          have hF3 := HF.out.kept hg3 (by simp; omega) (.inl (fun e => by have := (HVB.out q e).2; omega))
          have hkw3 : KeepW [p, q] w2 w3 := (hkw2 HW.out).grown hg3 (fun r e => by cases e; exact .inl (by simp))
          have htl : (xs.take xs.length).length = xs.length := by first | (simp; done) | (simp; omega)
          have hL3 : LB w3 (.slice a3 xs.length c3) (xs.take xs.length) := LB.own (by omega) (by rw [htl]; exact hr3)
          have hs3 := hL3.str
          have HF3 := hid hF3
          have HQ3 := hid hQ3
          have HW3 := hid hkw3
          have hp3 := hF3.1.lt
          clear hr3 hL3 hF3 hQ3 hkw3 htl
          go_wp2_with (go_at_call 10; refine (num_any _ _).mono ?_; rintro e _ ⟨rfl, rfl⟩)
          refine (same_some p q v u xs xs xs.length xs.length w3 HF3.out HQ3.out).mono ?_
          rintro e w4 ⟨rfl, m4, hw4⟩
          rw [show (decide (xs.drop xs.length = xs.drop xs.length)) = true by simp]
          have hg4 : w3.grownBy w4 none := hw4 ▸ g_drewM (g_refl w3 none) m4
          clear hw4
          have hF4 := HF3.out.keptN hg4
          have hkw4 := HW3.out.grownN hg4
          have hX4 : LB w4 (.slice a0 xs.length cap0) (xs.take xs.length) := (holds_in gg2 HX.out hkw4 hpw hqw2).take hDl
          have hs4 := hX4.str
          have HF4 := hid hF4
          have HW4 := hid hkw4
          clear hF4 hkw4 hX4 hs3
          go_wp2_with fail
          refine (seek_in p v xs xs.length 0 (by omega) w4 HF4.out).mono ?_
          rintro e w5 ⟨rfl, hF5, hg5⟩
          have hkw5 := HW4.out.grown hg5 (fun r e => by cases e; exact .inl (by simp))
          have HF5 := hid hF5
          have HW5 := hid hkw5
          clear hF5 hkw5 hs4
          go_wp2_with fail
          refine (take_ok p v xs 0 xs.length xs.length Hxs.length.out w5 HF5.out).mono ?_
          rintro e w6 ⟨a6, c6, rfl, hr6, hF6, hg6⟩
          rw [List.drop_zero] at hr6
          rw [Nat.zero_add] at hF6
          have hkw6 := HW5.out.grown hg6 (fun r e => by cases e; exact .inl (by simp))
          have htl : (xs.take xs.length).length = xs.length := by first | (simp; done) | (simp; omega)
          have hL6 : LB w6 (.slice a6 xs.length c6) (xs.take xs.length) := LB.own (by omega) (by rw [htl]; exact hr6)
          have hb6 : ∀ r, (Value.slice a6 xs.length c6).ownBlock = some r → p ≠ r := fun r e => by
            have h1 := (row_base hr6 r e).1
            have h2 := HF5.out.1.lt
            omega
          have HB6 := hid hb6
          have HF6 := hid hF6
          have HL6 := hid hL6
          have HW6 := hid hkw6
          clear hr6 hF6 hL6 hkw6 hb6 htl
          go_wp2_with fail
          refine (draw_ok p v xs xs.length (K - xs.length) HDM.out w6 HF6.out).mono ?_
          rintro e w7 ⟨rfl, hF7, hg7⟩
          rw [HKD.out] at hF7
          have hkw7 := HW6.out.grown hg7 (fun r e => by cases e; exact .inl (by simp))
          have hL7 := HL6.out.kept hg7 (fun r e e2 => by cases e; exact HB6.out p e2 rfl)
          obtain ⟨S, hS⟩ : ∃ S, S = sumV ((xs.drop xs.length).take (K - xs.length)) := ⟨_, rfl⟩
          rw [← hS]
          have HS := hid hS
          have HF7 := hid hF7
          have HL7 := hid hL7
          have HW7 := hid hkw7
          clear hF7 hL7 hkw7 hS
          go_wp2_with fail
          refine (seek_in p v xs K xs.length hDl w7 HF7.out).mono ?_
          rintro e w8 ⟨rfl, hF8, hg8⟩
          have hkw8 := HW7.out.grown hg8 (fun r e => by cases e; exact .inl (by simp))
          have hL8 := HL7.out.kept hg8 (fun r e e2 => by cases e; exact HB6.out p e2 rfl)
          have HF8 := hid hF8
          have HL8 := hid hL8
          have HW8 := hid hkw8
          clear hF8 hL8 hkw8
          go_wp2_with fail
          refine (draw_ok p v xs xs.length (K - xs.length) HDM.out w8 HF8.out).mono ?_
          rintro e w9 ⟨rfl, hF9, hg9⟩
          rw [← HS.out]
          have hkw9 := HW8.out.grown hg9 (fun r e => by cases e; exact .inl (by simp))
          have hL9 := HL8.out.kept hg9 (fun r e e2 => by cases e; exact HB6.out p e2 rfl)
          have hs9 := hL9.str
          have HW9 := hid hkw9
          clear hF9 hL9 hkw9
          have hKK := HKK.out
          subst hKK
          go_wp2_with (go_at_call 10; refine (num_any _ _).mono ?_; rintro e _ ⟨rfl, rfl⟩)
          refine (works_true w9).mono ?_
          rintro e w10 ⟨rfl, hg10⟩
          go_wp2
          go_ret
          exact ⟨rfl, g_none (HW9.out.byOne gg2 (fun b hb => by
            simp at hb
            rcases hb with rfl | rfl
            · exact .inr hp
            · exact .inr (by omega))) hg10⟩
        · exact absurd (Nat.le_add_right _ _) hq4
end Go.Proofs.Ytkeicoadpdfkkaa
