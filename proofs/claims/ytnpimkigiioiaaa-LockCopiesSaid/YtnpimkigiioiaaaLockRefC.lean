/-
  The document's chain.
-/
import Derived.Test.YtnpimkigiioiaaaLockRef3
namespace Go.Proofs.Ytnpimkigiioiaaa
open Go.RowKit
set_option maxRecDepth 100000

theorem ordK_bad {l ws : List Int} (k : Nat) (h : ordK l ws k = 220) : ∀ j, k ≤ j → ordK l ws j = 220 := by
  intro j hj
  rcases ordK_cases l ws j with h1 | h1
  · have h2 := (ordK_zero j).1 h1
    have h3 : ordK l ws k = 0 := (ordK_zero k).2 fun i hi => h2 i (by omega)
    rw [h3] at h; cases h
  · exact h1
theorem badR_false {l ws : List Int} (h : badR l ws = false) {i : Nat} {x : Int} (hx : ws[i]? = some x) : -1 ≤ x ∧ x < l.length := by
  rw [badR, List.any_eq_false] at h
  have := h x (List.mem_of_getElem? hx)
  simp at this
  omega
theorem badR_true {l ws : List Int} {i : Nat} {x : Int} (hx : ws[i]? = some x) (h : x < -1 ∨ (l.length : Int) ≤ x) : badR l ws = true := by
  rw [badR, List.any_eq_true]
  exact ⟨x, List.mem_of_getElem? hx, by simpa using h⟩
theorem badR_all {l ws : List Int} (h : ∀ (i : Nat) (x : Int), i < ws.length → ws[i]? = some x → ¬ (x < -1 ∨ (l.length : Int) ≤ x)) : badR l ws = false := by
  rw [badR, List.any_eq_false]
  intro x hx
  obtain ⟨i, hi⟩ := List.mem_iff_getElem?.1 hx
  have := h i x (List.getElem?_eq_some_iff.1 hi).1 hi
  simpa using this

set_option maxHeartbeats 4000000 in
theorem refChain (v vw : Value) (l ws : List Int) (hthr : ∀ t ∈ l, -1 ≤ t ∧ t < 4) (t : Int) (w : World) (h : IntsAt w v l) (hw : IntsAt w vw ws) :
    Calls Try.prog 12 #[v, .int .i64 t, vw] w fun e w' => ∃ v', e = .returned (.tuple #[v', .int .i64 (chainE l t ws)]) ∧ IntsAt w' v' (chainL l t ws) ∧ w.grownBy w' none := by
  obtain ⟨i0, hi, hz0, hz1, hz2⟩ := info_parts info_int
  obtain ⟨a, cap, rfl, hl, hcp⟩ := h.shape
  obtain ⟨aw, capw, rfl, hlw, hcpw⟩ := hw.shape
  have H := hid h
  have HW := hid hw
  have HTHR := hid hthr
  clear h hw hthr
  have hErr : ∀ c, chainE l t ws = c → ¬ c = 0 → chainL l t ws = [] := fun c h1 h2 => by
    rw [chainL, h1, if_neg (by simpa using h2)]
  have HERR := hid hErr
  clear hErr
  cases hth : thB t with
  | false =>
    have hc : chE0 l t ws = 2 := by rw [chE0, hth]; rfl
    have he : chainE l t ws = 2 := by rw [chainE, hc]; rfl
    have hL := HERR.out 2 he (by decide)
    rw [he, hL]
    have HTH := hid hth
    clear he hL hc hth
    go_enter Try.func12, Try.ntmps12
    go_wp2_with fail
    refine (thread_ref t w).mono ?_
    rintro e _ ⟨rfl, rfl⟩
    rw [HTH.out]
    go_wp2_with fail
    go_ret2
    exact ⟨_, rfl, IntsAt.nil _, g_refl w _⟩
  | true =>
    have HTH := hid hth
    by_cases h4 : 4 < ws.length
    · have hc : chE0 l t ws = 2 := by rw [chE0, hth, if_pos rfl, if_pos h4]
      have he : chainE l t ws = 2 := by rw [chainE, hc]; rfl
      have hL := HERR.out 2 he (by decide)
      have h4' : (4 : Int) < (ws.length : Int) := by omega
      rw [he, hL]
      clear he hL hc hth
      go_enter Try.func12, Try.ntmps12
      go_wp2_with fail
      refine (thread_ref t w).mono ?_
      rintro e _ ⟨rfl, rfl⟩
      rw [HTH.out]
      go_wp2_with fail
      go_ret2
      exact ⟨_, rfl, IntsAt.nil _, g_refl w _⟩
    · have h4' : (ws.length : Int) ≤ 4 := by omega
      have hcb : badR l ws = true → chainE l t ws = 4 := fun hb => by
        have hc : chE0 l t ws = 4 := by rw [chE0, hth, if_pos rfl, if_neg h4, hb]; rfl
        rw [chainE, hc]; rfl
      have hcg : badR l ws = false → chE0 l t ws = 0 := fun hb => by rw [chE0, hth, if_pos rfl, if_neg h4, hb]; rfl
      have HCB := hid hcb
      have HCG := hid hcg
      clear hcb hcg hth
      go_enter Try.func12, Try.ntmps12
      go_wp2_with fail
      refine (thread_ref t w).mono ?_
      rintro e _ ⟨rfl, rfl⟩
      rw [HTH.out]
      go_wp2_with fail
      go_loop [8] (fun v8 => ∃ (k : Nat), k ≤ ws.length ∧ v8 = .int .i64 k ∧ (∀ (i : Nat) (x : Int), i < k → ws[i]? = some x → ¬ (x < -1 ∨ (l.length : Int) ≤ x))) (fun v8 => ws.length - (intOf v8).toNat)
      case atStart => exact ⟨0, Nat.zero_le _, rfl, fun i x hi => by omega⟩
      case round =>
        obtain ⟨k, hk, rfl, hall⟩ := hrel
        have HA := hid hall
        clear hall
        by_cases hlt : k < ws.length
        · obtain ⟨x, hx⟩ : ∃ x, ws[k]? = some x := ⟨ws[k], List.getElem?_eq_getElem hlt⟩
          obtain ⟨g, off, cap2, e, hc⟩ := HW.out.at hx
          cases e
          have HX := hid hx
          clear hx
          by_cases h1 : x < -1
          · have he := HCB.out (badR_true HX.out (.inl h1))
            have hL := HERR.out 4 he (by decide)
            have HE := hid he
            have HL := hid hL
            clear he hL
            go_wp2_with fail
            go_ret2
            exact ⟨_, by rw [HE.out]; rfl, by rw [HL.out]; exact IntsAt.nil _, g_refl w _⟩
          · by_cases h2 : (l.length : Int) ≤ x
            · have he := HCB.out (badR_true HX.out (.inr h2))
              have hL := HERR.out 4 he (by decide)
              have HE := hid he
              have HL := hid hL
              clear he hL
              go_wp2_with fail
              go_ret2
              exact ⟨_, by rw [HE.out]; rfl, by rw [HL.out]; exact IntsAt.nil _, g_refl w _⟩
            · go_wp2_with fail
              go_round
              case rel => exact ⟨k + 1, by omega, by go_num, fun i y hi hy => by
                by_cases hik : i < k
                · exact HA.out i y hik hy
                · obtain rfl : i = k := by omega
                  rw [HX.out] at hy; cases hy; omega⟩
              case measure => simp [intOf]; omega
        · obtain rfl : k = ws.length := by omega
          have hbad := badR_all HA.out
          have hc0 := HCG.out hbad
          have HBAD := hid hbad
          have HC0 := hid hc0
          have hce : chainE l t ws = ordK l ws ws.length := by rw [chainE, hc0]; rfl
          have HCE := hid hce
          clear hbad hc0 hce
          go_wp2_with fail
          go_loopw [9] (fun v9 wr => ∃ (k : Nat), k ≤ ws.length ∧ v9 = .int .i64 k ∧ ordK l ws k = 0 ∧ w.grownBy wr none) (fun v9 _ => ws.length - (intOf v9).toNat)
          case atStart => exact ⟨0, Nat.zero_le _, rfl, rfl, g_refl w _⟩
          case round =>
            obtain ⟨k, hk, rfl, ho, hg⟩ := hrel
            have HO := hid ho
            clear ho
            by_cases hlt2 : k < ws.length
            · obtain ⟨x, hx⟩ : ∃ x, ws[k]? = some x := ⟨ws[k], List.getElem?_eq_getElem hlt2⟩
              obtain ⟨g, off, cap2, e, hc⟩ := (HW.out.keptN hg).at hx
              cases e
              obtain ⟨hx1, hx2⟩ := badR_false HBAD.out hx
              have HX := hid hx
              clear hx
              by_cases hx0 : 0 ≤ x
              · obtain ⟨hwb, hwv⟩ := wantV_of HX.out hx0
                obtain ⟨b, hb⟩ : ∃ b, ordB l k x = b := ⟨_, rfl⟩
                have hthk : thB (k : Int) = true := thB_iff.2 ⟨by omega, by omega⟩
                have hink : inL l x = true := by simp [inL, hx0, hx2]
                have hAs := asks_any (.slice a l.length cap) l k x wr (H.out.keptN hg)
                rw [tryE_of l k x hthk hink, hb] at hAs
                have hsucc : ordK l ws (k + 1) = if b then 220 else 0 := by
                  rw [ordK, HO.out, hwb, hwv, hb]; cases b <;> rfl
                have HSU := hid hsucc
                have HAS := hid hAs
                clear hwb hwv hb hthk hink hAs hsucc
                cases b with
                | true =>
                  have he : chainE l t ws = 220 := by rw [HCE.out]; exact ordK_bad (k + 1) HSU.out _ (by omega)
                  have hL := HERR.out 220 he (by decide)
                  have HE := hid he
                  have HL := hid hL
                  clear he hL
                  go_wp2_with fail
                  refine HAS.out.mono ?_
                  rintro e w2 ⟨rfl, hg2⟩
                  go_wp2_with fail
                  go_ret2
                  exact ⟨_, by rw [HE.out]; rfl, by rw [HL.out]; exact IntsAt.nil _, g_none hg hg2⟩
                | false =>
                  go_wp2_with fail
                  refine HAS.out.mono ?_
                  rintro e w2 ⟨rfl, hg2⟩
                  go_wp2_with fail
                  go_roundw
                  case rel => exact ⟨k + 1, by omega, by go_num, HSU.out, g_none hg hg2⟩
                  case measure => simp [intOf]; omega
              · have hwb := wantB_neg HX.out (by omega)
                have hsucc : ordK l ws (k + 1) = 0 := by
                  rw [ordK, HO.out, hwb]; rfl
                have HSU := hid hsucc
                clear hwb hsucc
                go_wp2_with fail
                go_roundw
                case rel => exact ⟨k + 1, by omega, by go_num, HSU.out, hg⟩
                case measure => simp [intOf]; omega
            · obtain rfl : k = ws.length := by omega
              have he : chainE l t ws = 0 := by rw [HCE.out]; exact HO.out
              have hok : OkW l ws := ordK_okW.1 HO.out
              obtain ⟨C, hC⟩ : ∃ C, chainF l ws 5 t = C := ⟨_, rfl⟩
              have hClen := chain_len hok HTHR.out 5 t HTH.out
              have hCh := chain_head l ws 5 t
              have hCt := chain_thr (ws := ws) HTHR.out 5 t HTH.out
              have hCs := chain_step (l := l) (ws := ws) 5 t
              have hL : chainL l t ws = C := by
                rw [chainL, he]; exact hC
              rw [hC] at hClen hCh hCt hCs
              have HE := hid he
              have HLL := hid hL
              have HCH := hid hCh
              have HCT := hid hCt
              have HCS := hid hCs
              have hCpos : 0 < C.length := by rw [← hC]; exact chain_pos l ws 5 t
              clear hC hL hCh hCt hCs hok he
              have hgw := hg
              obtain ⟨w6, hw6⟩ : ∃ w6, w6 = wr := ⟨_, rfl⟩
              rw [← hw6] at hgw ⊢
              clear hg
              have hrow0 := World.ownsRow_lit (base := w6.heap.size) (e := 3) (size := 1) w6 #[.int .i64 t] 1 (Nat.le_refl _) (by unfold maxLen; omega) rfl
              have hgN0 := g_alloc (g_refl w6 none) (.cells #[.int .i64 t] 3)
              clear hw6
              go_wp2_with fail
              go_loopw [10] (fun v10 wr3 => ∃ (k g cap : Nat), k < C.length ∧ v10 = .slice (some ⟨g, 0, none⟩) (k + 1) cap ∧ wr3.ownsRow w6.heap.size 3 1 (.slice (some ⟨g, 0, none⟩) (k + 1) cap) (k + 1) (intsV (C.take (k + 1))) ∧ w6.grownBy wr3 none) (fun v10 _ => C.length - lenOf v10)
              case atStart =>
                refine ⟨0, w6.heap.size, 1, hCpos, rfl, ?_, hgN0⟩
                have : C.take (0 + 1) = [t] := by
                  rw [List.take_add_one, HCH.out]; simp
                rw [this]; exact hrow0
              case round =>
                obtain ⟨k, g, cap3, hk3, rfl, hrow, hgr3⟩ := hrel
                obtain ⟨u, hu⟩ : ∃ u, C[k]? = some u := ⟨C[k], List.getElem?_eq_getElem hk3⟩
                obtain ⟨hu0, hu4⟩ := thB_iff.1 (HCT.out u (List.mem_of_getElem? hu))
                obtain ⟨hcs1, hcs2⟩ := HCS.out k u hu
                have hce : wr.cell? ⟨g, k, none⟩ = some (.int .i64 u) := by
                  rw [hrow.cellAt k (by omega), intsV, List.getElem?_map, List.getElem?_take, if_pos (by omega), hu]; rfl
                have hg9 := g_none hgw hgr3
                have hend : nextB l ws u = false → k + 1 = C.length := fun h => by
                  by_cases h2 : k + 1 < C.length
                  · have := (hcs1 _ (List.getElem?_eq_getElem h2)).1
                    rw [h] at this; cases this
                  · omega
                have hmore : nextB l ws u = true → k + 1 < C.length ∧ C[k + 1]? = some (nextV l ws u) := fun h => by
                  by_cases h2 : k + 1 < C.length
                  · have := (hcs1 _ (List.getElem?_eq_getElem h2)).2
                    exact ⟨h2, by rw [List.getElem?_eq_getElem h2, this]⟩
                  · have := hcs2 (by omega) (by omega)
                    rw [h] at this; cases this
                have HEND := hid hend
                have HMORE := hid hmore
                have HR := hid hrow
                clear hend hmore hcs1 hcs2 hu
                have hfin : nextB l ws u = false → IntsAt wr (.slice (some ⟨g, 0, none⟩) (k + 1) cap3) (chainL l t ws) := fun h => by
                  have h1 := HEND.out h
                  rw [HLL.out]
                  have h2 := HR.out
                  rw [h1, List.take_length] at h2
                  rw [h1]
                  exact IntsAt.own (by omega) h2
                have HFIN := hid hfin
                clear hfin hrow
                have hk6 : (k : Int) + 1 < 6 := by omega
                by_cases hul : u < ws.length
                · obtain ⟨m, rfl⟩ : ∃ m : Nat, u = m := ⟨u.toNat, by omega⟩
                  have hml : m < ws.length := by omega
                  obtain ⟨x, hx⟩ : ∃ x, ws[m]? = some x := ⟨ws[m], List.getElem?_eq_getElem hml⟩
                  obtain ⟨gw, offw, capw2, ew, hcw⟩ := (HW.out.keptN hg9).at hx
                  cases ew
                  obtain ⟨hx1, hx2⟩ := badR_false HBAD.out hx
                  have HX := hid hx
                  clear hx
                  by_cases hx0 : 0 ≤ x
                  · obtain ⟨hwb, hwv⟩ := wantV_of HX.out hx0
                    obtain ⟨j, rfl⟩ : ∃ j : Nat, x = j := ⟨x.toNat, by omega⟩
                    have hjl : j < l.length := by omega
                    obtain ⟨y, hy⟩ : ∃ y, l[j]? = some y := ⟨l[j], List.getElem?_eq_getElem hjl⟩
                    obtain ⟨gl, offl, capl2, el, hcl⟩ := (H.out.keptN hg9).at hy
                    cases el
                    by_cases hy0 : 0 ≤ y
                    · obtain ⟨hhb, hhv⟩ := holdV_of hy hy0
                      have hnb : nextB l ws m = true := by rw [nextB, hwb, hwv, hhb]; rfl
                      have hnv : nextV l ws m = y := by rw [nextV, hwv, hhv]
                      obtain ⟨hk4, hnx⟩ := HMORE.out hnb
                      rw [hnv] at hnx
                      have HNX := hid hnx
                      clear hnx hnb hnv hhb hhv hwb hwv hy
                      have hcc := cells_new wr [.int .i64 y] 3
                      go_wp2_with (at_builtin; refine wpList_append_own_at _ rfl _ _ 23 rfl w6.heap.size 3 i0 (.int .i64 0) 1 8 Try.underlying23 hi hz0 hz1 hz2 rfl (by decide) _ _ _ rfl (HR.out.alloc _) ⟨wr.heap.size, 0, none⟩ 1 1 [.int .i64 y] rfl rfl hcc (by simp [Value.oneCell']) (by unfold maxLen; omega) (by omega) (by have := hgr3.size; simp; omega) ?_; intro v' w9 hown' hgrow hnn hob)
                      obtain ⟨g', cap', rfl⟩ := ownsRow_succ hown'
                      have htk : intsV (C.take (k + 1 + 1)) = intsV (C.take (k + 1)) ++ [Value.int .i64 y] := by
                        rw [List.take_add_one, HNX.out]; simp [intsV]
                      go_roundw
                      case rel => exact ⟨k + 1, g', cap', hk4, rfl, by rw [htk]; exact hown', g_trans (g_alloc hgr3 _) hgrow (fun r e => .inr (row_base HR.out r e).1)⟩
                      case measure => simp [lenOf]; omega
                    · have hhb : holdB l j = false := by
                        rw [Bool.eq_false_iff]; intro hh
                        obtain ⟨j2, e2, _, y2, hy2, h02⟩ := holdB_iff.1 hh
                        obtain rfl : j = j2 := by omega
                        rw [hy] at hy2; cases hy2; exact hy0 h02
                      have hnb : nextB l ws m = false := by rw [nextB, hwb, hwv, hhb]; rfl
                      have HNB := hid hnb
                      clear hhb hnb hwb hwv hy
                      go_wp2_with fail
                      go_ret2
                      exact ⟨_, by rw [HE.out]; rfl, HFIN.out HNB.out, hg9⟩
                  · have hwb := wantB_neg HX.out (by omega)
                    have hnb : nextB l ws m = false := by rw [nextB, hwb]; rfl
                    have HNB := hid hnb
                    clear hnb hwb
                    go_wp2_with fail
                    go_ret2
                    exact ⟨_, by rw [HE.out]; rfl, HFIN.out HNB.out, hg9⟩
                · have hnb : nextB l ws u = false := by
                    rw [nextB, wantB, decide_eq_false hul, Bool.and_false]; rfl
                  have HNB := hid hnb
                  have hul2 : (ws.length : Int) ≤ u := by omega
                  clear hnb
                  go_wp2_with fail
                  go_ret2
                  exact ⟨_, by rw [HE.out]; rfl, HFIN.out HNB.out, hg9⟩
end Go.Proofs.Ytnpimkigiioiaaa
