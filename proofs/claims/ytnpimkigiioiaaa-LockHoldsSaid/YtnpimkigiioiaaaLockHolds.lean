/-
  LockHolds, walked.
-/
import Derived.Test.YtnpimkigiioiaaaLockHoldsP
namespace Go.Proofs.Ytnpimkigiioiaaa
open Go.RowKit
set_option maxRecDepth 100000

theorem actL_0 (l : List Int) (t n : Int) : actL l 0 t n = tryL l t n := rfl
theorem actL_1 (l : List Int) (t n : Int) : actL l 1 t n = freeL l t n := rfl
theorem actL_2 (l : List Int) (t n : Int) : actL l 2 t n = if thB t then dropL l t else l := rfl
theorem actL_no {l : List Int} {a t n : Int} (h0 : ¬ a = 0) (h1 : ¬ a = 1) (h2 : ¬ a = 2) : actL l a t n = l := by simp [actL, h0, h1, h2]
theorem drop_any (p pc g K : Nat) (hK : K ≤ 100000) (l : List Int) (t : Int) (w : World) (h : LockAt w p pc g K l) :
    Calls Try.prog 17 #[.pointer (some ⟨p, 0, none⟩), .int .i64 t] w fun e w' => ∃ a b, e = .returned (.tuple #[a, b]) ∧ LockAt w' p pc g (K + 64) (if thB t then dropL l t else l) ∧ w.grownBy w' (some g) := by
  cases hth : thB t with
  | true => exact (drop_yes p pc g K hK l t hth w h).mono fun e w' ⟨he, hL, hg⟩ => ⟨_, _, he, hL, hg⟩
  | false => exact (drop_no p pc g K l t hth w h).mono fun e w' ⟨he, hg⟩ => ⟨_, _, he, (h.keptN hg).more (by omega), g_weak hg⟩

theorem four_get (B : Nat → Int) {k : Nat} (hk : k < 4) : ([.int .i64 (B 0), .int .i64 (B 1), .int .i64 (B 2), .int .i64 (B 3)] : List Value)[k]? = some (.int .i64 (B k)) := by
  match k, hk with
  | 0, _ => rfl
  | 1, _ => rfl
  | 2, _ => rfl
  | 3, _ => rfl

set_option maxHeartbeats 8000000 in
theorem holds_walk (a0 : Option Addr) (len0 cap0 : Nat) (A : Nat → Nat → Int) (B : Nat → Int) (w : World) (hA : ActsAt w a0 len0 A) (hl0 : len0 ≤ 50) (hwB : ∀ i, i < 4 → (Lit.int .i64 (B i)).wf = true) :
    Calls Try.prog 4 #[.slice a0 len0 cap0, .agg #[.int .i64 (B 0), .int .i64 (B 1), .int .i64 (B 2), .int .i64 (B 3)]] w fun e w' => e = .returned (.bool true) ∧ w.grownBy w' none := by
  obtain ⟨i0, hi, hz0, hz1, hz2⟩ := info_parts info_int
  have h50 : ¬ (50 < (len0 : Int)) := by omega
  have hgA := g_alloc (g_refl w none) (.cells #[.int .i64 (B 0), .int .i64 (B 1), .int .i64 (B 2), .int .i64 (B 3)] 41)
  have hbB := Blk.new w [.int .i64 (B 0), .int .i64 (B 1), .int .i64 (B 2), .int .i64 (B 3)] 41
  have HA := hid hA
  have HWB := hid hwB
  clear hA hwB
  go_enter Try.func4, Try.ntmps4
  go_wp2_with fail
  refine (lnew_yes 8 (by omega) _).mono ?_
  rintro e w1 ⟨p, pc, g, rfl, hL1, hg1, hp, hpc, hgg⟩
  rw [World.size_alloc] at hp hpc hgg
  have hb1 := hbB.keptN hg1
  have hgw1 := g_none hgA hg1
  have H1 := hid (And.intro hL1 (And.intro hb1 hgw1))
  clear hL1 hg1 hgA hbB hb1 hgw1
  go_wp2_with (go_at_call 13; refine (num_any _ _).mono ?_; rintro e _ ⟨rfl, rfl⟩)
  go_loopw [7] (fun v7 wr => ∃ (i : Nat) (l : List Int), i ≤ len0 ∧ v7 = .int .i64 i ∧ l.length = 8 ∧ LockAt wr p pc g (64 * i) l ∧ Blk wr w.heap.size 41 [.int .i64 (B 0), .int .i64 (B 1), .int .i64 (B 2), .int .i64 (B 3)] ∧ w.grownBy wr none) (fun v7 _ => len0 - (intOf v7).toNat)
  case atStart => exact ⟨0, _, Nat.zero_le _, rfl, by simp, H1.out.1, H1.out.2.1, H1.out.2.2⟩
  case round =>
    obtain ⟨i, l, hil, rfl, hl8, hL, hb, hg⟩ := hrel
    have HL := hid hL
    have HB := hid hb
    have HG := hid hg
    have HL8 := hid hl8
    by_cases hlt : i < len0
    · obtain ⟨lb, off, hla, hcell⟩ := (HA.out.kept hg) (by omega)
      subst hla
      obtain ⟨e0, e1, e2⟩ := hcell i hlt
      clear hcell hL hb hg hl8
      have hend : ∀ w6, LockAt w6 p pc g (64 * i + 64) (actL l (A i 0) (A i 1) (A i 2)) → wr.grownBy w6 (some g) → ∃ (i' : Nat) (l' : List Int), i' ≤ len0 ∧ Value.int .i64 ((i : Int) + 1) = .int .i64 i' ∧ l'.length = 8 ∧ LockAt w6 p pc g (64 * i') l' ∧ Blk w6 w.heap.size 41 [.int .i64 (B 0), .int .i64 (B 1), .int .i64 (B 2), .int .i64 (B 3)] ∧ w.grownBy w6 none := fun w6 h1 h2 =>
        ⟨i + 1, _, by omega, by go_num, (actL_length _ _ _ _).trans HL8.out, by rw [Nat.mul_add]; exact h1, HB.out.kept h2 (by simp; omega), g_new HG.out h2 (by omega)⟩
      have HEND := hid hend
      clear hend
      have hd1 := HL.out.keptN (g_drew (g_refl wr none))
      by_cases h0 : A i 0 = 0
      · rw [h0] at e0
        have hT := try_some p pc g (64 * i) (by omega) l (A i 1) (A i 2) _ hd1
        have HT := hid hT
        clear hT hd1
        go_wp2_with fail
        go_region_with (first | (go_at_call 15; refine HT.out.mono ?_; rintro e w6 ⟨rfl, hL6, hg6⟩) | fail)
        all_goals
          have HR := hid (HEND.out w6 (by rw [h0, actL_0]; exact hL6.more (by omega)) (g_drew' hg6))
          clear hL6 hg6
          go_wp2_with fail
          go_roundw
          case rel => simpa using HR.out
          case measure => simp [intOf]; omega
      · by_cases h1 : A i 0 = 1
        · rw [h1] at e0
          have hT := free_some p pc g (64 * i) (by omega) l (A i 1) (A i 2) _ hd1
          have HT := hid hT
          clear hT hd1
          go_wp2_with fail
          go_region_with (first | (go_at_call 16; refine HT.out.mono ?_; rintro e w6 ⟨rfl, hL6, hg6⟩) | fail)
          all_goals
            have HR := hid (HEND.out w6 (by rw [h1, actL_1]; exact hL6.more (by omega)) (g_drew' hg6))
            clear hL6 hg6
            go_wp2_with fail
            go_roundw
            case rel => simpa using HR.out
            case measure => simp [intOf]; omega
        · by_cases h2 : A i 0 = 2
          · rw [h2] at e0
            have hT := drop_any p pc g (64 * i) (by omega) l (A i 1) wr HL.out
            have HT := hid hT
            clear hT hd1
            go_wp2_with fail
            refine HT.out.mono ?_
            rintro e w6 ⟨x, y, rfl, hL6, hg6⟩
            have HR := hid (HEND.out w6 (by rw [h2, actL_2]; exact hL6) hg6)
            clear hL6 hg6
            go_wp2_with fail
            go_roundw
            case rel => simpa using HR.out
            case measure => simp [intOf]; omega
          · have b0 : (A i 0 == 0) = false := by simpa using h0
            have b1 : (A i 0 == 1) = false := by simpa using h1
            have b2 : (A i 0 == 2) = false := by simpa using h2
            have HR := hid (HEND.out wr (by rw [actL_no h0 h1 h2]; exact HL.out.more (by omega)) (g_refl wr _))
            clear hd1
            go_wp2_with fail
            go_roundw
            case rel => simpa using HR.out
            case measure => simp [intOf]; omega
    · obtain rfl : i = len0 := by omega
      clear hL hb hg hl8
      have hthr := HL.out.thr
      have HTHR := hid hthr
      clear hthr
      obtain ⟨wB, hwB⟩ : ∃ wB, wB = wr := ⟨_, rfl⟩
      rw [← hwB] at HL HB HG ⊢
      clear hwB
      go_wp2_with fail
      go_loopw [8, 9, 10] (fun v8 v9 v10 wr => ∃ (k : Nat), k ≤ 4 ∧ v10 = .int .i64 k ∧ v9 = .int .i64 (goesN l B k) ∧ wr.ownsRow wB.heap.size 3 1 v8 k (intsV (waitL l B k)) ∧ wB.grownBy wr none) (fun _ _ v10 _ => 4 - (intOf v10).toNat)
      case atStart => exact ⟨0, Nat.zero_le _, rfl, rfl, World.ownsRow_nil _ _ _ _, g_refl wB _⟩
      case round =>
        obtain ⟨k, hk, rfl, rfl, hrow, hgr⟩ := hrel
        have HR := hid hrow
        have HGR := hid hgr
        have hgle := goesN_le l B k
        by_cases hlt2 : k < 4
        · clear hrow
          go_wp2_with fail
          refine (lcopy_some p pc g (64 * i) l wr (HL.out.keptN hgr)).mono ?_
          rintro e w2 ⟨p', pc', g', rfl, hL2, hg2, _, _, hgg2⟩
          have hg02 := g_none (g_none HG.out hgr) hg2
          have c2 := ((HB.out.keptN hgr).keptN hg2).cellOf (four_get B hlt2)
          have hT := try_some p' pc' g' (64 * i) (by omega) l k (B k) w2 hL2
          obtain ⟨b, hb⟩ : ∃ b, tryB l k (B k) = b := ⟨_, rfl⟩
          obtain ⟨E, hE⟩ : ∃ E, tryE l k (B k) = E := ⟨_, rfl⟩
          rw [hb, hE] at hT
          have hW : waitsB l B k = ((E == 0) && !b) := by rw [waitsB, hb, hE]
          have HW := hid hW
          have HT := hid hT
          clear hT hb hE hW hL2
          go_wp2_with fail
          refine HT.out.mono ?_
          rintro e w3 ⟨rfl, _, hg3⟩
          have hg13 : wr.grownBy w3 none := g_new hg2 hg3 hgg2
          have c3 := ((HB.out.keptN hgr).keptN hg13).cellOf (four_get B hlt2)
          have hrow3 := HR.out.kept hg13 (Classical.or_iff_not_imp_left.2 fun h e => h e)
          have hgB3 := g_none hgr hg13
          have HR3 := hid hrow3
          clear hrow3 c2
          by_cases hz : E = 0
          · subst hz
            cases b with
            | false =>
              have hs : intsV (waitL l B (k + 1)) = intsV (waitL l B k) ++ [.int .i64 (B k)] := by
                rw [waitL_succ, waitV, HW.out]; simp [intsV]
              have hgo : goesN l B (k + 1) = goesN l B k := by rw [goesN, HW.out]; rfl
              have HS := hid hs
              have HGO := hid hgo
              clear hs hgo
              go_wp2_with (first | (go_at_call 13; refine (num_any _ _).mono ?_; rintro e _ ⟨rfl, rfl⟩) | (at_builtin; refine wpList_append_own_at _ rfl _ _ 23 rfl wB.heap.size 3 i0 (.int .i64 0) 1 8 Try.underlying23 hi hz0 hz1 hz2 rfl (by decide) _ _ _ rfl (HR3.out.alloc _) ⟨w3.heap.size, 0, none⟩ 1 1 [.int .i64 (B k)] rfl rfl (cells_new w3 [.int .i64 (B k)] _) (by simp [Value.oneCell']) (by unfold maxLen; omega) (by omega) (by have := hgB3.size; simp; omega) ?_; intro v' w9 hown' hgrow hnn hob))
              go_roundw
              case rel => exact ⟨k + 1, by omega, by go_num, by rw [HGO.out], by rw [HS.out]; exact hown', g_trans (g_alloc hgB3 _) hgrow (fun r e => .inr (row_base HR3.out r e).1)⟩
              case measure => simp [intOf]; omega
            | true =>
              have hs : intsV (waitL l B (k + 1)) = intsV (waitL l B k) ++ [.int .i64 (-1)] := by
                rw [waitL_succ, waitV, HW.out]; simp [intsV]
              have hgo : goesN l B (k + 1) = goesN l B k + 1 := by rw [goesN, HW.out]; rfl
              have HS := hid hs
              have HGO := hid hgo
              clear hs hgo
              go_wp2_with (first | (go_at_call 13; refine (num_any _ _).mono ?_; rintro e _ ⟨rfl, rfl⟩) | (at_builtin; refine wpList_append_own_at _ rfl _ _ 23 rfl wB.heap.size 3 i0 (.int .i64 0) 1 8 Try.underlying23 hi hz0 hz1 hz2 rfl (by decide) _ _ _ rfl (HR3.out.alloc _) ⟨w3.heap.size, 0, none⟩ 1 1 [.int .i64 (-1)] rfl rfl (cells_new w3 [.int .i64 (-1)] _) (by simp [Value.oneCell']) (by unfold maxLen; omega) (by omega) (by have := hgB3.size; simp; omega) ?_; intro v' w9 hown' hgrow hnn hob))
              go_roundw
              case rel => exact ⟨k + 1, by omega, by go_num, by rw [HGO.out]; go_num, by rw [HS.out]; exact hown', g_trans (g_alloc hgB3 _) hgrow (fun r e => .inr (row_base HR3.out r e).1)⟩
              case measure => simp [intOf]; omega
          · have hzb : (E == 0) = false := by simpa using hz
            have hs : intsV (waitL l B (k + 1)) = intsV (waitL l B k) ++ [.int .i64 (-1)] := by
              rw [waitL_succ, waitV, HW.out, hzb]; simp [intsV]
            have hgo : goesN l B (k + 1) = goesN l B k + 1 := by rw [goesN, HW.out, hzb]; rfl
            have HS := hid hs
            have HGO := hid hgo
            clear hs hgo
            go_wp2_with (first | (go_at_call 13; refine (num_any _ _).mono ?_; rintro e _ ⟨rfl, rfl⟩) | (at_builtin; refine wpList_append_own_at _ rfl _ _ 23 rfl wB.heap.size 3 i0 (.int .i64 0) 1 8 Try.underlying23 hi hz0 hz1 hz2 rfl (by decide) _ _ _ rfl (HR3.out.alloc _) ⟨w3.heap.size, 0, none⟩ 1 1 [.int .i64 (-1)] rfl rfl (cells_new w3 [.int .i64 (-1)] _) (by simp [Value.oneCell']) (by unfold maxLen; omega) (by omega) (by have := hgB3.size; simp; omega) ?_; intro v' w9 hown' hgrow hnn hob))
            go_roundw
            case rel => exact ⟨k + 1, by omega, by go_num, by rw [HGO.out]; go_num, by rw [HS.out]; exact hown', g_trans (g_alloc hgB3 _) hgrow (fun r e => .inr (row_base HR3.out r e).1)⟩
            case measure => simp [intOf]; omega
        · obtain rfl : k = 4 := by omega
          rw [show ((4 : Nat) : Int) = 4 from rfl]
          have hIW : IntsAt wr _ (waitL l B 4) := IntsAt.own (ns := waitL l B 4) (by rw [waitL_length]; omega) (by rw [waitL_length]; exact hrow)
          have hgo := hold_goes (B := B) HTHR.out
          have hgoI : (0 : Int) < (goesN l B 4 : Int) := by omega
          have hwf : ∀ n ∈ waitL l B 4, (Lit.int .i64 n).wf = true := fun n hn => by
            obtain ⟨j, hj, rfl⟩ := List.mem_map.1 hn
            have hj4 := List.mem_range.1 hj
            unfold waitV
            split
            · exact HWB.out j hj4
            · rfl
          have HWF := hid hwf
          have HIW := hid hIW
          have HLC := hid (HL.out.keptN hgr)
          have HGC := hid (g_none HG.out hgr)
          obtain ⟨aW, capW, hvW, hlW, hcW⟩ := hIW.shape
          rw [waitL_length] at hvW hcW
          clear hwf hrow HR HGR hgle hgo hIW
          obtain ⟨wC, hwC⟩ : ∃ wC, wC = wr := ⟨_, rfl⟩
          rw [← hwC] at HIW HLC HGC ⊢
          clear hgr hwC
          subst hvW
          go_wp2_with fail
          go_loopw [14] (fun v14 wr => ∃ (t : Nat), t ≤ 4 ∧ v14 = .int .i64 t ∧ wC.grownBy wr none) (fun v14 _ => 4 - (intOf v14).toNat)
          case atStart => exact ⟨0, Nat.zero_le _, rfl, g_refl wC _⟩
          case round =>
            obtain ⟨t, ht, rfl, hgr⟩ := hrel
            by_cases hlt3 : t < 4
            · have hIr := HIW.out.keptN hgr
              have hCh := chain_some p pc g (64 * i) l t (waitL l B 4) _ HWF.out wr (HLC.out.keptN hgr) hIr
              obtain ⟨hE0, hL0⟩ := hold_chain (B := B) HTHR.out t hlt3
              obtain ⟨C, hC⟩ : ∃ C, chainF l (waitL l B 4) 5 t = C := ⟨_, rfl⟩
              rw [hE0, hL0, hC] at hCh
              have hth : thB (t : Int) = true := thB_iff.2 ⟨by omega, by omega⟩
              have hok : OkW l (waitL l B 4) := hold_ok HTHR.out
              have hClen := chain_len hok HTHR.out 5 t hth
              have hCpos := chain_pos l (waitL l B 4) 5 t
              have hCh0 := chain_head l (waitL l B 4) 5 t
              have hCt := chain_thr (ws := waitL l B 4) HTHR.out 5 t hth
              have hCn := chain_nodup hok 5 (t : Int)
              rw [hC] at hClen hCpos hCh0 hCt hCn
              obtain ⟨m, hm⟩ : ∃ m, C.length = m + 1 := ⟨C.length - 1, by omega⟩
              obtain ⟨u, hu⟩ : ∃ u, C[m]? = some u := ⟨C[m]'(by omega), List.getElem?_eq_getElem _⟩
              obtain ⟨iu, rfl, hiu4, hiw⟩ := hold_last HTHR.out t hlt3 hC (u := u) (by rw [hm]; simpa using hu)
              have hWu : (waitL l B 4)[iu]? = some (-1) := by rw [waitL_get hiu4, waitV, hiw]; rfl
              have HCH := hid hCh
              have HC0 := hid hCh0
              have HCT := hid hCt
              have HCN := hid hCn
              have HU := hid hu
              have HWU := hid hWu
              have HIR := hid hIr
              clear hCh hCh0 hCt hCn hu hWu hE0 hL0 hC hok hth hiw hIr
              go_wp2_with fail
              refine HCH.out.mono ?_
              rintro e w4 ⟨vc, rfl, hI4, hg4, hv4⟩
              have hgB4 := g_none hgr hg4
              have HI4 := hid hI4
              obtain ⟨gc, offc, capc, hvc, hc0⟩ := hI4.at HC0.out
              subst hvc
              rw [hm] at hClen ⊢
              have hlow : gc < w4.heap.size := cell_lt hc0
              have hgS := g_alloc (g_refl w4 none) (.cells #[.bool false, .bool false, .bool false, .bool false] 48)
              have hbS := Blk.new w4 [.bool false, .bool false, .bool false, .bool false] 48
              clear hI4 hc0
              go_wp2_with fail
              obtain ⟨wS, hwS⟩ : ∃ wS, wS = w4.alloc (.cells #[.bool false, .bool false, .bool false, .bool false] 48) := ⟨_, rfl⟩
              obtain ⟨S, hS⟩ : ∃ S, w4.heap.size = S := ⟨_, rfl⟩
              rw [← hwS] at hgS hbS ⊢
              rw [hS] at hbS hlow ⊢
              clear hwS
              have HBS := hid hbS
              clear hbS
              go_loopw [18] (fun v18 wr => ∃ (j : Nat), j ≤ C.length ∧ v18 = .int .i64 j ∧ Blk wr S 48 (seenL C j) ∧ wS.grownBy wr (some S)) (fun v18 _ => C.length - (intOf v18).toNat)
              case atStart => exact ⟨0, Nat.zero_le _, rfl, by rw [seenL_zero]; exact HBS.out, g_refl wS _⟩
              case round =>
                obtain ⟨j, hj, rfl, hbj, hgj⟩ := hrel
                have hgcS : (.slice (some ⟨gc, offc, none⟩) C.length capc : Value).ownBlock ≠ some S := fun e => by
                  have h1 : gc = S := Option.some.inj e
                  omega
                have hIj := (HI4.out.keptN hgS).kept' hgj (fun _ => hgcS)
                have HIJ := hid hIj
                have HBJ := hid hbj
                by_cases hlt4 : j < C.length
                · obtain ⟨x, hx⟩ : ∃ x, C[j]? = some x := ⟨C[j], List.getElem?_eq_getElem hlt4⟩
                  obtain ⟨hx0, hx4⟩ := thB_iff.1 (HCT.out x (List.mem_of_getElem? hx))
                  obtain ⟨y, rfl⟩ : ∃ y : Nat, x = y := ⟨x.toNat, by omega⟩
                  have hy4 : y < 4 := by omega
                  obtain ⟨g5, off5, cap5, e5, hc5⟩ := hIj.at hx
                  cases e5
                  have hs0 := hbj.cellOf (seenL_get C j hy4)
                  have hnm := nodup_take HCN.out hx
                  rw [decide_eq_false hnm] at hs0
                  have hf := hbj.frozen y
                  have hst := hbj.set y (.bool true)
                  rw [seenL_succ hx hy4] at hst
                  have HST := hid hst
                  clear hst hx hnm hIj hbj
                  go_wp2_with fail
                  go_roundw
                  case rel => exact ⟨j + 1, by omega, by go_num, HST.out, g_set hgj _ (.inl rfl)⟩
                  case measure => simp [intOf]; omega
                · obtain rfl : j = C.length := by omega
                  have hgF4 : wC.grownBy wr none := g_trans (g_none hgB4 hgS) hgj (fun r e => by cases e; right; have := hgB4.size; omega)
                  obtain ⟨g6, off6, cap6, e6, hc6⟩ := hIj.at HC0.out
                  cases e6
                  obtain ⟨g7, off7, cap7, e7, hc7⟩ := hIj.at HU.out
                  cases e7
                  obtain ⟨g8, off8, cap8, e8, hc8⟩ := (HIW.out.keptN hgF4).at HWU.out
                  rw [waitL_length] at e8
                  cases e8
                  have hc6' : wr.cell? ⟨gc, offc, none⟩ = some (.int .i64 t) := by simpa using hc6
                  clear hIj hbj
                  go_wp2_with (go_at_call 13; refine (num_any _ _).mono ?_; rintro e _ ⟨rfl, rfl⟩)
                  go_roundw
                  case rel => exact ⟨t + 1, by omega, by go_num, hgF4⟩
                  case measure => simp [intOf]; omega
            · obtain rfl : t = 4 := by omega
              have hgF := g_none HGC.out hgr
              go_wp2_with fail
              refine (works_any wr).mono ?_
              rintro e w9 ⟨rfl, hg9⟩
              go_wp2_with fail
              go_ret
              exact ⟨rfl, g_none hgF hg9⟩
end Go.Proofs.Ytnpimkigiioiaaa
