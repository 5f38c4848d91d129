/-
  Chain.
-/
import Derived.Test.YtnpimkigiioiaaaLockChainP
namespace Go.Proofs.Ytnpimkigiioiaaa
open Go.RowKit Go.Maps
set_option maxRecDepth 100000

theorem chain1_any (sb : Nat) (a : Option Addr) (n cap : Nat) (hn : n ≤ 1000) (w : World) (hc : w.cell? ⟨sb, 0, none⟩ = some (.slice a n cap)) :
    Calls Try.prog 32 #[.pointer (some ⟨sb, 0, none⟩)] w fun e w' => e = .returned (.bool (decide (4 < n))) ∧ w = w' := by
  go_enter Try.func32, Try.ntmps32
  go_wp2
  go_ret
  have hd : decide (4 < (n : Int)) = decide (4 < n) := by rw [Bool.eq_iff_iff, decide_eq_true_eq, decide_eq_true_eq]; omega
  exact ⟨by rw [← hd]; rfl, rfl⟩
theorem chain21_any (p pc g K : Nat) (l : List Int) (n : Int) (lb : Nat) (w : World) (h : LockAt w p pc g K l) (hc : w.cell? ⟨lb, 0, none⟩ = some (.pointer (some ⟨p, 0, none⟩))) :
    Calls Try.prog 35 #[.int .i64 n, .pointer (some ⟨lb, 0, none⟩)] w fun e w' => e = .returned (.bool (decide (n < -1) || decide ((l.length : Int) ≤ n))) ∧ w = w' := by
  have hcp := h.cell
  obtain ⟨xs, hB, hC, hx, hs, hl, ht, hne⟩ := h
  have hlx := (words_get hx).1
  have hL := len_some pc g xs w hC
  rw [hlx] at hL
  clear hB hC hx hs ht
  by_cases h1 : n < -1
  · go_enter Try.func35, Try.ntmps35
    go_wp2
    go_ret
    exact ⟨by simp [h1], rfl⟩
  · have hd : decide (n < -1) = false := by simpa using h1
    go_enter Try.func35, Try.ntmps35
    go_wp2_with fail
    refine hL.mono ?_
    rintro e _ ⟨rfl, rfl⟩
    go_wp2_with fail
    go_ret
    exact ⟨by rw [hd]; rfl, rfl⟩
theorem chain2_any (p pc g K : Nat) (l ws : List Int) (v : Value) (sb lb : Nat) (w : World) (h : LockAt w p pc g K l) (hI : IntsAt w v ws) (hs : w.cell? ⟨sb, 0, none⟩ = some v) (hc : w.cell? ⟨lb, 0, none⟩ = some (.pointer (some ⟨p, 0, none⟩))) :
    Calls Try.prog 33 #[.pointer (some ⟨sb, 0, none⟩), .pointer (some ⟨lb, 0, none⟩)] w fun e w' => e = .returned (.bool (badR l ws)) ∧ w = w' := by
  have hC := containsFunc_any 35 #[.pointer (some ⟨lb, 0, none⟩)] (Go.Proofs.enters_of Try.func35 (by kernel_rfl) rfl) v ws (fun n => decide (n < -1) || decide ((l.length : Int) ≤ n)) w hI (fun n => chain21_any p pc g K l n lb w h hc)
  have HC := hid hC
  clear hC
  go_enter Try.func33, Try.ntmps33
  go_wp2_with fail
  refine HC.out.mono ?_
  rintro e _ ⟨rfl, rfl⟩
  go_wp2_with fail
  go_ret
  exact ⟨rfl, rfl⟩

def eK (l : List Int) (t : Int) (ws : List Int) (k : Nat) : Int := if chE0 l t ws == 0 then ordK l ws k else chE0 l t ws
theorem eK_succ (l : List Int) (t : Int) (ws : List Int) (k : Nat) : eK l t ws (k + 1) = if wantB ws k && (eK l t ws k == 0) then (if ordB l k (wantV ws k) then 220 else 0) else eK l t ws k := by
  unfold eK
  by_cases h : (chE0 l t ws == 0) = true
  · rw [if_pos h, if_pos h, ordK]
    cases wantB ws k <;> cases ordB l k (wantV ws k) <;> simp
  · rw [if_neg h, if_neg h]
    have h' : (chE0 l t ws == 0) = false := by simpa using h
    simp [h']
theorem eK_fin (l : List Int) (t : Int) (ws : List Int) : eK l t ws ws.length = chainE l t ws := rfl
def lenOf : Value → Nat
  | .slice _ n _ => n
  | _ => 0
def intsV (ns : List Int) : List Value := ns.map (Value.int .i64)

theorem chain_none (v : Option Addr) (t : Int) (w : World) (h : LNone w v) :
    Calls Try.prog 11 #[.pointer v, .int .i64 t, .slice none 0 0] w fun e w' => e = .returned (.tuple #[.slice none 0 0, .int .i64 1]) ∧ w.grownBy w' none := by
  obtain ⟨w1, hw1⟩ : ∃ w1, w1 = (w.alloc (.cells #[.pointer v] 25)).alloc (.cells #[.slice none 0 0] 23) := ⟨_, rfl⟩
  have hg1 : w.grownBy w1 none := by rw [hw1]; exact g_alloc (g_alloc (g_refl w _) _) _
  have hbl := ((Blk.new w [.pointer v] 25).alloc (.cells #[.slice none 0 0] 23)).cellOf (i := 0) rfl
  have hbs := (Blk.new (w.alloc (.cells #[.pointer v] 25)) [.slice none 0 0] 23).cellOf (i := 0) rfl
  rw [World.size_alloc] at hbs
  have hgM := g_alloc (g_refl w1 none) (.map #[] 0)
  have hs1 : w1.heap.size = w.heap.size + 1 + 1 := by rw [hw1]; simp
  have hmm := @run_makeMap Try.prog
  have hN := fun W hW => lnone_none v W (h.keptN hW)
  rw [← hw1] at hbl hbs
  have d0 := g_cellN hgM hbl
  have d1 := g_cellN hgM hbs
  have hg2 := g_none hg1 hgM
  go_enter Try.func11, Try.ntmps11
  go_wp2_with (first | apply wp_scope_straight | apply wp_label)
  rw [← hw1]
  obtain ⟨w2, hw2⟩ : ∃ w2, w2 = w1.alloc (.map #[] 0) := ⟨_, rfl⟩
  rw [← hw2] at d0 d1 hg2 ⊢
  clear hgM hbl hbs hmm hg1 hw1 hw2
  go_loopw [23] (fun v23 wr => v23 = .int .i64 0 ∧ wr = w2) (fun _ _ => 0)
  case atStart => exact ⟨rfl, rfl⟩
  case round =>
    obtain ⟨rfl, rfl⟩ := hrel
    go_wp2_with fail
    refine (is_any v true wr (fun W hW => hN W (g_none hg2 hW))).mono ?_
    rintro e w3 ⟨f1, rfl, hg3, hq1⟩
    go_wp2_with fail
    refine (thread_any t w3).mono ?_
    rintro e w4 ⟨f2, rfl, hg4, _⟩
    have hgA := g_none hg3 hg4
    have hq := Blk.new w4 [f1, .int .i64 1, f2, .int .i64 2, .func (.func 32) #[] #[.pointer (some ⟨w.heap.size + 1, 0, none⟩)], .int .i64 2, .func (.func 33) #[] #[.pointer (some ⟨w.heap.size + 1, 0, none⟩), .pointer (some ⟨w.heap.size, 0, none⟩)], .int .i64 4] 75
    have hgN := g_alloc (g_refl w4 none) (.cells #[f1, .int .i64 1, f2, .int .i64 2, .func (.func 32) #[] #[.pointer (some ⟨w.heap.size + 1, 0, none⟩)], .int .i64 2, .func (.func 33) #[] #[.pointer (some ⟨w.heap.size + 1, 0, none⟩), .pointer (some ⟨w.heap.size, 0, none⟩)], .int .i64 4] 75)
    have hA := asked_any w4.heap.size [(f1, 1, true), (f2, 2, false), (.func (.func 32) #[] #[.pointer (some ⟨w.heap.size + 1, 0, none⟩)], 2, false), (.func (.func 33) #[] #[.pointer (some ⟨w.heap.size + 1, 0, none⟩), .pointer (some ⟨w.heap.size, 0, none⟩)], 4, false)] (by simp) _ hq (asks_tail rfl (hq1.keptN (g_none hg4 hgN)))
    have HA := hid hA
    have hgB := g_none hgA hgN
    have e1 := g_cellN hgB d1
    clear hA hq hq1
    go_wp2_with fail
    refine HA.out.mono ?_
    rintro e w5 ⟨rfl, hg5⟩
    have e2 := g_cellN hg5 e1
    have hgC := g_none (g_none hg2 hgB) hg5
    rw [show errOfAsks [(f1, (1 : Int), true), (f2, 2, false), (.func (.func 32) #[] #[.pointer (some ⟨w.heap.size + 1, 0, none⟩)], 2, false), (.func (.func 33) #[] #[.pointer (some ⟨w.heap.size + 1, 0, none⟩), .pointer (some ⟨w.heap.size, 0, none⟩)], 4, false)] = 1 from rfl]
    go_wp2_with fail
    go_loopw [11, 46] (fun v11 v46 wr => v11 = .int .i64 1 ∧ v46 = .int .i64 0 ∧ wr = w5) (fun _ _ _ => 0)
    case atStart => exact ⟨rfl, rfl, rfl⟩
    case round =>
      obtain ⟨rfl, rfl, rfl⟩ := hrel
      go_wp2_with fail
      refine noGoto_retI ?_
      go_ret2
      exact ⟨rfl, hgC⟩

set_option maxHeartbeats 4000000 in
theorem chain_some (p pc g_ K : Nat) (l : List Int) (t : Int) (ws : List Int) (v : Value) (hwf : ∀ n ∈ ws, (Lit.int .i64 n).wf = true) (w : World) (h : LockAt w p pc g_ K l) (hI : IntsAt w v ws) :
    Calls Try.prog 11 #[.pointer (some ⟨p, 0, none⟩), .int .i64 t, v] w fun e w' => ∃ v', e = .returned (.tuple #[v', .int .i64 (chainE l t ws)]) ∧ IntsAt w' v' (chainL l t ws) ∧ w.grownBy w' none ∧ ∀ r, v'.ownBlock = some r → w.heap.size ≤ r := by
  obtain ⟨i0, hi, hz0, hz1, hz2⟩ := info_parts info_int
  obtain ⟨w1, hw1⟩ : ∃ w1, w1 = (w.alloc (.cells #[.pointer (some ⟨p, 0, none⟩)] 25)).alloc (.cells #[v] 23) := ⟨_, rfl⟩
  have hg1 : w.grownBy w1 none := by rw [hw1]; exact g_alloc (g_alloc (g_refl w _) _) _
  have hbl := ((Blk.new w [.pointer (some ⟨p, 0, none⟩)] 25).alloc (.cells #[v] 23)).cellOf (i := 0) rfl
  have hbs := (Blk.new (w.alloc (.cells #[.pointer (some ⟨p, 0, none⟩)] 25)) [v] 23).cellOf (i := 0) rfl
  rw [World.size_alloc] at hbs
  have hs1 : w1.heap.size = w.heap.size + 1 + 1 := by rw [hw1]; simp
  have hmm := @run_makeMap Try.prog
  rw [← hw1] at hbl hbs
  have hM0 := MapW.made w1
  have hgM := g_alloc (g_refl w1 none) (.map #[] 0)
  rw [hs1] at hM0
  have hI1 := (hI.keptN hg1).keptN hgM
  have d0 := g_cellN hgM hbl
  have d1 := g_cellN hgM hbs
  have hg2 := g_none hg1 hgM
  have hsz : w.heap.size + 1 + 1 < (w1.alloc (.map #[] 0)).heap.size := by simp; omega
  have hlow : ∀ r, v.ownBlock = some r → ws ≠ [] → r < w.heap.size := fun r hr hn => by
    obtain ⟨a, cap, rfl, _, _, _, hc⟩ := hI
    rcases hc with ⟨_, rfl⟩ | ⟨g, off, rfl, hx⟩
    · exact absurd rfl hn
    · cases hr
      cases ws with
      | nil => exact absurd rfl hn
      | cons x xs => exact cell_lt (hx 0 x rfl)
  have hne0 : ws ≠ [] → 0 < ws.length := fun h => List.length_pos_iff.2 h
  obtain ⟨a, cap, rfl, hl1, hcp, hm, hcells⟩ := id hI1
  have HC := hid hcells
  have HI := hid hI1
  have HLOW := hid hlow
  clear hlow hne0
  have HWF := hid hwf
  have hthr := h.thr
  have hll := h.len
  have HT := hid hthr
  have HLK := hid h
  have HIK := hid hI
  clear hcells hI1 hI hwf hthr h
  go_enter Try.func11, Try.ntmps11
  go_wp2_with (first | apply wp_scope_straight | apply wp_label)
  rw [← hw1]
  obtain ⟨w2, hw2⟩ : ∃ w2, w2 = w1.alloc (.map #[] 0) := ⟨_, rfl⟩
  rw [← hw2] at d0 d1 hg2 hM0 hsz HC HI ⊢
  clear hgM hbl hbs hmm hg1 hw1 hw2 hs1
  obtain ⟨B, hB⟩ : ∃ B, B = w.heap.size + 1 + 1 := ⟨_, rfl⟩
  have hBl : w.heap.size + 1 < B := by omega
  rw [← hB] at hM0 hsz ⊢
  clear hB
  go_loopw [23] (fun v23 wr => ∃ k : Nat, k ≤ ws.length ∧ v23 = .int .i64 k ∧ MapW wr B (ws.take k) ∧ w2.grownBy wr (some B)) (fun v23 _ => ws.length - (intOf v23).toNat)
  case atStart => exact ⟨0, Nat.zero_le _, rfl, hM0, g_refl w2 _⟩
  case round =>
    obtain ⟨k, hk, rfl, hMr, hgr⟩ := hrel
    by_cases hlt : k < ws.length
    · obtain ⟨x, hx⟩ : ∃ x, ws[k]? = some x := ⟨ws[k], List.getElem?_eq_getElem hlt⟩
      obtain ⟨ga, off, rfl, hcell⟩ : ∃ ga off, a = some ⟨ga, off, none⟩ ∧ ∀ (i : Nat) (n : Int), ws[i]? = some n → w2.cell? ⟨ga, off + i, none⟩ = some (.int .i64 n) := by
        rcases HC.out with ⟨_, rfl⟩ | h
        · simp at hlt
        · exact h
      have hne : some ga ≠ some B := by
        have := HLOW.out ga rfl (fun e => by rw [e] at hlt; simp at hlt)
        intro e; cases e; omega
      have c0 : wr.cell? ⟨ga, off + k, none⟩ = some (.int .i64 x) := by
        have h0 := hcell k _ hx
        rw [← h0]
        exact g_cell (a := ⟨ga, _, none⟩) hgr (cell_lt h0) hne
      have hxw := HWF.out x (List.mem_of_getElem? hx)
      have HX := hid hx
      have HXW := hid hxw
      clear hx hxw hcell
      by_cases h0 : 0 ≤ x
      · obtain ⟨n, D, hown, hn, hh, ha⟩ := hMr
        have HH := hid hh
        have HA := hid ha
        have hkw : (Lit.int .i64 (k : Int)).wf = true := WalkArith.wf_i64 (by omega)
        have hkey := keyOf_int_mk Try.underlying3 hkw
        have hnm : n < maxLen := by rw [List.length_take] at hn; unfold maxLen; omega
        have HIM := hid hown.isMap
        clear hh ha
        go_wp2_with (at_mapUpdate; refine wpList_mapUpdate_own _ rfl _ _ _ 72 rfl 3 3 lawI Try.underlying72 _ B n D rfl hown hnm _ _ (.int .i64 k) rfl rfl hkey (.lit (.int .i64 x)) [] (plainElem_int Try.underlying3 HXW.out) ?_; intro w3 hown3 hgrow3)
        go_roundw
        case rel => exact ⟨k + 1, by omega, by go_num, MapW.put HX.out h0 HIM.out hn HH.out HA.out hown3, g_trans hgr hgrow3 (fun r e => .inl e)⟩
        case measure => simp [intOf]; omega
      · have h1 : x < 0 := by omega
        go_wp2_with fail
        go_roundw
        case rel => exact ⟨k + 1, by omega, by go_num, MapW.skip HX.out h1 hMr, hgr⟩
        case measure => simp [intOf]; omega
    · obtain rfl : k = ws.length := by omega
      rw [List.take_length] at hMr
      have e0 : wr.cell? ⟨w.heap.size, 0, none⟩ = some (.pointer (some ⟨p, 0, none⟩)) := by
        rw [← d0]; exact g_cell hgr (by simp; omega) (by simp; omega)
      have e1 : wr.cell? ⟨w.heap.size + 1, 0, none⟩ = some (.slice a ws.length cap) := by
        rw [← d1]; exact g_cell hgr (by simp; omega) (by simp; omega)
      have hg3 : w.grownBy wr none := g_new hg2 hgr (by omega)
      have hLr : LockAt wr p pc g_ K l := HLK.out.keptN hg3
      have hIr : IntsAt wr (.slice a ws.length cap) ws := HIK.out.keptN hg3
      clear hgr
      have hN := fun W (hW : wr.grownBy W none) => lnone_some p pc g_ K l W (hLr.keptN hW)
      go_wp2_with fail
      refine (is_any _ false wr hN).mono ?_
      rintro e w3 ⟨f1, rfl, hg4, hq1⟩
      go_wp2_with fail
      refine (thread_any t w3).mono ?_
      rintro e w4 ⟨f2, rfl, hg5, hq2⟩
      have hgA := g_none hg4 hg5
      have e2 := g_cellN hgA e0
      have e3 := g_cellN hgA e1
      have hq := Blk.new w4 [f1, .int .i64 1, f2, .int .i64 2, .func (.func 32) #[] #[.pointer (some ⟨w.heap.size + 1, 0, none⟩)], .int .i64 2, .func (.func 33) #[] #[.pointer (some ⟨w.heap.size + 1, 0, none⟩), .pointer (some ⟨w.heap.size, 0, none⟩)], .int .i64 4] 75
      have hgN := g_alloc (g_refl w4 none) (.cells #[f1, .int .i64 1, f2, .int .i64 2, .func (.func 32) #[] #[.pointer (some ⟨w.heap.size + 1, 0, none⟩)], .int .i64 2, .func (.func 33) #[] #[.pointer (some ⟨w.heap.size + 1, 0, none⟩), .pointer (some ⟨w.heap.size, 0, none⟩)], .int .i64 4] 75)
      have hgB := g_none hgA hgN
      have hA := asked_any w4.heap.size [(f1, 1, false), (f2, 2, !thB t), (.func (.func 32) #[] #[.pointer (some ⟨w.heap.size + 1, 0, none⟩)], 2, decide (4 < ws.length)), (.func (.func 33) #[] #[.pointer (some ⟨w.heap.size + 1, 0, none⟩), .pointer (some ⟨w.heap.size, 0, none⟩)], 4, badR l ws)] (by simp) _ hq (fun i f c b hi _ => by
        match i, hi with
        | 0, hi => cases hi; exact hq1.keptN (g_none hg5 hgN)
        | 1, hi => cases hi; exact hq2.keptN hgN
        | 2, hi =>
          cases hi
          exact ⟨_, _, _, rfl, Go.Proofs.enters_of Try.func32 (by kernel_rfl) rfl, fun W hW => (chain1_any _ a ws.length cap hl1 W (g_cellN (g_none hgB hW) e1)).mono fun e w' ⟨he, hw⟩ => ⟨he, hw ▸ g_refl W none⟩⟩
        | 3, hi =>
          cases hi
          exact ⟨_, _, _, rfl, Go.Proofs.enters_of Try.func33 (by kernel_rfl) rfl, fun W hW => (chain2_any p pc g_ K l ws _ _ _ W (hLr.keptN (g_none hgB hW)) (hIr.keptN (g_none hgB hW)) (g_cellN (g_none hgB hW) e1) (g_cellN (g_none hgB hW) e0)).mono fun e w' ⟨he, hw⟩ => ⟨he, hw ▸ g_refl W none⟩⟩
        | i + 4, hi => simp at hi)
      have he : errOfAsks [(f1, (1 : Int), false), (f2, 2, !thB t), (.func (.func 32) #[] #[.pointer (some ⟨w.heap.size + 1, 0, none⟩)], 2, decide (4 < ws.length)), (.func (.func 33) #[] #[.pointer (some ⟨w.heap.size + 1, 0, none⟩), .pointer (some ⟨w.heap.size, 0, none⟩)], 4, badR l ws)] = chE0 l t ws := by
        simp only [errOfAsks, chE0]
        by_cases h4 : 4 < ws.length <;> cases thB t <;> cases badR l ws <;> simp [h4]
      rw [he] at hA
      have HA := hid hA
      clear hA hq hq1 hq2 he hN
      go_wp2_with fail
      refine HA.out.mono ?_
      rintro e w5 ⟨he5, hg6⟩
      have hg7 := g_none hgB hg6
      have e4 := g_cellN hg7 e0
      have e5 := g_cellN hg7 e1
      have hM5 := hMr.keptN hg7
      have hg8 := g_none hg3 hg7
      obtain ⟨E0, hE0⟩ : ∃ E0, chE0 l t ws = E0 := ⟨_, rfl⟩
      rw [hE0] at he5
      subst he5
      have hek0 : eK l t ws 0 = E0 := by
        unfold eK; rw [hE0]
        split
        · rename_i h0; rw [ordK]; exact (by simpa using h0 : E0 = 0).symm
        · rfl
      have HE0 := hid hE0
      have HEK := hid hek0
      clear hE0 hek0 hg6 hgB hgN hgA hg4 hg5 HA hMr hIr hLr
      go_wp2_with fail
      go_loopw [11, 46] (fun v11 v46 wr2 => ∃ k : Nat, k ≤ ws.length ∧ v11 = .int .i64 (eK l t ws k) ∧ v46 = .int .i64 k ∧ w5.grownBy wr2 none) (fun _ v46 _ => ws.length - (intOf v46).toNat)
      case atStart => exact ⟨0, Nat.zero_le _, by rw [HEK.out], rfl, g_refl w5 _⟩
      case round =>
        obtain ⟨k, hk, rfl, rfl, hgr⟩ := hrel
        have hMk := hM5.keptN hgr
        have e6 := g_cellN hgr e4
        have hgw := g_none hg8 hgr
        by_cases hlt2 : k < ws.length
        · have hlook := hMk.look k (WalkArith.wf_i64 (by omega))
          have hsu := eK_succ l t ws k
          have HSU := hid hsu
          clear hsu
          obtain ⟨n, hn⟩ : ∃ n, wantV ws k = n := ⟨_, rfl⟩
          obtain ⟨E, hE⟩ : ∃ E, eK l t ws k = E := ⟨_, rfl⟩
          have HE := hid hE
          have HN := hid hn
          rw [hn] at hlook
          rw [hE]
          cases hb : wantB ws k with
          | false =>
            rw [hb] at hlook
            have HB := hid hb
            clear hn hE hb
            go_wp2_with fail
            go_roundw
            case rel => exact ⟨k + 1, by omega, by rw [HSU.out, HB.out, HE.out]; rfl, by go_num, hgr⟩
            case measure => simp [intOf]; omega
          | true =>
            rw [hb] at hlook
            have HB := hid hb
            clear hn hE hb
            by_cases hz : E = 0
            · subst hz
              obtain ⟨b, hob⟩ : ∃ b, ordB l k n = b := ⟨_, rfl⟩
              have HOB := hid hob
              clear hob
              go_wp2_with fail
              refine (order_any _ k n wr).mono ?_
              rintro e w6 ⟨f4, rfl, hgo, hqo⟩
              have hgN2 := g_alloc (g_refl w6 none) (.cells #[f4, .int .i64 220] 75)
              have hqB := Blk.new w6 [f4, .int .i64 220] 75
              have hq4 := hqo p pc g_ K l rfl (HLK.out.keptN (g_none (g_none hg8 hgr) (g_refl _ none)))
              have hAo := asked_any w6.heap.size [(f4, 220, ordB l k n)] (by simp) _ hqB (fun i f c b hi _ => by
                match i, hi with
                | 0, hi => cases hi; exact hq4.keptN hgN2
                | i + 1, hi => simp at hi)
              rw [HOB.out] at hAo
              have HAO := hid hAo
              have hgX := g_none hgo hgN2
              clear hAo hqB hqo hq4
              go_wp2_with fail
              refine HAO.out.mono ?_
              rintro e w7 ⟨rfl, hgY⟩
              have hgZ := g_none hgr (g_none hgX hgY)
              go_wp2_with fail
              go_roundw
              case rel => exact ⟨k + 1, by omega, by rw [HSU.out, HB.out, HE.out, HN.out, HOB.out]; cases b <;> rfl, by go_num, hgZ⟩
              case measure => simp [intOf]; omega
            · go_wp2_with fail
              go_roundw
              case rel => exact ⟨k + 1, by omega, by rw [HSU.out, HB.out, HE.out]; simp [hz], by go_num, hgr⟩
              case measure => simp [intOf]; omega
        · obtain rfl : k = ws.length := by omega
          obtain ⟨E, hE⟩ : ∃ E, chainE l t ws = E := ⟨_, rfl⟩
          have hef : eK l t ws ws.length = E := hE
          rw [hef]
          have HE := hid hE
          clear hE hef
          by_cases hz : E = 0
          · subst hz
            have hch0 : chE0 l t ws = 0 := by
              have h1 := HE.out
              rw [chainE] at h1
              by_cases hh : (chE0 l t ws == 0) = true
              · simpa using hh
              · rw [if_neg hh] at h1; exact h1
            have hth : thB t = true := by
              by_cases hh : thB t = true
              · exact hh
              · rw [chE0, if_neg hh] at hch0; cases hch0
            have hok : OkW l ws := by
              have h1 := HE.out
              rw [chainE, hch0] at h1
              exact ordK_okW.1 h1
            obtain ⟨C, hC⟩ : ∃ C, chainF l ws 5 t = C := ⟨_, rfl⟩
            have hClen := chain_len hok HT.out 5 t hth
            have hCh := chain_head l ws 5 t
            have hCt := chain_thr (ws := ws) HT.out 5 t hth
            have hCs := chain_step (l := l) (ws := ws) 5 t
            have hL : chainL l t ws = C := by
              rw [chainL, HE.out]; exact hC
            rw [hC] at hClen hCh hCt hCs
            have HLL := hid hL
            have HCH := hid hCh
            have HCT := hid hCt
            have HCS := hid hCs
            have hCpos : 0 < C.length := by rw [← hC]; exact chain_pos l ws 5 t
            clear hC hL hCh hCt hCs hok hth hch0
            have hMk2 := hMk
            have hgr2 := hgr
            obtain ⟨w6, hw6⟩ : ∃ w6, w6 = wr := ⟨_, rfl⟩
            rw [← hw6] at hgw hMk2 e6 hgr2 ⊢
            clear hgr hMk
            have hrow0 := World.ownsRow_lit (base := w6.heap.size) (e := 3) (size := 1) w6 #[.int .i64 t] 1 (Nat.le_refl _) (by unfold maxLen; omega) rfl
            have hgN0 := g_alloc (g_refl w6 none) (.cells #[.int .i64 t] 3)
            clear hw6
            go_wp2_with (apply wp_label)
            go_loopw [15] (fun v15 wr3 => ∃ (k g cap : Nat), k < C.length ∧ v15 = .slice (some ⟨g, 0, none⟩) (k + 1) cap ∧ wr3.ownsRow w6.heap.size 3 1 (.slice (some ⟨g, 0, none⟩) (k + 1) cap) (k + 1) (intsV (C.take (k + 1))) ∧ w6.grownBy wr3 none) (fun v15 _ => C.length - lenOf v15)
            case atStart =>
              refine ⟨0, w6.heap.size, 1, hCpos, rfl, ?_, hgN0⟩
              have : C.take (0 + 1) = [t] := by
                rw [List.take_add_one, HCH.out]; simp
              rw [this]; exact hrow0
            case round =>
              obtain ⟨k, g, cap3, hk3, rfl, hrow, hgr3⟩ := hrel
              obtain ⟨u, hu⟩ : ∃ u, C[k]? = some u := ⟨C[k], List.getElem?_eq_getElem hk3⟩
              obtain ⟨hu0, hu4⟩ := thB_iff.1 (HCT.out u (List.mem_of_getElem? hu))
              obtain ⟨hcs1, hcs2⟩ := HCS.out k u hu
              have hce : wr.cell? ⟨g, k, none⟩ = some (.int .i64 u) := by
                rw [hrow.cellAt k (by omega), intsV, List.getElem?_map, List.getElem?_take, if_pos (by omega), hu]; rfl
              have hMr := hMk2.keptN hgr3
              have e7 := g_cellN hgr3 e6
              have hlook := hMr.look u (WalkArith.wf_i64 (by omega))
              have hg9 := g_none hgw hgr3
              have hLr := HLK.out.keptN hg9
              obtain ⟨n, hn⟩ : ∃ n, wantV ws u = n := ⟨_, rfl⟩
              have hHo := holder_some p pc g_ K l n wr hLr
              rw [hn] at hlook
              have hnB : nextB l ws u = (wantB ws u && holdB l n) := by rw [nextB, hn]
              have hnV : nextV l ws u = holdV l n := by rw [nextV, hn]
              obtain ⟨who, hwho⟩ : ∃ who, holdV l n = who := ⟨_, rfl⟩
              rw [hwho] at hHo hnV
              have hend : nextB l ws u = false → k + 1 = C.length := fun h => by
                by_cases h2 : k + 1 < C.length
                · have := (hcs1 _ (List.getElem?_eq_getElem h2)).1
                  rw [h] at this; cases this
                · omega
              have hmore : nextB l ws u = true → k + 1 < C.length ∧ C[k + 1]? = some who := fun h => by
                by_cases h2 : k + 1 < C.length
                · have := (hcs1 _ (List.getElem?_eq_getElem h2)).2
                  exact ⟨h2, by rw [List.getElem?_eq_getElem h2, this, hnV]⟩
                · have := hcs2 (by omega) (by omega)
                  rw [h] at this; cases this
              have HEND := hid hend
              have HMORE := hid hmore
              have HNB := hid hnB
              have HHO := hid hHo
              have HR := hid hrow
              have HU := hid hu
              clear hend hmore hnB hnV hcs1 hcs2 hn hwho hu hHo
              have hfin : nextB l ws u = false → IntsAt wr (.slice (some ⟨g, 0, none⟩) (k + 1) cap3) (chainL l t ws) := fun h => by
                have h1 := HEND.out h
                rw [HLL.out]
                have h2 := HR.out
                rw [h1, List.take_length] at h2
                rw [h1]
                exact IntsAt.own (by omega) h2
              have HFIN := hid hfin
              clear hfin
              have hgb := (row_base hrow g rfl).1
              cases hwb : wantB ws u with
              | false =>
                rw [hwb] at hlook
                have hnf : nextB l ws u = false := by rw [HNB.out, hwb]; rfl
                have HNF := hid hnf
                clear hnf hwb
                go_wp2_with fail
                refine HHO.out.mono ?_
                rintro e _ ⟨rfl, rfl⟩
                go_wp2_with fail
                refine noGoto_retI ?_
                go_ret2
                exact ⟨_, by rw [HE.out]; rfl, HFIN.out HNF.out, hg9, fun r hr => by cases hr; exact Nat.le_trans hgw.size hgb⟩
              | true =>
                rw [hwb] at hlook
                have HWB := hid hwb
                clear hwb
                obtain ⟨hb, hhb⟩ : ∃ hb, holdB l n = hb := ⟨_, rfl⟩
                have hnb : nextB l ws u = hb := by rw [HNB.out, HWB.out, hhb]; rfl
                have hho2 := HHO.out
                rw [hhb] at hho2
                have HHO2 := hid hho2
                have HNB2 := hid hnb
                clear hhb hnb hho2
                cases hb with
                | false =>
                  go_wp2_with fail
                  refine HHO2.out.mono ?_
                  rintro e _ ⟨rfl, rfl⟩
                  go_wp2_with fail
                  refine noGoto_retI ?_
                  go_ret2
                  exact ⟨_, by rw [HE.out]; rfl, HFIN.out HNB2.out, hg9, fun r hr => by cases hr; exact Nat.le_trans hgw.size hgb⟩
                | true =>
                  obtain ⟨hk4, hnx⟩ := HMORE.out HNB2.out
                  have HNX := hid hnx
                  clear hnx
                  have hcc := cells_new wr [.int .i64 who] 3
                  go_wp2_with fail
                  refine HHO2.out.mono ?_
                  rintro e _ ⟨rfl, rfl⟩
                  go_wp2_with (at_builtin; refine wpList_append_own_at _ rfl _ _ 23 rfl w6.heap.size 3 i0 (.int .i64 0) 1 8 Try.underlying23 hi hz0 hz1 hz2 rfl (by decide) _ _ _ rfl (HR.out.alloc _) ⟨wr.heap.size, 0, none⟩ 1 1 [.int .i64 who] rfl rfl hcc (by simp [Value.oneCell']) (by unfold maxLen; omega) (by omega) (by have := hgr3.size; simp; omega) ?_; intro v' w9 hown' hgrow hnn hob)
                  obtain ⟨g', cap', rfl⟩ := ownsRow_succ hown'
                  have htk : intsV (C.take (k + 1 + 1)) = intsV (C.take (k + 1)) ++ [Value.int .i64 who] := by
                    rw [List.take_add_one, HNX.out]; simp [intsV]
                  exact ⟨⟨k + 1, g', cap', hk4, rfl, by rw [htk]; exact hown', g_trans (g_alloc hgr3 _) hgrow (fun r e => .inr (row_base HR.out r e).1)⟩, by simp [lenOf]; omega⟩
          · have hL : chainL l t ws = [] := by
              rw [chainL, HE.out, if_neg (by simpa using hz)]
            have HLL := hid hL
            clear hL
            go_wp2_with fail
            refine noGoto_retI ?_
            go_ret2
            exact ⟨_, by rw [HE.out]; rfl, by rw [HLL.out]; exact IntsAt.nil _, hgw, fun r hr => by simp [Value.ownBlock] at hr⟩
end Go.Proofs.Ytnpimkigiioiaaa
