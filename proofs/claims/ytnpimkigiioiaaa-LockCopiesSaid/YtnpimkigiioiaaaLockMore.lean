/-
  Drop, Holder, Copy, New.
-/
import Derived.Test.YtnpimkigiioiaaaLockFree
namespace Go.Proofs.Ytnpimkigiioiaaa
open Go.RowKit
set_option maxRecDepth 100000

/-! ### New -/
theorem lnew_yes (n : Nat) (hn : n ≤ 64) (w : World) :
    Calls Try.prog 8 #[.int .i64 n] w fun e w' => ∃ p pc g, e = .returned (.tuple #[.pointer (some ⟨p, 0, none⟩), .int .i64 0]) ∧ LockAt w' p pc g 0 (List.replicate n (-1)) ∧ w.grownBy w' none ∧ w.heap.size ≤ p ∧ w.heap.size ≤ pc ∧ w.heap.size ≤ g := by
  go_enter Try.func8, Try.ntmps8
  go_wp2_with fail
  refine (new_yes n (by omega) w).mono ?_
  rintro e w1 ⟨pc, g, rfl, hC, hg1, hpc, hgg⟩
  have hb := Blk.new w1 [.pointer (some ⟨pc, 0, none⟩)] 66
  have hgN := g_alloc (g_refl w1 none) (.cells #[.pointer (some ⟨pc, 0, none⟩)] 66)
  have hlt := hC.lt
  go_wp2_with fail
  go_ret2
  refine ⟨w1.heap.size, pc, g, rfl, ⟨List.replicate n (0, 0), hb, hC.keptN hgN, ?_, Small.zero n, by simpa using hn, ?_, by omega⟩, g_none hg1 hgN, hg1.size, hpc, hgg⟩
  · simp
  · intro t ht
    have := List.eq_of_mem_replicate ht
    omega
theorem lnew_no (i : Int) (hi : i < 0 ∨ 64 < i) (w : World) :
    Calls Try.prog 8 #[.int .i64 i] w fun e w' => e = .returned (.tuple #[.pointer none, .int .i64 2]) ∧ w = w' := by
  rcases hi with hi | hi
  · go_enter Try.func8, Try.ntmps8
    go_wp2_with fail
    refine (new_no i (.inl hi) w).mono ?_
    rintro e _ ⟨rfl, rfl⟩
    go_wp2_with fail
    go_ret2
    exact ⟨rfl, rfl⟩
  · go_enter Try.func8, Try.ntmps8
    go_wp2_with fail
    go_ret2
    exact ⟨rfl, rfl⟩

/-! ### Holder -/
def holdB (l : List Int) (n : Int) : Bool := inL l n && decide (0 ≤ l.getD n.toNat 0)
def holdV (l : List Int) (n : Int) : Int := if holdB l n then l.getD n.toNat 0 else 0
theorem holder_none (v : Option Addr) (n : Int) (w : World) (h : LNone w v) :
    Calls Try.prog 38 #[.pointer v, .int .i64 n] w fun e w' => e = .returned (.tuple #[.int .i64 0, .bool false]) ∧ w = w' := by
  go_enter Try.func38, Try.ntmps38
  go_wp2_with fail
  refine (lnone_none v w h).mono ?_
  rintro e _ ⟨rfl, rfl⟩
  go_wp2_with fail
  go_ret2
  exact ⟨rfl, rfl⟩
theorem holder_some (p pc g K : Nat) (l : List Int) (n : Int) (w : World) (h : LockAt w p pc g K l) :
    Calls Try.prog 38 #[.pointer (some ⟨p, 0, none⟩), .int .i64 n] w fun e w' => e = .returned (.tuple #[.int .i64 (holdV l n), .bool (holdB l n)]) ∧ w = w' := by
  have hc := h.cell
  have hN := lnone_some p pc g K l w h
  obtain ⟨xs, hB, hC, hx, hs, hl, ht, hne⟩ := h
  obtain ⟨hlx, hget⟩ := words_get hx
  have hL := load_any pc g xs n w hC
  cases hin : inL l n with
  | false =>
    have hin' : inR xs n = false := by
      have : inR xs n = inL l n := by simp [inR, inL, hlx]
      rw [this]; exact hin
    have hb : holdB l n = false := by rw [holdB, hin]; rfl
    have hv : holdV l n = 0 := by rw [holdV, hb]; rfl
    have he : errOf xs n = 4 := by simp [errOf, hin']
    have hw : wordOf xs n = 0 := by simp [wordOf, hin']
    rw [he, hw] at hL
    rw [hb, hv]
    clear hx hget hB hC hs ht
    go_enter Try.func38, Try.ntmps38
    go_wp2_with fail
    refine hN.mono ?_
    rintro e _ ⟨rfl, rfl⟩
    go_wp2_with fail
    refine hL.mono ?_
    rintro e _ ⟨rfl, rfl⟩
    go_wp2_with fail
    go_ret2
    exact ⟨rfl, rfl⟩
  | true =>
    obtain ⟨k, rfl, hk⟩ := inL_nat hin
    obtain ⟨t, htk⟩ : ∃ t, l[k]? = some t := ⟨l[k], List.getElem?_eq_getElem hk⟩
    obtain ⟨c, hcx⟩ := hget k t htk
    obtain ⟨ht0, ht4⟩ := ht t (List.mem_of_getElem? htk)
    have he := errOf_of hcx
    have hw := wordOf_of hcx
    have hgd : l.getD k 0 = t := by simp [htk]
    have hB0 : holdB l k = decide (0 ≤ t) := by rw [holdB, hin, Int.toNat_natCast, hgd]; rfl
    have hV0 : holdV l k = if decide (0 ≤ t) then t else 0 := by rw [holdV, hB0, Int.toNat_natCast, hgd]
    rw [he, hw] at hL
    rw [hB0, hV0]
    clear hx hget hB hC hs ht hB0 hV0 he hw hcx htk hgd hin
    by_cases h0 : 0 ≤ t
    · have hd : decide (0 ≤ t) = true := by simpa using h0
      rw [hd]
      clear hd
      go_enter Try.func38, Try.ntmps38
      go_wp2_with fail
      refine hN.mono ?_
      rintro e _ ⟨rfl, rfl⟩
      go_wp2_with fail
      refine hL.mono ?_
      rintro e _ ⟨rfl, rfl⟩
      go_wp2_with fail
      go_ret2
      exact ⟨rfl, rfl⟩
    · obtain rfl : t = -1 := by omega
      go_enter Try.func38, Try.ntmps38
      go_wp2_with fail
      refine hN.mono ?_
      rintro e _ ⟨rfl, rfl⟩
      go_wp2_with fail
      refine hL.mono ?_
      rintro e _ ⟨rfl, rfl⟩
      go_wp2_with fail
      go_ret2
      exact ⟨rfl, rfl⟩

/-! ### Copy -/
theorem lcopy_some (p pc g K : Nat) (l : List Int) (w : World) (h : LockAt w p pc g K l) :
    Calls Try.prog 18 #[.pointer (some ⟨p, 0, none⟩)] w fun e w' => ∃ p' pc' g', e = .returned (.pointer (some ⟨p', 0, none⟩)) ∧ LockAt w' p' pc' g' K l ∧ w.grownBy w' none ∧ w.heap.size ≤ p' ∧ w.heap.size ≤ pc' ∧ w.heap.size ≤ g' := by
  have hc := h.cell
  have hN := lnone_some p pc g K l w h
  obtain ⟨xs, hB, hC, hx, hs, hl, ht, hne⟩ := h
  obtain ⟨hlx, hget⟩ := words_get hx
  have hCp := copy_some pc g xs (by omega) w hC
  have HX := hid hx
  clear hx hget
  go_enter Try.func18, Try.ntmps18
  go_wp2_with fail
  refine hN.mono ?_
  rintro e _ ⟨rfl, rfl⟩
  go_wp2_with fail
  refine hCp.mono ?_
  rintro e w1 ⟨pc', g', rfl, hC', hg1, hpc, hgg⟩
  have hb := Blk.new w1 [.pointer (some ⟨pc', 0, none⟩)] 66
  have hgN := g_alloc (g_refl w1 none) (.cells #[.pointer (some ⟨pc', 0, none⟩)] 66)
  have hlt := hC'.lt
  go_wp2_with fail
  go_ret
  exact ⟨w1.heap.size, pc', g', rfl, ⟨xs, hb, hC'.keptN hgN, HX.out, hs, hl, ht, by omega⟩, g_none hg1 hgN, hg1.size, hpc, hgg⟩
theorem lcopy_none (v : Option Addr) (w : World) (h : LNone w v) :
    Calls Try.prog 18 #[.pointer v] w fun e w' => e = .returned (.pointer none) ∧ w = w' := by
  go_enter Try.func18, Try.ntmps18
  go_wp2_with fail
  refine (lnone_none v w h).mono ?_
  rintro e _ ⟨rfl, rfl⟩
  go_wp2_with fail
  go_ret
  exact ⟨rfl, rfl⟩

/-! ### Drop -/
def dropN (l : List Int) (ns : List Int) : List Int := ns.foldl (fun l n => l.set n.toNat (-1)) l
def dropL (l : List Int) (t : Int) : List Int := dropN l (heldL l t)
theorem dropN_snoc (l ns : List Int) (n : Int) : dropN l (ns ++ [n]) = (dropN l ns).set n.toNat (-1) := by simp [dropN, List.foldl_append]
theorem dropN_length (l ns : List Int) : (dropN l ns).length = l.length := by
  induction ns generalizing l with
  | nil => rfl
  | cons n ns ih => rw [dropN, List.foldl_cons]; exact (ih _).trans (by simp)
theorem heldL_in {l : List Int} {t n : Int} (h : n ∈ heldL l t) : ∃ k : Nat, n = k ∧ k < l.length ∧ l[k]? = some t := by
  simp only [heldL, selT, List.mem_map, List.mem_filter] at h
  obtain ⟨x, ⟨h1, h2⟩, rfl⟩ := h
  obtain ⟨_, h3, _⟩ := (lk_mem l 0 x).1 h1
  rw [Nat.sub_zero] at h3
  have : x.2 = t := by simpa using h2
  exact ⟨x.1, rfl, (List.getElem?_eq_some_iff.1 h3).1, by rw [h3, this]⟩
theorem heldL_length (l : List Int) (t : Int) : (heldL l t).length ≤ l.length := Nat.le_trans (selT_length _ _) (lk_length l 0)

/-- The cells' store of 0, of locks. -/
theorem lstore (p pc g K : Nat) (hK : K ≤ 200000) (l : List Int) (k : Nat) (hk : k < l.length) (w : World) (h : LockAt w p pc g K l) :
    Calls Try.prog 43 #[.pointer (some ⟨pc, 0, none⟩), .int .i64 k, .int .u64 0] w fun e w' => e = .returned (.int .i64 0) ∧ LockAt w' p pc g (K + 1) (l.set k (-1)) ∧ w.grownBy w' (some g) := by
  obtain ⟨xs, hB, hC, hx, hs, hl, ht, hn⟩ := h
  obtain ⟨hlx, hget⟩ := words_get hx
  obtain ⟨t, htk⟩ : ∃ t, l[k]? = some t := ⟨l[k], List.getElem?_eq_getElem hk⟩
  obtain ⟨c, hc⟩ := hget k t htk
  have h2 := store_any pc g xs k 0 K (by omega) hs w hC
  refine h2.mono fun e w' ⟨he, hC', hg⟩ => ?_
  rw [errOf_of hc] at he
  refine ⟨he, ⟨_, hB.kept hg (by simpa using hn), hC', ?_, hs.upd _ _, by simpa using hl, mem_set_thr ht k (by omega), hn⟩, hg⟩
  rw [upd_of hc]
  exact map_set_fst xs l k _ _ (-1) rfl hx

theorem drop_none (v : Option Addr) (t : Int) (w : World) (h : LNone w v) :
    Calls Try.prog 17 #[.pointer v, .int .i64 t] w fun e w' => e = .returned (.tuple #[.int .i64 0, .int .i64 1]) ∧ w.grownBy w' none := by
  have hN := fun W hW => lnone_none v W (h.keptN hW)
  go_enter Try.func17, Try.ntmps17
  go_wp2_with fail
  refine (is_any v true w hN).mono ?_
  rintro e w1 ⟨f1, rfl, hg1, hw1⟩
  go_wp2_with fail
  refine (thread_any t w1).mono ?_
  rintro e w2 ⟨f2, rfl, hg2, _⟩
  have hq := Blk.new w2 [f1, .int .i64 1, f2, .int .i64 2] 75
  have hgN := g_alloc hg2 (.cells #[f1, .int .i64 1, f2, .int .i64 2] 75)
  have hA := asked_any w2.heap.size [(f1, 1, true), (f2, 2, false)] (by simp) _ hq (asks_tail rfl (hw1.keptN hgN))
  have HA := hid hA
  clear hA hq hN
  go_wp2_with fail
  refine HA.out.mono ?_
  rintro e w5 ⟨rfl, hg5⟩
  have he : errOfAsks [(f1, 1, true), (f2, 2, false)] = 1 := rfl
  rw [he]
  go_wp2_with fail
  go_ret2
  exact ⟨rfl, g_none (g_none hg1 hgN) hg5⟩

set_option maxHeartbeats 2000000 in
theorem drop_no (p pc g K : Nat) (l : List Int) (t : Int) (hth : thB t = false) (w : World) (h : LockAt w p pc g K l) :
    Calls Try.prog 17 #[.pointer (some ⟨p, 0, none⟩), .int .i64 t] w fun e w' => e = .returned (.tuple #[.int .i64 0, .int .i64 2]) ∧ w.grownBy w' none := by
  have hN := fun W (hW : w.grownBy W none) => lnone_some p pc g K l W (h.keptN hW)
  go_enter Try.func17, Try.ntmps17
  go_wp2_with fail
  refine (is_any _ false w hN).mono ?_
  rintro e w1 ⟨f1, rfl, hg1, hw1⟩
  go_wp2_with fail
  refine (thread_any t w1).mono ?_
  rintro e w2 ⟨f2, rfl, hg2, hw2⟩
  have hq := Blk.new w2 [f1, .int .i64 1, f2, .int .i64 2] 75
  have hgN := g_alloc (g_refl w2 none) (.cells #[f1, .int .i64 1, f2, .int .i64 2] 75)
  have hA := asked_any w2.heap.size [(f1, 1, false), (f2, 2, !thB t)] (by simp) _ hq (fun i f c b hi _ => by
    match i, hi with
    | 0, hi => cases hi; exact hw1.keptN (g_none hg2 hgN)
    | 1, hi => cases hi; exact hw2.keptN hgN
    | i + 2, hi => simp at hi)
  have he : errOfAsks [(f1, 1, false), (f2, 2, !thB t)] = 2 := by rw [hth]; rfl
  rw [he] at hA
  have HA := hid hA
  clear hA hq hN hw1 hw2 he hth
  go_wp2_with fail
  refine HA.out.mono ?_
  rintro e w5 ⟨rfl, hg5⟩
  go_wp2_with fail
  go_ret2
  exact ⟨rfl, g_none (g_none (g_none hg1 hg2) hgN) hg5⟩

set_option maxHeartbeats 2000000 in
theorem drop_yes (p pc g K : Nat) (hK : K ≤ 100000) (l : List Int) (t : Int) (hth : thB t = true) (w : World) (h : LockAt w p pc g K l) :
    Calls Try.prog 17 #[.pointer (some ⟨p, 0, none⟩), .int .i64 t] w fun e w' => e = .returned (.tuple #[.int .i64 (heldL l t).length, .int .i64 0]) ∧ LockAt w' p pc g (K + 64) (dropL l t) ∧ w.grownBy w' (some g) := by
  have hN := fun W (hW : w.grownBy W none) => lnone_some p pc g K l W (h.keptN hW)
  have hhl := heldL_length l t
  have hll := h.len
  obtain ⟨H, hH⟩ : ∃ H, heldL l t = H := ⟨_, rfl⟩
  have hHin : ∀ n ∈ H, ∃ k : Nat, n = k ∧ k < l.length := fun n hn => by
    rw [← hH] at hn
    obtain ⟨k, h1, h2, _⟩ := heldL_in hn
    exact ⟨k, h1, h2⟩
  have HIN := hid hHin
  have HH := hid hH
  rw [hH] at hhl
  clear hH hHin
  go_enter Try.func17, Try.ntmps17
  go_wp2_with fail
  refine (is_any _ false w hN).mono ?_
  rintro e w1 ⟨f1, rfl, hg1, hw1⟩
  go_wp2_with fail
  refine (thread_any t w1).mono ?_
  rintro e w2 ⟨f2, rfl, hg2, hw2⟩
  have hq := Blk.new w2 [f1, .int .i64 1, f2, .int .i64 2] 75
  have hgN := g_alloc (g_refl w2 none) (.cells #[f1, .int .i64 1, f2, .int .i64 2] 75)
  have hA := asked_any w2.heap.size [(f1, 1, false), (f2, 2, !thB t)] (by simp) _ hq (fun i f c b hi _ => by
    match i, hi with
    | 0, hi => cases hi; exact hw1.keptN (g_none hg2 hgN)
    | 1, hi => cases hi; exact hw2.keptN hgN
    | i + 2, hi => simp at hi)
  have he : errOfAsks [(f1, 1, false), (f2, 2, !thB t)] = 0 := by rw [hth]; rfl
  rw [he] at hA
  have HA := hid hA
  clear hA hq hN hw1 hw2 he hth
  go_wp2_with fail
  refine HA.out.mono ?_
  rintro e w5 ⟨rfl, hg5⟩
  have hg6 : w.grownBy w5 none := g_none (g_none (g_none hg1 hg2) hgN) hg5
  have h5 := h.keptN hg6
  clear hg1 hg2 hgN hg5
  go_wp2_with fail
  refine (held_some p pc g K l t w5 h5).mono ?_
  rintro e w7 ⟨v', rfl, hI, hg7, hv7⟩
  have h7 := h5.keptN hg7
  have hg8 : w.grownBy w7 none := g_none hg6 hg7
  have hng : ∀ r, v'.ownBlock = some r → r ≠ g := fun r hr => by
    have h1 := hv7 r hr
    have h2 := h5.lt
    omega
  rw [HH.out] at hI
  obtain ⟨a, cap, rfl, hl1, hcp, hm, hcells⟩ := id hI
  have HC := hid hcells
  have HI := hid hI
  have H7 := hid h7
  have HNG := hid hng
  clear hcells hI h7 hng hv7 h5 hg7 h
  go_wp2_with fail
  go_loopw [24] (fun v24 wr => ∃ j : Nat, j ≤ H.length ∧ v24 = .int .i64 j ∧ LockAt wr p pc g (K + j) (dropN l (H.take j)) ∧ w7.grownBy wr (some g)) (fun v24 _ => H.length - (intOf v24).toNat)
  case atStart => exact ⟨0, Nat.zero_le _, rfl, H7.out, g_refl w7 _⟩
  case round =>
    obtain ⟨j, hj, rfl, hLr, hgr⟩ := hrel
    have hcr := hLr.cell
    by_cases hlt : j < H.length
    · obtain ⟨n, hn⟩ : ∃ n, H[j]? = some n := ⟨H[j], List.getElem?_eq_getElem hlt⟩
      obtain ⟨k, rfl, hk⟩ := HIN.out n (List.mem_of_getElem? hn)
      obtain ⟨ga, off, rfl, hcell⟩ : ∃ ga off, a = some ⟨ga, off, none⟩ ∧ ∀ (i : Nat) (n : Int), H[i]? = some n → w7.cell? ⟨ga, off + i, none⟩ = some (.int .i64 n) := by
        rcases HC.out with ⟨_, rfl⟩ | h
        · simp at hlt
        · exact h
      have d0 : wr.cell? ⟨ga, off + j, none⟩ = some (.int .i64 k) := by
        have h0 := hcell j _ hn
        rw [← h0]
        exact g_cell (a := ⟨ga, _, none⟩) hgr (cell_lt h0) (by simpa using (HNG.out ga rfl))
      have hlen := dropN_length l (H.take j)
      have htk : H.take (j + 1) = H.take j ++ [(k : Int)] := by
        rw [List.take_add_one, hn]; rfl
      have hst : dropN l (H.take (j + 1)) = (dropN l (H.take j)).set k (-1) := by rw [htk, dropN_snoc]; simp
      have hS := lstore p pc g (K + j) (by omega) (dropN l (H.take j)) k (by omega) wr hLr
      have HST := hid hst
      have HS := hid hS
      clear hn hcell hlen htk hst hS
      go_wp2_with fail
      refine HS.out.mono ?_
      rintro e w8 ⟨rfl, hL8, hg8'⟩
      go_wp2_with fail
      go_roundw
      case rel => exact ⟨j + 1, by omega, by go_num, by rw [HST.out]; exact hL8, g_trans hgr hg8' (fun r e => .inl e)⟩
      case measure => simp [intOf]; omega
    · obtain rfl : j = H.length := by omega
      have hfin : dropN l (H.take H.length) = dropL l t := by rw [List.take_length, dropL, HH.out]
      have HF := hid hfin
      clear hfin
      go_wp2_with fail
      go_ret2
      exact ⟨by rw [HH.out]; rfl, by rw [← HF.out]; exact hLr.more (by omega), g_trans (g_weak hg8) hgr (fun r e => .inl e)⟩
end Go.Proofs.Ytnpimkigiioiaaa
