/-
  Try.
-/
import Derived.Test.YtnpimkigiioiaaaLockDo
import Derived.Test.YtnpimkigiioiaaaStage
namespace Go.Proofs.Ytnpimkigiioiaaa
open Go.RowKit
set_option maxRecDepth 100000

def tryE (l : List Int) (t n : Int) : Int := if thB t then (if inL l n then (if ordB l t n then 220 else 0) else 4) else 2
def atB (l : List Int) (k : Nat) (a : Int) : Bool := l.getD k 0 == a
def swapL (l : List Int) (k : Nat) (a b : Int) : List Int := if atB l k a then l.set k b else l
def tryB (l : List Int) (t n : Int) : Bool := (tryE l t n == 0) && atB l n.toNat (-1)
def tryL (l : List Int) (t n : Int) : List Int := if tryB l t n then l.set n.toNat t else l

theorem inL_nat {l : List Int} {n : Int} (h : inL l n = true) : ∃ k : Nat, n = k ∧ k < l.length := by
  have h' : 0 ≤ n ∧ n < (l.length : Int) := by simpa [inL] using h
  exact ⟨n.toNat, by omega, by omega⟩
theorem thB_iff {t : Int} : thB t = true ↔ 0 ≤ t ∧ t < 4 := by simp [thB]
theorem map_set_fst (xs : List (Int × Int)) (l : List Int) (k : Nat) (u c : Int) (t : Int) (hu : u = t + 1) (h : xs.map Prod.fst = l.map (· + 1)) : (xs.set k (u, c)).map Prod.fst = (l.set k t).map (· + 1) := by
  rw [List.map_set, List.map_set, h, hu]
theorem mem_set_thr {l : List Int} (h : ∀ t ∈ l, -1 ≤ t ∧ t < 4) (k : Nat) {u : Int} (hu : -1 ≤ u ∧ u < 4) : ∀ t ∈ l.set k u, -1 ≤ t ∧ t < 4 := by
  intro t ht
  rcases List.mem_or_eq_of_mem_set ht with h1 | rfl
  · exact h t h1
  · exact hu

/-- The cells' swap, of locks. -/
theorem lswap (p pc g K : Nat) (hK : K ≤ 100000) (l : List Int) (k : Nat) (hk : k < l.length) (a b : Int) (ha : -1 ≤ a ∧ a < 4) (hb : -1 ≤ b ∧ b < 4) (w : World) (h : LockAt w p pc g K l) :
    Calls Try.prog 41 #[.pointer (some ⟨pc, 0, none⟩), .int .i64 k, .int .u64 (a + 1), .int .u64 (b + 1)] w fun e w' => e = .returned (.tuple #[.bool (atB l k a), .int .i64 0]) ∧ LockAt w' p pc g (K + 1) (swapL l k a b) ∧ w.grownBy w' (some g) := by
  have hne := h.ne
  obtain ⟨xs, hB, hC, hx, hs, hl, ht, hn⟩ := h
  obtain ⟨hlx, hget⟩ := words_get hx
  obtain ⟨t, htk⟩ : ∃ t, l[k]? = some t := ⟨l[k], List.getElem?_eq_getElem hk⟩
  obtain ⟨c, hc⟩ := hget k t htk
  have hgd : l.getD k 0 = t := by simp [htk]
  have h2 := swap_any pc g xs k (a + 1) (b + 1) K (by omega) hs w hC
  have hin := inR_of hc
  have hwo := wordOf_of hc
  have herr := errOf_of hc
  refine h2.mono fun e w' ⟨he, hC', hg⟩ => ?_
  have hsw : swB xs k (a + 1) = atB l k a := by
    rw [swB, hin, hwo, atB, hgd, Bool.true_and, Bool.eq_iff_iff]
    simp
  rw [hsw, herr] at he
  rw [swp, hsw] at hC'
  have hSm : Small (if atB l k a = true then upd xs k (b + 1) else xs) (K + 1) := by
    split
    · exact hs.upd _ _
    · exact hs.more (by omega)
  refine ⟨he, ⟨_, hB.kept hg (by simpa using hn), hC', ?_, hSm, ?_, ?_, hn⟩, hg⟩
  · unfold swapL
    split
    · rw [upd_of hc]; exact map_set_fst xs l k _ _ b rfl hx
    · exact hx
  · unfold swapL
    split
    · simpa using hl
    · exact hl
  · unfold swapL
    split
    · exact mem_set_thr ht k hb
    · exact ht

theorem g_drew' {w w1 : World} {row : Option Nat} (h : w.drew.grownBy w1 row) : w.grownBy w1 row := ⟨h.os, h.tape, h.output, h.size, h.block⟩
theorem asks_tail {w : World} {qs : List (Value × Int × Bool)} {f0 : Value} {c0 : Int} (h0 : qs[0]? = some (f0, c0, true)) (hw : WrongAt w f0 true) : ∀ (i : Nat) (f : Value) (c : Int) (b : Bool), qs[i]? = some (f, c, b) → (∀ (j : Nat) (x : Value × Int × Bool), j < i → qs[j]? = some x → x.2.2 = false) → WrongAt w f b := by
  intro i f c b hi hall
  match i with
  | 0 => rw [h0] at hi; cases hi; exact hw
  | i + 1 => exact absurd (hall 0 _ (by omega) h0) (by simp)

set_option maxHeartbeats 1000000 in
theorem try_none (v : Option Addr) (t n : Int) (w : World) (h : LNone w v) :
    Calls Try.prog 15 #[.pointer v, .int .i64 t, .int .i64 n] w fun e w' => e = .returned (.tuple #[.bool false, .int .i64 1]) ∧ w.grownBy w' none := by
  have hN := fun W hW => lnone_none v W (h.keptN hW)
  go_enter Try.func15, Try.ntmps15
  go_wp2_with fail
  refine (is_any v true w hN).mono ?_
  rintro e w1 ⟨f1, rfl, hg1, hw1⟩
  go_wp2_with fail
  refine (thread_any t w1).mono ?_
  rintro e w2 ⟨f2, rfl, hg2, _⟩
  go_wp2_with fail
  refine (rank_any v n w2).mono ?_
  rintro e w3 ⟨f3, rfl, hg3, _⟩
  go_wp2_with fail
  refine (order_any v t n w3).mono ?_
  rintro e w4 ⟨f4, rfl, hg4, _⟩
  have hg : w1.grownBy w4 none := g_none (g_none hg2 hg3) hg4
  have hq := Blk.new w4 [f1, .int .i64 1, f2, .int .i64 2, f3, .int .i64 4, f4, .int .i64 220] 75
  have hgN := g_alloc hg (.cells #[f1, .int .i64 1, f2, .int .i64 2, f3, .int .i64 4, f4, .int .i64 220] 75)
  have hA := asked_any w4.heap.size [(f1, 1, true), (f2, 2, false), (f3, 4, false), (f4, 220, false)] (by simp) _ hq (asks_tail rfl (hw1.keptN hgN))
  have HA := hid hA
  clear hA hq hN
  go_wp2_with fail
  refine HA.out.mono ?_
  rintro e w5 ⟨rfl, hg5⟩
  have he : errOfAsks [(f1, 1, true), (f2, 2, false), (f3, 4, false), (f4, 220, false)] = 1 := rfl
  rw [he]
  go_wp2_with fail
  go_ret2
  exact ⟨rfl, g_none (g_none hg1 hgN) hg5⟩

set_option maxHeartbeats 2000000 in
theorem try_some (p pc g K : Nat) (hK : K ≤ 100000) (l : List Int) (t n : Int) (w : World) (h : LockAt w p pc g K l) :
    Calls Try.prog 15 #[.pointer (some ⟨p, 0, none⟩), .int .i64 t, .int .i64 n] w fun e w' => e = .returned (.tuple #[.bool (tryB l t n), .int .i64 (tryE l t n)]) ∧ LockAt w' p pc g (K + 1) (tryL l t n) ∧ w.grownBy w' (some g) := by
  have hN := fun W (hW : w.grownBy W none) => lnone_some p pc g K l W (h.keptN hW)
  obtain ⟨E, hE⟩ : ∃ E, tryE l t n = E := ⟨_, rfl⟩
  have HE := hid hE
  clear hE
  go_enter Try.func15, Try.ntmps15
  go_wp2_with fail
  refine (is_any _ false w hN).mono ?_
  rintro e w1 ⟨f1, rfl, hg1, hw1⟩
  go_wp2_with fail
  refine (thread_any t w1).mono ?_
  rintro e w2 ⟨f2, rfl, hg2, hw2⟩
  go_wp2_with fail
  refine (rank_any _ n w2).mono ?_
  rintro e w3 ⟨f3, rfl, hg3, hw3⟩
  go_wp2_with fail
  refine (order_any _ t n w3).mono ?_
  rintro e w4 ⟨f4, rfl, hg4, hw4⟩
  have hgB : w.grownBy w3 none := g_none (g_none hg1 hg2) hg3
  have hgC : w.grownBy w4 none := g_none hgB hg4
  have hq := Blk.new w4 [f1, .int .i64 1, f2, .int .i64 2, f3, .int .i64 4, f4, .int .i64 220] 75
  have hgN := g_alloc (g_refl w4 none) (.cells #[f1, .int .i64 1, f2, .int .i64 2, f3, .int .i64 4, f4, .int .i64 220] 75)
  have hA := asked_any w4.heap.size [(f1, 1, false), (f2, 2, !thB t), (f3, 4, !inL l n), (f4, 220, ordB l t n)] (by simp) _ hq (fun i f c b hi _ => by
    match i, hi with
    | 0, hi => cases hi; exact hw1.keptN (g_none (g_none (g_none hg2 hg3) hg4) hgN)
    | 1, hi => cases hi; exact hw2.keptN (g_none (g_none hg3 hg4) hgN)
    | 2, hi => cases hi; exact (hw3 p pc g K l rfl (h.keptN (g_none hg1 hg2))).keptN (g_none hg4 hgN)
    | 3, hi => cases hi; exact (hw4 p pc g K l rfl (h.keptN hgB)).keptN hgN
    | i + 4, hi => simp at hi)
  have he : errOfAsks [(f1, 1, false), (f2, 2, !thB t), (f3, 4, !inL l n), (f4, 220, ordB l t n)] = tryE l t n := by
    simp only [errOfAsks, tryE]
    cases thB t <;> cases inL l n <;> cases ordB l t n <;> rfl
  rw [he, HE.out] at hA
  have HA := hid hA
  have hgF := g_none hgC hgN
  clear hA hq hN hw1 hw2 hw3 hw4 he
  by_cases hz : E = 0
  · subst hz
    have hth : thB t = true := by
      have h1 := HE.out; unfold tryE at h1; by_cases hh : thB t = true
      · exact hh
      · rw [if_neg hh] at h1; cases h1
    have hin : inL l n = true := by
      have h1 := HE.out; unfold tryE at h1; rw [if_pos hth] at h1; by_cases hh : inL l n = true
      · exact hh
      · rw [if_neg hh] at h1; cases h1
    obtain ⟨k, rfl, hk⟩ := inL_nat hin
    have htb := thB_iff.1 hth
    have hB : tryB l t k = atB l k (-1) := by
      simp [tryB, HE.out]
    have HB := hid hB
    have HTH := hid hth
    clear hB hin hth
    go_wp2_with fail
    refine HA.out.mono ?_
    rintro e w5 ⟨rfl, hg5⟩
    have hg6 := g_none hgF hg5
    have h5 := h.keptN hg6
    have hc5 := h5.cell
    have hS := lswap p pc g K hK l k hk (-1) t (by omega) (by omega) w5.drew (h5.keptN (g_drew (g_refl w5 none)))
    have HS := hid hS
    clear hS
    go_wp2_with fail
    refine wp_of_in (wpIn_region_stages (r := none) [(8, 1), (2, 2)] (by kernel_rfl) (by kernel_rfl) (by kernel_rfl) (by kernel_rfl) ?_)
    simp only [stagesP, List.take_succ_cons, List.take_zero, List.drop_succ_cons, List.drop_zero]
    repeat still_step
    still_call (mine_any t HTH.out _)
    refine wpStill_nil ?_
    change wpListIn Fence.wide 10 _ _ _ _ _ w5.drew
    gi_wp2_with fail
    refine (callsIn_wide.2 HS.out).mono ?_
    rintro e w6 ⟨rfl, hL6, hg7⟩
    gi_wp2_with fail
    repeat still_step
    refine wpStill_nil ?_
    change wpListIn Fence.wide 10 _ _ _ _ _ w6
    gi_wp2_with fail
    go_wp2_with fail
    go_ret2
    exact ⟨by rw [HB.out, HE.out]; rfl, by rw [tryL, HB.out]; exact hL6, g_trans (g_weak hg6) (g_drew' hg7) (fun r e => .inl e)⟩
  · have hB : tryB l t n = false := by
      simp [tryB, HE.out, hz]
    have HB := hid hB
    clear hB
    go_wp2_with fail
    refine HA.out.mono ?_
    rintro e w5 ⟨rfl, hg5⟩
    have hg6 := g_none hgF hg5
    go_wp2_with fail
    go_ret2
    exact ⟨by rw [HB.out, HE.out]; rfl, by rw [tryL, HB.out]; exact (h.keptN hg6).more (by omega), g_weak hg6⟩
end Go.Proofs.Ytnpimkigiioiaaa
