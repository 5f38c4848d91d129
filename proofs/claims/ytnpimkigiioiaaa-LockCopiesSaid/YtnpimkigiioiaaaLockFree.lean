/-
  Free, Drop, Holder, Copy, New.
-/
import Derived.Test.YtnpimkigiioiaaaLockTry
import Derived.Deep.RegionHeld3
namespace Go.Proofs.Ytnpimkigiioiaaa
open Go.RowKit
set_option maxRecDepth 100000

def askE (l : List Int) (t n : Int) : Int := if thB t then (if inL l n then 0 else 4) else 2
def freeE (l : List Int) (t n : Int) : Int := if askE l t n == 0 then (if atB l n.toNat t then 0 else 221) else askE l t n
def freeL (l : List Int) (t n : Int) : List Int := if askE l t n == 0 then swapL l n.toNat t (-1) else l

set_option maxHeartbeats 1000000 in
theorem free_none (v : Option Addr) (t n : Int) (w : World) (h : LNone w v) :
    Calls Try.prog 16 #[.pointer v, .int .i64 t, .int .i64 n] w fun e w' => e = .returned (.int .i64 1) ∧ w.grownBy w' none := by
  have hN := fun W hW => lnone_none v W (h.keptN hW)
  go_enter Try.func16, Try.ntmps16
  go_wp2_with fail
  refine (is_any v true w hN).mono ?_
  rintro e w1 ⟨f1, rfl, hg1, hw1⟩
  go_wp2_with fail
  refine (thread_any t w1).mono ?_
  rintro e w2 ⟨f2, rfl, hg2, _⟩
  go_wp2_with fail
  refine (rank_any v n w2).mono ?_
  rintro e w3 ⟨f3, rfl, hg3, _⟩
  have hg : w1.grownBy w3 none := g_none hg2 hg3
  have hq := Blk.new w3 [f1, .int .i64 1, f2, .int .i64 2, f3, .int .i64 4] 75
  have hgN := g_alloc hg (.cells #[f1, .int .i64 1, f2, .int .i64 2, f3, .int .i64 4] 75)
  have hA := asked_any w3.heap.size [(f1, 1, true), (f2, 2, false), (f3, 4, false)] (by simp) _ hq (asks_tail rfl (hw1.keptN hgN))
  have HA := hid hA
  clear hA hq hN
  go_wp2_with fail
  refine HA.out.mono ?_
  rintro e w5 ⟨rfl, hg5⟩
  have he : errOfAsks [(f1, 1, true), (f2, 2, false), (f3, 4, false)] = 1 := rfl
  rw [he]
  go_wp2_with fail
  go_ret
  exact ⟨rfl, g_none (g_none hg1 hgN) hg5⟩

set_option maxHeartbeats 2000000 in
theorem free_some (p pc g K : Nat) (hK : K ≤ 100000) (l : List Int) (t n : Int) (w : World) (h : LockAt w p pc g K l) :
    Calls Try.prog 16 #[.pointer (some ⟨p, 0, none⟩), .int .i64 t, .int .i64 n] w fun e w' => e = .returned (.int .i64 (freeE l t n)) ∧ LockAt w' p pc g (K + 1) (freeL l t n) ∧ w.grownBy w' (some g) := by
  have hN := fun W (hW : w.grownBy W none) => lnone_some p pc g K l W (h.keptN hW)
  obtain ⟨E, hE⟩ : ∃ E, askE l t n = E := ⟨_, rfl⟩
  have HE := hid hE
  clear hE
  go_enter Try.func16, Try.ntmps16
  go_wp2_with fail
  refine (is_any _ false w hN).mono ?_
  rintro e w1 ⟨f1, rfl, hg1, hw1⟩
  go_wp2_with fail
  refine (thread_any t w1).mono ?_
  rintro e w2 ⟨f2, rfl, hg2, hw2⟩
  go_wp2_with fail
  refine (rank_any _ n w2).mono ?_
  rintro e w3 ⟨f3, rfl, hg3, hw3⟩
  have hgC : w.grownBy w3 none := g_none (g_none hg1 hg2) hg3
  have hq := Blk.new w3 [f1, .int .i64 1, f2, .int .i64 2, f3, .int .i64 4] 75
  have hgN := g_alloc (g_refl w3 none) (.cells #[f1, .int .i64 1, f2, .int .i64 2, f3, .int .i64 4] 75)
  have hA := asked_any w3.heap.size [(f1, 1, false), (f2, 2, !thB t), (f3, 4, !inL l n)] (by simp) _ hq (fun i f c b hi _ => by
    match i, hi with
    | 0, hi => cases hi; exact hw1.keptN (g_none (g_none hg2 hg3) hgN)
    | 1, hi => cases hi; exact hw2.keptN (g_none hg3 hgN)
    | 2, hi => cases hi; exact (hw3 p pc g K l rfl (h.keptN (g_none hg1 hg2))).keptN hgN
    | i + 3, hi => simp at hi)
  have he : errOfAsks [(f1, 1, false), (f2, 2, !thB t), (f3, 4, !inL l n)] = askE l t n := by
    simp only [errOfAsks, askE]
    cases thB t <;> cases inL l n <;> rfl
  rw [he, HE.out] at hA
  have HA := hid hA
  have hgF := g_none hgC hgN
  clear hA hq hN hw1 hw2 hw3 he
  by_cases hz : E = 0
  · subst hz
    have hth : thB t = true := by
      have h1 := HE.out; unfold askE at h1; by_cases hh : thB t = true
      · exact hh
      · rw [if_neg hh] at h1; cases h1
    have hin : inL l n = true := by
      have h1 := HE.out; unfold askE at h1; rw [if_pos hth] at h1; by_cases hh : inL l n = true
      · exact hh
      · rw [if_neg hh] at h1; cases h1
    obtain ⟨k, rfl, hk⟩ := inL_nat hin
    have htb := thB_iff.1 hth
    have hB : freeE l t k = if atB l k t then 0 else 221 := by
      simp [freeE, HE.out]
    have hL : freeL l t k = swapL l k t (-1) := by
      simp [freeL, HE.out]
    have HB := hid hB
    have HL := hid hL
    have HTH := hid hth
    clear hB hin hth hL
    go_wp2_with fail
    refine HA.out.mono ?_
    rintro e w5 ⟨rfl, hg5⟩
    have hg6 := g_none hgF hg5
    have h5 := h.keptN hg6
    have hc5 := h5.cell
    have hS := lswap p pc g K hK l k hk t (-1) (by omega) (by omega) w5.drew (h5.keptN (g_drew (g_refl w5 none)))
    have HS := hid hS
    clear hS
    go_wp2_with fail
    go_region_with (first | (go_at_call 42; refine (mine_any t HTH.out _).mono ?_; rintro e _ ⟨rfl, rfl⟩) | (go_at_call 41; refine HS.out.mono ?_; rintro e w6 ⟨rfl, hL6, hg7⟩) | fail)
    all_goals (
      have hgE := g_trans (g_weak hg6) (g_drew' hg7) (fun r e => .inl e)
      cases hb : atB l k t with
      | true =>
        go_wp2_with fail
        go_ret
        exact ⟨by rw [HB.out, hb]; rfl, by rw [HL.out]; exact hL6, hgE⟩
      | false =>
        go_wp2_with fail
        go_ret
        exact ⟨by rw [HB.out, hb]; rfl, by rw [HL.out]; exact hL6, hgE⟩)
  · have hB : freeE l t n = E := by
      simp [freeE, HE.out, hz]
    have hL : freeL l t n = l := by
      simp [freeL, HE.out, hz]
    have HB := hid hB
    have HL := hid hL
    clear hB hL
    go_wp2_with fail
    refine HA.out.mono ?_
    rintro e w5 ⟨rfl, hg5⟩
    have hg6 := g_none hgF hg5
    go_wp2_with fail
    go_ret
    exact ⟨by rw [HB.out]; rfl, by rw [HL.out]; exact (h.keptN hg6).more (by omega), g_weak hg6⟩
end Go.Proofs.Ytnpimkigiioiaaa
