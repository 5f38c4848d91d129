/-
  CellPlays, walked.
-/
import Derived.Test.YthoelbildokmpaaCellAct
import Derived.Test.YthoelbildokmpaaCellHolds
namespace Go.Proofs.Ythoelbildokmpaa
open Go.RowKit

/-- None: no address, or cells that were never made. -/
def NoneAt (w : World) (v : Option Addr) : Prop := v = none ∨ ∃ p, v = some ⟨p, 0, none⟩ ∧ Blk w p 47 [.slice none 0 0, .bool false]
theorem NoneAt.isNone {w : World} {v : Option Addr} (h : NoneAt w v) : IsNone w v := h.imp id fun ⟨p, hv, hb⟩ => ⟨p, hv, hb.cellOf rfl⟩
theorem NoneAt.keptN {w w' : World} {v : Option Addr} (h : NoneAt w v) (hg : w.grownBy w' none) : NoneAt w' v := h.imp id fun ⟨p, hv, hb⟩ => ⟨p, hv, hb.keptN hg⟩
theorem NoneAt.kept_cells {w w' : World} {v : Option Addr} {xs : List (Int × Int)} {p g : Nat} (h : NoneAt w v) (hc : CellsAt w p g xs) (hg : w.grownBy w' (some g)) : NoneAt w' v := h.imp id fun ⟨q, hv, hb⟩ => ⟨q, hv, hb.kept hg (fun e => by
  obtain ⟨cap2, tail2, _, hb2, _⟩ := hc
  have : q = g := by simpa using e
  subst this
  have := (show w.heap[q]? = _ from hb).symm.trans hb2
  simp at this)⟩

set_option maxRecDepth 100000 in
set_option maxHeartbeats 4000000 in
theorem plays_even (n : Nat) (hn : n ≤ 1024) (a0 : Option Addr) (len0 cap0 : Nat) (A : Nat → Nat → Int) (w : World) (hA : ActsAt w a0 len0 A) (hl0 : len0 ≤ 60) (hpar : (((len0 : Int) % 2) == 1) = false) :
    Calls Try.prog 4 #[.int .i64 n, .slice a0 len0 cap0] w fun e w' => e = .returned (.bool true) ∧ w.grownBy w' none := by
  have HA := hid hA
  clear hA
  go_enter Try.func4, Try.ntmps4
  go_wp2_with fail
  refine (new_yes n hn w).mono ?_
  rintro e w1 ⟨p, g, rfl, hc1, hg1, hp1, hgg1⟩
  go_wp2_with fail
  refine (refNew_yes n hn w1).mono ?_
  rintro e w2 ⟨v, rfl, hl2, hg2⟩
  replace hc1 := hc1.keptN hg2
  replace hg2 : w.grownBy w2 none := g_none hg1 hg2
  have hN3 : NoneAt w2 none := .inl rfl
  have HB := hid hgg1
  clear hg1 hgg1 hp1
  go_wp2_with fail
  refine (load_none none 0 _ hN3.isNone).mono ?_
  rintro e _ ⟨rfl, rfl⟩
  go_wp2_with fail
  refine (swap_none none 0 0 1 _ hN3.isNone).mono ?_
  rintro e w4 ⟨rfl, hg4⟩
  replace hN3 := hN3.keptN hg4
  replace hc1 := hc1.keptN hg4
  replace hl2 := hl2.keptN hg4
  replace hg4 := g_none hg2 hg4
  clear hg2
  go_wp2_with fail
  refine (count_none none 0 _ hN3.isNone).mono ?_
  rintro e _ ⟨rfl, rfl⟩
  go_wp2_with fail
  refine (num_any _ _).mono ?_
  rintro e _ ⟨rfl, rfl⟩
  go_wp2_with fail
  refine (num_any _ _).mono ?_
  rintro e _ ⟨rfl, rfl⟩
  go_wp2_with fail
  refine (num_any _ _).mono ?_
  rintro e _ ⟨rfl, rfl⟩
  go_wp2_with fail
  refine (store_none none 0 1 _ hN3.isNone).mono ?_
  rintro e w5 ⟨rfl, hg5⟩
  replace hN3 := hN3.keptN hg5
  replace hc1 := hc1.keptN hg5
  replace hl2 := hl2.keptN hg5
  replace hg5 := g_none hg4 hg5
  clear hg4
  go_wp2_with fail
  refine (num_any _ _).mono ?_
  rintro e _ ⟨rfl, rfl⟩
  go_wp2_with fail
  refine (len_none none _ hN3.isNone).mono ?_
  rintro e _ ⟨rfl, rfl⟩
  go_wp2_with fail
  refine (all_any none [] (by simp) 9 (by omega) (by omega) _ (.inl ⟨hN3.isNone, rfl⟩)).mono ?_
  rintro e w6 ⟨vz, rfl, ⟨az, capz, rfl, _, _⟩, hg6⟩
  replace hN3 := hN3.keptN hg6
  replace hc1 := hc1.keptN hg6
  replace hl2 := hl2.keptN hg6
  replace hg6 := g_none hg5 hg6
  clear hg5
  simp only [nz, List.take_nil, pairs, List.map_nil, List.length_nil]
  go_wp2_with fail
  refine (copy_none none _ hN3.isNone).mono ?_
  rintro e _ ⟨rfl, rfl⟩
  go_wp2_with fail
  refine (same_nn none none _ hN3.isNone (.inl rfl)).mono ?_
  rintro e _ ⟨rfl, rfl⟩
  go_wp2_with fail
  go_loopw [5, 7, 16] (fun v5 v7 v16 wr => ∃ (k p g : Nat) (xs : List (Int × Int)), k ≤ len0 ∧ v16 = .int .i64 k ∧ v5 = .pointer (some ⟨p, 0, none⟩) ∧ CellsAt wr p g xs ∧ ListAt wr 82 v7 xs ∧ Small xs k ∧ xs.length ≤ 1024 ∧ w.grownBy wr none ∧ w.heap.size ≤ g ∧ NoneAt wr none) (fun _ _ v16 _ => len0 - (intOf v16).toNat)
  case atStart => exact ⟨0, p, g, _, Nat.zero_le _, rfl, rfl, hc1, hl2, Small.zero n, by simpa using hn, hg6, HB.out, hN3⟩
  case round =>
    obtain ⟨k, p, g, xs, hk, rfl, rfl, hc, hl, hs, hx, hg, hgg, hN⟩ := hrel
    clear hc1 hl2 hg6 hN3
    by_cases hlt : k < len0
    · obtain ⟨b, off, rfl, hcell⟩ := (HA.out.kept hg) (by omega)
      obtain ⟨e0, e1, e2, e3⟩ := hcell k hlt
      clear hcell
      go_wp2_with fail
      refine (act_any p g _ xs hx k (by omega) hs (A k 0) (A k 1) (A k 2) (A k 3) wr hc hl).mono ?_
      rintro e w7 ⟨p', g', v', rfl, hc7, hl7, hg7, hor⟩
      go_wp2
      go_roundw
      case rel =>
        refine ⟨k + 1, p', g', _, by omega, by go_num, rfl, hc7, hl7, hs.act _ _ _ _, by rw [actL_length]; exact hx, g_new hg hg7 hgg, ?_, hN.kept_cells hc hg7⟩
        rcases hor with ⟨_, rfl⟩ | ⟨_, h2⟩
        · exact hgg
        · exact Nat.le_trans hg.size h2
      case measure => simp [intOf]; omega
    · obtain rfl : k = len0 := by omega
      go_wp2_with fail
      refine (num_any _ _).mono ?_
      rintro e _ ⟨rfl, rfl⟩
      go_wp2_with fail
      refine (is_true p g _ xs hx _ hc hl).mono ?_
      rintro e w8 ⟨rfl, hg8⟩
      replace hN := hN.keptN hg8
      replace hc := hc.keptN hg8
      replace hg8 := g_none hg hg8
      go_wp2_with fail
      refine (same_sn none p g xs _ hc hN.isNone).mono ?_
      rintro e _ ⟨rfl, rfl⟩
      go_wp2_with fail
      refine (same_ns none p g xs _ hN.isNone hc).mono ?_
      rintro e _ ⟨rfl, rfl⟩
      go_wp2_with fail
      refine (works_true _).mono ?_
      rintro e w9 ⟨rfl, hg9⟩
      go_wp2
      go_ret
      exact ⟨rfl, g_none hg8 hg9⟩

set_option maxRecDepth 100000 in
set_option maxHeartbeats 4000000 in
theorem plays_odd (n : Nat) (hn : n ≤ 1024) (a0 : Option Addr) (len0 cap0 : Nat) (A : Nat → Nat → Int) (w : World) (hA : ActsAt w a0 len0 A) (hl0 : len0 ≤ 60) (hpar : (((len0 : Int) % 2) == 1) = true) :
    Calls Try.prog 4 #[.int .i64 n, .slice a0 len0 cap0] w fun e w' => e = .returned (.bool true) ∧ w.grownBy w' none := by
  have HA := hid hA
  clear hA
  go_enter Try.func4, Try.ntmps4
  go_wp2_with fail
  refine (new_yes n hn w).mono ?_
  rintro e w1 ⟨p, g, rfl, hc1, hg1, hp1, hgg1⟩
  go_wp2_with fail
  refine (refNew_yes n hn w1).mono ?_
  rintro e w2 ⟨v, rfl, hl2, hg2⟩
  replace hc1 := hc1.keptN hg2
  replace hg2 : w.grownBy w2 none := g_none hg1 hg2
  have hgB : w2.grownBy (w2.alloc (.cells #[.slice none 0 0, .bool false] 47)) none := g_alloc (g_refl w2 _) _
  have hN3 : NoneAt (w2.alloc (.cells #[.slice none 0 0, .bool false] 47)) (some ⟨w2.heap.size, 0, none⟩) := .inr ⟨w2.heap.size, rfl, Blk.new w2 [.slice none 0 0, .bool false] 47⟩
  replace hc1 := hc1.keptN hgB
  replace hl2 := hl2.keptN hgB
  replace hg2 := g_none hg2 hgB
  have HB := hid hgg1
  clear hg1 hgg1 hp1
  go_wp2_with fail
  refine (load_none (some ⟨w2.heap.size, 0, none⟩) 0 _ hN3.isNone).mono ?_
  rintro e _ ⟨rfl, rfl⟩
  go_wp2_with fail
  refine (swap_none (some ⟨w2.heap.size, 0, none⟩) 0 0 1 _ hN3.isNone).mono ?_
  rintro e w4 ⟨rfl, hg4⟩
  replace hN3 := hN3.keptN hg4
  replace hc1 := hc1.keptN hg4
  replace hl2 := hl2.keptN hg4
  replace hg4 := g_none hg2 hg4
  clear hg2
  go_wp2_with fail
  refine (count_none (some ⟨w2.heap.size, 0, none⟩) 0 _ hN3.isNone).mono ?_
  rintro e _ ⟨rfl, rfl⟩
  go_wp2_with fail
  refine (num_any _ _).mono ?_
  rintro e _ ⟨rfl, rfl⟩
  go_wp2_with fail
  refine (num_any _ _).mono ?_
  rintro e _ ⟨rfl, rfl⟩
  go_wp2_with fail
  refine (num_any _ _).mono ?_
  rintro e _ ⟨rfl, rfl⟩
  go_wp2_with fail
  refine (store_none (some ⟨w2.heap.size, 0, none⟩) 0 1 _ hN3.isNone).mono ?_
  rintro e w5 ⟨rfl, hg5⟩
  replace hN3 := hN3.keptN hg5
  replace hc1 := hc1.keptN hg5
  replace hl2 := hl2.keptN hg5
  replace hg5 := g_none hg4 hg5
  clear hg4
  go_wp2_with fail
  refine (num_any _ _).mono ?_
  rintro e _ ⟨rfl, rfl⟩
  go_wp2_with fail
  refine (len_none (some ⟨w2.heap.size, 0, none⟩) _ hN3.isNone).mono ?_
  rintro e _ ⟨rfl, rfl⟩
  go_wp2_with fail
  refine (all_any (some ⟨w2.heap.size, 0, none⟩) [] (by simp) 9 (by omega) (by omega) _ (.inl ⟨hN3.isNone, rfl⟩)).mono ?_
  rintro e w6 ⟨vz, rfl, ⟨az, capz, rfl, _, _⟩, hg6⟩
  replace hN3 := hN3.keptN hg6
  replace hc1 := hc1.keptN hg6
  replace hl2 := hl2.keptN hg6
  replace hg6 := g_none hg5 hg6
  clear hg5
  simp only [nz, List.take_nil, pairs, List.map_nil, List.length_nil]
  go_wp2_with fail
  refine (copy_none (some ⟨w2.heap.size, 0, none⟩) _ hN3.isNone).mono ?_
  rintro e _ ⟨rfl, rfl⟩
  go_wp2_with fail
  refine (same_nn (some ⟨w2.heap.size, 0, none⟩) none _ hN3.isNone (.inl rfl)).mono ?_
  rintro e _ ⟨rfl, rfl⟩
  go_wp2_with fail
  go_loopw [5, 7, 16] (fun v5 v7 v16 wr => ∃ (k p g : Nat) (xs : List (Int × Int)), k ≤ len0 ∧ v16 = .int .i64 k ∧ v5 = .pointer (some ⟨p, 0, none⟩) ∧ CellsAt wr p g xs ∧ ListAt wr 82 v7 xs ∧ Small xs k ∧ xs.length ≤ 1024 ∧ w.grownBy wr none ∧ w.heap.size ≤ g ∧ NoneAt wr (some ⟨w2.heap.size, 0, none⟩)) (fun _ _ v16 _ => len0 - (intOf v16).toNat)
  case atStart => exact ⟨0, p, g, _, Nat.zero_le _, rfl, rfl, hc1, hl2, Small.zero n, by simpa using hn, hg6, HB.out, hN3⟩
  case round =>
    obtain ⟨k, p, g, xs, hk, rfl, rfl, hc, hl, hs, hx, hg, hgg, hN⟩ := hrel
    clear hc1 hl2 hg6 hN3
    by_cases hlt : k < len0
    · obtain ⟨b, off, rfl, hcell⟩ := (HA.out.kept hg) (by omega)
      obtain ⟨e0, e1, e2, e3⟩ := hcell k hlt
      clear hcell
      go_wp2_with fail
      refine (act_any p g _ xs hx k (by omega) hs (A k 0) (A k 1) (A k 2) (A k 3) wr hc hl).mono ?_
      rintro e w7 ⟨p', g', v', rfl, hc7, hl7, hg7, hor⟩
      go_wp2
      go_roundw
      case rel =>
        refine ⟨k + 1, p', g', _, by omega, by go_num, rfl, hc7, hl7, hs.act _ _ _ _, by rw [actL_length]; exact hx, g_new hg hg7 hgg, ?_, hN.kept_cells hc hg7⟩
        rcases hor with ⟨_, rfl⟩ | ⟨_, h2⟩
        · exact hgg
        · exact Nat.le_trans hg.size h2
      case measure => simp [intOf]; omega
    · obtain rfl : k = len0 := by omega
      go_wp2_with fail
      refine (num_any _ _).mono ?_
      rintro e _ ⟨rfl, rfl⟩
      go_wp2_with fail
      refine (is_true p g _ xs hx _ hc hl).mono ?_
      rintro e w8 ⟨rfl, hg8⟩
      replace hN := hN.keptN hg8
      replace hc := hc.keptN hg8
      replace hg8 := g_none hg hg8
      go_wp2_with fail
      refine (same_sn (some ⟨w2.heap.size, 0, none⟩) p g xs _ hc hN.isNone).mono ?_
      rintro e _ ⟨rfl, rfl⟩
      go_wp2_with fail
      refine (same_ns (some ⟨w2.heap.size, 0, none⟩) p g xs _ hN.isNone hc).mono ?_
      rintro e _ ⟨rfl, rfl⟩
      go_wp2_with fail
      refine (works_true _).mono ?_
      rintro e w9 ⟨rfl, hg9⟩
      go_wp2
      go_ret
      exact ⟨rfl, g_none hg8 hg9⟩

set_option maxRecDepth 100000 in
set_option maxHeartbeats 4000000 in
theorem plays_no_even (n : Int) (hn : n < 0 ∨ 1024 < n) (a0 : Option Addr) (len0 cap0 : Nat) (w : World) (hl0 : len0 ≤ 60) (hpar : (((len0 : Int) % 2) == 1) = false) :
    Calls Try.prog 4 #[.int .i64 n, .slice a0 len0 cap0] w fun e w' => e = .returned (.bool true) ∧ w.grownBy w' none := by
  go_enter Try.func4, Try.ntmps4
  go_wp2_with fail
  refine (new_no n hn w).mono ?_
  rintro e _ ⟨rfl, rfl⟩
  go_wp2_with fail
  refine (refNew_no n hn w).mono ?_
  rintro e _ ⟨rfl, rfl⟩
  have hN3 : NoneAt w none := .inl rfl
  have hgB := g_refl w none
  go_wp2_with fail
  refine (load_none none 0 _ hN3.isNone).mono ?_
  rintro e _ ⟨rfl, rfl⟩
  go_wp2_with fail
  refine (swap_none none 0 0 1 _ hN3.isNone).mono ?_
  rintro e w4 ⟨rfl, hg4⟩
  replace hN3 := hN3.keptN hg4
  replace hg4 := g_none hgB hg4
  go_wp2_with fail
  refine (count_none none 0 _ hN3.isNone).mono ?_
  rintro e _ ⟨rfl, rfl⟩
  go_wp2_with fail
  refine (num_any _ _).mono ?_
  rintro e _ ⟨rfl, rfl⟩
  go_wp2_with fail
  refine (num_any _ _).mono ?_
  rintro e _ ⟨rfl, rfl⟩
  go_wp2_with fail
  refine (num_any _ _).mono ?_
  rintro e _ ⟨rfl, rfl⟩
  go_wp2_with fail
  refine (store_none none 0 1 _ hN3.isNone).mono ?_
  rintro e w5 ⟨rfl, hg5⟩
  replace hN3 := hN3.keptN hg5
  replace hg5 := g_none hg4 hg5
  go_wp2_with fail
  refine (num_any _ _).mono ?_
  rintro e _ ⟨rfl, rfl⟩
  go_wp2_with fail
  refine (len_none none _ hN3.isNone).mono ?_
  rintro e _ ⟨rfl, rfl⟩
  go_wp2_with fail
  refine (all_any none [] (by simp) 9 (by omega) (by omega) _ (.inl ⟨hN3.isNone, rfl⟩)).mono ?_
  rintro e w6 ⟨vz, rfl, ⟨az, capz, rfl, _, _⟩, hg6⟩
  replace hN3 := hN3.keptN hg6
  replace hg6 := g_none hg5 hg6
  simp only [nz, List.take_nil, pairs, List.map_nil, List.length_nil]
  go_wp2_with fail
  refine (copy_none none _ hN3.isNone).mono ?_
  rintro e _ ⟨rfl, rfl⟩
  go_wp2_with fail
  refine (same_nn none none _ hN3.isNone (.inl rfl)).mono ?_
  rintro e _ ⟨rfl, rfl⟩
  go_wp2_with fail
  refine (num_any _ _).mono ?_
  rintro e _ ⟨rfl, rfl⟩
  go_wp2_with fail
  refine (works_true _).mono ?_
  rintro e w9 ⟨rfl, hg9⟩
  go_wp2
  go_ret
  exact ⟨rfl, g_none hg6 hg9⟩

set_option maxRecDepth 100000 in
set_option maxHeartbeats 4000000 in
theorem plays_no_odd (n : Int) (hn : n < 0 ∨ 1024 < n) (a0 : Option Addr) (len0 cap0 : Nat) (w : World) (hl0 : len0 ≤ 60) (hpar : (((len0 : Int) % 2) == 1) = true) :
    Calls Try.prog 4 #[.int .i64 n, .slice a0 len0 cap0] w fun e w' => e = .returned (.bool true) ∧ w.grownBy w' none := by
  go_enter Try.func4, Try.ntmps4
  go_wp2_with fail
  refine (new_no n hn w).mono ?_
  rintro e _ ⟨rfl, rfl⟩
  go_wp2_with fail
  refine (refNew_no n hn w).mono ?_
  rintro e _ ⟨rfl, rfl⟩
  have hgB : w.grownBy (w.alloc (.cells #[.slice none 0 0, .bool false] 47)) none := g_alloc (g_refl w _) _
  have hN3 : NoneAt (w.alloc (.cells #[.slice none 0 0, .bool false] 47)) (some ⟨w.heap.size, 0, none⟩) := .inr ⟨w.heap.size, rfl, Blk.new w [.slice none 0 0, .bool false] 47⟩
  go_wp2_with fail
  refine (load_none (some ⟨w.heap.size, 0, none⟩) 0 _ hN3.isNone).mono ?_
  rintro e _ ⟨rfl, rfl⟩
  go_wp2_with fail
  refine (swap_none (some ⟨w.heap.size, 0, none⟩) 0 0 1 _ hN3.isNone).mono ?_
  rintro e w4 ⟨rfl, hg4⟩
  replace hN3 := hN3.keptN hg4
  replace hg4 := g_none hgB hg4
  go_wp2_with fail
  refine (count_none (some ⟨w.heap.size, 0, none⟩) 0 _ hN3.isNone).mono ?_
  rintro e _ ⟨rfl, rfl⟩
  go_wp2_with fail
  refine (num_any _ _).mono ?_
  rintro e _ ⟨rfl, rfl⟩
  go_wp2_with fail
  refine (num_any _ _).mono ?_
  rintro e _ ⟨rfl, rfl⟩
  go_wp2_with fail
  refine (num_any _ _).mono ?_
  rintro e _ ⟨rfl, rfl⟩
  go_wp2_with fail
  refine (store_none (some ⟨w.heap.size, 0, none⟩) 0 1 _ hN3.isNone).mono ?_
  rintro e w5 ⟨rfl, hg5⟩
  replace hN3 := hN3.keptN hg5
  replace hg5 := g_none hg4 hg5
  go_wp2_with fail
  refine (num_any _ _).mono ?_
  rintro e _ ⟨rfl, rfl⟩
  go_wp2_with fail
  refine (len_none (some ⟨w.heap.size, 0, none⟩) _ hN3.isNone).mono ?_
  rintro e _ ⟨rfl, rfl⟩
  go_wp2_with fail
  refine (all_any (some ⟨w.heap.size, 0, none⟩) [] (by simp) 9 (by omega) (by omega) _ (.inl ⟨hN3.isNone, rfl⟩)).mono ?_
  rintro e w6 ⟨vz, rfl, ⟨az, capz, rfl, _, _⟩, hg6⟩
  replace hN3 := hN3.keptN hg6
  replace hg6 := g_none hg5 hg6
  simp only [nz, List.take_nil, pairs, List.map_nil, List.length_nil]
  go_wp2_with fail
  refine (copy_none (some ⟨w.heap.size, 0, none⟩) _ hN3.isNone).mono ?_
  rintro e _ ⟨rfl, rfl⟩
  go_wp2_with fail
  refine (same_nn (some ⟨w.heap.size, 0, none⟩) none _ hN3.isNone (.inl rfl)).mono ?_
  rintro e _ ⟨rfl, rfl⟩
  go_wp2_with fail
  refine (num_any _ _).mono ?_
  rintro e _ ⟨rfl, rfl⟩
  go_wp2_with fail
  refine (works_true _).mono ?_
  rintro e w9 ⟨rfl, hg9⟩
  go_wp2
  go_ret
  exact ⟨rfl, g_none hg6 hg9⟩

theorem plays_long (n : Int) (a0 : Option Addr) (len0 cap0 : Nat) (w : World) (hl0 : 60 < len0) (hl1 : len0 ≤ 9223372036854775807) :
    Calls Try.prog 4 #[.int .i64 n, .slice a0 len0 cap0] w fun e w' => e = .returned (.bool true) ∧ w.grownBy w' none := by
  go_enter Try.func4, Try.ntmps4
  go_wp2_with fail
  refine (works_true _).mono ?_
  rintro e w1 ⟨rfl, hg⟩
  go_wp2
  go_ret
  exact ⟨rfl, hg⟩
end Go.Proofs.Ythoelbildokmpaa
