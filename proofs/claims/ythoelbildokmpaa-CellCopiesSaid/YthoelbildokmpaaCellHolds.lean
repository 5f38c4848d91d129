/-
  CellHolds, walked: whatever calls, whatever cell and words: true, and nothing that was there is written.
-/
import Derived.Test.YthoelbildokmpaaCellAny
import Derived.StillTailTactics
namespace Go.Proofs.Ythoelbildokmpaa
open Go.RowKit

/-- A slice of calls that came in: call i's four numbers. -/
def ActsAt (w : World) (a : Option Addr) (len : Nat) (A : Nat → Nat → Int) : Prop :=
  0 < len → ∃ b off, a = some ⟨b, off, none⟩ ∧ ∀ i, i < len → w.cell? ⟨b, off + i * 4, none⟩ = some (.int .i64 (A i 0)) ∧ w.cell? ⟨b, off + i * 4 + 1, none⟩ = some (.int .i64 (A i 1)) ∧
    w.cell? ⟨b, off + i * 4 + 2, none⟩ = some (.int .u64 (A i 2)) ∧ w.cell? ⟨b, off + i * 4 + 3, none⟩ = some (.int .u64 (A i 3))
/-- A slice of words that came in. -/
def WordsAt (w : World) (a : Option Addr) (len : Nat) (V : Nat → Int) : Prop :=
  0 < len → ∃ b off, a = some ⟨b, off, none⟩ ∧ ∀ i, i < len → w.cell? ⟨b, off + i, none⟩ = some (.int .u64 (V i))

theorem ActsAt.kept {w w' : World} {a : Option Addr} {len : Nat} {A : Nat → Nat → Int} (h : ActsAt w a len A) (hg : w.grownBy w' none) : ActsAt w' a len A := fun hl => by
  obtain ⟨b, off, ha, hc⟩ := h hl
  exact ⟨b, off, ha, fun i hi => ⟨g_cellN hg (hc i hi).1, g_cellN hg (hc i hi).2.1, g_cellN hg (hc i hi).2.2.1, g_cellN hg (hc i hi).2.2.2⟩⟩
theorem WordsAt.kept {w w' : World} {a : Option Addr} {len : Nat} {V : Nat → Int} (h : WordsAt w a len V) (hg : w.grownBy w' none) : WordsAt w' a len V := fun hl => by
  obtain ⟨b, off, ha, hc⟩ := h hl
  exact ⟨b, off, ha, fun i hi => g_cellN hg (hc i hi)⟩

/-- Where a list of cells is written, a cell stays, or its count is one more. -/
theorem upd_step {xs : List (Int × Int)} {k : Nat} {u c : Int} (hx : xs[k]? = some (u, c)) (i n : Int) : (upd xs i n)[k]? = some (u, c) ∨ ∃ u', (upd xs i n)[k]? = some (u', c + 1) := by
  rcases inR_cases xs i with ⟨hi, _⟩ | ⟨hi, j, rfl, u1, c1, hj⟩
  · left; rw [upd, if_neg (by rw [hi]; simp)]; exact hx
  · rw [upd_of hj]
    have hk := (List.getElem?_eq_some_iff.1 hx).1
    by_cases e : j = k
    · subst e
      rw [hx] at hj; cases hj
      right; exact ⟨n, by rw [List.getElem?_set_self (by omega)]⟩
    · left; rw [List.getElem?_set_ne e]; exact hx
theorem swp_step {xs : List (Int × Int)} {k : Nat} {u c : Int} (hx : xs[k]? = some (u, c)) (i fr to : Int) : (swp xs i fr to)[k]? = some (u, c) ∨ ∃ u', (swp xs i fr to)[k]? = some (u', c + 1) := by
  unfold swp; split
  · exact upd_step hx i to
  · exact .inl hx

set_option maxRecDepth 100000 in
set_option maxHeartbeats 1000000 in
theorem holds_walk (a0 : Option Addr) (len0 cap0 : Nat) (A : Nat → Nat → Int) (i : Int) (a2 : Option Addr) (len2 cap2 : Nat) (V : Nat → Int) (w : World) (hA : ActsAt w a0 len0 A) (hV : WordsAt w a2 len2 V)
    (hl0 : len0 ≤ 40) (hl2 : len2 ≤ 10) (hi0 : 0 ≤ i) (hi1 : i ≤ 5) :
    Calls Try.prog 3 #[.slice a0 len0 cap0, .int .i64 i, .slice a2 len2 cap2] w fun e w' => e = .returned (.bool true) ∧ w.grownBy w' none := by
  obtain ⟨n, rfl⟩ := Int.eq_ofNat_of_zero_le hi0
  have hA' := hid hA
  have hV' := hid hV
  clear hA hV
  go_enter Try.func3, Try.ntmps3
  go_wp2_with fail
  refine (new_yes 6 (by omega) w).mono ?_
  rintro e w1 ⟨p, g, rfl, h1, hg1, hp, hgg⟩
  go_wp2_with (go_at_call 8; refine (num_any _ _).mono ?_; rintro e _ ⟨rfl, rfl⟩)
  have hx1 : (List.replicate 6 ((0 : Int), (0 : Int)))[n]? = some (0, 0) := by
    match n, hi1 with
    | 0, _ | 1, _ | 2, _ | 3, _ | 4, _ | 5, _ => rfl
    | n + 6, h => omega
  go_loopw [9] (fun v wr => ∃ (k : Nat) (xs : List (Int × Int)), k ≤ len0 ∧ v = .int .i64 k ∧ CellsAt wr p g xs ∧ Small xs k ∧ (∃ u c, xs[n]? = some (u, c)) ∧ w.grownBy wr none) (fun v _ => len0 - (intOf v).toNat)
  case atStart => exact ⟨0, _, Nat.zero_le _, rfl, h1, Small.zero 6, ⟨0, 0, hx1⟩, hg1⟩
  case round =>
    obtain ⟨k, xs, hk, rfl, hc, hs, ⟨u, c, hx⟩, hg⟩ := hrel
    have HX := hid hx
    have HS := hid hs
    have hb := hs.get hx
    clear hx hs hx1
    by_cases hlt : k < len0
    · obtain ⟨b, off, rfl, hcell⟩ := (hA'.out.kept hg) (by omega)
      obtain ⟨e0, e1, e2, e3⟩ := hcell k hlt
      clear hcell
      by_cases hw0 : (A k 0 == 0) = true
      · go_wp2_with fail
        refine (load_in p g xs n u c HX.out wr hc).mono ?_
        rintro e _ ⟨rfl, rfl⟩
        go_wp2_with fail
        refine (count_in p g xs n u c HX.out wr hc).mono ?_
        rintro e _ ⟨rfl, rfl⟩
        go_wp2_with fail
        go_still_tail 11, (by kernel_rfl)
        change wpList _ _ _ _ _ wr.drew
        go_wp2_with fail
        refine (store_any p g xs (A k 1) (A k 3) k (by omega) HS.out wr.drew hc).mono ?_
        rintro e w2 ⟨rfl, hc2, hg2⟩
        rcases upd_step HX.out (A k 1) (A k 3) with hx2 | ⟨u', hx2⟩
        all_goals
          have HX2 := hid hx2
          clear hx2
          go_wp2_with fail
          refine (load_in p g _ n _ _ HX2.out w2 hc2).mono ?_
          rintro e _ ⟨rfl, rfl⟩
          go_wp2_with fail
          refine (count_in p g _ n _ _ HX2.out w2 hc2).mono ?_
          rintro e _ ⟨rfl, rfl⟩
          go_wp2_with (go_at_call 8; refine (num_any _ _).mono ?_; rintro e _ ⟨rfl, rfl⟩)
          go_roundw
          case rel => exact ⟨k + 1, _, by omega, by go_num, hc2, HS.out.upd _ _, ⟨_, _, HX2.out⟩, g_new (g_drew hg) hg2 hgg⟩
          case measure => simp [intOf]; omega
      have hw0' : (A k 0 == 0) = false := by simpa using hw0
      clear hw0
      by_cases hw1 : (A k 0 == 1) = true
      · go_wp2_with fail
        refine (load_in p g xs n u c HX.out wr hc).mono ?_
        rintro e _ ⟨rfl, rfl⟩
        go_wp2_with fail
        refine (count_in p g xs n u c HX.out wr hc).mono ?_
        rintro e _ ⟨rfl, rfl⟩
        go_wp2_with fail
        go_still_tail 16, (by kernel_rfl)
        change wpList _ _ _ _ _ wr.drew
        go_wp2_with fail
        refine (swap_any p g xs (A k 1) (A k 2) (A k 3) k (by omega) HS.out wr.drew hc).mono ?_
        rintro e w2 ⟨rfl, hc2, hg2⟩
        rcases swp_step HX.out (A k 1) (A k 2) (A k 3) with hx2 | ⟨u', hx2⟩
        all_goals
          have HX2 := hid hx2
          clear hx2
          go_wp2_with fail
          refine (load_in p g _ n _ _ HX2.out w2 hc2).mono ?_
          rintro e _ ⟨rfl, rfl⟩
          go_wp2_with fail
          refine (count_in p g _ n _ _ HX2.out w2 hc2).mono ?_
          rintro e _ ⟨rfl, rfl⟩
          go_wp2_with (go_at_call 8; refine (num_any _ _).mono ?_; rintro e _ ⟨rfl, rfl⟩)
          go_roundw
          case rel => exact ⟨k + 1, _, by omega, by go_num, hc2, HS.out.swp _ _ _, ⟨_, _, HX2.out⟩, g_new (g_drew hg) hg2 hgg⟩
          case measure => simp [intOf]; omega
      · have hw1' : (A k 0 == 1) = false := by simpa using hw1
        clear hw1
        go_wp2_with fail
        refine (load_in p g xs n u c HX.out wr hc).mono ?_
        rintro e _ ⟨rfl, rfl⟩
        go_wp2_with fail
        refine (count_in p g xs n u c HX.out wr hc).mono ?_
        rintro e _ ⟨rfl, rfl⟩
        go_wp2_with fail
        refine (load_in p g _ n _ _ HX.out wr hc).mono ?_
        rintro e _ ⟨rfl, rfl⟩
        go_wp2_with fail
        refine (count_in p g _ n _ _ HX.out wr hc).mono ?_
        rintro e _ ⟨rfl, rfl⟩
        go_wp2_with (go_at_call 8; refine (num_any _ _).mono ?_; rintro e _ ⟨rfl, rfl⟩)
        go_roundw
        case rel => exact ⟨k + 1, _, by omega, by go_num, hc, HS.out.more (by omega), ⟨_, _, HX.out⟩, hg⟩
        case measure => simp [intOf]; omega
    · go_wp2_with fail
      refine (load_in p g xs n u c HX.out wr hc).mono ?_
      rintro e _ ⟨rfl, rfl⟩
      go_wp2_with fail
      obtain ⟨W0, hW0⟩ : ∃ W0 : World, W0 = wr := ⟨_, rfl⟩
      have HW0 := hid hW0
      clear hW0
      go_loopw [20, 21] (fun d v wr => ∃ (j : Nat) (ys : List (Int × Int)) (b : Bool), j ≤ len2 ∧ v = .int .i64 j ∧ d = .bool b ∧ CellsAt wr p g ys ∧ Small ys (40 + j) ∧ (∃ u2 c2, ys[n]? = some (u2, c2) ∧ (u2 == u) = !b) ∧ w.grownBy wr none) (fun _ v _ => len2 - (intOf v).toNat)
      case atStart => exact ⟨0, xs, false, Nat.zero_le _, rfl, rfl, hc, HS.out.more (by omega), ⟨u, c, HX.out, by simp⟩, hg⟩
      case round =>
        obtain ⟨j, ys, b, hj, rfl, rfl, hc', hs', ⟨u2, c2, hy, hub⟩, hg'⟩ := hrel
        have HY := hid hy
        have HS' := hid hs'
        have HB := hid hub
        clear hy hs' hub
        by_cases hjl : j < len2
        · obtain ⟨b2, off2, rfl, hcell⟩ := (hV'.out.kept hg') (by omega)
          have e0 := hcell j hjl
          clear hcell
          by_cases hv : (V j == u) = true
          · go_wp2
            go_roundw
            case rel => exact ⟨j + 1, ys, b, by omega, by go_num, rfl, hc', HS'.out.more (by omega), ⟨u2, c2, HY.out, HB.out⟩, hg'⟩
            case measure => simp [intOf]; omega
          · have hv' : (V j == u) = false := by simpa using hv
            clear hv
            have hcb := HS'.out.get HY.out
            cases b with
            | false =>
              obtain rfl : u2 = u := by simpa using HB.out
              go_wp2_with fail
              refine (swap_yes p g ys n u2 c2 (V j) HY.out (by omega) (by omega) wr hc').mono ?_
              rintro e w2 ⟨rfl, hc2, hg2⟩
              go_wp2_with (go_at_call 8; refine (num_any _ _).mono ?_; rintro e _ ⟨rfl, rfl⟩)
              go_roundw
              case rel => exact ⟨j + 1, _, true, by omega, by go_num, rfl, hc2, by rw [← upd_of HY.out]; exact HS'.out.upd _ _, ⟨V j, c2 + 1, by rw [List.getElem?_set_self (List.getElem?_eq_some_iff.1 HY.out).1], hv'⟩, g_new hg' hg2 hgg⟩
              case measure => simp [intOf]; omega
            | true =>
              have hne : (u2 == u) = false := by simpa using HB.out
              go_wp2_with fail
              refine (swap_no p g ys n u2 c2 u (V j) HY.out hne wr hc').mono ?_
              rintro e w2 ⟨rfl, hc2, hg2⟩
              go_wp2_with (go_at_call 8; refine (num_any _ _).mono ?_; rintro e _ ⟨rfl, rfl⟩)
              go_roundw
              case rel => exact ⟨j + 1, _, true, by omega, by go_num, rfl, hc2, HS'.out.more (by omega), ⟨u2, c2, HY.out, HB.out⟩, g_none hg' hg2⟩
              case measure => simp [intOf]; omega
        · go_wp2_with (first | (go_at_call 8; refine (num_any _ _).mono ?_; rintro e _ ⟨rfl, rfl⟩) | (go_at_call 6; refine (works_true _).mono ?_; rintro e w2 ⟨rfl, hg2⟩))
          go_ret
          exact ⟨rfl, g_none hg' hg2⟩

set_option maxRecDepth 100000 in
theorem holds_else (a0 : Option Addr) (len0 cap0 : Nat) (i : Int) (a2 : Option Addr) (len2 cap2 : Nat) (w : World) (h : 40 < len0 ∨ 10 < len2 ∨ i < 0 ∨ 5 < i) :
    Calls Try.prog 3 #[.slice a0 len0 cap0, .int .i64 i, .slice a2 len2 cap2] w fun e w' => e = .returned (.bool true) ∧ w.grownBy w' none := by
  by_cases h1 : 40 < len0
  · go_enter Try.func3, Try.ntmps3
    go_wp2_with (go_at_call 6; refine (works_true _).mono ?_; rintro e w2 ⟨rfl, hg2⟩)
    go_ret
    exact ⟨rfl, hg2⟩
  by_cases h2 : 10 < len2
  · go_enter Try.func3, Try.ntmps3
    go_wp2_with (go_at_call 6; refine (works_true _).mono ?_; rintro e w2 ⟨rfl, hg2⟩)
    go_ret
    exact ⟨rfl, hg2⟩
  by_cases h3 : i < 0
  · go_enter Try.func3, Try.ntmps3
    go_wp2_with (go_at_call 6; refine (works_true _).mono ?_; rintro e w2 ⟨rfl, hg2⟩)
    go_ret
    exact ⟨rfl, hg2⟩
  have h4 : 5 < i := by omega
  go_enter Try.func3, Try.ntmps3
  go_wp2_with (go_at_call 6; refine (works_true _).mono ?_; rintro e w2 ⟨rfl, hg2⟩)
  go_ret
  exact ⟨rfl, hg2⟩

end Go.Proofs.Ythoelbildokmpaa
