/-
  Do locks stand as the document's? Do no locks tell nothing?
-/
import Derived.Test.YtnpimkigiioiaaaLockSame2
namespace Go.Proofs.Ytnpimkigiioiaaa
open Go.RowKit
set_option maxRecDepth 100000

theorem lk_fst {l : List Int} {x : Nat × Int} (h : x ∈ lk 0 l) : x.1 < l.length := by
  have h1 := ((lk_mem l 0 x).1 h).2.1
  have := (List.getElem?_eq_some_iff.1 h1).1
  omega
theorem hold_out {l : List Int} {r : Int} (h : r < 0 ∨ (l.length : Int) ≤ r) : holdB l r = false ∧ holdV l r = 0 := by
  have hb : holdB l r = false := by
    rw [Bool.eq_false_iff]; intro hh
    obtain ⟨k, h1, h2, _⟩ := holdB_iff.1 hh
    omega
  exact ⟨hb, by rw [holdV, hb]; rfl⟩
theorem hold_neg {l : List Int} {k : Nat} {x : Int} (hx : l[k]? = some x) (h0 : x < 0) : holdB l k = false ∧ holdV l k = 0 := by
  have hb : holdB l k = false := by
    rw [Bool.eq_false_iff]; intro hh
    obtain ⟨j, h1, h2, t, ht, h3⟩ := holdB_iff.1 hh
    obtain rfl : k = j := by omega
    rw [hx] at ht; cases ht; omega
  exact ⟨hb, by rw [holdV, hb]; rfl⟩

set_option maxHeartbeats 4000000 in
theorem is_true (p pc g K : Nat) (l : List Int) (v : Value) (w : World) (h : LockAt w p pc g K l) (hI : IntsAt w v l) :
    Calls Try.prog 20 #[.pointer (some ⟨p, 0, none⟩), v] w fun e w' => e = .returned (.bool true) ∧ w.grownBy w' none := by
  obtain ⟨a, cap, rfl, hl1, hcp⟩ := hI.shape
  have hthr := h.thr
  have hll := h.len
  have HL := hid h
  have HI := hid hI
  clear h hI
  go_enter Try.func20, Try.ntmps20
  have HTHR := hid hthr
  clear hthr
  go_wp2_with fail
  go_loop [5] (fun v5 => ∃ r : Int, -1 ≤ r ∧ r ≤ (l.length : Int) + 1 ∧ v5 = .int .i64 r) (fun v5 => ((l.length : Int) + 1 - intOf v5).toNat)
  case atStart => exact ⟨-1, by omega, by omega, rfl⟩
  case round =>
    obtain ⟨r, hr0, hr1, rfl⟩ := hrel
    have hHo := holder_some p pc g K l r w HL.out
    by_cases hle : r ≤ (l.length : Int)
    · by_cases hn : r < 0
      · obtain ⟨h1, h2⟩ := hold_out (l := l) (.inl hn)
        rw [h1, h2] at hHo
        have HHO := hid hHo
        clear h1 h2 hHo
        go_wp2_with fail
        refine HHO.out.mono ?_
        rintro e _ ⟨rfl, rfl⟩
        go_wp2_with fail
        go_round
        case rel => exact ⟨r + 1, by omega, by omega, rfl⟩
        case measure => simp [intOf]; omega
      · by_cases hge : (l.length : Int) ≤ r
        · obtain ⟨h1, h2⟩ := hold_out (l := l) (.inr hge)
          rw [h1, h2] at hHo
          have HHO := hid hHo
          clear h1 h2 hHo
          go_wp2_with fail
          refine HHO.out.mono ?_
          rintro e _ ⟨rfl, rfl⟩
          go_wp2_with fail
          go_round
          case rel => exact ⟨r + 1, by omega, by omega, rfl⟩
          case measure => simp [intOf]; omega
        · obtain ⟨k, rfl⟩ : ∃ k : Nat, r = k := ⟨r.toNat, by omega⟩
          have hk : k < l.length := by omega
          obtain ⟨x, hx⟩ : ∃ x, l[k]? = some x := ⟨l[k], List.getElem?_eq_getElem hk⟩
          obtain ⟨gv, off, cap2, e, hc⟩ := HI.out.at hx
          cases e
          by_cases h0 : x < 0
          · obtain ⟨h1, h2⟩ := hold_neg hx h0
            rw [h1, h2] at hHo
            have HHO := hid hHo
            clear h1 h2 hHo hx
            go_wp2_with fail
            refine HHO.out.mono ?_
            rintro e _ ⟨rfl, rfl⟩
            go_wp2_with fail
            go_round
            case rel => exact ⟨(k : Int) + 1, by omega, by omega, rfl⟩
            case measure => simp [intOf]; omega
          · obtain ⟨h1, h2⟩ := holdV_of hx (by omega)
            rw [h1, h2] at hHo
            have HHO := hid hHo
            clear h1 h2 hHo hx
            go_wp2_with fail
            refine HHO.out.mono ?_
            rintro e _ ⟨rfl, rfl⟩
            go_wp2_with fail
            go_round
            case rel => exact ⟨(k : Int) + 1, by omega, by omega, rfl⟩
            case measure => simp [intOf]; omega
    · clear hHo
      go_wp2_with fail
      go_loopw [8] (fun v8 wr => ∃ t : Int, -1 ≤ t ∧ t ≤ 5 ∧ v8 = .int .i64 t ∧ w.grownBy wr none) (fun v8 _ => (5 - intOf v8).toNat)
      case atStart => exact ⟨-1, by omega, by omega, rfl, g_refl w _⟩
      case round =>
        obtain ⟨t, ht0, ht1, rfl, hg⟩ := hrel
        by_cases hlt : t ≤ 4
        · have hHe := held_some p pc g K l t wr (HL.out.keptN hg)
          have HHE := hid hHe
          clear hHe
          go_wp2_with fail
          refine HHE.out.mono ?_
          rintro e w2 ⟨v2, rfl, hI2, hg2, _⟩
          have hg3 := g_none hg hg2
          have hR := refHeld _ l t w2 (HI.out.keptN hg3)
          have HR := hid hR
          have HI2 := hid hI2
          clear hR hI2
          go_wp2_with fail
          refine HR.out.mono ?_
          rintro e w3 ⟨v3, rfl, hI3, hg4⟩
          have hS := refSame_yes v2 v3 (heldL l t) w3 (HI2.out.keptN hg4) hI3
          have HS := hid hS
          clear hS hI3
          go_wp2_with fail
          refine HS.out.mono ?_
          rintro e w4 ⟨rfl, hg5⟩
          go_wp2_with fail
          go_roundw
          case rel => exact ⟨t + 1, by omega, by omega, rfl, g_none (g_none hg3 hg4) hg5⟩
          case measure => simp [intOf]; omega
        · have hLr := HL.out.keptN hg
          have hps : ∀ x ∈ lk 0 l, x.1 < l.length := fun x hx => lk_fst hx
          have hpl := lk_length l 0
          have hA := alls_any (some ⟨p, 0, none⟩) l.length 100 hll (by omega) (lk 0 l) hps (by omega) wr (askAll_some p pc g K l wr hLr)
          rw [putL_all HTHR.out] at hA
          have HA := hid hA
          have HIr := hid (HI.out.keptN hg)
          clear hA hps hpl hLr
          go_wp2_with fail
          refine HA.out.mono ?_
          rintro e w2 ⟨v2, rfl, hI2, hg2⟩
          have hS := refSame_yes v2 _ l w2 hI2 (HIr.out.keptN hg2)
          have HS := hid hS
          clear hS hI2
          go_wp2_with fail
          refine HS.out.mono ?_
          rintro e w3 ⟨rfl, hg3⟩
          go_wp2_with fail
          go_ret
          exact ⟨rfl, g_none (g_none hg hg2) hg3⟩

/-! ### None -/
theorem putL_nil : putL (List.replicate 0 (-1)) [] = [] := rfl
set_option maxHeartbeats 4000000 in
theorem none_true (v : Option Addr) (z : Bool) (w w0 : World) (hz : (z = true ∧ v = some ⟨w0.heap.size, 0, none⟩ ∧ w = w0.alloc (.cells #[.pointer none] 66)) ∨ (z = false ∧ v = none ∧ w = w0)) (h : LNone w v) :
    Calls Try.prog 19 #[.bool z] w0 fun e w' => e = .returned (.bool true) ∧ w0.grownBy w' none := by
  have HN := hid h
  have hgw : w0.grownBy w none := by
    rcases hz with ⟨_, _, rfl⟩ | ⟨_, _, rfl⟩
    · exact g_alloc (g_refl _ _) _
    · exact g_refl _ _
  clear h
  rcases hz with ⟨rfl, rfl, rfl⟩ | ⟨rfl, rfl, rfl⟩
  all_goals
    go_enter Try.func19, Try.ntmps19
    go_wp2_with fail
    refine (try_none _ 0 0 _ HN.out).mono ?_
    rintro e w1 ⟨rfl, hg1⟩
    go_wp2_with fail
    refine (drop_none _ 0 w1 (HN.out.keptN hg1)).mono ?_
    rintro e w2 ⟨rfl, hg2⟩
    have g2 := g_none hg1 hg2
    go_wp2_with fail
    refine (holder_none _ 0 w2 (HN.out.keptN g2)).mono ?_
    rintro e _ ⟨rfl, rfl⟩
    go_wp2_with fail
    refine (chain_none _ 0 w2 (HN.out.keptN g2)).mono ?_
    rintro e w3 ⟨rfl, hg3⟩
    have g3 := g_none g2 hg3
    go_wp2_with (go_at_call 13; refine (num_any _ _).mono ?_; rintro e _ ⟨rfl, rfl⟩)
    refine (free_none _ 0 0 w3 (HN.out.keptN g3)).mono ?_
    rintro e w4 ⟨rfl, hg4⟩
    have g4 := g_none g3 hg4
    go_wp2_with (go_at_call 13; refine (num_any _ _).mono ?_; rintro e _ ⟨rfl, rfl⟩)
    refine (held_none _ 0 w4 (HN.out.keptN g4)).mono ?_
    rintro e w5 ⟨v5, rfl, hI5, hg5⟩
    obtain ⟨a5, c5, rfl, _⟩ := hI5.shape
    have g5 := g_none g4 hg5
    clear hI5
    go_wp2_with fail
    refine (alls_any _ 0 9 (by omega) (by omega) [] (by simp) (by simp) w5 (askAll_none _ w5 (HN.out.keptN g5))).mono ?_
    rintro e w6 ⟨v6, rfl, hI6, hg6⟩
    rw [putL_nil] at hI6
    obtain ⟨a6, c6, rfl, _⟩ := hI6.shape
    have g6 := g_none g5 hg6
    clear hI6
    go_wp2_with fail
    refine (lcopy_none _ w6 (HN.out.keptN g6)).mono ?_
    rintro e _ ⟨rfl, rfl⟩
    go_wp2_with fail
    refine (lsame_none _ none w6 (HN.out.keptN g6) (.inl rfl)).mono ?_
    rintro e _ ⟨rfl, rfl⟩
    go_wp2_with fail
    go_ret
    exact ⟨rfl, g_none hgw g6⟩
theorem none_any (z : Bool) (w0 : World) : Calls Try.prog 19 #[.bool z] w0 fun e w' => e = .returned (.bool true) ∧ w0.grownBy w' none := by
  cases z with
  | true => exact none_true _ true _ w0 (.inl ⟨rfl, rfl, rfl⟩) (.inr ⟨_, rfl, (Blk.new w0 [.pointer none] 66).cellOf rfl⟩)
  | false => exact none_true _ false _ w0 (.inr ⟨rfl, rfl, rfl⟩) (.inl rfl)
end Go.Proofs.Ytnpimkigiioiaaa
