/-
  FifoPlays, walked.
-/
import Derived.Test.YtjjkhbipeehljaaFifoStart
namespace Go.Proofs.Ytjjkhbipeehljaa
open Go.RowKit

set_option maxRecDepth 100000 in
set_option maxHeartbeats 8000000 in
theorem plays_walk (M Y : Int) (hB : boundB M Y = true) (a1 : Option Addr) (len1 cap1 : Nat) (A : Nat → Nat → Int) (w : World) (hA : ActsAt w a1 len1 A) (hl1 : len1 ≤ 60) :
    Calls Try.prog 4 #[.agg #[.int .i64 M, .int .i64 Y], .slice a1 len1 cap1] w fun e w' => e = .returned (.bool true) ∧ w.grownBy w' none := by
  obtain ⟨hM, hY⟩ := boundB_pos hB
  have h60 : ¬ (60 < (len1 : Int)) := by omega
  have hgA := g_alloc (g_refl w none) (.cells #[.int .i64 M, .int .i64 Y] 22)
  have bB := Blk.new w [.int .i64 M, .int .i64 Y] 22
  have kb0 := bB.cellOf (i := 0) rfl
  have kb1 := bB.cellOf (i := 1) rfl
  have HA := hid hA
  clear hA
  go_enter Try.func4, Try.ntmps4
  go_wp2_with fail
  refine (new_yes M Y _ hB).mono ?_
  rintro e w1 ⟨p, rfl, h1, hg1, hp⟩
  have hb1 := bB.keptN hg1
  have q0 := hb1.cellOf (i := 0) rfl
  have q1 := hb1.cellOf (i := 1) rfl
  have g1 := g_none hgA hg1
  go_wp2_with fail
  refine (refNew_yes M Y _ hB).mono ?_
  rintro e w2 ⟨rfl, hg2⟩
  have g2 := g_alloc (g_none g1 hg2) (.cells #[.int .i64 M, .int .i64 Y, .slice none 0 0] 39)
  have b2 := Blk.new w2 [.int .i64 M, .int .i64 Y, .slice none 0 0] 39
  have h2 := (h1.keptN hg2).keptN (g_alloc (g_refl w2 none) (.cells #[.int .i64 M, .int .i64 Y, .slice none 0 0] 39))
  have hs2 := (g_none g1 hg2).size
  have hps := (h1.keptN hg2).facts.2.2.2.2
  have hK := PlayK.mk h2 (L3.nil _) b2 (fun x hx => by simp at hx) g2 (by simp at hp; omega) hs2 (by omega) (fun r e => by simp [Value.ownBlock] at e) (fun r e => by simp [Value.ownBlock] at e)
  have HK := hid hK
  clear hK h2 b2 g2 hg2 h1 hb1 q0 q1 g1 hg1 bB kb0 kb1 hgA hp hps hs2
  go_wp2_with fail
  refine (none_any2 _ _).mono ?_
  rintro e w3 ⟨rfl, hg3⟩
  have HK3 := hid (HK.out.grown hg3)
  clear HK hg3
  go_wp2_with fail
  obtain ⟨b, hb⟩ : ∃ b, w2.heap.size = b := ⟨_, rfl⟩
  rw [hb] at HK3 ⊢
  clear hb
  go_loopw [5, 9] (fun v5 v9 wq => ∃ (i p : Nat) (u v : Value) (xs : List T3), i ≤ len1 ∧ v9 = .int .i64 i ∧ v5 = .pointer (some ⟨p, 0, none⟩) ∧ Hid (PlayK p b M Y u v xs w wq) ∧ xs.length ≤ i) (fun _ v9 _ => len1 - (intOf v9).toNat)
  case atStart => exact ⟨0, p, _, _, [], by omega, rfl, rfl, HK3, by simp⟩
  case round =>
    clear HK3
    obtain ⟨i, p, u, v, xs, hil, rfl, rfl, HK, hxl⟩ := hrel
    by_cases hlt : i < len1
    · obtain ⟨lb, off, rfl, hcell⟩ := (HA.out.kept HK.out.g) (by omega)
      obtain ⟨e0, e1, e2, e3⟩ := hcell i hlt
      obtain ⟨au, cu, rfl, _⟩ := id HK.out.l
      have k0 := HK.out.blk.cellOf (i := 0) rfl
      have k1 := HK.out.blk.cellOf (i := 1) rfl
      have k2 := HK.out.blk.cellOf (i := 2) rfl
      have ea0 : ∀ o, (wr.alloc o).cell? _ = _ := fun o => g_cellN (g_alloc (g_refl _ none) o) e0
      have ea1 : ∀ o, (wr.alloc o).cell? _ = _ := fun o => g_cellN (g_alloc (g_refl _ none) o) e1
      have ea2 : ∀ o, (wr.alloc o).cell? _ = _ := fun o => g_cellN (g_alloc (g_refl _ none) o) e2
      have ea3 : ∀ o, (wr.alloc o).cell? _ = _ := fun o => g_cellN (g_alloc (g_refl _ none) o) e3
      have ka0 : ∀ o, (wr.alloc o).cell? _ = _ := fun o => g_cellN (g_alloc (g_refl _ none) o) k0
      have ka1 : ∀ o, (wr.alloc o).cell? _ = _ := fun o => g_cellN (g_alloc (g_refl _ none) o) k1
      have ka2 : ∀ o, (wr.alloc o).cell? _ = _ := fun o => g_cellN (g_alloc (g_refl _ none) o) k2
      have hsd : wr.drew.heap.size = wr.heap.size := rfl
      have hact := fun wa (hga : wr.grownBy wa none) => act_any p M Y hM hY v (.slice au xs.length cu) xs HK.out.good (by omega) (A i 0) (A i 1) (A i 2) (A i 3) wa (HK.out.f.keptN hga) (HK.out.l.keptN hga) (fun r e => Nat.lt_of_lt_of_le (HK.out.v r e).1 hga.size) (fun r e => ⟨Nat.lt_of_lt_of_le (HK.out.u r e).1 hga.size, (HK.out.u r e).2.1⟩)
      obtain ⟨ys, hys⟩ : ∃ ys, ys = nextX M Y xs (A i 0) (A i 1, A i 2, A i 3) := ⟨_, rfl⟩
      rw [← hys] at hact
      have hyG : Good ys := by rw [hys]; exact nextX_good HK.out.good
      have hyl : ys.length ≤ i + 1 := by rw [hys]; have := nextX_length (M := M) (Y := Y) (xs := xs) (what := A i 0) (x := (A i 1, A i 2, A i 3)); omega
      have HACT := hid hact
      clear hact hys hcell
      go_wp2_with fail
      go_cut [10, 11, 12] from 52 to 78 (fun s10 s11 s12 wx => ∃ p' t a n c v', s10 = .pointer (some ⟨p', 0, none⟩) ∧ s11 = .pointer (some ⟨t, 0, none⟩) ∧ s12 = .bool true ∧ PlayM p' b t M Y (.slice a n c) v' ys w wx)
      case first =>
        go_region_with (first | (go_at_call 13; refine (HACT.out _ (by first | exact g_drew (g_refl _ none) | exact g_alloc (g_drew (g_refl _ none)) _ | exact g_drew (g_alloc (g_refl _ none) _))).mono ?_; rintro e w6 ⟨p', u', v', rfl, hF6, hL6, hg6, hpp, hv6, hu6⟩; obtain ⟨au', cu', hu', _⟩ := id hL6; subst hu'; try (have bn := (Blk.new wr.drew [.int .i64 0, .int .i64 0, .slice none 0 0] 39).kept hg6 (by have := HK.out.f.facts.2.2.2.2; simp [hsd]; omega); rw [hsd] at bn; have f0 := bn.frozen 0; have f1 := (bn.set 0 (.int .i64 M)).frozen 1; have f2 := ((bn.set 0 (.int .i64 M)).set 1 (.int .i64 Y)).frozen 2; have z0 := bn.cellOf (i := 0) rfl; have z1 := (bn.set 0 (.int .i64 M)).cellOf (i := 1) rfl; have z2 := ((bn.set 0 (.int .i64 M)).set 1 (.int .i64 Y)).cellOf (i := 2) rfl)) | fail)
        all_goals
          have hpl := HK.out.f.facts.2.2.2.2
          have hvl := HK.out.v
          have hul := HK.out.u
          clear ea0 ea1 ea2 ea3 ka0 ka1 ka2
        all_goals first
          | (
            have hbn := bn
            go_must (
              have hsk : ((wr.alloc (.cells #[.int .i64 0, .int .i64 0, .slice none 0 0] 39)).drew).heap.size = wr.heap.size + 1 := by show (wr.alloc _).heap.size = _; simp
              have hst := play_step HK.out (g_drew (g_alloc (g_refl wr none) (.cells #[.int .i64 0, .int .i64 0, .slice none 0 0] 39))) hyG hF6 hL6 hg6 hpp hv6 hu6 (grow3 w6 wr.heap.size (.int .i64 M) (.int .i64 Y) (.slice au' ys.length cu')) (Nat.le_refl _)
                (by rcases hpp with h | h <;> omega) (fun e => by rcases (hv6 _ e).1 with h | h; (have := (hvl _ h).1; omega); omega) (fun e => by rcases (hu6 _ e).1 with h | h; (have := (hul _ h).1; omega); omega) (((hbn.set 0 (.int .i64 M)).set 1 (.int .i64 Y)).set 2 (.slice au' ys.length cu'))
              go_wp2_with fail
              go_meet
              exact ⟨p', wr.heap.size, au', _, cu', v', rfl, rfl, rfl, hst⟩
              )
            )
          | (
            have hst := play_step HK.out (g_drew (g_refl wr none)) hyG hF6 hL6 hg6 hpp hv6 hu6 (g_weak (row := some w6.heap.size) (g_alloc (g_refl w6 none) (.cells #[.int .i64 M, .int .i64 Y, .slice au' ys.length cu'] 39))) hg6.size
              (by have := hF6.facts.2.2.2.2; omega) (fun e => by have := (hv6 _ e).2; omega) (fun e => by have := (hu6 _ e).2.1; omega) (Blk.new w6 [.int .i64 M, .int .i64 Y, .slice au' ys.length cu'] 39)
            go_wp2_with fail
            go_meet
            exact ⟨p', w6.heap.size, au', _, cu', v', rfl, rfl, rfl, hst⟩
            )
      case rest =>
        obtain ⟨p', t, au', nu', cu', v', rfl, rfl, rfl, HM⟩ := hcut
        clear HK HACT e0 e1 e2 e3 k0 k1 k2 ea0 ea1 ea2 ea3 ka0 ka1 ka2 hsd
        obtain ⟨o, hbo⟩ := HM.old
        have htb := HM.tb
        have k0 := HM.blk.cellOf (i := 0) rfl
        have k1 := HM.blk.cellOf (i := 1) rfl
        have k2 := HM.blk.cellOf (i := 2) rfl
        have kS0 := set3_cell (W := wc.drew) k0 htb
        have kS1 := set3_cell (W := wc.drew) k1 htb
        have kS2 := set3_cell (W := wc.drew) k2 htb
        have f0 := hbo.frozen 0
        have f1 := (hbo.set 0 (.int .i64 M)).frozen 1
        have f2 := ((hbo.set 0 (.int .i64 M)).set 1 (.int .i64 Y)).frozen 2
        have z0 := hbo.cellOf (i := 0) rfl
        have z1 := (hbo.set 0 (.int .i64 M)).cellOf (i := 1) rfl
        have z2 := ((hbo.set 0 (.int .i64 M)).set 1 (.int .i64 Y)).cellOf (i := 2) rfl
        have hN := (HM.grown (g_drewN (g_refl wc none) rfl)).put
        have HN := hid hN
        have r0 := hN.blk.cellOf (i := 0) rfl
        have r1 := hN.blk.cellOf (i := 1) rfl
        have r2 := hN.blk.cellOf (i := 2) rfl
        have hxe := fun WW h1 h2 => is_any p' M Y v' (.slice au' nu' cu') ys hyG (by omega) WW h1 h2
        have HIS := hid hxe
        clear hN hbo hxe
        go_wp2_with fail
        go_region_held3 (fun w' => w'.cell? ⟨t, 0, none⟩ = some (.int .i64 M) ∧ w'.cell? ⟨t, 1, none⟩ = some (.int .i64 Y) ∧ w'.cell? ⟨t, 2, none⟩ = some (.slice au' nu' cu')) (first | assumption | exact ⟨k0, k1, k2⟩ | exact ⟨kS0 _ _ _, kS1 _ _ _, kS2 _ _ _⟩) (fail)
        all_goals
          go_wp2_with fail
          refine (HIS.out _ HN.out.f HN.out.l).mono ?_
          rintro e w9 ⟨rfl, hg9⟩
          go_wp2_with fail
          go_roundw
          case rel => exact ⟨i + 1, p', _, v', ys, by omega, by go_num, rfl, hid (HN.out.grown hg9), hyl⟩
          case measure => simp [intOf]; omega
    · obtain rfl : i = len1 := by omega
      go_wp2_with (go_at_call 8; refine (num_any _ _).mono ?_; rintro e _ ⟨rfl, rfl⟩)
      refine (same_sn p M Y v xs none _ HK.out.f (.inl rfl)).mono ?_
      rintro e w4 ⟨rfl, rfl⟩
      go_wp2_with fail
      refine (same_ns p M Y v xs none _ HK.out.f (.inl rfl)).mono ?_
      rintro e w4 ⟨rfl, rfl⟩
      go_wp2_with fail
      refine (works_true _).mono ?_
      rintro e w5 ⟨rfl, hg5⟩
      go_wp2
      go_ret
      exact ⟨rfl, g_none HK.out.g hg5⟩
end Go.Proofs.Ytjjkhbipeehljaa
