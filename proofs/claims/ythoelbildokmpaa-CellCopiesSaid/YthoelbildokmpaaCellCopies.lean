/-
  CellCopies, walked.
-/
import Derived.Test.YthoelbildokmpaaCellAct
import Derived.Test.YthoelbildokmpaaCellHolds
namespace Go.Proofs.Ythoelbildokmpaa
open Go.RowKit

attribute [local go_sem] Oper.semAt_some

theorem SliceOf.take {w : World} {k1 k2 : IntKind} {a : Option Addr} {n cap : Nat} {xs : List (Int × Int)} (h : SliceOf w k1 k2 (.slice a n cap) xs) (m c2 : Nat) (hm : m ≤ xs.length) : SliceOf w k1 k2 (.slice a m c2) (xs.take m) := by
  obtain ⟨a', cap', e, hl, hc⟩ := h
  cases e
  refine ⟨_, c2, by rw [List.length_take, Nat.min_eq_left hm], by rw [List.length_take]; omega, fun h0 => ?_⟩
  obtain ⟨g, hg, hx⟩ := hc (by rw [List.length_take] at h0; omega)
  refine ⟨g, hg, fun i u c hi => hx i u c ?_⟩
  rw [List.getElem?_take] at hi
  split at hi
  · exact hi
  · cases hi

theorem refSame_gr (v1 v2 : Value) (xs ys : List (Int × Int)) (w : World) (h1 : ListAt w 82 v1 xs) (h2 : ListAt w 82 v2 ys) (hx : xs.length ≤ 1000000) (hy : ys.length ≤ 1000000) :
    Calls Try.prog 21 #[v1, v2] w fun e w' => e = .returned (.bool (decide (xs = ys))) ∧ w.grownBy w' none :=
  (refSame_any v1 v2 xs ys w (SliceOf.list h1 hx) (SliceOf.list h2 hy)).mono fun e w' ⟨he, n, hn⟩ => ⟨he, hn ▸ g_drewN (g_refl w none) n⟩

theorem SliceOf.kept {w w' : World} {k1 k2 : IntKind} {v : Value} {xs : List (Int × Int)} {row : Option Nat} (h : SliceOf w k1 k2 v xs) (hg : w.grownBy w' row) (hne : ∀ r, row = some r → v.ownBlock ≠ some r) : SliceOf w' k1 k2 v xs := by
  obtain ⟨a, cap, rfl, hl, hc⟩ := h
  refine ⟨a, cap, rfl, hl, fun h0 => ?_⟩
  obtain ⟨g, rfl, hx⟩ := hc h0
  have kc : ∀ {i : Nat} {v : Value}, w.cell? ⟨g, i, none⟩ = some v → w'.cell? ⟨g, i, none⟩ = some v := fun {i v} h => by rw [← h]; exact g_cell (a := ⟨g, i, none⟩) hg (cell_lt h) (fun e => hne g e.symm rfl)
  exact ⟨g, rfl, fun i u c hi => ⟨kc (hx i u c hi).1, kc (hx i u c hi).2⟩⟩

set_option maxRecDepth 100000 in
set_option maxHeartbeats 4000000 in
theorem copies_walk (a0 : Option Addr) (len0 cap0 : Nat) (A : Nat → Nat → Int) (B : Nat → Int) (m : Nat) (w : World) (hA : ActsAt w a0 len0 A) (hl0 : len0 ≤ 40) (hm0 : 1 ≤ m) (hm1 : m ≤ 9) :
    Calls Try.prog 5 #[.slice a0 len0 cap0, .agg #[.int .i64 (B 0), .int .i64 (B 1), .int .u64 (B 2), .int .u64 (B 3), .int .i64 (B 4), .int .i64 (B 5), .int .u64 (B 6), .int .u64 (B 7)], .int .i64 m] w fun e w' => e = .returned (.bool true) ∧ w.grownBy w' none := by
  have HA := hid hA
  clear hA
  have hgA : w.grownBy ((w.alloc (.cells #[.int .i64 (B 0), .int .i64 (B 1), .int .u64 (B 2), .int .u64 (B 3), .int .i64 (B 4), .int .i64 (B 5), .int .u64 (B 6), .int .u64 (B 7)] 57)).alloc (.cells #[.int .i64 m] 3)) none := g_alloc (g_alloc (g_refl w _) _) _
  have hbT := (Blk.new w [.int .i64 (B 0), .int .i64 (B 1), .int .u64 (B 2), .int .u64 (B 3), .int .i64 (B 4), .int .i64 (B 5), .int .u64 (B 6), .int .u64 (B 7)] 57).alloc (.cells #[.int .i64 m] 3)
  have hbM := Blk.new (w.alloc (.cells #[.int .i64 (B 0), .int .i64 (B 1), .int .u64 (B 2), .int .u64 (B 3), .int .i64 (B 4), .int .i64 (B 5), .int .u64 (B 6), .int .u64 (B 7)] 57)) [.int .i64 m] 3
  rw [World.size_alloc] at hbM
  have hqF : ∀ (w : World) (fn : Fn) (a b : Array Value), (binOp .eql 59 (.func fn a b) .nilFunc).run Try.prog w = .ok (.bool false) w := fun w fn a b => run_eql_func_nil w _ _ _ _ fn a b Try.underlying59
  have qF := hid hqF
  obtain ⟨i0, hi, hz0, hz1, hz2⟩ := info_parts info_lrow
  clear hqF
  refine calls_of_wp_marks Try.func5 rfl (wpIn_wide.2 ?_)
  simp only [Try.ntmps5, List.size_toArray, List.length_cons, List.length_nil, Nat.reduceAdd, Nat.reduceSub, Array.replicate_succ, Array.replicate_zero, List.push_toArray, List.append_toArray, List.nil_append, List.cons_append]
  go_wp2_with fail
  refine (new_yes 8 (by omega) _).mono ?_
  rintro e w1 ⟨p, g, rfl, hc1, hg1, hp1, hgg1⟩
  go_wp2_with fail
  refine (refNew_yes 8 (by omega) w1).mono ?_
  rintro e w2 ⟨v, rfl, hl2, hg2⟩
  replace hc1 := hc1.keptN hg2
  replace hg2 := g_none hg1 hg2
  clear hg1 hp1
  go_wp2_with fail
  go_loopw [7, 9, 11] (fun v7 v9 v11 wr => ∃ (k p g : Nat) (xs : List (Int × Int)), k ≤ len0 ∧ v11 = .int .i64 k ∧ v7 = .pointer (some ⟨p, 0, none⟩) ∧ CellsAt wr p g xs ∧ ListAt wr 82 v9 xs ∧ Small xs k ∧ xs.length = 8 ∧ ((w.alloc (.cells #[.int .i64 (B 0), .int .i64 (B 1), .int .u64 (B 2), .int .u64 (B 3), .int .i64 (B 4), .int .i64 (B 5), .int .u64 (B 6), .int .u64 (B 7)] 57)).alloc (.cells #[.int .i64 m] 3)).grownBy wr none ∧ w.heap.size + 2 ≤ g) (fun _ _ v11 _ => len0 - (intOf v11).toNat)
  case atStart => exact ⟨0, p, g, _, Nat.zero_le _, rfl, rfl, hc1, hl2, Small.zero 8, rfl, hg2, by simpa using hgg1⟩
  case round =>
    obtain ⟨k, p, g, xs, hk, rfl, rfl, hc, hl, hs, hx, hg, hgg⟩ := hrel
    clear hc1 hl2 hg2
    by_cases hlt : k < len0
    · obtain ⟨b, off, rfl, hcell⟩ := (HA.out.kept (g_none hgA hg)) (by omega)
      obtain ⟨e0, e1, e2, e3⟩ := hcell k hlt
      clear hcell
      go_wp2_with fail
      refine (act_any p g _ xs (by omega) k (by omega) hs (A k 0) (A k 1) (A k 2) (A k 3) wr hc hl).mono ?_
      rintro e w7 ⟨p', g', v', rfl, hc7, hl7, hg7, hor⟩
      go_wp2
      go_roundw
      case rel =>
        refine ⟨k + 1, p', g', _, by omega, by go_num, rfl, hc7, hl7, hs.act _ _ _ _, by rw [actL_length]; exact hx, g_new hg hg7 (by simpa using hgg), ?_⟩
        have hsz := hg.size
        simp only [World.size_alloc] at hsz
        rcases hor with ⟨_, rfl⟩ | ⟨_, h2⟩
        · exact hgg
        · omega
      case measure => simp [intOf]; omega
    · obtain rfl : k = len0 := by omega
      have hsr := hg.size
      simp only [World.size_alloc] at hsr
      have hltc := hc.lt
      go_wp2_with fail
      refine (copy_some p g xs (by omega) _ hc).mono ?_
      rintro e w2 ⟨p2, g2, rfl, hc2, hg2, hp2, hgg2⟩
      have hltd := hc2.lt
      replace hc := hc.keptN hg2
      replace hl := hl.keptN hg2
      replace hg2 := g_none hg hg2
      go_wp2_with fail
      refine (all_some p g xs (by omega) _ hc).mono ?_
      rintro e w3 ⟨wb, vv, rfl, hX3, hg3, hvn, hwn⟩
      have hs23 := hg3.size
      obtain ⟨hXw, ax, capx, rfl, hXl, hXc⟩ := hX3
      replace hc := hc.keptN hg3
      replace hc2 := hc2.keptN hg3
      replace hl := hl.keptN hg3
      replace hg3 := g_none hg2 hg3
      clear hg2
      have hb3 := hbT.keptN hg3
      have f0 := hb3.cellOf (i := 0) rfl
      have f1 := hb3.cellOf (i := 1) rfl
      have f2 := hb3.cellOf (i := 2) rfl
      have f3 := hb3.cellOf (i := 3) rfl
      have f4 := hb3.cellOf (i := 4) rfl
      have f5 := hb3.cellOf (i := 5) rfl
      have f6 := hb3.cellOf (i := 6) rfl
      have f7 := hb3.cellOf (i := 7) rfl
      go_wp2_with fail
      refine (act_any p g _ xs (by omega) k (by omega) hs (B 0) (B 1) (B 2) (B 3) w3 hc hl).mono ?_
      rintro e w4 ⟨pa, ga, o, rfl, hca, hlo, hg4, hora⟩
      clear f0 f1 f2 f3 f4 f5 f6 f7
      have hs4 := hg4.size
      replace hc2 := hc2.kept hg4 (by simp; omega) (by simp; omega)
      have hlv := hl.kept_cells hc hg4
      have hg4' := g_new hg3 hg4 (by simpa using hgg)
      have hb4 := hbT.keptN hg4'
      have f0 := hb4.cellOf (i := 0) rfl
      have f1 := hb4.cellOf (i := 1) rfl
      have f2 := hb4.cellOf (i := 2) rfl
      have f3 := hb4.cellOf (i := 3) rfl
      have f4 := hb4.cellOf (i := 4) rfl
      have f5 := hb4.cellOf (i := 5) rfl
      have f6 := hb4.cellOf (i := 6) rfl
      have f7 := hb4.cellOf (i := 7) rfl
      go_wp2_with fail
      refine (act_any p2 g2 _ xs (by omega) k (by omega) hs (B 4) (B 5) (B 6) (B 7) w4 hc2 hlv).mono ?_
      rintro e w5 ⟨pb, gb, o2, rfl, hcb, hlo2, hg5, horb⟩
      clear f0 f1 f2 f3 f4 f5 f6 f7
      have hs5 := hg5.size
      have hca5 := hca.kept hg5 (by simp; omega) (by simp; omega)
      have hlo5 := hlo.kept_cells hc2 hg5
      have hlv5 := hlv.kept_cells hc2 hg5
      have hg5' := g_new hg4' hg5 (by simp; omega)
      have hla := actL_length xs (B 0) (B 1) (B 2) (B 3)
      have hlb := actL_length xs (B 4) (B 5) (B 6) (B 7)
      obtain ⟨ya, hya⟩ : ∃ y, y = actL xs (B 0) (B 1) (B 2) (B 3) := ⟨_, rfl⟩
      obtain ⟨yb, hyb⟩ : ∃ y, y = actL xs (B 4) (B 5) (B 6) (B 7) := ⟨_, rfl⟩
      rw [← hya] at hca5 hlo5 hla
      rw [← hyb] at hcb hlo2 hlb
      have hXK : ∀ {W : World}, w5.grownBy W none → AllX wb (.slice ax xs.length capx) xs W := by
        intro W hW
        have hne1 : wb ≠ g := by omega
        have hne2 : wb ≠ g2 := by omega
        have hlw3 := cell_lt hXw
        have c4 : w4.cell? ⟨wb, 0, none⟩ = some (.slice ax xs.length capx) := by rw [← hXw]; exact g_cell (a := ⟨wb, 0, none⟩) hg4 hlw3 (by simpa using hne1)
        have c5 : w5.cell? ⟨wb, 0, none⟩ = some (.slice ax xs.length capx) := by rw [← c4]; exact g_cell (a := ⟨wb, 0, none⟩) hg5 (cell_lt c4) (by simpa using hne2)
        refine ⟨g_cellN hW c5, (((show SliceOf w3 .u64 .i64 (.slice ax xs.length capx) xs from ⟨ax, capx, rfl, hXl, hXc⟩).kept hg4 (fun r e hr => ?_)).kept hg5 (fun r e hr => ?_)).keptN hW⟩
        · cases e; have := (hvn _ hr).1; omega
        · cases e; have := (hvn _ hr).1; omega
      clear hca hlo hlv hc2 hl hc
      go_wp2_with fail
      refine (num_any _ _).mono ?_
      rintro e _ ⟨rfl, rfl⟩
      go_wp2_with fail
      refine (is_true pa ga _ ya (by omega) _ hca5 hlo5).mono ?_
      rintro e w6 ⟨rfl, hg6⟩
      replace hca5 := hca5.keptN hg6
      replace hcb := hcb.keptN hg6
      replace hlo5 := hlo5.keptN hg6
      replace hlo2 := hlo2.keptN hg6
      replace hlv5 := hlv5.keptN hg6
      go_wp2_with fail
      refine (is_true pb gb _ yb (by omega) _ hcb hlo2).mono ?_
      rintro e w7 ⟨rfl, hg7⟩
      replace hca5 := hca5.keptN hg7
      replace hcb := hcb.keptN hg7
      replace hlo5 := hlo5.keptN hg7
      replace hlo2 := hlo2.keptN hg7
      replace hlv5 := hlv5.keptN hg7
      replace hg7 := g_none hg6 hg7
      clear hg6
      obtain ⟨d, hd⟩ : ∃ d, decide (ya = yb) = d := ⟨_, rfl⟩
      have hd2 : decide (yb = ya) = d := by rw [← hd]; simp [eq_comm]
      go_wp2_with fail
      refine (same_ss pa ga pb gb ya yb (by omega) (by omega) _ hca5 hcb).mono ?_
      rintro e w8 ⟨he, hg8⟩
      rw [hd] at he
      subst he
      replace hca5 := hca5.keptN hg8
      replace hcb := hcb.keptN hg8
      replace hlo5 := hlo5.keptN hg8
      replace hlo2 := hlo2.keptN hg8
      replace hlv5 := hlv5.keptN hg8
      replace hg8 := g_none hg7 hg8
      clear hg7
      go_wp2_with fail
      refine (refSame_gr _ _ ya yb _ hlo5 hlo2 (by omega) (by omega)).mono ?_
      rintro e w9 ⟨he, hg9⟩
      rw [hd] at he
      subst he
      replace hca5 := hca5.keptN hg9
      replace hcb := hcb.keptN hg9
      replace hlo5 := hlo5.keptN hg9
      replace hlo2 := hlo2.keptN hg9
      replace hlv5 := hlv5.keptN hg9
      replace hg9 := g_none hg8 hg9
      clear hg8
      go_wp2_with fail
      refine (same_ss pb gb pa ga yb ya (by omega) (by omega) _ hcb hca5).mono ?_
      rintro e w10 ⟨he, hg10⟩
      rw [hd2] at he
      subst he
      replace hca5 := hca5.keptN hg10
      replace hcb := hcb.keptN hg10
      replace hlo5 := hlo5.keptN hg10
      replace hlo2 := hlo2.keptN hg10
      replace hlv5 := hlv5.keptN hg10
      replace hg10 := g_none hg9 hg10
      clear hg9
      go_wp2_with fail
      refine (refSame_gr _ _ ya yb _ hlo5 hlo2 (by omega) (by omega)).mono ?_
      rintro e w11 ⟨he, hg11⟩
      rw [hd] at he
      subst he
      replace hca5 := hca5.keptN hg11
      replace hcb := hcb.keptN hg11
      replace hlo5 := hlo5.keptN hg11
      replace hlo2 := hlo2.keptN hg11
      replace hlv5 := hlv5.keptN hg11
      replace hg11 := g_none hg10 hg11
      clear hg10
      clear hd hd2 hca5 hcb hlo5 hlo2
      have qF' := qF.out
      obtain ⟨hXw5, ax', capx', eX, hXl5, hXc5⟩ := hXK hg11
      cases eX
      have hM11 := (hbM.keptN (g_none hg5' hg11))
      have hgw : w.grownBy w11 none := g_none hgA (g_none hg5' hg11)
      have bL := Boxed.new w11 49 (.slice none 0 0)
      have hgL : w11.grownBy (w11.alloc (.cells #[.slice none 0 0] 49)) none := g_alloc (g_refl w11 _) _
      go_wp2_with fail
      refine wp_named (fun T hT => ?_)
      have hfoot : Foot [w11.heap.size] (some w11.heap.size) (w11.alloc (.cells #[.slice none 0 0] 49)) := ⟨fun b hw => by
        rcases hw with hm' | ⟨r, u, hr, hc, hu⟩
        · simp at hm'; subst hm'; simp
        · cases hr; rw [bL.cell] at hc; cases hc; simp [Value.ownBlock] at hu, fun r hr => by cases hr; simp⟩
      have hnw : ∀ {p : Nat}, p < w11.heap.size → NotW [w11.heap.size] (some w11.heap.size) p (w11.alloc (.cells #[.slice none 0 0] 49)) := fun {p} hp => ⟨by simp; omega, fun hw => by
        rcases hw with hm' | ⟨r, u, hr, hc, hu⟩
        · simp at hm'; omega
        · cases hr; rw [bL.cell] at hc; cases hc; simp [Value.ownBlock] at hu⟩
      have kB : Box [w11.heap.size] (some w11.heap.size) (w11.alloc (.cells #[.slice none 0 0] 49)).heap.size wb (.slice ax xs.length capx) (w11.alloc (.cells #[.slice none 0 0] 49)) := ⟨Nat.le_refl _, hnw (cell_lt hXw5), g_cellN hgL hXw5⟩
      have kM : Box [w11.heap.size] (some w11.heap.size) (w11.alloc (.cells #[.slice none 0 0] 49)).heap.size (w.heap.size + 1) (.int .i64 m) (w11.alloc (.cells #[.slice none 0 0] 49)) := ⟨Nat.le_refl _, hnw hM11.lt, g_cellN hgL (hM11.cellOf rfl)⟩
      have kS : SliceK [w11.heap.size] (some w11.heap.size) (w11.alloc (.cells #[.slice none 0 0] 49)).heap.size (.slice ax xs.length capx) xs (w11.alloc (.cells #[.slice none 0 0] 49)) := by
        refine ⟨Nat.le_refl _, fun r hr => hnw ?_, (show SliceOf w11 .u64 .i64 (.slice ax xs.length capx) xs from ⟨ax, capx, rfl, hXl5, hXc5⟩).keptN hgL⟩
        have h1 := hvn r hr
        have h2 := hgw.size
        have h3 := hg11.size
        omega
      refine wp_of_in (wp_iter (gf := 37) (lb := #[.pointer (some ⟨wb, 0, none⟩)]) (by subst hT; rfl) (Go.Proofs.enters_of Try.func37 (by kernel_rfl) rfl)
        (encs := fun x : Nat × Int => #[.int .i64 x.1, .int .u64 x.2]) (fun _ => rfl) [w11.heap.size] (some w11.heap.size) hfoot
        (fun W1 _ => all1_iter wb (.slice ax xs.length capx) xs W1)
        (fun pre W1 => ((((∃ v, Boxed W1 w11.heap.size 49 v ∧ W1.ownsRow w11.heap.size 63 2 v pre.length (flatR pre) ∧ pre.length < m) ∧ Box [w11.heap.size] (some w11.heap.size) (w11.alloc (.cells #[.slice none 0 0] 49)).heap.size wb (.slice ax xs.length capx) W1) ∧ Box [w11.heap.size] (some w11.heap.size) (w11.alloc (.cells #[.slice none 0 0] 49)).heap.size (w.heap.size + 1) (.int .i64 m) W1) ∧ SliceK [w11.heap.size] (some w11.heap.size) (w11.alloc (.cells #[.slice none 0 0] 49)).heap.size (.slice ax xs.length capx) xs W1) ∧ w11.grownBy W1 none)
        (fun c pre W1 => ((∃ v, Boxed W1 w11.heap.size 49 v ∧ W1.ownsRow w11.heap.size 63 2 v pre.length (flatR pre) ∧ (pre.length = m ∧ c = .exit 2)) ∧ w11.grownBy W1 none))
        (OwnFrom.and (OwnFrom.and (OwnFrom.and (OwnFrom.and (Own.from (holdsRow_own _ _ _ _ _ _ _ (fun (pre : List (Nat × Int)) _ => pre.length < m)) _) (Box.own hfoot)) (Box.own hfoot)) (SliceK.own hfoot)) (grown_own hgL.size))
        (fun c => OwnFrom.and (Own.from (holdsRow_own _ _ _ _ _ _ _ (fun (pre : List (Nat × Int)) _ => pre.length = m ∧ c = .exit 2)) _) (grown_own hgL.size))
        (fun pre W1 h => ⟨h.1.1.1.2.2.2, h.1.2.2.2⟩)
        ⟨⟨⟨⟨⟨_, bL, World.ownsRow_nil _ _ _ _, hm0⟩, kB⟩, kM⟩, kS⟩, hgL⟩
        (fun x a' _ => a' = { tmps := ((((T.setIfInBounds 127 (.int .i64 x.1)).setIfInBounds 128 (.int .u64 x.2)).setIfInBounds 21 (.int .i64 x.1)).setIfInBounds 22 (.int .u64 x.2)), defers := [] })
        (fun x a' s A B row h _ _ => h) ?assign ?body ?done ?stop)
      case assign =>
        intro l' pre x W1 K _ _ hK
        subst hT
        gi_wp2
        exact hK _ _ (KeepsFrom.refl _ _) (Keeps.refl _ _ _) (by assumption) rfl
      case body =>
        rintro l' pre x a' W1 hl' ⟨⟨⟨⟨⟨v1, hb1, hrow1, hlm⟩, kB1⟩, kM1⟩, kS1⟩, hgW1⟩ rfl hnx
        subst hT
        have hc1 := hb1.cell
        have hcm := kM1.2.2
        have hB1 : (w11.alloc (.cells #[.slice none 0 0] 49)).heap.size ≤ W1.heap.size := kB1.1
        have hsL : (w11.alloc (.cells #[.slice none 0 0] 49)).heap.size = w11.heap.size + 1 := by simp
        have hcc := cells_new W1 [.int .i64 x.1, .int .u64 x.2] 63
        by_cases hlast : pre.length + 1 < m
        all_goals
          gi_wp2_with (gi_at_builtin; refine held_stop ?_)
          refine ⟨?_⟩
          refine wpListIn_append_own_at _ rfl _ _ 49 rfl w11.heap.size 63 i0 (.agg #[.int .i64 0, .int .u64 0]) 2 16 Try.underlying49 hi hz0 hz1 hz2 rfl (by decide) _ _ _ rfl (hrow1.alloc _) ⟨W1.heap.size, 0, none⟩ 1 1 [.int .i64 x.1, .int .u64 x.2] rfl rfl hcc (by simp [Value.oneCell']) (by unfold maxLen; omega) (by omega) (by have := hgW1.size; simp; omega) ?_
          intro v' w3 hown' hgrow hnn hob
          obtain ⟨g', cap', rfl⟩ := ownsRow_succ hown'
          obtain ⟨hv1, hv2, hr2, hk2, hb2⟩ := hb1.appended (by decide) hrow1 hgW1.size (Nat.le_refl _) hown' hgrow
          have hc3 := hv1.cell
          have hf3 := hv1.frozen
          have hc4 := hv2.cell
          have hkp := keeps_append hb1 (fun r e => (row_base hrow1 r e).2) (fun e => hb1.not_row (by decide) hrow1 e.symm) hgrow hob (fun r e => (row_base hown' r e).2)
          have hcm4 := (kM1.keeps hkp).2.2
          gi_wp2
          have hgF : w11.grownBy (w3.setCell ⟨w11.heap.size, 0, none⟩ (.slice (some ⟨g', 0, none⟩) (pre.length + 1) cap')) none := g_set (g_trans (g_alloc hgW1 _) hgrow (fun r e => .inr (row_base hrow1 r e).1)) _ (.inr (Nat.le_refl _))
        · exact ⟨hk2.from _, hkp, ⟨⟨⟨⟨_, hv2, by rw [List.length_append, flatR_append]; exact hr2, by simp; omega⟩, kB1.keeps hkp⟩, kM1.keeps hkp⟩, kS1.keeps hkp⟩, hgF⟩
        · exact ⟨hk2.from _, hkp, ⟨_, hv2, by rw [List.length_append, flatR_append]; exact hr2, by simp; omega, rfl⟩, hgF⟩
      case done =>
        rintro D ys W1 hD rfl ⟨⟨⟨⟨⟨v1, hb1, hrow1, hlm⟩, kB1⟩, kM1⟩, kS1⟩, hgW1⟩ hK
        subst hT
        have hc1 := hb1.cell
        have hmc := g_cellN hgW1 (hM11.cellOf (i := 0) rfl)
        have hlw := hlv5.keptN hgW1
        have hnl := nz_length xs 0
        have hS1 := SliceOf.rows (show (nz 0 xs).length ≤ 1000000 by omega) hrow1
        go_wp2_with fail
        refine (rows_any _ xs (by omega) _ hlw).mono ?_
        rintro e W2 ⟨v2, rfl, hs2, hgr, hcap⟩
        replace hc1 := g_cellN hgr hc1
        replace hmc := g_cellN hgr hmc
        replace hS1 := hS1.keptN hgr
        have hs2' := hid hs2
        obtain ⟨a2, cap2, rfl, hl2, hcc2⟩ := hs2
        replace hcap := hcap _ _ _ rfl
        have hlp : (pairs (nz 0 xs)).length = (nz 0 xs).length := by simp [pairs]
        have hlp2 : (nz 0 xs).length ≤ cap2 := by omega
        clear hcc2
        go_wp2_with fail
        go_still_tail 7, (by kernel_rfl)
        change wpList _ _ _ _ _ W2.drew
        go_wp2_with fail
        have hdec : decide (pairs (nz 0 xs) = pairs (nz 0 xs)) = true := by simp
        refine (lawSame_any _ _ (pairs (nz 0 xs)) (pairs (nz 0 xs)) W2.drew hS1 (by rw [← hlp]; exact hs2'.out)).mono ?_
        rintro e W3 ⟨he, n3, rfl⟩
        rw [hdec] at he
        subst he
        go_wp2_with fail
        refine (works_true _).mono ?_
        rintro e W4 ⟨rfl, hg4w⟩
        have hgE : W1.grownBy W4 none := g_none (g_none hgr (g_drewN (g_refl W2 none) _)) hg4w
        have hK4 : W4.heap[D]? = some (.deferred (some [])) := (hgE.block D (Array.getElem?_eq_some_iff.1 hK).1 (by simp)).trans hK
        go_wp2
        refine ⟨by simp, .inl ⟨_, _, rfl, run_takeDeferred hK4, ?_⟩⟩
        exact ⟨_, results_tmp rfl _ _ _, rfl, g_put (g_none hgw (g_none hgW1 hgE)) D _ (Nat.le_trans hgw.size (Nat.le_trans hgL.size hD))⟩
      case stop =>
        rintro D c pre W1 hD hp ⟨⟨v1, hb1, hrow1, hlm, rfl⟩, hgW1⟩ hK
        subst hT
        refine wpIn_exit ?_
        have hc1 := hb1.cell
        have hmc := g_cellN hgW1 (hM11.cellOf (i := 0) rfl)
        have hlw := hlv5.keptN hgW1
        have hnl := nz_length xs 0
        have hS1 := SliceOf.rows (show pre.length ≤ 1000000 by omega) hrow1
        go_wp2_with fail
        refine (rows_any _ xs (by omega) _ hlw).mono ?_
        rintro e W2 ⟨v2, rfl, hs2, hgr, hcap⟩
        replace hc1 := g_cellN hgr hc1
        replace hmc := g_cellN hgr hmc
        replace hS1 := hS1.keptN hgr
        have hs2' := hid hs2
        obtain ⟨a2, cap2, rfl, hl2, hcc2⟩ := hs2
        replace hcap := hcap _ _ _ rfl
        have hlp : (pairs (nz 0 xs)).length = (nz 0 xs).length := by simp [pairs]
        have hlp2 : m ≤ (nz 0 xs).length := by have := hp.length_le; omega
        have hlp3 : ¬ ((nz 0 xs).length < m) := by omega
        have hlp4 : (m : Int) ≤ cap2 := by omega
        clear hcc2
        go_wp2_with fail
        go_still_tail 7, (by kernel_rfl)
        change wpList _ _ _ _ _ W2.drew
        go_wp2_with fail
        have hdec : decide (pairs pre = (pairs (nz 0 xs)).take m) = true := by
          have h1 := List.prefix_iff_eq_take.1 hp
          rw [hlm] at h1
          simp only [decide_eq_true_eq]
          conv => lhs; rw [h1]
          simp [pairs, List.map_take]
        refine (lawSame_any _ _ (pairs pre) ((pairs (nz 0 xs)).take m) W2.drew hS1 (SliceOf.take hs2'.out m cap2 (by omega))).mono ?_
        rintro e W3 ⟨he, n3, rfl⟩
        rw [hdec] at he
        subst he
        go_wp2_with fail
        refine (works_true _).mono ?_
        rintro e W4 ⟨rfl, hg4w⟩
        have hgE : W1.grownBy W4 none := g_none (g_none hgr (g_drewN (g_refl W2 none) _)) hg4w
        have hK4 : W4.heap[D]? = some (.deferred (some [])) := (hgE.block D (Array.getElem?_eq_some_iff.1 hK).1 (by simp)).trans hK
        go_wp2
        refine ⟨by simp, .inl ⟨_, _, rfl, run_takeDeferred hK4, ?_⟩⟩
        exact ⟨_, results_tmp rfl _ _ _, rfl, g_put (g_none hgw (g_none hgW1 hgE)) D _ (Nat.le_trans hgw.size (Nat.le_trans hgL.size hD))⟩
end Go.Proofs.Ythoelbildokmpaa
