/-
  LockCopies, walked.
-/
import Derived.Test.YtnpimkigiioiaaaLockSame3
import Derived.Deep.RegionWith
namespace Go.Proofs.Ytnpimkigiioiaaa
open Go.RowKit
set_option maxRecDepth 100000

def six (B : Nat → Int) : List Value := [.int .i64 (B 0), .int .i64 (B 1), .int .i64 (B 2), .int .i64 (B 3), .int .i64 (B 4), .int .i64 (B 5)]
/-- What the loop of calls leaves. -/
structure CopL (w wr : World) (B : Nat → Int) (b p pc g K : Nat) (v : Value) (l : List Int) : Prop where
  box : Boxed wr b 23 v
  arr : Blk wr w.heap.size 54 (six B)
  res : Boxed wr (w.heap.size + 1) 4 (.bool false)
  lock : LockAt wr p pc g K l
  ints : IntsAt wr v l
  grown : w.grownBy wr none
  len : l.length = 6
  vg : v.ownBlock ≠ some g
  vb : v.ownBlock ≠ some b
  lo : w.heap.size + 1 < b ∧ w.heap.size + 1 < p ∧ w.heap.size + 1 < pc ∧ w.heap.size + 1 < g
  ne : b ≠ p ∧ b ≠ pc ∧ b ≠ g
theorem CopL.nonempty {w wr : World} {B : Nat → Int} {b p pc g K : Nat} {v : Value} {l : List Int} (h : CopL w wr B b p pc g K v l) : l ≠ [] := by
  intro e; have := h.len; rw [e] at this; cases this
/-- A call, and the box's store. -/
theorem CopL.act {w wr : World} {B : Nat → Int} {b p pc g K : Nat} {v : Value} {l : List Int} (h : CopL w wr B b p pc g K v l) {a t n : Int} {w6 : World} {p' pc' g' : Nat} {v' : Value}
    (hL6 : LockAt w6 p' pc' g' (K + 64) (actL l a t n)) (hI6 : IntsAt w6 v' (actL l a t n)) (hg6 : wr.grownBy w6 (some g))
    (hor : (p' = p ∧ pc' = pc ∧ g' = g) ∨ (wr.heap.size ≤ p' ∧ wr.heap.size ≤ pc' ∧ wr.heap.size ≤ g')) (hfr : Fr wr v v') (hn6 : actL l a t n ≠ [] → v'.ownBlock ≠ some g') :
    CopL w (w6.setCell ⟨b, 0, none⟩ v') B b p' pc' g' (K + 64) v' (actL l a t n) := by
  have hlen := (actL_length l a t n).trans h.len
  have hne : actL l a t n ≠ [] := by intro e; rw [e] at hlen; cases hlen
  obtain ⟨hb1, hp1, hpc1, hg1⟩ := h.lo
  obtain ⟨n1, n2, n3⟩ := h.ne
  have hbl := h.box.lt
  have hgS := grownBy_setCell' w6 b v'
  have hbx := h.box.kept hg6 (by simp; omega)
  have hvb : v'.ownBlock ≠ some b := h.ints.low h.nonempty |> fun _ => hfr.fresh (w1 := wr) hbl h.vb
  refine ⟨hbx.set v', (h.arr.kept hg6 (by simp; omega)).kept hgS (by simp; omega), (h.res.kept hg6 (by simp; omega)).kept hgS (by simp; omega), ?_, hI6.kept' hgS (fun _ => hvb), g_new (g_new h.grown hg6 (by omega)) hgS (by omega), hlen, hn6 hne, hvb, ?_, ?_⟩
  · refine hL6.kept hgS ?_ ?_ ?_ <;> (simp; rcases hor with ⟨h1, h2, h3⟩ | ⟨h1, h2, h3⟩ <;> omega)
  · have := h.grown.size; rcases hor with ⟨h1, h2, h3⟩ | ⟨h1, h2, h3⟩ <;> omega
  · rcases hor with ⟨h1, h2, h3⟩ | ⟨h1, h2, h3⟩ <;> omega

theorem SliceOf.keptR {w w' : World} {k1 k2 : IntKind} {v : Value} {xs : List (Int × Int)} {r : Nat} (h : SliceOf w k1 k2 v xs) (hg : w.grownBy w' (some r)) (hne : v.ownBlock ≠ some r) : SliceOf w' k1 k2 v xs := by
  obtain ⟨a, cap, rfl, hl, hc⟩ := h
  refine ⟨a, cap, rfl, hl, fun h0 => ?_⟩
  obtain ⟨g, rfl, hx⟩ := hc h0
  have hgr : some g ≠ some r := fun e => hne (by cases e; rfl)
  exact ⟨g, rfl, fun i u c hi => ⟨by rw [← (hx i u c hi).1]; exact g_cell (a := ⟨g, _, none⟩) hg (cell_lt (hx i u c hi).1) hgr, by rw [← (hx i u c hi).2]; exact g_cell (a := ⟨g, _, none⟩) hg (cell_lt (hx i u c hi).2) hgr⟩⟩
theorem LAllX.keptR {w w' : World} {sb wb : Nat} {v : Value} {xs : List (Int × Int)} {r : Nat} (h : LAllX sb wb v xs w) (hg : w.grownBy w' (some r)) (h1 : sb ≠ r) (h2 : wb ≠ r) (h3 : v.ownBlock ≠ some r) : LAllX sb wb v xs w' := by
  obtain ⟨c1, c2, hs⟩ := h
  refine ⟨?_, ?_, hs.keptR hg h3⟩
  · rw [← c1]; exact g_cell (a := ⟨sb, _, none⟩) hg (cell_lt c1) (by simpa using h1)
  · rw [← c2]; exact g_cell (a := ⟨wb, _, none⟩) hg (cell_lt c2) (by simpa using h2)
/-- What both calls leave. -/
structure CopE (w W : World) (b p1 pc1 g1 K1 : Nat) (v1 : Value) (l1 : List Int) (p2 pc2 g2 K2 : Nat) (v2 : Value) (l2 : List Int) (v : Value) (l : List Int) (sb wb : Nat) (vv : Value) (xs : List (Int × Int)) : Prop where
  box : Boxed W b 23 v
  res : Boxed W (w.heap.size + 1) 4 (.bool false)
  ints : IntsAt W v l
  la : LockAt W p1 pc1 g1 K1 l1
  ia : IntsAt W v1 l1
  lb : LockAt W p2 pc2 g2 K2 l2
  ib : IntsAt W v2 l2
  allx : LAllX sb wb vv xs W
  grown : w.grownBy W none
  ne : p1 ≠ p2
theorem CopE.more {w W W' : World} {b p1 pc1 g1 K1 : Nat} {v1 : Value} {l1 : List Int} {p2 pc2 g2 K2 : Nat} {v2 : Value} {l2 : List Int} {v : Value} {l : List Int} {sb wb : Nat} {vv : Value} {xs : List (Int × Int)}
    (h : CopE w W b p1 pc1 g1 K1 v1 l1 p2 pc2 g2 K2 v2 l2 v l sb wb vv xs) (hg : W.grownBy W' none) : CopE w W' b p1 pc1 g1 K1 v1 l1 p2 pc2 g2 K2 v2 l2 v l sb wb vv xs :=
  ⟨h.box.kept hg (by simp), h.res.kept hg (by simp), h.ints.keptN hg, h.la.keptN hg, h.ia.keptN hg, h.lb.keptN hg, h.ib.keptN hg, h.allx.keptN hg, g_none h.grown hg, h.ne⟩
theorem six_get (B : Nat → Int) {k : Nat} (hk : k < 6) : (six B)[k]? = some (.int .i64 (B k)) := by
  match k, hk with
  | 0, _ => rfl
  | 1, _ => rfl
  | 2, _ => rfl
  | 3, _ => rfl
  | 4, _ => rfl
  | 5, _ => rfl

/-! ### What comes out of the locks -/
def lastR (pre : List (Nat × Int)) : Int := match pre.getLast? with | some x => x.1 | none => -1
theorem lastR_snoc (pre : List (Nat × Int)) (x : Nat × Int) : lastR (pre ++ [x]) = x.1 := by simp [lastR]
theorem lastR_lt {l : List Int} {pre : List (Nat × Int)} {x : Nat × Int} (h : pre ++ [x] <+: lk 0 l) : lastR pre < x.1 := by
  unfold lastR
  cases hp : pre.getLast? with
  | none => simp; omega
  | some y =>
    obtain ⟨s, hs⟩ := h
    have hr := lk_rise l 0
    rw [← hs, List.append_assoc, List.pairwise_append] at hr
    have := hr.2.2 y (List.mem_of_getLast? hp) x (by simp)
    simp; omega
theorem lk_take_succ {l : List Int} {k : Nat} {x : Int} (hx : l[k]? = some x) : (lk 0 (l.take (k + 1))).length = (lk 0 (l.take k)).length + (if 0 ≤ x then 1 else 0) := by
  have hk := (List.getElem?_eq_some_iff.1 hx).1
  rw [List.take_add_one, hx, Option.toList_some, lk_append2, List.length_append]
  congr 1
  simp only [lk]
  split <;> simp

/-- Out by its end alone: for a region of a body that holds a range over a function. -/
def normOnly (K : Act → World → Prop) : Exit → Act → World → Prop
  | .normal, a, w => K a w
  | _, _, _ => False
theorem wp_norm {P : Program} {c : Code} {a : Act} {w : World} {Q : Exit → Act → World → Prop} (h : c.wp P (normOnly (fun a w => Q .normal a w)) a w) : c.wp P Q a w :=
  Code.wp_mono (fun e a w hh => by cases e <;> first | exact hh | exact hh.elim) h

attribute [local go_sem] Oper.semAt_some

set_option maxHeartbeats 8000000 in
theorem copies_walk (a0 : Option Addr) (len0 cap0 : Nat) (A : Nat → Nat → Int) (B : Nat → Int) (w : World) (hA : ActsAt w a0 len0 A) (hl0 : len0 ≤ 30) :
    Calls Try.prog 6 #[.slice a0 len0 cap0, .agg #[.int .i64 (B 0), .int .i64 (B 1), .int .i64 (B 2), .int .i64 (B 3), .int .i64 (B 4), .int .i64 (B 5)]] w fun e w' => e = .returned (.bool true) ∧ w.grownBy w' none := by
  have h30 : ¬ (30 < (len0 : Int)) := by omega
  have hgA := g_alloc (g_alloc (g_refl w none) (.cells #[.int .i64 (B 0), .int .i64 (B 1), .int .i64 (B 2), .int .i64 (B 3), .int .i64 (B 4), .int .i64 (B 5)] 54)) (.cells #[.bool false] 4)
  have hbA := (Blk.new w (six B) 54).alloc (.cells #[.bool false] 4)
  have hbR := Boxed.new (w.alloc (.cells #[.int .i64 (B 0), .int .i64 (B 1), .int .i64 (B 2), .int .i64 (B 3), .int .i64 (B 4), .int .i64 (B 5)] 54)) 4 (.bool false)
  rw [World.size_alloc] at hbR
  have qF : ∀ (w : World) (fn : Fn) (a b : Array Value), (binOp .eql 56 (.func fn a b) .nilFunc).run Try.prog w = .ok (.bool false) w := fun w fn a b => run_eql_func_nil w _ _ _ _ fn a b Try.underlying56
  have HA := hid hA
  clear hA
  refine calls_of_wp_marks Try.func6 rfl (wpIn_wide.2 ?_)
  simp only [Try.ntmps6, List.size_toArray, List.length_cons, List.length_nil, Nat.reduceAdd, Nat.reduceSub, Array.replicate_succ, Array.replicate_zero, List.push_toArray, List.append_toArray, List.nil_append, List.cons_append]
  go_wp2_with fail
  refine (lnew_yes 6 (by omega) _).mono ?_
  rintro e w1 ⟨p, pc, g, rfl, hL1, hg1, hp, hpc, hgg⟩
  rw [World.size_alloc, World.size_alloc] at hp hpc hgg
  go_wp2_with fail
  refine (refNew_yes 6 (by omega) w1).mono ?_
  rintro e w2 ⟨v, rfl, hI2, hg2, hv2⟩
  obtain ⟨av, cv, hvs, _⟩ := hI2.shape
  rw [List.length_replicate] at hvs
  subst hvs
  have hL2 := hL1.keptN hg2
  have hlt := hL1.lt
  have hlt2 := hL2.lt
  have hI2l := hI2.low (by simp)
  have hgX := g_alloc (g_refl w2 none) (.cells #[.slice av 6 cv] 23)
  have hC0 : CopL w (w2.alloc (.cells #[.slice av 6 cv] 23)) B w2.heap.size p pc g 0 (.slice av 6 cv) (List.replicate 6 (-1)) := by
    refine ⟨Boxed.new w2 _ _, ((hbA.keptN hg1).keptN hg2).alloc _, ((hbR.kept hg1 (by simp)).kept hg2 (by simp)).alloc _, hL2.keptN hgX, hI2.keptN hgX, g_none (g_none (g_none hgA hg1) hg2) hgX, by simp, ?_, ?_, ?_, ?_⟩
    · intro e; have := hv2 g e; omega
    · intro e; have := hI2l _ e; omega
    · have := hg1.size; have := hg2.size; simp at *; omega
    · omega
  have HC0 := hid hC0
  clear hC0 hL1 hI2 hg2 hg1 hbA hbR hgA hgX hL2 hlt hlt2 hI2l hv2
  go_wp2_with fail
  obtain ⟨b, hb⟩ : ∃ b, w2.heap.size = b := ⟨_, rfl⟩
  obtain ⟨W0, hW0⟩ : ∃ W0, W0 = w2.alloc (.cells #[.slice av 6 cv] 23) := ⟨_, rfl⟩
  rw [← hW0] at HC0 ⊢
  rw [hb] at HC0 ⊢
  clear hW0 hb
  go_loopw [5, 9] (fun v5 v9 wr => ∃ (i p pc g : Nat) (v : Value) (l : List Int), i ≤ len0 ∧ v9 = .int .i64 i ∧ v5 = .pointer (some ⟨p, 0, none⟩) ∧ CopL w wr B b p pc g (64 * i) v l) (fun _ v9 _ => len0 - (intOf v9).toNat)
  case atStart => exact ⟨0, p, pc, g, _, _, Nat.zero_le _, rfl, rfl, HC0.out⟩
  case round =>
    obtain ⟨i, p, pc, g, v, l, hil, rfl, rfl, hC⟩ := hrel
    have HC := hid hC
    obtain ⟨av, cv, rfl, _⟩ := hC.ints.shape
    have k7 := hC.box.cell
    have hbn := hC.ne
    by_cases hlt : i < len0
    · obtain ⟨lb, off, hla, hcell⟩ := (HA.out.kept hC.grown) (by omega)
      subst hla
      obtain ⟨e0, e1, e2⟩ := hcell i hlt
      have hT := act_any p pc g (64 * i) (by omega) l _ (A i 0) (A i 1) (A i 2) wr.drew (hC.lock.keptN (g_drew (g_refl wr none))) (hC.ints.keptN (g_drew (g_refl wr none))) (fun _ => hC.vg)
      have HT := hid hT
      clear hcell hC hT
      go_wp2_with fail
      refine wp_norm ?_
      go_region_with (first | (go_at_call 10; refine HT.out.mono ?_; rintro e w6 ⟨p', pc', g', v', rfl, hL6, hI6, hg6, hor, hfr, hn6⟩; obtain ⟨av6, cv6, rfl, _⟩ := hI6.shape; have bB := (HC.out.box.kept (g_drew (g_refl wr none)) (by simp)).kept hg6 (by simp; omega); have f0 := bB.frozen; have z0 := bB.cell) | fail)
      all_goals
        have HN := hid (HC.out.act hL6 hI6 (g_drew' hg6) hor hfr hn6)
        clear HT HC bB f0 z0 hL6 hI6 hg6 hor hfr hn6 e0 e1 e2 k7
        simp only [normOnly]
        go_wp2_with fail
        go_roundw
        case rel => exact ⟨i + 1, p', pc', g', _, _, by omega, by go_num, rfl, HN.out⟩
        case measure => simp [intOf]; omega
    · obtain rfl : i = len0 := by omega
      clear hC
      go_wp2_with fail
      refine (lcopy_some p pc g (64 * i) l wr HC.out.lock).mono ?_
      rintro e w5 ⟨q, qc, gq, rfl, hL5, hg5, hq, hqc, hgq⟩
      have hlt5 := hL5.lt
      go_wp2_with fail
      refine (lall_some p pc g (64 * i) l w5 (HC.out.lock.keptN hg5)).mono ?_
      rintro e w6 ⟨sb, wb, vv, xs, rfl, hx, hX6, hg6, hvv, hwb, hsb⟩
      have hthr := HC.out.lock.thr
      have HTHR := hid hthr
      have HX := hid hx
      clear hthr hx
      have hg56 := g_none hg5 hg6
      have hs5 := hg5.size
      have hs6 := hg6.size
      have hlow := HC.out.ints.low HC.out.nonempty
      have hlk := HC.out.lock.lt
      have hlo := HC.out.lo
      have hbl := HC.out.box.lt
      have hb6 := HC.out.box.kept hg56 (by simp)
      have ha6 := HC.out.arr.keptN hg56
      have k7 := hb6.cell
      have c0 := ha6.cellOf (six_get B (k := 0) (by omega))
      have c1 := ha6.cellOf (six_get B (k := 1) (by omega))
      have c2 := ha6.cellOf (six_get B (k := 2) (by omega))
      have hT := act_any p pc g (64 * i) (by omega) l (.slice av l.length cv) (B 0) (B 1) (B 2) w6 (HC.out.lock.keptN hg56) (HC.out.ints.keptN hg56) (fun _ => HC.out.vg)
      have HT := hid hT
      have HL5 := hid hL5
      have HX6 := hid hX6
      have HVV := hid hvv
      have HLOW := hid hlow
      clear hT hL5 hX6 hvv hlow
      go_wp2_with fail
      refine HT.out.mono ?_
      rintro e w7 ⟨p1, pc1, g1, v1, rfl, hL7, hI7, hg7, hor7, hfr7, hn7⟩
      have hs7 := hg7.size
      have hlt7 := hL7.lt
      have hL5' : LockAt w7 q qc gq (64 * i) l := (HL5.out.keptN hg6).kept hg7 (by simp; omega) (by simp; omega) (by simp; omega)
      have hI6' : IntsAt w7 (.slice av l.length cv) l := (HC.out.ints.keptN hg56).kept' hg7 (fun _ => HC.out.vg)
      have hb7 := hb6.kept hg7 (by simp; omega)
      have ha7 := ha6.kept hg7 (by simp; omega)
      have k7' := hb7.cell
      have c3 := ha7.cellOf (six_get B (k := 3) (by omega))
      have c4 := ha7.cellOf (six_get B (k := 4) (by omega))
      have c5 := ha7.cellOf (six_get B (k := 5) (by omega))
      have hvq : (.slice av l.length cv : Value).ownBlock ≠ some gq := fun e => by have := HLOW.out _ e; omega
      have hT2 := act_any q qc gq (64 * i) (by omega) l (.slice av l.length cv) (B 3) (B 4) (B 5) w7 hL5' hI6' (fun _ => hvq)
      have HT2 := hid hT2
      clear hT2 HT k7 c0 c1 c2 ha6
      go_wp2_with fail
      refine HT2.out.mono ?_
      rintro e w8 ⟨p2, pc2, g2, v2, rfl, hL8, hI8, hg8, hor8, hfr8, hn8⟩
      have hgN8 : wr.grownBy w8 (some g) := g_trans (g_trans (g_weak hg56) hg7 (fun r e => .inl e)) hg8 (fun r e => by cases e; right; omega)
      have hE : CopE w w8 b p1 pc1 g1 (64 * i + 64) v1 (actL l (B 0) (B 1) (B 2)) p2 pc2 g2 (64 * i + 64) v2 (actL l (B 3) (B 4) (B 5)) (.slice av l.length cv) l sb wb vv xs := by
        refine ⟨hb7.kept hg8 (by simp; omega), ((HC.out.res.kept hg56 (by simp)).kept hg7 (by simp; omega)).kept hg8 (by simp; omega), hI6'.kept' hg8 (fun _ => hvq), ?_, ?_, hL8, hI8, ?_, g_new HC.out.grown hgN8 (by omega), ?_⟩
        · refine hL7.kept hg8 ?_ ?_ ?_ <;> (simp; rcases hor7 with ⟨h1, h2, h3⟩ | ⟨h1, h2, h3⟩ <;> omega)
        · exact hI7.kept' hg8 (fun _ => by
            rcases hfr7 with rfl | h
            · exact hvq
            · intro e; have := h _ e; omega)
        · refine (HX6.out.keptR hg7 (by omega) (by omega) ?_).keptR hg8 (by omega) (by omega) ?_
          · intro e; have := HVV.out _ e; omega
          · intro e; have := HVV.out _ e; omega
        · rcases hor7 with ⟨h1, h2, h3⟩ | ⟨h1, h2, h3⟩ <;> rcases hor8 with ⟨h4, h5, h6⟩ | ⟨h4, h5, h6⟩ <;> omega
      have HE := hid hE
      have hl6 := HC.out.len
      have HL6 := hid hl6
      obtain ⟨l1, hl1⟩ : ∃ l1, actL l (B 0) (B 1) (B 2) = l1 := ⟨_, rfl⟩
      obtain ⟨l2, hl2⟩ : ∃ l2, actL l (B 3) (B 4) (B 5) = l2 := ⟨_, rfl⟩
      rw [hl1, hl2] at HE
      obtain ⟨d, hd⟩ : ∃ d, decide (l1 = l2) = d := ⟨_, rfl⟩
      have hd2 : decide (l2 = l1) = d := by rw [← hd]; simp [eq_comm]
      have HD := hid hd
      have HD2 := hid hd2
      clear hE hl1 hl2 hd hd2 hL7 hI7 hg7 hor7 hfr7 hn7 hL8 hI8 hg8 hor8 hfr8 hn8 hb6 hb7 ha7 k7' c3 c4 c5 hL5' hI6' hvq HT2 HL5 HX6 HVV HLOW hgN8 hg56 hg5 hg6 hs5 hs6 hs7 hlt7 hq hqc hgq hlt5 hwb hsb hlk hlo hbl hl6 HC
      go_wp2_with (go_at_call 13; refine (num_any _ _).mono ?_; rintro e _ ⟨rfl, rfl⟩)
      refine (is_true p1 pc1 g1 (64 * i + 64) l1 v1 w8 HE.out.la HE.out.ia).mono ?_
      rintro e w9 ⟨rfl, hg9⟩
      have HE9 := hid (HE.out.more hg9)
      go_wp2_with fail
      refine (is_true p2 pc2 g2 (64 * i + 64) l2 v2 w9 HE9.out.lb HE9.out.ib).mono ?_
      rintro e w10 ⟨rfl, hg10⟩
      have HE10 := hid (HE9.out.more hg10)
      have s1 := lsame_some p1 pc1 g1 (64 * i + 64) p2 pc2 g2 (64 * i + 64) l1 l2 w10 HE10.out.la HE10.out.lb HE10.out.ne
      rw [HD.out] at s1
      have S1 := hid s1
      clear s1
      go_wp2_with fail
      refine S1.out.mono ?_
      rintro e w11 ⟨rfl, hg11⟩
      have HE11 := hid (HE10.out.more hg11)
      have s2 := refSame_gr v1 v2 l1 l2 w11 HE11.out.ia HE11.out.ib
      rw [HD.out] at s2
      have S2 := hid s2
      clear s2
      go_wp2_with fail
      refine S2.out.mono ?_
      rintro e w12 ⟨rfl, hg12⟩
      have HE12 := hid (HE11.out.more hg12)
      have s3 := lsame_some p2 pc2 g2 (64 * i + 64) p1 pc1 g1 (64 * i + 64) l2 l1 w12 HE12.out.lb HE12.out.la (fun e => HE12.out.ne e.symm)
      rw [HD2.out] at s3
      have S3 := hid s3
      clear s3
      go_wp2_with fail
      refine S3.out.mono ?_
      rintro e w13 ⟨rfl, hg13⟩
      have HE13 := hid (HE12.out.more hg13)
      have s4 := refSame_gr v1 v2 l1 l2 w13 HE13.out.ia HE13.out.ib
      rw [HD.out] at s4
      have S4 := hid s4
      clear s4
      go_wp2_with fail
      refine S4.out.mono ?_
      rintro e w14 ⟨rfl, hg14⟩
      have HE14 := hid (HE13.out.more hg14)
      clear HE HE9 HE10 HE11 HE12 HE13 S1 S2 S3 S4 hg9 hg10 hg11 hg12 hg13 hg14
      go_wp2_with fail
      obtain ⟨W, hW⟩ : ∃ W, W = w14 := ⟨_, rfl⟩
      rw [← hW] at HE14 ⊢
      clear hW
      have hgI : W.grownBy ((W.alloc (.cells #[.int .i64 0] 3)).alloc (.cells #[.int .i64 (-1)] 3)) none := g_alloc (g_alloc (g_refl W _) _) _
      have bN := (Boxed.new W 3 (.int .i64 0)).alloc (.cells #[.int .i64 (-1)] 3)
      have bL := Boxed.new (W.alloc (.cells #[.int .i64 0] 3)) 3 (.int .i64 (-1))
      rw [World.size_alloc] at bL
      obtain ⟨wI, hwI⟩ : ∃ wI, wI = (W.alloc (.cells #[.int .i64 0] 3)).alloc (.cells #[.int .i64 (-1)] 3) := ⟨_, rfl⟩
      have hsI : wI.heap.size = W.heap.size + 2 := by rw [hwI]; simp
      rw [← hwI] at hgI bN bL ⊢
      clear hwI
      refine wp_named (fun T hT => ?_)
      have hfoot : Foot [W.heap.size, W.heap.size + 1] none wI := ⟨fun b hw => by
        rcases hw with hm' | ⟨r, u, hr, _⟩
        · simp at hm'; omega
        · exact absurd hr (by simp), fun r hr => by cases hr⟩
      have hI : OwnFrom wI.heap.size (fun (pre : List (Nat × Int)) W1 => ((Boxed W1 W.heap.size 3 (.int .i64 pre.length) ∧ Boxed W1 (W.heap.size + 1) 3 (.int .i64 (lastR pre))) ∧ W.grownBy W1 none) ∧ pre.length < 2) :=
        OwnFrom.and (OwnFrom.and (OwnFrom.and (Own.from boxed_own _) (Own.from boxed_own _)) (grown_own hgI.size)) (fun s A B row h _ _ => h)
      have HI := hid hI
      clear hI
      refine wp_of_in (wp_iter (gf := 52) (lb := #[.pointer (some ⟨sb, 0, none⟩)]) (by subst hT; rfl) (Go.Proofs.enters_of Try.func52 (by kernel_rfl) rfl)
        (encs := fun x : Nat × Int => #[.int .i64 x.1, .int .i64 x.2]) (fun _ => rfl) [W.heap.size, W.heap.size + 1] none hfoot
        (fun W1 _ => all2_iter sb wb vv xs l HX.out HTHR.out W1)
        (fun pre W1 => ((Boxed W1 W.heap.size 3 (.int .i64 pre.length) ∧ Boxed W1 (W.heap.size + 1) 3 (.int .i64 (lastR pre))) ∧ W.grownBy W1 none) ∧ pre.length < 2)
        (fun c pre W1 => (Boxed W1 W.heap.size 3 (.int .i64 pre.length) ∧ W.grownBy W1 none) ∧ (pre.length = 2 ∧ c = .exit 2))
        HI.out
        (fun c => OwnFrom.and (OwnFrom.and (Own.from boxed_own _) (grown_own hgI.size)) (fun s A B row h _ _ => h))
        (fun pre W1 h => HE14.out.allx.keptN h.1.2)
        ⟨⟨⟨bN, bL⟩, hgI⟩, by simp⟩
        (fun x a' _ => a' = { tmps := (((T.setIfInBounds 117 (.int .i64 x.1)).setIfInBounds 118 (.int .i64 x.2)).setIfInBounds 20 (.int .i64 x.1)).setIfInBounds 21 (.int .i64 x.2), defers := [] })
        (fun x a' s A B row h _ _ => h) ?assign ?body ?done ?stop)
      case assign =>
        intro l' pre x W1 K hI1 _ hK
        subst hT
        gi_wp2
        exact hK _ _ (KeepsFrom.refl _ _) (Keeps.refl _ _ _) (by assumption) rfl
      case body =>
        rintro l' pre x a' W1 hl' ⟨⟨⟨hn1, hl1⟩, hgW1⟩, hlm⟩ rfl hnx
        subst hT
        have hcn := hn1.cell
        have hcl := hl1.cell
        have hfn := hn1.frozen
        have hfl := hl1.frozen
        have hrise := lastR_lt hnx
        have hxm := hnx.subset (show x ∈ pre ++ [x] by simp)
        have hlx := ((lk_mem l 0 x).1 hxm).2.1
        rw [Nat.sub_zero] at hlx
        have hxl := lk_fst hxm
        rw [HL6.out] at hxl
        have k7 := (HE14.out.box.kept hgW1 (by simp)).cell
        obtain ⟨gv, off, cap2, e, hcv⟩ := (HE14.out.ints.keptN hgW1).at hlx
        cases e
        obtain ⟨L, hLr⟩ : ∃ L, lastR pre = L := ⟨_, rfl⟩
        rw [hLr] at hcl hrise hl1
        have hl6 : l.length = 6 := HL6.out
        rw [hl6] at k7
        have hB1 : wI.heap.size ≤ W1.heap.size := by
          have h1 := hn1.lt
          have h2 := hl1.lt
          omega
        have hgT := grownBy_setCell' W1 (W.heap.size + 1) (.int .i64 x.1)
        have hgS := grownBy_setCell' (W1.setCell ⟨W.heap.size + 1, 0, none⟩ (.int .i64 x.1)) W.heap.size (.int .i64 ((pre.length : Int) + 1))
        have hbl1 : ∀ b ∈ [W.heap.size, W.heap.size + 1], b < W1.heap.size := fun b hb => by simp at hb; omega
        have hbl2 : ∀ b ∈ [W.heap.size, W.heap.size + 1], b < (W1.setCell ⟨W.heap.size + 1, 0, none⟩ (.int .i64 x.1)).heap.size := fun b hb => Nat.lt_of_lt_of_le (hbl1 b hb) hgT.size
        have kf : KeepsFrom wI.heap.size W1 ((W1.setCell ⟨W.heap.size + 1, 0, none⟩ (.int .i64 x.1)).setCell ⟨W.heap.size, 0, none⟩ (.int .i64 ((pre.length : Int) + 1))) := (KeepsFrom.of_grownBy hgT (fun j e => by cases e; omega)).trans (KeepsFrom.of_grownBy hgS (fun j e => by cases e; omega))
        have kp : Keeps [W.heap.size, W.heap.size + 1] none W1 ((W1.setCell ⟨W.heap.size + 1, 0, none⟩ (.int .i64 x.1)).setCell ⟨W.heap.size, 0, none⟩ (.int .i64 ((pre.length : Int) + 1))) := (Keeps.one hbl1 (by simp) hgT (.inl (.inl (by simp))) (by simp)).trans (Keeps.one hbl2 (by simp) hgS (.inl (.inl (by simp))) (by simp))
        have e1 := (hn1.kept hgT (by simp)).set (.int .i64 ((pre.length : Int) + 1))
        have e2 := (hl1.set (.int .i64 x.1)).kept hgS (by simp)
        have hlx2 : (((pre ++ [x]).length : Nat) : Int) = (pre.length : Int) + 1 := by simp
        have hls := lastR_snoc pre x
        have hgF := g_new (g_new hgW1 hgT (by omega)) hgS (Nat.le_refl _)
        have hln : (pre ++ [x]).length = pre.length + 1 := by simp
        have E1 := hid e1
        have E2 := hid e2
        have KF := hid kf
        have KP := hid kp
        clear e1 e2 kf kp hgT hgS hbl1 hbl2 hnx hxm hlx
        by_cases h2 : pre.length + 1 = 2
        · have h2i : (pre.length : Int) + 1 = 2 := by omega
          gi_wp2_with fail
          have kf2 := KF.out
          have kp2 := KP.out
          have e12 := E1.out
          have hgF2 := hgF
          rw [h2i] at kf2 kp2 e12 hgF2
          exact ⟨kf2, kp2, ⟨by rw [hlx2, h2i]; exact e12, hgF2⟩, by rw [hln]; exact h2, rfl⟩
        · have h2i : ((pre.length : Int) + 1 == 2) = false := by simp; omega
          gi_wp2_with fail
          exact ⟨KF.out, KP.out, ⟨⟨by rw [hlx2]; exact E1.out, by rw [hls]; exact E2.out⟩, hgF⟩, by rw [hln]; omega⟩
      case done =>
        rintro D ys W1 hD hys ⟨⟨⟨hn1, hl1⟩, hgW1⟩, hlm⟩ hK
        subst hT
        obtain ⟨H, hH⟩ : ∃ H, (lk 0 l).length = H := ⟨_, rfl⟩
        rw [hys, hH] at hlm hn1
        have hlmI : (H : Int) < 2 := by omega
        have hlmJ : ¬ (2 : Int) ≤ (H : Int) := by omega
        have hcn := hn1.cell
        have k7 := (HE14.out.box.kept hgW1 (by simp)).cell
        have hIv := hid (HE14.out.ints.keptN hgW1)
        have hres := HE14.out.res.kept hgW1 (by simp)
        have hgE := g_none HE14.out.grown hgW1
        have hDl := (Array.getElem?_eq_some_iff.1 hK).1
        clear hn1 hfoot
        go_wp2_with fail
        go_loop [22, 23] (fun v22 v23 => ∃ k : Nat, k ≤ l.length ∧ v23 = .int .i64 k ∧ v22 = .int .i64 (lk 0 (l.take k)).length) (fun _ v23 => l.length - (intOf v23).toNat)
        case atStart => exact ⟨0, Nat.zero_le _, rfl, rfl⟩
        case round =>
          obtain ⟨k, hk, rfl, rfl⟩ := hrel
          by_cases hlt4 : k < l.length
          · obtain ⟨x, hx⟩ : ∃ x, l[k]? = some x := ⟨l[k], List.getElem?_eq_getElem hlt4⟩
            obtain ⟨gv, off, cap2, e, hcv⟩ := hIv.out.at hx
            cases e
            have hsu := lk_take_succ hx
            have hll := lk_length (l.take k) 0
            rw [List.length_take] at hll
            have HSU := hid hsu
            clear hx hsu
            by_cases h0 : 0 ≤ x
            · go_wp2_with fail
              go_round
              case rel => exact ⟨k + 1, by omega, by go_num, by rw [HSU.out, if_pos h0]; go_num⟩
              case measure => simp [intOf]; omega
            · go_wp2_with fail
              go_round
              case rel => exact ⟨k + 1, by omega, by go_num, by rw [HSU.out, if_neg h0]; go_num⟩
              case measure => simp [intOf]; omega
          · obtain rfl : k = l.length := by omega
            have htl : (lk 0 (l.take l.length)).length = H := by rw [List.take_length]; exact hH
            rw [htl]
            clear htl
            go_wp2_with fail
            refine (works_any W1).mono ?_
            rintro e W2 ⟨rfl, hg2⟩
            have hres2 := hres.kept hg2 (by simp)
            have hf2 := hres2.frozen
            have hc2 := hres2.cell
            have hres3 := hres2.set (.bool true)
            have hgR := grownBy_setCell' W2 (w.heap.size + 1) (.bool true)
            have hK2 : (W2.setCell ⟨w.heap.size + 1, 0, none⟩ (.bool true)).heap[D]? = some (.deferred (some [])) := by
              rw [← hK]
              refine (Below.heap_setCell _ _ _ D (by have := hres2.lt; have := hres.lt; have := hgI.size; simp; intro e; have h3 := hK; rw [e] at h3; rw [show W1.heap[w.heap.size + 1]? = _ from hres] at h3; cases h3)).trans ?_
              exact hg2.block D hDl (by simp)
            have hput := grownBy_putObj' (W2.setCell ⟨w.heap.size + 1, 0, none⟩ (.bool true)) D (.deferred none)
            have hDne : D ≠ w.heap.size + 1 := fun e => by
              have h3 := hK; rw [e] at h3; rw [show W1.heap[w.heap.size + 1]? = _ from hres] at h3; cases h3
            have hDw : w.heap.size ≤ D := by have := HE14.out.grown.size; have := hgI.size; omega
            have hfin := hid (And.intro (g_put (g_new (g_none hgE hg2) hgR (by omega)) D (.deferred none) hDw) (hres3.kept hput (by simp; omega)).cell)
            go_wp2_with fail
            refine ⟨by simp, .inl ⟨_, _, rfl, run_takeDeferred hK2, ?_⟩⟩
            exact ⟨_, results_box rfl _ _ (w.heap.size + 1) _ _ rfl Try.underlying4 rfl hfin.out.2, rfl, hfin.out.1⟩
      case stop =>
        rintro D c pre W1 hD hp ⟨⟨hn1, hgW1⟩, hlm, rfl⟩ hK
        subst hT
        refine wpIn_exit ?_
        obtain ⟨H, hH⟩ : ∃ H, (lk 0 l).length = H := ⟨_, rfl⟩
        have hpl := hp.length_le
        rw [hH] at hpl
        rw [hlm, show ((2 : Nat) : Int) = 2 from rfl] at hn1
        have hlmI : (2 : Int) ≤ (H : Int) := by omega
        have hlmJ : ¬ (H : Int) < 2 := by omega
        have hmi : (if (H : Int) < 2 then (H : Int) else 2) = 2 := by rw [if_neg hlmJ]
        have hcn := hn1.cell
        have k7 := (HE14.out.box.kept hgW1 (by simp)).cell
        have hIv := hid (HE14.out.ints.keptN hgW1)
        have hres := HE14.out.res.kept hgW1 (by simp)
        have hgE := g_none HE14.out.grown hgW1
        have hDl := (Array.getElem?_eq_some_iff.1 hK).1
        clear hn1 hfoot
        go_wp2_with fail
        go_loop [22, 23] (fun v22 v23 => ∃ k : Nat, k ≤ l.length ∧ v23 = .int .i64 k ∧ v22 = .int .i64 (lk 0 (l.take k)).length) (fun _ v23 => l.length - (intOf v23).toNat)
        case atStart => exact ⟨0, Nat.zero_le _, rfl, rfl⟩
        case round =>
          obtain ⟨k, hk, rfl, rfl⟩ := hrel
          by_cases hlt4 : k < l.length
          · obtain ⟨x, hx⟩ : ∃ x, l[k]? = some x := ⟨l[k], List.getElem?_eq_getElem hlt4⟩
            obtain ⟨gv, off, cap2, e, hcv⟩ := hIv.out.at hx
            cases e
            have hsu := lk_take_succ hx
            have hll := lk_length (l.take k) 0
            rw [List.length_take] at hll
            have HSU := hid hsu
            clear hx hsu
            by_cases h0 : 0 ≤ x
            · go_wp2_with fail
              go_round
              case rel => exact ⟨k + 1, by omega, by go_num, by rw [HSU.out, if_pos h0]; go_num⟩
              case measure => simp [intOf]; omega
            · go_wp2_with fail
              go_round
              case rel => exact ⟨k + 1, by omega, by go_num, by rw [HSU.out, if_neg h0]; go_num⟩
              case measure => simp [intOf]; omega
          · obtain rfl : k = l.length := by omega
            have htl : (lk 0 (l.take l.length)).length = H := by rw [List.take_length]; exact hH
            rw [htl]
            clear htl
            go_wp2_with fail
            refine (works_any W1).mono ?_
            rintro e W2 ⟨rfl, hg2⟩
            have hres2 := hres.kept hg2 (by simp)
            have hf2 := hres2.frozen
            have hc2 := hres2.cell
            have hres3 := hres2.set (.bool true)
            have hgR := grownBy_setCell' W2 (w.heap.size + 1) (.bool true)
            have hK2 : (W2.setCell ⟨w.heap.size + 1, 0, none⟩ (.bool true)).heap[D]? = some (.deferred (some [])) := by
              rw [← hK]
              refine (Below.heap_setCell _ _ _ D (by have := hres2.lt; have := hres.lt; have := hgI.size; simp; intro e; have h3 := hK; rw [e] at h3; rw [show W1.heap[w.heap.size + 1]? = _ from hres] at h3; cases h3)).trans ?_
              exact hg2.block D hDl (by simp)
            have hput := grownBy_putObj' (W2.setCell ⟨w.heap.size + 1, 0, none⟩ (.bool true)) D (.deferred none)
            have hDne : D ≠ w.heap.size + 1 := fun e => by
              have h3 := hK; rw [e] at h3; rw [show W1.heap[w.heap.size + 1]? = _ from hres] at h3; cases h3
            have hDw : w.heap.size ≤ D := by have := HE14.out.grown.size; have := hgI.size; omega
            have hfin := hid (And.intro (g_put (g_new (g_none hgE hg2) hgR (by omega)) D (.deferred none) hDw) (hres3.kept hput (by simp; omega)).cell)
            go_wp2_with fail
            refine ⟨by simp, .inl ⟨_, _, rfl, run_takeDeferred hK2, ?_⟩⟩
            exact ⟨_, results_box rfl _ _ (w.heap.size + 1) _ _ rfl Try.underlying4 rfl hfin.out.2, rfl, hfin.out.1⟩
end Go.Proofs.Ytnpimkigiioiaaa
