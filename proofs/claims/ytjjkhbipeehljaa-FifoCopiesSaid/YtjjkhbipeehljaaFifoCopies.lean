/-
  FifoCopies, walked.
-/
import Derived.Test.YtjjkhbipeehljaaFifoStart
import Derived.Deep.RegionLaw
namespace Go.Proofs.Ytjjkhbipeehljaa
open Go.RowKit

theorem play_put {p p' b : Nat} {M Y : Int} {u v u' v' : Value} {xs xs' : List T3} {w wq wa w6 : World} (h : PlayK p b M Y u v xs w wq) (hgq : wq.grownBy wa none) (hG : Good xs')
    (hF : FifoAt w6 p' M Y v' xs') (hL : L3 w6 u' xs') (hg6 : wa.grownBy w6 (some p)) (hp : p' = p ∨ wa.heap.size ≤ p') (hv : ∀ r, v'.ownBlock = some r → (v.ownBlock = some r ∨ wa.heap.size ≤ r) ∧ r < w6.heap.size)
    (hu : ∀ r, u'.ownBlock = some r → (u.ownBlock = some r ∨ wa.heap.size ≤ r) ∧ r < w6.heap.size ∧ r ≠ p') : PlayK p' b M Y u' v' xs' w (((w6.setCell ⟨b, 0, none⟩ (.int .i64 M)).setCell ⟨b, 1, none⟩ (.int .i64 Y)).setCell ⟨b, 2, none⟩ u') := by
  have hbl := h.blk.lt
  have hs1 := hgq.size
  have hs2 := hg6.size
  have hne := h.ne
  have hwp := h.hp
  have hpb : p' ≠ b := by rcases hp with rfl | hp <;> omega
  have hvb : ∀ r, v'.ownBlock = some r → r ≠ b := fun r hr => by
    rcases (hv r hr).1 with h1 | h1
    · exact (h.v r h1).2
    · omega
  have hub : ∀ r, u'.ownBlock = some r → r ≠ b := fun r hr => by
    rcases (hu r hr).1 with h1 | h1
    · exact (h.u r h1).2.2
    · omega
  have hb := (h.blk.keptN hgq).kept hg6 (by simpa using hne)
  have hg3 := grow3 w6 b (.int .i64 M) (.int .i64 Y) u'
  have hsz : (((w6.setCell ⟨b, 0, none⟩ (.int .i64 M)).setCell ⟨b, 1, none⟩ (.int .i64 Y)).setCell ⟨b, 2, none⟩ u').heap.size = w6.heap.size := by simp [World.setCell]
  exact ⟨hF.kept hg3 (by simpa using hpb) (fun r e hr => by cases e; exact hvb _ hr rfl), hL.kept hg3 (fun r e hr => by cases e; exact hub _ hr rfl), ((hb.set 0 _).set 1 _).set 2 _, hG,
    g_trans (g_trans (g_none h.g hgq) hg6 (fun r e => by cases e; exact .inr h.hp)) hg3 (fun r e => by cases e; exact .inr h.hb), by rcases hp with rfl | hp <;> have := h.g.size <;> omega, h.hb, hpb.symm, fun r e => ⟨by rw [hsz]; exact (hv r e).2, hvb r e⟩, fun r e => ⟨by rw [hsz]; exact (hu r e).2.1, (hu r e).2.2, hub r e⟩⟩
theorem refSame_gr (v1 v2 : Value) (xs ys : List T3) (w : World) (h1 : L3 w v1 xs) (h2 : L3 w v2 ys) :
    Calls Try.prog 18 #[v1, v2] w fun e w' => e = .returned (.bool (decide (xs = ys))) ∧ w.grownBy w' none := (refSame_any v1 v2 xs ys w h1 h2).mono fun e w' ⟨he, n, hn⟩ => ⟨he, hn ▸ g_drewM (g_refl w none) n⟩
theorem L3.take {w : World} {a : Option Addr} {n cap : Nat} {xs : List T3} (h : L3 w (.slice a n cap) xs) (m : Nat) (hm : m ≤ xs.length) : L3 w (.slice a m cap) (xs.take m) := by
  obtain ⟨a', c', e, h1, h2, h3, h4⟩ := h
  cases e
  have hl : (xs.take m).length = m := by simp; omega
  refine ⟨a, cap, by rw [hl], by omega, by omega, h3, ?_⟩
  rcases h4 with ⟨rfl, rfl⟩ | ⟨g, off, rfl, hx⟩
  · exact .inl ⟨rfl, by simp⟩
  · refine .inr ⟨g, off, rfl, fun i x y z hi => hx i x y z ?_⟩
    rw [List.getElem?_take] at hi
    split at hi
    · exact hi
    · cases hi
theorem ValX.kept {wb : Nat} {v : Value} {xs : List T3} {W W' : World} {row : Option Nat} (h : ValX wb v xs W) (hg : W.grownBy W' row) (h1 : some wb ≠ row) (h2 : ∀ r, row = some r → v.ownBlock ≠ some r) : ValX wb v xs W' :=
  ⟨by rw [← h.1]; exact g_cell (a := ⟨wb, 0, none⟩) hg (cell_lt h.1) h1, h.2.kept hg h2⟩

theorem ValX.keptN {wb : Nat} {v : Value} {xs : List T3} {W W' : World} (h : ValX wb v xs W) (hg : W.grownBy W' none) : ValX wb v xs W' := h.kept hg (by simp) (fun r e => by cases e)

abbrev EndS (l b : Nat) (v u : Value) (w w' : World) : Prop := w'.cell? ⟨l, 0, none⟩ = some v ∧ w'.cell? ⟨b, 2, none⟩ = some u ∧ w.grownBy w' none
theorem EndS.more {l b : Nat} {v u : Value} {w w1 w2 : World} (h : EndS l b v u w w1) (hg : w1.grownBy w2 none) : EndS l b v u w w2 := ⟨g_cellN hg h.1, g_cellN hg h.2.1, g_none h.2.2 hg⟩
theorem EndS.l3 {l b : Nat} {v u v' : Value} {xs : List T3} {w w1 : World} (hL : L3 w v' xs) (h : EndS l b v u w w1) : L3 w1 v' xs := hL.keptN h.2.2

/-- Out by its end alone: for a region of a body that holds a range over a function. -/
def normOnly (K : Act → World → Prop) : Exit → Act → World → Prop
  | .normal, a, w => K a w
  | _, _, _ => False
theorem wp_norm {P : Program} {c : Code} {a : Act} {w : World} {Q : Exit → Act → World → Prop} (h : c.wp P (normOnly (fun a w => Q .normal a w)) a w) : c.wp P Q a w :=
  Code.wp_mono (fun e a w hh => by cases e <;> first | exact hh | exact hh.elim) h

attribute [local go_sem] Oper.semAt_some

set_option maxRecDepth 100000 in
set_option maxHeartbeats 8000000 in
theorem copies_walk (M Y : Int) (hB : boundB M Y = true) (a1 : Option Addr) (len1 cap1 : Nat) (A : Nat → Nat → Int) (B : Nat → Int) (w : World) (hA : ActsAt w a1 len1 A) (hl1 : len1 ≤ 30) :
    Calls Try.prog 5 #[.agg #[.int .i64 M, .int .i64 Y], .slice a1 len1 cap1, .agg #[.int .i64 (B 0), .int .i64 (B 1), .int .i64 (B 2), .int .i64 (B 3), .int .i64 (B 4), .int .i64 (B 5), .int .i64 (B 6), .int .i64 (B 7)]] w fun e w' => e = .returned (.bool true) ∧ w.grownBy w' none := by
  obtain ⟨hM, hY⟩ := boundB_pos hB
  obtain ⟨i0, hi, hz0, hz1, hz2⟩ := info_parts info_held
  have h60 : ¬ (30 < (len1 : Int)) := by omega
  have hgA := g_alloc (g_alloc (g_refl w none) (.cells #[.int .i64 M, .int .i64 Y] 22)) (.cells #[.int .i64 (B 0), .int .i64 (B 1), .int .i64 (B 2), .int .i64 (B 3), .int .i64 (B 4), .int .i64 (B 5), .int .i64 (B 6), .int .i64 (B 7)] 50)
  have bB := (Blk.new w [.int .i64 M, .int .i64 Y] 22).alloc (.cells #[.int .i64 (B 0), .int .i64 (B 1), .int .i64 (B 2), .int .i64 (B 3), .int .i64 (B 4), .int .i64 (B 5), .int .i64 (B 6), .int .i64 (B 7)] 50)
  have bC := Blk.new (w.alloc (.cells #[.int .i64 M, .int .i64 Y] 22)) [.int .i64 (B 0), .int .i64 (B 1), .int .i64 (B 2), .int .i64 (B 3), .int .i64 (B 4), .int .i64 (B 5), .int .i64 (B 6), .int .i64 (B 7)] 50
  rw [World.size_alloc] at bC
  have kb0 := bB.cellOf (i := 0) rfl
  have kb1 := bB.cellOf (i := 1) rfl
  have hqF : ∀ (w : World) (fn : Fn) (a b : Array Value), (binOp .eql 53 (.func fn a b) .nilFunc).run Try.prog w = .ok (.bool false) w := fun w fn a b => run_eql_func_nil w _ _ _ _ fn a b Try.underlying53
  have qF := hid hqF
  have HA := hid hA
  clear hA hqF
  refine calls_of_wp_marks Try.func5 rfl (wpIn_wide.2 ?_)
  simp only [Try.ntmps5, List.size_toArray, List.length_cons, List.length_nil, Nat.reduceAdd, Nat.reduceSub, Array.replicate_succ, Array.replicate_zero, List.push_toArray, List.append_toArray, List.nil_append, List.cons_append]
  go_wp2_with fail
  obtain ⟨W0, hW0⟩ : ∃ W0, W0 = (w.alloc (.cells #[.int .i64 M, .int .i64 Y] 22)).alloc (.cells #[.int .i64 (B 0), .int .i64 (B 1), .int .i64 (B 2), .int .i64 (B 3), .int .i64 (B 4), .int .i64 (B 5), .int .i64 (B 6), .int .i64 (B 7)] 50) := ⟨_, rfl⟩
  rw [← hW0] at hgA bB bC kb0 kb1 ⊢
  have hsW0 : W0.heap.size = w.heap.size + 2 := by rw [hW0]; simp
  clear hW0
  refine (new_yes M Y _ hB).mono ?_
  rintro e w1 ⟨p, rfl, h1, hg1, hp⟩
  have hb1 := bB.keptN hg1
  have q0 := hb1.cellOf (i := 0) rfl
  have q1 := hb1.cellOf (i := 1) rfl
  go_wp2_with fail
  refine (refNew_yes M Y _ hB).mono ?_
  rintro e w2 ⟨rfl, hg2⟩
  have g2 := g_alloc (g_none hg1 hg2) (.cells #[.int .i64 M, .int .i64 Y, .slice none 0 0] 39)
  have b2 := Blk.new w2 [.int .i64 M, .int .i64 Y, .slice none 0 0] 39
  have h2 := (h1.keptN hg2).keptN (g_alloc (g_refl w2 none) (.cells #[.int .i64 M, .int .i64 Y, .slice none 0 0] 39))
  have hs2 := (g_none hg1 hg2).size
  have hps := (h1.keptN hg2).facts.2.2.2.2
  have hK := PlayK.mk h2 (L3.nil _) b2 (fun x hx => by simp at hx) g2 hp hs2 (by omega) (fun r e => by simp [Value.ownBlock] at e) (fun r e => by simp [Value.ownBlock] at e)
  have HK := hid hK
  clear hK h2 b2 g2 hg2 h1 hb1 q0 q1 hg1 kb0 kb1 hp hps hs2 bB
  go_wp2_with fail
  obtain ⟨b, hb⟩ : ∃ b, w2.heap.size = b := ⟨_, rfl⟩
  rw [hb] at HK ⊢
  clear hb
  go_loopw [7, 11] (fun v7 v11 wq => ∃ (i p : Nat) (u v : Value) (xs : List T3), i ≤ len1 ∧ v11 = .int .i64 i ∧ v7 = .pointer (some ⟨p, 0, none⟩) ∧ Hid (PlayK p b M Y u v xs W0 wq) ∧ xs.length ≤ i) (fun _ v11 _ => len1 - (intOf v11).toNat)
  case atStart => exact ⟨0, p, _, _, [], by omega, rfl, rfl, HK, by simp⟩
  case round =>
    clear HK
    obtain ⟨i, p, u, v, xs, hil, rfl, rfl, HK, hxl⟩ := hrel
    obtain ⟨au, cu, rfl, _⟩ := id HK.out.l
    have k0 := HK.out.blk.cellOf (i := 0) rfl
    have k1 := HK.out.blk.cellOf (i := 1) rfl
    have k2 := HK.out.blk.cellOf (i := 2) rfl
    have hact := fun wa (hga : wr.grownBy wa none) x0 x1 x2 x3 => act_any p M Y hM hY v (.slice au xs.length cu) xs HK.out.good (by omega) x0 x1 x2 x3 wa (HK.out.f.keptN hga) (HK.out.l.keptN hga) (fun r e => Nat.lt_of_lt_of_le (HK.out.v r e).1 hga.size) (fun r e => ⟨Nat.lt_of_lt_of_le (HK.out.u r e).1 hga.size, (HK.out.u r e).2.1⟩)
    have HACT := hid hact
    clear hact
    by_cases hlt : i < len1
    · obtain ⟨lb, off, rfl, hcell⟩ := (HA.out.kept (g_none hgA HK.out.g)) (by omega)
      obtain ⟨e0, e1, e2, e3⟩ := hcell i hlt
      have hsd : wr.drew.heap.size = wr.heap.size := rfl
      obtain ⟨ys, hys⟩ : ∃ ys, ys = nextX M Y xs (A i 0) (A i 1, A i 2, A i 3) := ⟨_, rfl⟩
      have hyG : Good ys := by rw [hys]; exact nextX_good HK.out.good
      have hyl : ys.length ≤ i + 1 := by rw [hys]; have := nextX_length (M := M) (Y := Y) (xs := xs) (what := A i 0) (x := (A i 1, A i 2, A i 3)); omega
      have HYS := hid hys
      clear hcell hys
      go_wp2_with fail
      refine wp_norm ?_
      go_region_with (first | (go_at_call 13; refine (HACT.out _ (by exact g_drew (g_refl _ none)) _ _ _ _).mono ?_; rintro e w6 ⟨p', u', v', rfl, hF6, hL6, hg6, hpp, hv6, hu6⟩; rw [← HYS.out] at hF6 hL6; obtain ⟨au', cu', hu', _⟩ := id hL6; subst hu'; have bB := HK.out.blk.drew.kept hg6 (by have := HK.out.ne; simp; omega); have f0 := bB.frozen 0; have f1 := (bB.set 0 (.int .i64 M)).frozen 1; have f2 := ((bB.set 0 (.int .i64 M)).set 1 (.int .i64 Y)).frozen 2; have z0 := bB.cellOf (i := 0) rfl; have z1 := (bB.set 0 (.int .i64 M)).cellOf (i := 1) rfl; have z2 := ((bB.set 0 (.int .i64 M)).set 1 (.int .i64 Y)).cellOf (i := 2) rfl) | fail)
      all_goals
        have HN := hid (play_put HK.out (g_drew (g_refl wr none)) hyG hF6 hL6 hg6 hpp hv6 hu6)
        clear HACT HK bB f0 f1 f2 z0 z1 z2 hF6 hL6 hg6 hpp hv6 hu6 e0 e1 e2 e3 k0 k1 k2
        simp only [normOnly]
        go_wp2_with fail
        go_roundw
        case rel => exact ⟨i + 1, p', _, v', ys, by omega, by go_num, rfl, HN, hyl⟩
        case measure => simp [intOf]; omega
    · obtain rfl : i = len1 := by omega
      go_wp2_with fail
      refine (copy_some p M Y v xs _ HK.out.f).mono ?_
      rintro e w4 ⟨q, v2, rfl, hQ4, hg4, hq4, hv4⟩
      have hK4 := HK.out.grown hg4
      have hwr4 := hg4.size
      have hql4 := hQ4.facts.2.2.2.2
      have hprw := HK.out.f.facts.2.2.2.2
      have hulr := HK.out.u
      have hvlr := HK.out.v
      go_wp2_with fail
      refine (all_some p M Y v xs _ hK4.f).mono ?_
      rintro e w5 ⟨wb, vl, rfl, hX5, hg5, hvl5, hwb5⟩
      have hK5 := hid (hK4.grown hg5)
      have hQ5 := hid (hQ4.keptN hg5)
      have hs5 := hg5.size
      have hq5 := hQ5.out.facts.2.2.2.2
      have hbC5 := bC.keptN hK5.out.g
      have c0 := hbC5.cellOf (i := 0) rfl
      have c1 := hbC5.cellOf (i := 1) rfl
      have c2 := hbC5.cellOf (i := 2) rfl
      have c3 := hbC5.cellOf (i := 3) rfl
      have k0 := hK5.out.blk.cellOf (i := 0) rfl
      have k1 := hK5.out.blk.cellOf (i := 1) rfl
      have k2 := hK5.out.blk.cellOf (i := 2) rfl
      obtain ⟨ax, capx, rfl, hXl, _⟩ := id hX5.2
      obtain ⟨ya, hya⟩ : ∃ ya, ya = nextX M Y xs (B 0) (B 1, B 2, B 3) := ⟨_, rfl⟩
      obtain ⟨yb, hyb⟩ : ∃ yb, yb = nextX M Y xs (B 4) (B 5, B 6, B 7) := ⟨_, rfl⟩
      have hyaG : Good ya := by rw [hya]; exact nextX_good HK.out.good
      have hybG : Good yb := by rw [hyb]; exact nextX_good HK.out.good
      have hyal : ya.length ≤ 31 := by rw [hya]; have := nextX_length (M := M) (Y := Y) (xs := xs) (what := B 0) (x := (B 1, B 2, B 3)); omega
      have hybl : yb.length ≤ 31 := by rw [hyb]; have := nextX_length (M := M) (Y := Y) (xs := xs) (what := B 4) (x := (B 5, B 6, B 7)); omega
      have hgr5 := g_none hg4 hg5
      have hXX := hid hX5
      have HYA := hid hya
      have HYB := hid hyb
      clear hg4 hg5 hK4 hQ4 hX5 hya hyb
      go_wp2_with fail
      refine (HACT.out w5 hgr5 (B 0) (B 1) (B 2) (B 3)).mono ?_
      rintro e w6 ⟨pa, ua, va, rfl, hF6, hL6, hg6, hp6, hv6, hu6⟩
      rw [← HYA.out] at hF6 hL6
      obtain ⟨aa, ca, rfl, _⟩ := id hL6
      have hs6 := hg6.size
      have gA := g_alloc (g_refl w6 none) (.cells #[.int .i64 M, .int .i64 Y, .slice aa ya.length ca] 39)
      have hFa := hid (hF6.keptN gA)
      have hLa := hid (hL6.keptN gA)
      have hba := Blk.new w6 [.int .i64 M, .int .i64 Y, .slice aa ya.length ca] 39
      have hqp : q ≠ p := by omega
      have hQa := (hQ5.out.kept hg6 (by simp; omega) (fun r e hr => by cases e; have := (hv4 _ hr).1; omega)).keptN gA
      have hLw := (hK5.out.l.kept hg6 (fun r e hr => by cases e; exact (hulr _ hr).2.1 rfl)).keptN gA
      have hLV := hid hLw
      have hbw := hid ((hK5.out.blk.kept hg6 (by have := HK.out.ne; simp; omega)).keptN gA)
      have hXa := hid (ValX.keptN (hXX.out.kept hg6 (by simp; omega) (fun r e hr => by cases e; have := (hvl5 _ hr).1; omega)) gA)
      have gW6 := hid (g_none (g_trans hK5.out.g hg6 (fun r e => by cases e; exact .inr HK.out.hp)) gA)
      have hpa : pa ≠ q := by rcases hp6 with rfl | h <;> omega
      have hvaq : ∀ r, va.ownBlock = some r → r ≠ q := fun r hr => by
        rcases (hv6 r hr).1 with h | h
        · have := (hvlr r h).1; omega
        · omega
      have huaq : ∀ r, (Value.slice aa ya.length ca).ownBlock = some r → r ≠ q := fun r hr => by
        rcases (hu6 r hr).1 with h | h
        · have := (hulr r h).1; omega
        · omega
      have hszA : (w6.alloc (.cells #[.int .i64 M, .int .i64 Y, .slice aa ya.length ca] 39)).heap.size = w6.heap.size + 1 := by simp
      have hact2 := act_any q M Y hM hY v2 (.slice au xs.length cu) xs HK.out.good (by omega) (B 4) (B 5) (B 6) (B 7) _ hQa hLw (fun r hr => by have := (hv4 r hr).2; omega) (fun r hr => by have := (hulr r hr).1; omega)
      rw [← HYB.out] at hact2
      have hbC6 := bC.keptN gW6.out
      have c4 := hbC6.cellOf (i := 4) rfl
      have c5 := hbC6.cellOf (i := 5) rfl
      have c6 := hbC6.cellOf (i := 6) rfl
      have c7 := hbC6.cellOf (i := 7) rfl
      have m0 := hbw.out.cellOf (i := 0) rfl
      have m1 := hbw.out.cellOf (i := 1) rfl
      have m2 := hbw.out.cellOf (i := 2) rfl
      have HA2 := hid hact2
      clear hact2 c0 c1 c2 c3 k0 k1 k2 hbC5 hbC6 hF6 hL6 hQa hLw HACT
      go_wp2_with fail
      obtain ⟨t, ht⟩ : ∃ t, w6.heap.size = t := ⟨_, rfl⟩
      obtain ⟨W6, hW6⟩ : ∃ W6, W6 = w6.alloc (.cells #[.int .i64 M, .int .i64 Y, .slice aa ya.length ca] 39) := ⟨_, rfl⟩
      rw [← hW6] at HA2 hba hFa hLa hbw hXa hLV gW6 hszA m0 m1 m2 c4 c5 c6 c7 ⊢
      rw [ht] at hba hszA hs6 ⊢
      have hv6' := fun r hr => (hv6 r hr).2
      have hu6' := fun r hr => (hu6 r hr).2.1
      rw [ht] at hv6' hu6'
      clear hW6 ht gA hg6
      refine HA2.out.mono ?_
      rintro e w7 ⟨pb, ub, vb, rfl, hF7, hL7, hg7, hp7, hv7, hu7⟩
      obtain ⟨ab, cb, rfl, _⟩ := id hL7
      have hs7 := hg7.size
      have gB := g_alloc (g_refl w7 none) (.cells #[.int .i64 M, .int .i64 Y, .slice ab yb.length cb] 39)
      have hFb := hid (hF7.keptN gB)
      have hLb := hid (hL7.keptN gB)
      have hbb := Blk.new w7 [.int .i64 M, .int .i64 Y, .slice ab yb.length cb] 39
      have hFa7 := hid ((hFa.out.kept hg7 (by simp; omega) (fun r e hr => by cases e; exact hvaq _ hr rfl)).keptN gB)
      have hLa7 := hid ((hLa.out.kept hg7 (fun r e hr => by cases e; exact huaq _ hr rfl)).keptN gB)
      have hba7 := (hba.kept hg7 (by simp; omega)).keptN gB
      have hbq : b ≠ q := by have := HK.out.blk.lt; omega
      have hbw7 := hid ((hbw.out.kept hg7 (by simpa using hbq)).keptN gB)
      have hXb := hid (ValX.keptN (hXa.out.kept hg7 (by simp; omega) (fun r e hr => by cases e; have := (hvl5 _ hr).1; omega)) gB)
      have huxq0 := hulr
      have huxq : ∀ r, (Value.slice au xs.length cu).ownBlock = some r → r ≠ q := fun r hr => by have := (hulr r hr).1; omega
      have hLF := hid ((hLV.out.kept hg7 (fun r e hr => by cases e; exact huxq _ hr rfl)).keptN gB)
      have gW7 := hid (g_none (g_trans gW6.out hg7 (fun r e => by cases e; exact .inr (by have := HK.out.g.size; omega))) gB)
      have n0 := hba7.cellOf (i := 2) rfl
      have n1 := hbb.cellOf (i := 2) rfl
      have n2 := hba7.cellOf (i := 0) rfl
      have n3 := hba7.cellOf (i := 1) rfl
      have n4 := hbb.cellOf (i := 0) rfl
      have n5 := hbb.cellOf (i := 1) rfl
      clear HA2 hF7 hL7 hFa hLa hba hbw hXa gW6 m0 m1 m2 c4 c5 c6 c7
      go_wp2_with fail
      obtain ⟨t2, ht2⟩ : ∃ t2, w7.heap.size = t2 := ⟨_, rfl⟩
      obtain ⟨W7, hW7⟩ : ∃ W7, W7 = w7.alloc (.cells #[.int .i64 M, .int .i64 Y, .slice ab yb.length cb] 39) := ⟨_, rfl⟩
      rw [← hW7] at hFb hLb hbb hFa7 hLa7 hba7 hbw7 hXb hLF gW7 n0 n1 n2 n3 n4 n5 ⊢
      rw [ht2] at hbb n1 n4 n5 hs7 ⊢
      have hlt2 := hbb.lt
      clear hW7 ht2 gB
      refine (refSame_gr _ _ ya yb _ hLa7.out hLb.out).mono ?_
      rintro e w8 ⟨he, hg8⟩
      obtain ⟨d, hd⟩ : ∃ d, decide (ya = yb) = d := ⟨_, rfl⟩
      have hd2 : decide (yb = ya) = d := by rw [← hd]; simp [eq_comm]
      rw [hd] at he
      subst he
      have a8 := hba7.keptN hg8
      have b8 := hbb.keptN hg8
      have o0 := a8.cellOf (i := 0) rfl
      have o1 := a8.cellOf (i := 1) rfl
      have o2 := a8.cellOf (i := 2) rfl
      have cS1 : ∀ W, W7.grownBy W none → Calls Try.prog 15 #[.pointer (some ⟨pa, 0, none⟩), .pointer (some ⟨pb, 0, none⟩)] W fun e w' => e = .returned (.bool d) ∧ W.grownBy w' none := fun W hg => by
        have h3 := same_some pa pb M Y M Y va vb ya yb W (hFa7.out.keptN hg) (hFb.out.keptN hg)
        rw [show decide (M = M ∧ Y = Y ∧ ya = yb) = d by rw [← hd]; simp] at h3
        exact h3.mono fun e w' ⟨he, n, hn⟩ => ⟨he, hn ▸ g_drewM (g_refl W none) n⟩
      have cS2 : ∀ W, W7.grownBy W none → Calls Try.prog 15 #[.pointer (some ⟨pb, 0, none⟩), .pointer (some ⟨pa, 0, none⟩)] W fun e w' => e = .returned (.bool d) ∧ W.grownBy w' none := fun W hg => by
        have h3 := same_some pb pa M Y M Y vb va yb ya W (hFb.out.keptN hg) (hFa7.out.keptN hg)
        rw [show decide (M = M ∧ Y = Y ∧ yb = ya) = d by rw [← hd2]; simp] at h3
        exact h3.mono fun e w' ⟨he, n, hn⟩ => ⟨he, hn ▸ g_drewM (g_refl W none) n⟩
      have CS1 := hid cS1
      have CS2 := hid cS2
      clear n0 n1 n2 n3 n4 n5 hd hd2 cS1 cS2 hba7 hbb
      go_wp2_with (go_at_call 8; refine (num_any _ _).mono ?_; rintro e _ ⟨rfl, rfl⟩)
      refine (is_any pa M Y va _ ya hyaG (by omega) _ (hFa7.out.keptN hg8) (hLa7.out.keptN hg8)).mono ?_
      rintro e w9 ⟨rfl, hg9⟩
      have gg9 := g_none hg8 hg9
      have b9 := b8.keptN hg9
      have r0 := b9.cellOf (i := 0) rfl
      have r1 := b9.cellOf (i := 1) rfl
      have r2 := b9.cellOf (i := 2) rfl
      clear o0 o1 o2 a8 b8
      go_wp2_with fail
      refine (is_any pb M Y vb _ yb hybG (by omega) _ (hFb.out.keptN gg9) (hLb.out.keptN gg9)).mono ?_
      rintro e w10 ⟨rfl, hg10⟩
      have gg10 := g_none gg9 hg10
      clear r0 r1 r2 b9
      go_wp2_with fail
      refine (CS1.out _ gg10).mono ?_
      rintro e w11 ⟨rfl, hg11⟩
      have gg11 := g_none gg10 hg11
      go_wp2_with fail
      refine (CS2.out _ gg11).mono ?_
      rintro e w12 ⟨rfl, hg12⟩
      have gg12 := g_none gg11 hg12
      have gS := g_none gW7.out gg12
      have hXs := hXb.out.keptN gg12
      have hbs := hbw7.out.keptN gg12
      have hLs : L3 w12 (.slice au xs.length cu) xs := hLF.out.keptN gg12
      have gw := g_none hgA gS
      have bL := Boxed.new w12 23 (.slice none 0 0)
      have hgL : w12.grownBy (w12.alloc (.cells #[.slice none 0 0] 23)) none := g_alloc (g_refl w12 _) _
      have qF' := qF.out
      have HXS := hid hXs
      have HBS := hid hbs
      have HLS := hid hLs
      have hvlx := fun r hr => (hvl5 r hr).2
      have hszw : w5.heap.size ≤ w12.heap.size := by have := gg12.size; omega
      clear CS1 CS2 hFb hLb hFa7 hLa7 hXb hbw7 gg9 gg10 gg11 hg8 hg9 hg10 hg11 hg12 hXs hbs hLs
      go_wp2_with fail
      refine wp_named (fun T hT => ?_)
      have hfoot : Foot [w12.heap.size] (some w12.heap.size) (w12.alloc (.cells #[.slice none 0 0] 23)) := ⟨fun b hw => (by
        rcases hw with hm' | ⟨r, u, hr, hc, hu⟩
        · simp at hm'; subst hm'; simp
        · cases hr; rw [bL.cell] at hc; cases hc; simp [Value.ownBlock] at hu), fun r hr => by cases hr; simp⟩
      have hnw : ∀ {p : Nat}, p < w12.heap.size → NotW [w12.heap.size] (some w12.heap.size) p (w12.alloc (.cells #[.slice none 0 0] 23)) := fun {p} hp => ⟨by simp; omega, fun hw => by
        rcases hw with hm' | ⟨r, u, hr, hc, hu⟩
        · simp at hm'; omega
        · cases hr; rw [bL.cell] at hc; cases hc; simp [Value.ownBlock] at hu⟩
      have kB : Box [w12.heap.size] (some w12.heap.size) (w12.alloc (.cells #[.slice none 0 0] 23)).heap.size wb (.slice ax xs.length capx) (w12.alloc (.cells #[.slice none 0 0] 23)) := ⟨Nat.le_refl _, hnw (cell_lt HXS.out.1), g_cellN hgL HXS.out.1⟩
      have kS : L3K [w12.heap.size] (some w12.heap.size) (w12.alloc (.cells #[.slice none 0 0] 23)).heap.size (.slice ax xs.length capx) xs (w12.alloc (.cells #[.slice none 0 0] 23)) := by
        refine ⟨Nat.le_refl _, fun r hr => ?_, HXS.out.2.keptN hgL⟩
        have h1 := hvlx r hr
        exact ⟨by simp; omega, hnw (by omega)⟩
      have hI : OwnFrom (w12.alloc (.cells #[.slice none 0 0] 23)).heap.size (fun (pre : List T3) W1 => (((∃ v, Boxed W1 w12.heap.size 23 v ∧ W1.ownsRow w12.heap.size 33 3 v pre.length (flat3 pre) ∧ pre.length < 2) ∧ Box [w12.heap.size] (some w12.heap.size) (w12.alloc (.cells #[.slice none 0 0] 23)).heap.size wb (.slice ax xs.length capx) W1) ∧ L3K [w12.heap.size] (some w12.heap.size) (w12.alloc (.cells #[.slice none 0 0] 23)).heap.size (.slice ax xs.length capx) xs W1) ∧ w12.grownBy W1 none) :=
        OwnFrom.and (OwnFrom.and (OwnFrom.and (Own.from (holdsRow_own _ _ _ _ _ _ _ (fun (pre : List T3) _ => pre.length < 2)) _) (Box.own hfoot)) (L3K.own hfoot)) (grown_own hgL.size)
      have HI := hid hI
      clear hI
      refine wp_of_in (wp_iter (gf := 45) (lb := #[.pointer (some ⟨wb, 0, none⟩)]) (by subst hT; rfl) (Go.Proofs.enters_of Try.func45 (by kernel_rfl) rfl)
        (encs := fun x : T3 => #[.agg #[.int .i64 x.1, .int .i64 x.2.1, .int .i64 x.2.2]]) (fun _ => rfl) [w12.heap.size] (some w12.heap.size) hfoot
        (fun W1 _ => values1_iter wb (.slice ax xs.length capx) xs W1)
        (fun pre W1 => (((∃ v, Boxed W1 w12.heap.size 23 v ∧ W1.ownsRow w12.heap.size 33 3 v pre.length (flat3 pre) ∧ pre.length < 2) ∧ Box [w12.heap.size] (some w12.heap.size) (w12.alloc (.cells #[.slice none 0 0] 23)).heap.size wb (.slice ax xs.length capx) W1) ∧ L3K [w12.heap.size] (some w12.heap.size) (w12.alloc (.cells #[.slice none 0 0] 23)).heap.size (.slice ax xs.length capx) xs W1) ∧ w12.grownBy W1 none)
        (fun c pre W1 => (∃ v, Boxed W1 w12.heap.size 23 v ∧ W1.ownsRow w12.heap.size 33 3 v pre.length (flat3 pre) ∧ (pre.length = 2 ∧ c = .exit 2)) ∧ w12.grownBy W1 none)
        HI.out
        (fun c => OwnFrom.and (Own.from (holdsRow_own _ _ _ _ _ _ _ (fun (pre : List T3) _ => pre.length = 2 ∧ c = .exit 2)) _) (grown_own hgL.size))
        (fun pre W1 h => ⟨h.1.1.2.2.2, h.1.2.2.2⟩)
        ⟨⟨⟨⟨_, bL, World.ownsRow_nil _ _ _ _, by simp⟩, kB⟩, kS⟩, hgL⟩
        (fun x a' W => VarAt (fun bx => (T.setIfInBounds 131 (.agg #[.int .i64 x.1, .int .i64 x.2.1, .int .i64 x.2.2])).setIfInBounds 22 (.pointer (some ⟨bx, 0, none⟩))) x a' W)
        (fun x a' => VarAt.own) ?assign ?body ?done ?stop)
      case assign =>
        intro l' pre x W1 K hI1 _ hK
        subst hT
        have hB1 : (w12.alloc (.cells #[.slice none 0 0] 23)).heap.size ≤ W1.heap.size := hI1.1.2.1
        have hgN := g_alloc (g_refl W1 none) (.cells #[.int .i64 x.1, .int .i64 x.2.1, .int .i64 x.2.2] 33)
        have hbN := Blk.new W1 [.int .i64 x.1, .int .i64 x.2.1, .int .i64 x.2.2] 33
        gi_wp2
        exact hK _ _ (KeepsFrom.of_grownBy hgN (fun j e => by cases e)) (Keeps.grown (fun b hb => Nat.lt_of_lt_of_le (hfoot.bl b hb) hB1) hfoot.mem hgN) (own_grown HI.out hI1 hgN) ⟨_, rfl, hbN⟩
      case body =>
        rintro l' pre x a' W1 hl' ⟨⟨⟨⟨v1, hb1, hrow1, hlm⟩, kB1⟩, kS1⟩, hgW1⟩ ⟨bx, rfl, hbX⟩ hnx
        subst hT
        have hc1 := hb1.cell
        have x0 := hbX.cellOf (i := 0) rfl
        have x1 := hbX.cellOf (i := 1) rfl
        have x2 := hbX.cellOf (i := 2) rfl
        have hB1 : (w12.alloc (.cells #[.slice none 0 0] 23)).heap.size ≤ W1.heap.size := kB1.1
        have hsL : (w12.alloc (.cells #[.slice none 0 0] 23)).heap.size = w12.heap.size + 1 := by simp
        have hcc := cells_new3 W1 [.int .i64 x.1, .int .i64 x.2.1, .int .i64 x.2.2] 33
        by_cases hlast : pre.length + 1 < 2
        all_goals
          gi_wp2_with (gi_at_builtin; refine held_stop ?_)
          refine ⟨?_⟩
          refine wpListIn_append_own_at _ rfl _ _ 23 rfl w12.heap.size 33 i0 (.agg #[.int .i64 0, .int .i64 0, .int .i64 0]) 3 24 Try.underlying23 hi hz0 hz1 hz2 rfl (by decide) _ _ _ rfl (hrow1.alloc _) ⟨W1.heap.size, 0, none⟩ 1 1 [.int .i64 x.1, .int .i64 x.2.1, .int .i64 x.2.2] rfl rfl hcc (by simp [Value.oneCell']) (by unfold maxLen; omega) (by omega) (by have := hgW1.size; simp; omega) ?_
          intro v' w3 hown' hgrow hnn hob
          obtain ⟨g', cap', rfl⟩ := ownsRow_succ hown'
          obtain ⟨hv1, hv2, hr2, hk2, hb2⟩ := hb1.appended (by decide) hrow1 hgW1.size (Nat.le_refl _) hown' hgrow
          have hc3 := hv1.cell
          have hf3 := hv1.frozen
          have hc4 := hv2.cell
          have hkp := keeps_append hb1 (fun r e => (row_base hrow1 r e).2) (fun e => hb1.not_row (by decide) hrow1 e.symm) hgrow hob (fun r e => (row_base hown' r e).2)
          have hgF : w12.grownBy (w3.setCell ⟨w12.heap.size, 0, none⟩ (.slice (some ⟨g', 0, none⟩) (pre.length + 1) cap')) none := g_set (g_trans (g_alloc hgW1 _) hgrow (fun r e => .inr (row_base hrow1 r e).1)) _ (.inr (Nat.le_refl _))
          gi_wp2
        · exact ⟨hk2.from _, hkp, ⟨⟨⟨_, hv2, by rw [List.length_append, flat3_append]; exact hr2, by simp; omega⟩, kB1.keeps hkp⟩, kS1.keeps hkp⟩, hgF⟩
        · exact ⟨hk2.from _, hkp, ⟨_, hv2, by rw [List.length_append, flat3_append]; exact hr2, by simp; omega, rfl⟩, hgF⟩
      case done =>
        rintro D ys W1 hD rfl ⟨⟨⟨⟨v1, hb1, hrow1, hlm⟩, kB1⟩, kS1⟩, hgW1⟩ hK
        subst hT
        have hlm2 : ¬ (2 : Int) ≤ (ys.length : Int) := by omega
        have htk : ys.take ys.length = ys := List.take_length
        obtain ⟨a3, n3, c3, rfl⟩ := row_slice hrow1
        obtain ⟨hL3, rfl, _⟩ := outL3 (by omega) hrow1
        have hc1 := hb1.cell
        have kw := g_cellN hgW1 (HBS.out.cellOf (i := 2) rfl)
        have hLW := HLS.out.keptN hgW1
        obtain ⟨_, _, eau, hys1, hys2, hys3, _⟩ := id hLW
        cases eau
        have HL3 := hid hL3
        have HLT := hid (hLW.take ys.length (by omega))
        rw [htk] at HLT
        have hS0 : EndS w12.heap.size b (.slice a3 ys.length c3) (.slice au ys.length cu) W1 W1 := ⟨hc1, kw, g_refl _ _⟩
        have hS1 : EndS w12.heap.size b (.slice a3 ys.length c3) (.slice au ys.length cu) W1 W1.drew := ⟨hc1, kw, g_drew (g_refl _ _)⟩
        go_wp2_with fail
        refine wp_norm ?_
        go_region_held3 (fun w' => w'.cell? ⟨w12.heap.size, 0, none⟩ = some (.slice a3 ys.length c3) ∧ w'.cell? ⟨b, 2, none⟩ = some (.slice au ys.length cu) ∧ W1.grownBy w' none)
          (first | assumption | exact EndS.more (by assumption) hg9)
          (first
            | (go_at_call 18; refine (refSame_g _ _ ys _ (EndS.l3 HL3.out (by assumption)) (EndS.l3 HLT.out (by assumption))).mono ?_; rintro e w9 ⟨rfl, hg9⟩)
            | (go_at_call 6; refine (works_true _).mono ?_; rintro e w9 ⟨rfl, hg9⟩)
            | fail)
        rename _ ∧ _ ∧ World.grownBy _ _ _ => hSE
        simp only [normOnly]
        have hgE := hSE.2.2
        have hKE := (hgE.block D (Array.getElem?_eq_some_iff.1 hK).1 (by simp)).trans hK
        go_wp2_with fail
        refine ⟨by simp, .inl ⟨_, _, rfl, run_takeDeferred hKE, ?_⟩⟩
        exact ⟨_, results_tmp rfl _ _ _, rfl, g_put (g_none (g_none gw hgW1) hgE) D _ (Nat.le_trans gw.size (Nat.le_trans hgL.size hD))⟩
      case stop =>
        rintro D c pre W1 hD hp ⟨⟨v1, hb1, hrow1, hlm, rfl⟩, hgW1⟩ hK
        subst hT
        refine wpIn_exit ?_
        have hpl := hp.length_le
        have hlm2 : (2 : Int) ≤ (xs.length : Int) := by omega
        have hlm3 : ¬ (xs.length : Int) < 2 := by omega
        have hlm4 : ¬ xs.length < 2 := by omega
        have hmi : (if (xs.length : Int) < 2 then (xs.length : Int) else 2) = 2 := by rw [if_neg]; omega
        have hmn : (if xs.length < 2 then (xs.length : Int) else 2) = 2 := by rw [if_neg]; omega
        have htk : xs.take 2 = pre := by rw [← hlm]; exact (List.prefix_iff_eq_take.1 hp).symm
        have hpl2 : pre.length ≤ 1000 := by omega
        have h2n : 2 ≤ xs.length := by omega
        have HLM := hid hlm
        clear hlm hpl hnw hfoot kB kS
        obtain ⟨a3, n3, c3, rfl⟩ := row_slice hrow1
        obtain ⟨hL3, rfl, _⟩ := outL3 (by omega) hrow1
        have hc1 := hb1.cell
        have kw := g_cellN hgW1 (HBS.out.cellOf (i := 2) rfl)
        have hLW := HLS.out.keptN hgW1
        obtain ⟨_, _, eau, hxs1, hxs2, hxs3, _⟩ := id hLW
        cases eau
        have HL3 := hid hL3
        have HLT := hid (hLW.take 2 (by omega))
        rw [htk] at HLT
        have h2c : 2 ≤ cu := by omega
        have h2ci : (2 : Int) ≤ (cu : Int) := by omega
        clear htk hp hb1 hrow1 hL3
        have hS0 : EndS w12.heap.size b (.slice a3 pre.length c3) (.slice au xs.length cu) W1 W1 := ⟨hc1, kw, g_refl _ _⟩
        have hS1 : EndS w12.heap.size b (.slice a3 pre.length c3) (.slice au xs.length cu) W1 W1.drew := ⟨hc1, kw, g_drew (g_refl _ _)⟩
        go_wp2_with fail
        refine wp_norm ?_
        go_region_held3 (fun w' => w'.cell? ⟨w12.heap.size, 0, none⟩ = some (.slice a3 pre.length c3) ∧ w'.cell? ⟨b, 2, none⟩ = some (.slice au xs.length cu) ∧ W1.grownBy w' none)
          (first | assumption | exact EndS.more (by assumption) hg9)
          (first
            | (go_at_call 18; refine (refSame_g _ _ pre _ (EndS.l3 HL3.out (by assumption)) (EndS.l3 HLT.out (by assumption))).mono ?_; rintro e w9 ⟨rfl, hg9⟩)
            | (go_at_call 6; refine (works_true _).mono ?_; rintro e w9 ⟨rfl, hg9⟩)
            | fail)
        rename _ ∧ _ ∧ World.grownBy _ _ _ => hSE
        simp only [normOnly]
        have hgE := hSE.2.2
        have hKE := (hgE.block D (Array.getElem?_eq_some_iff.1 hK).1 (by simp)).trans hK
        go_wp2_with fail
        refine ⟨by simp, .inl ⟨_, _, rfl, run_takeDeferred hKE, ?_⟩⟩
        exact ⟨_, results_tmp rfl _ _ _, rfl, g_put (g_none (g_none gw hgW1) hgE) D _ (Nat.le_trans gw.size (Nat.le_trans hgL.size hD))⟩
end Go.Proofs.Ytjjkhbipeehljaa
