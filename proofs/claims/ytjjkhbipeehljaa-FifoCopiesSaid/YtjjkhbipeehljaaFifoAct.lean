/-
  A call by both.
-/
import Derived.Test.YtjjkhbipeehljaaFifoIs
namespace Go.Proofs.Ytjjkhbipeehljaa
open Go.RowKit

theorem results_trt {P : Program} {fn : Func} {a p u : Tmp} {ty : TypeId} (h : fn.results = #[.tmp a, .cell p ty, .tmp u]) (tmps : Array Value) (w : World) (g : Nat) (t : TypeId) (cs : Array Value) (fr : Nat × Nat) (d : TypeDesc)
    (hp : tmps.getD p undef = .pointer (some ⟨g, 0, none⟩)) (hg : w.heap[g]? = some (.cells cs t fr))
    (hu : P.underlying ty = some d) (hd : (match d with | .struct _ | .array _ _ => true | _ => false) = true) (hi : (P.info? ty).map (·.size) = some cs.size) :
    (results fn tmps).run P w = .ok (.tuple #[tmps.getD a undef, .agg cs, tmps.getD u undef]) w := by
  have e : (results fn tmps).run P w =
      ((asAddr (tmps.getD p undef)).run P w).andThen fun x w₁ => ((loadVar ty x).run P w₁).andThen fun v w₂ => .ok (.tuple #[tmps.getD a undef, v, tmps.getD u undef]) w₂ := by
    simp only [results, h]
    simp [Sem.run_bind, Result.andThen]
  rw [e, hp]
  simp [asAddr, run_loadVar_row w g t ty cs fr d hg hu hd hi]

theorem refSame_g (v1 v2 : Value) (xs : List T3) (w : World) (h1 : L3 w v1 xs) (h2 : L3 w v2 xs) :
    Calls Try.prog 18 #[v1, v2] w fun e w' => e = .returned (.bool true) ∧ w.grownBy w' none := (refSame_any v1 v2 xs xs w h1 h2).mono fun e w' ⟨he, n, hn⟩ => ⟨by rw [he]; simp, hn ▸ g_drewM (g_refl w none) n⟩

/-- What a call by both leaves. -/
def ActPost (p : Nat) (M Y : Int) (v u : Value) (xs' : List T3) (w : World) (e : Ending) (w' : World) : Prop :=
  ∃ p' u' v', e = .returned (.tuple #[.pointer (some ⟨p', 0, none⟩), RQ M Y u', .bool true]) ∧ FifoAt w' p' M Y v' xs' ∧ L3 w' u' xs' ∧ w.grownBy w' (some p) ∧ (p' = p ∨ w.heap.size ≤ p') ∧
    (∀ r, v'.ownBlock = some r → (v.ownBlock = some r ∨ w.heap.size ≤ r) ∧ r < w'.heap.size) ∧ (∀ r, u'.ownBlock = some r → (u.ownBlock = some r ∨ w.heap.size ≤ r) ∧ r < w'.heap.size ∧ r ≠ p')

/-- The frame of such a call. -/
theorem act_cells (M Y : Int) (a1 : Option Addr) (n1 c1 : Nat) (what a b c : Int) (w : World) : Blk (((w.alloc (.cells #[.int .i64 M, .int .i64 Y, .slice a1 n1 c1] 39)).alloc (.cells #[.int .i64 what, .int .i64 a, .int .i64 b, .int .i64 c] 46)).alloc (.cells #[.int .i64 0, .int .i64 0, .slice none 0 0] 39)) w.heap.size 39 [.int .i64 M, .int .i64 Y, .slice a1 n1 c1] ∧ Blk (((w.alloc (.cells #[.int .i64 M, .int .i64 Y, .slice a1 n1 c1] 39)).alloc (.cells #[.int .i64 what, .int .i64 a, .int .i64 b, .int .i64 c] 46)).alloc (.cells #[.int .i64 0, .int .i64 0, .slice none 0 0] 39)) (w.heap.size + 1) 46 [.int .i64 what, .int .i64 a, .int .i64 b, .int .i64 c] ∧
    Blk (((w.alloc (.cells #[.int .i64 M, .int .i64 Y, .slice a1 n1 c1] 39)).alloc (.cells #[.int .i64 what, .int .i64 a, .int .i64 b, .int .i64 c] 46)).alloc (.cells #[.int .i64 0, .int .i64 0, .slice none 0 0] 39)) (w.heap.size + 2) 39 [.int .i64 0, .int .i64 0, .slice none 0 0] ∧ w.grownBy (((w.alloc (.cells #[.int .i64 M, .int .i64 Y, .slice a1 n1 c1] 39)).alloc (.cells #[.int .i64 what, .int .i64 a, .int .i64 b, .int .i64 c] 46)).alloc (.cells #[.int .i64 0, .int .i64 0, .slice none 0 0] 39)) none := by
  have b1 := Blk.new w [.int .i64 M, .int .i64 Y, .slice a1 n1 c1] 39
  have b2 := Blk.new (w.alloc (.cells #[.int .i64 M, .int .i64 Y, .slice a1 n1 c1] 39)) [.int .i64 what, .int .i64 a, .int .i64 b, .int .i64 c] 46
  have b3 := Blk.new ((w.alloc (.cells #[.int .i64 M, .int .i64 Y, .slice a1 n1 c1] 39)).alloc (.cells #[.int .i64 what, .int .i64 a, .int .i64 b, .int .i64 c] 46)) [.int .i64 0, .int .i64 0, .slice none 0 0] 39
  simp only [World.size_alloc] at b2 b3
  exact ⟨(b1.alloc _).alloc _, b2.alloc _, b3, g_alloc (g_alloc (g_alloc (g_refl w none) _) _) _⟩

/-- What lies behind such a call. -/
def ActK (p : Nat) (M Y : Int) (v u : Value) (xs : List T3) (w w' : World) : Prop := FifoAt w' p M Y v xs ∧ L3 w' u xs ∧ w.grownBy w' (some p)
theorem ActK.set {p b i : Nat} {M Y : Int} {v u : Value} {xs : List T3} {w W : World} (h : ActK p M Y v u xs w W) (hp : p ≠ b) (hv : v.ownBlock ≠ some b) (hu : u.ownBlock ≠ some b) (hb : w.heap.size ≤ b) (x : Value) : ActK p M Y v u xs w (W.setCell ⟨b, i, none⟩ x) :=
  ⟨h.1.kept (grownBy_setCell'' W b i x) (by simpa using hp) (fun r e => by cases e; exact hv), h.2.1.kept (grownBy_setCell'' W b i x) (fun r e => by cases e; exact hu), g_set h.2.2 x (.inr hb)⟩
theorem ActK.grown {p : Nat} {M Y : Int} {v u : Value} {xs : List T3} {w W W' : World} (h : ActK p M Y v u xs w W) (hg : W.grownBy W' none) : ActK p M Y v u xs w W' := ⟨h.1.keptN hg, h.2.1.keptN hg, g_none h.2.2 hg⟩
theorem set3_cell {W : World} {b b' i : Nat} {x : Value} (h : W.cell? ⟨b, i, none⟩ = some x) (hne : b ≠ b') (x0 x1 x2 : Value) : (((W.setCell ⟨b', 0, none⟩ x0).setCell ⟨b', 1, none⟩ x1).setCell ⟨b', 2, none⟩ x2).cell? ⟨b, i, none⟩ = some x := by
  have e : ∀ (W : World) (j : Nat) (x : Value), (W.setCell ⟨b', j, none⟩ x).cell? ⟨b, i, none⟩ = W.cell? ⟨b, i, none⟩ := fun W j x => World.cell?_of_block (Below.heap_setCell W ⟨b', j, none⟩ x b hne)
  rw [e, e, e, h]

/-- The list that a push hands back, whose bytes are counted up. -/
def ActM (n : Nat) (am : Option Addr) (wr : World) : Prop := n = 0 ∨ ∃ g zs tail, am = some ⟨g, 0, none⟩ ∧ zs.length = n ∧ Blk wr g 33 (flat3 zs ++ tail)
theorem flat3_set : ∀ (zs : List T3) (k : Nat) {x y z z' : Int}, zs[k]? = some (x, y, z) → (flat3 zs).set (k * 3 + 2) (.int .i64 z') = flat3 (zs.set k (x, y, z'))
  | [], k, _, _, _, _, h => by simp at h
  | t :: l, 0, x, y, z, z', h => by
    simp at h; subst h
    rfl
  | t :: l, k + 1, x, y, z, z', h => by
    have ih := flat3_set l k (x := x) (y := y) (z := z) (z' := z') (by simpa using h)
    show (flat3 (t :: l)).set ((k + 1) * 3 + 2) _ = _
    rw [show (k + 1) * 3 + 2 = (k * 3 + 2) + 3 by omega]
    show (Value.int .i64 t.1 :: Value.int .i64 t.2.1 :: Value.int .i64 t.2.2 :: flat3 l).set ((k * 3 + 2) + 3) _ = _
    simp only [List.set_cons_succ, ih]
    rfl


set_option maxRecDepth 100000 in
set_option maxHeartbeats 8000000 in
theorem act_push (p : Nat) (M Y : Int) (hM : 0 ≤ M) (hY : 0 ≤ Y) (v u : Value) (xs : List T3) (hG : Good xs) (hx : xs.length < 1000) (a b c : Int) (w : World) (h : FifoAt w p M Y v xs) (hL : L3 w u xs)
    (hv : ∀ r, v.ownBlock = some r → r < w.heap.size) (hu : ∀ r, u.ownBlock = some r → r < w.heap.size ∧ r ≠ p) :
    Calls Try.prog 13 #[.pointer (some ⟨p, 0, none⟩), RQ M Y u, .agg #[.int .i64 0, .int .i64 a, .int .i64 b, .int .i64 c]] w (ActPost p M Y v u (pushL M Y xs (a, b, c)) w) := by
  have hpw := h.facts.2.2.2.2
  obtain ⟨a1, c1, rfl, hl1, _⟩ := id hL
  obtain ⟨b1, b2, b3, hgA⟩ := act_cells M Y a1 xs.length c1 0 a b c w
  have hF0 := h.keptN hgA
  have hL0 := hL.keptN hgA
  have x0 := b2.cellOf (i := 0) rfl
  have x1 := b2.cellOf (i := 1) rfl
  have x2 := b2.cellOf (i := 2) rfl
  have x3 := b2.cellOf (i := 3) rfl
  have a0 := b1.cellOf (i := 0) rfl
  have a1' := b1.cellOf (i := 1) rfl
  have a2' := b1.cellOf (i := 2) rfl
  have HF := hid hF0
  have HG := hid hG
  clear h hF0 hL hG
  go_enter Try.func13, Try.ntmps13
  go_wp2_with fail
  refine (refPush_any M Y hM hY xs HG.out hx _ a b c _ hL0).mono ?_
  rintro e w1 ⟨a', n', c', al, nl, cl, rfl, hL1, hlO, hg1, hbu, hbl⟩
  simp only [World.size_alloc] at hbu hbl
  have hs1 : w.heap.size + 3 ≤ w1.heap.size := by have := hg1.size; simpa using this
  have gg1 := g_none hgA hg1
  have gX := g_alloc (g_refl w1 none) (.cells #[.int .i64 M, .int .i64 Y, .slice a' n' c'] 39)
  have hF1 := (HF.out.keptN hg1).keptN gX
  have gg2 := g_none gg1 gX
  have b4 := Blk.new w1 [.int .i64 M, .int .i64 Y, .slice a' n' c'] 39
  have b5 := (b2.keptN hg1).alloc (.cells #[.int .i64 M, .int .i64 Y, .slice a' n' c'] 39)
  have b6 := (b3.keptN hg1).alloc (.cells #[.int .i64 M, .int .i64 Y, .slice a' n' c'] 39)
  have hL1' := hL1.keptN gX
  have hlO' := hlO.keptN gX
  have y1 := b5.cellOf (i := 1) rfl
  have y2 := b5.cellOf (i := 2) rfl
  have y3 := b5.cellOf (i := 3) rfl
  clear hg1 gg1 b1 b2 b3 a0 a1' a2' hgA x0 x1 x2 x3 HF gX hL0 hL1 hlO
  go_wp2_with fail
  refine (push_any p M Y v xs a b c HG.out hx _ hF1).mono ?_
  rintro e w2 ⟨am, nm, cm, v', rfl, hF2, hr2, hg2, hsep, hv2⟩
  have hOl : (pushO M Y xs (a, b, c)).length ≤ 1000 := by
    unfold pushO
    split
    · simp; omega
    · simp
  obtain ⟨O, hO⟩ : ∃ O, O = pushO M Y xs (a, b, c) := ⟨_, rfl⟩
  obtain ⟨Q, hQ⟩ : ∃ Q, Q = pushL M Y xs (a, b, c) := ⟨_, rfl⟩
  obtain ⟨E, hE⟩ : ∃ E, E = pushE xs (a, b, c) := ⟨_, rfl⟩
  rw [← hO] at hlO' hr2 hOl
  rw [← hQ] at hL1' hF2
  rw [← hE] at hv2
  have HQ := hid hQ
  simp only [← hE]
  clear hO hQ hE
  obtain ⟨hLm, rfl, hbm⟩ := outL3 hOl hr2
  simp only [World.size_alloc] at hbm hv2
  have hup : ∀ r, (Value.slice a' n' c').ownBlock = some r → r ≠ p ∧ r ≠ w.heap.size + 2 ∧ r < w1.heap.size := fun r hr => by
    rcases hbu r hr with h1 | h1
    · have := hu r h1; omega
    · omega
  have hvp : ∀ r, v'.ownBlock = some r → r ≠ w.heap.size + 2 ∧ (v.ownBlock = some r ∨ w.heap.size ≤ r) ∧ r < w2.heap.size := fun r hr => by
    rcases hv2 with ⟨_, h1⟩ | h1
    · rw [h1] at hr; have := hv r hr; have := hg2.size; simp at this; exact ⟨by omega, .inl hr, by omega⟩
    · have := h1 r hr; exact ⟨by omega, .inr (by omega), by omega⟩
  have hL2 := hL1'.kept hg2 (fun r e hr => by cases e; exact (hup _ hr).1 rfl)
  have hlO2 := hlO'.kept hg2 (fun r e hr => by cases e; have := hbl _ hr; omega)
  have b7 := b4.kept hg2 (by simp; omega)
  have b8 := b6.kept hg2 (by simp; omega)
  have gg3 := g_same (g_weak gg2) hg2
  have hs2 : w1.heap.size < w2.heap.size := b7.lt
  have hAM : ActM O.length am w2 := by
    by_cases h0 : O.length = 0
    · exact .inl h0
    · rcases hr2.2 with ⟨e, h1⟩ | ⟨g, cap, cur, e, hb, _⟩
      · exact absurd h1 h0
      · cases e
        obtain ⟨tail, hb1, _⟩ := row_blk hr2
        exact .inr ⟨g, O, tail, rfl, rfl, hb1⟩
  have hKK : ActK p M Y v' (.slice a' n' c') Q w w2 := ⟨hF2, hL2, gg3⟩
  clear hg2 gg2 b4 b5 b6 y1 y2 y3 hF1 hL1' hlO' hr2 hF2 hL2 gg3 hv2 hl1
  have HUP := hid hup
  have HVP := hid hvp
  have HU := hid hu
  have HV := hid hv
  have HBU := hid hbu
  have HBM := hid hbm
  have HSEP := hid hsep
  clear hup hvp hu hv hbu hbl hbm hsep
  go_wp2_with fail
  refine (refSame_g _ _ O _ hLm hlO2).mono ?_
  rintro e w3 ⟨rfl, hg3⟩
  have hAM3 : ActM O.length am w3 := hAM.imp id fun ⟨g, zs, tail, e, hz, hb⟩ => ⟨g, zs, tail, e, hz, hb.keptN hg3⟩
  have hs3 := hg3.size
  have b73 := b7.keptN hg3
  have b83 := b8.keptN hg3
  have hK3 := hKK.grown hg3
  clear hAM b7 b8 hKK hLm hlO2
  go_wp2_with (go_at_call 8; refine (num_any _ _).mono ?_; rintro e _ ⟨rfl, rfl⟩)
  go_loopw [15] (fun i wr => ∃ (k : Nat), k ≤ O.length ∧ i = .int .i64 k ∧ Hid (ActM O.length am wr) ∧ Hid (Blk wr w1.heap.size 39 [.int .i64 M, .int .i64 Y, .slice a' n' c']) ∧ Hid (Blk wr (w.heap.size + 2) 39 [.int .i64 0, .int .i64 0, .slice none 0 0]) ∧ Hid (ActK p M Y v' (.slice a' n' c') Q w wr) ∧ w2.heap.size ≤ wr.heap.size) (fun i _ => O.length - (intOf i).toNat)
  case atStart => exact ⟨0, Nat.zero_le _, rfl, hid hAM3, hid b73, hid b83, hid hK3, hs3⟩
  case round =>
    obtain ⟨k, hk, rfl, hM4, b74, b84, hK4, hs4⟩ := hrel
    by_cases hlt : k < O.length
    · rcases hM4.out with h0 | ⟨g, zs, tail, rfl, hz, hbz⟩
      · omega
      · obtain ⟨⟨x, y, z⟩, hzk⟩ : ∃ t, zs[k]? = some t := ⟨zs[k], List.getElem?_eq_getElem (by omega)⟩
        have hfl := flat3_length zs
        have q2 := (flat3_get zs k hzk).2.2
        have m2 := hbz.cellOf (i := k * 3 + 2) (by rw [List.getElem?_append_left (by omega)]; exact q2)
        have f2 := hbz.frozen (k * 3 + 2)
        have hgl : w1.heap.size + 1 ≤ g := HBM.out g rfl
        have hzs := flat3_set zs k (z' := wrap64 (z + 1)) hzk
        have HZS := hid hzs
        have HZK := hid hzk
        have hbN := hbz.set (k * 3 + 2) (.int .i64 (wrap64 (z + 1)))
        rw [List.set_append_left _ _ (by omega), hzs] at hbN
        clear hzs hzk q2 hbz
        have hk3 : (k : Int) * 3 + 2 < 9223372036854775807 := by omega
        go_wp2
        refine ⟨⟨k + 1, by omega, by go_num, hid (.inr ⟨g, _, tail, rfl, by simpa using hz, hbN⟩), hid (b74.out.other (a := ⟨g, k * 3 + 2, none⟩) (by simp; omega) _), hid (b84.out.other (a := ⟨g, k * 3 + 2, none⟩) (by simp; omega) _), hid (hK4.out.set (by omega) ?_ ?_ (by omega) _), by simpa [World.setCell] using hs4⟩, by simp [intOf]; omega⟩
        · intro e; exact HSEP.out g rfl e
        · intro e; have := (HUP.out g e).2.2; omega
    · obtain rfl : k = O.length := by omega
      have k0 := b74.out.cellOf (i := 0) rfl
      have k1 := b74.out.cellOf (i := 1) rfl
      have k2 := b74.out.cellOf (i := 2) rfl
      have hne3 : w1.heap.size ≠ w.heap.size + 2 := by omega
      have kS0 := set3_cell (W := wr.drew) k0 hne3
      have kS1 := set3_cell (W := wr.drew) k1 hne3
      have kS2 := set3_cell (W := wr.drew) k2 hne3
      have b9 := b84.out.set 0 (.int .i64 M)
      have b10 := b9.set 1 (.int .i64 Y)
      have b11 := b10.set 2 (.slice a' n' c')
      have f0 := b84.out.frozen 0
      have f1 := b9.frozen 1
      have f2 := b10.frozen 2
      have e0 := b84.out.cellOf (i := 0) rfl
      have e1 := b9.cellOf (i := 1) rfl
      have e2 := b10.cellOf (i := 2) rfl
      have hKd := hK4.out.grown (g_drewN (g_refl wr none) rfl)
      have hKF := ((hKd.set (b := w.heap.size + 2) (i := 0) (by omega) (fun e => (HVP.out _ e).1 rfl) (fun e => (HUP.out _ e).2.1 rfl) (by omega) (.int .i64 M)).set (b := w.heap.size + 2) (i := 1) (by omega) (fun e => (HVP.out _ e).1 rfl) (fun e => (HUP.out _ e).2.1 rfl) (by omega) (.int .i64 Y)).set (b := w.heap.size + 2) (i := 2) (by omega) (fun e => (HVP.out _ e).1 rfl) (fun e => (HUP.out _ e).2.1 rfl) (by omega) (.slice a' n' c')
      have HKF := hid hKF
      have HB11 := hid b11
      clear b9 b10 b11 hKd hKF
      go_wp2_with fail
      go_region_held3 (fun w' => w'.cell? ⟨w1.heap.size, 0, none⟩ = some (.int .i64 M) ∧ w'.cell? ⟨w1.heap.size, 1, none⟩ = some (.int .i64 Y) ∧ w'.cell? ⟨w1.heap.size, 2, none⟩ = some (.slice a' n' c')) (first | assumption | exact ⟨k0, k1, k2⟩ | exact ⟨kS0 _ _ _, kS1 _ _ _, kS2 _ _ _⟩) (fail)
      all_goals
        go_wp2
        refine bodyPost_ret (results_trt rfl _ _ (w.heap.size + 2) _ _ _ _ rfl HB11.out Try.underlying39 rfl (by kernel_rfl)) rfl ?_
        rw [← HQ.out]
        obtain ⟨r1, r2, r3⟩ := HKF.out
        have hsF : (((wr.drew.setCell ⟨w.heap.size + 2, 0, none⟩ (.int .i64 M)).setCell ⟨w.heap.size + 2, 1, none⟩ (.int .i64 Y)).setCell ⟨w.heap.size + 2, 2, none⟩ (.slice a' n' c')).heap.size = wr.heap.size := by simp [World.setCell]
        refine ⟨p, _, v', rfl, r1, r2, r3, .inl rfl, fun r hr => ⟨(HVP.out r hr).2.1, ?_⟩, fun r hr => ⟨?_, ?_, (HUP.out r hr).1⟩⟩
        · exact Nat.lt_of_lt_of_le (HVP.out r hr).2.2 (hsF.symm ▸ hs4)
        · exact (HBU.out r hr).imp id (fun h => by omega)
        · exact Nat.lt_of_lt_of_le (HUP.out r hr).2.2 (hsF.symm ▸ (by omega))
end Go.Proofs.Ytjjkhbipeehljaa
