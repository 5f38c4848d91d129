/-
  The document's quarantine: Push, done.
-/
import Derived.Test.YtjjkhbipeehljaaFifoRef2
import Derived.Deep.CutRange
import Derived.Deep.RegionLaw
namespace Go.Proofs.Ytjjkhbipeehljaa
open Go.RowKit

theorem blk_cells {W : World} {b : Nat} {t : TypeId} {cs : List Value} (h : Blk W b t cs) : ∀ j u, cs[j]? = some u → W.cell? ((⟨b, 0, none⟩ : Addr).add j) = some u := by
  intro j u hj
  have := h.cellOf hj
  unfold Addr.add
  split
  · rename_i h0; subst h0; exact this
  · simpa using this

theorem L3.addr {w : World} {a : Option Addr} {n c : Nat} {xs : List T3} (h : L3 w (.slice a n c) xs) (hx : xs ≠ []) : ∃ g off, a = some ⟨g, off, none⟩ := by
  obtain ⟨a', c', e, _, _, _, (⟨_, h0⟩ | ⟨g, off, rfl, _⟩)⟩ := h
  · exact absurd h0 hx
  · cases e; exact ⟨g, off, rfl⟩

/-- What stands behind the list's making. -/
def PushR (b0 B : Nat) (M Y : Int) (ys : List T3) (w2 wx : World) : Prop := ∃ g cap, Blk wx b0 39 [.int .i64 M, .int .i64 Y, .slice (some ⟨g, 0, none⟩) ys.length cap] ∧
  wx.ownsRow B 33 3 (.slice (some ⟨g, 0, none⟩) ys.length cap) ys.length (flat3 ys) ∧ w2.grownBy wx (some b0)
/-- Behind so many rounds: what is left, what is out. -/
def PushI (g b0 C : Nat) (M Y : Int) (ys : List T3) (wc : World) (v7 : Value) (wr : World) : Prop := ∃ (k : Nat) (zs : List T3) (off cz : Nat), k ≤ ys.length ∧ zs.length ≤ 1000 ∧ Hid (zs = ys.drop k ∧ ∀ j, j < k → fits M Y (ys.drop j) = false) ∧ Hid (wr.ownsRow C 33 3 v7 k (flat3 (ys.take k))) ∧
  Hid (Blk wr b0 39 [.int .i64 M, .int .i64 Y, .slice (some ⟨g, off, none⟩) zs.length cz]) ∧ Hid (L3 wr (.slice (some ⟨g, off, none⟩) zs.length cz) zs) ∧ Hid (Blk wr (b0 + 1 + 1) 39 [.int .i64 0, .int .i64 0, .slice none 0 0]) ∧ Hid (wc.grownBy wr (some b0))
theorem row_keptN {w w' : World} {base size n : Nat} {e : TypeId} {v : Value} {xs : List Value} (h : w.ownsRow base e size v n xs) (hg : w.grownBy w' none) : w'.ownsRow base e size v n xs := h.kept hg (by
  cases h : v.ownBlock with
  | none => exact .inl rfl
  | some r => exact .inr (by simp))
abbrev PushS (b0 : Nat) (M Y : Int) (v : Value) (wr w' : World) : Prop := w'.cell? ⟨b0, 0, none⟩ = some (.int .i64 M) ∧ w'.cell? ⟨b0, 1, none⟩ = some (.int .i64 Y) ∧ w'.cell? ⟨b0, 2, none⟩ = some v ∧ wr.grownBy w' none
theorem PushS.more {b0 : Nat} {M Y : Int} {v : Value} {wr w1 w2 : World} (h : PushS b0 M Y v wr w1) (hg : w1.grownBy w2 none) : PushS b0 M Y v wr w2 := ⟨g_cellN hg h.1, g_cellN hg h.2.1, g_cellN hg h.2.2.1, g_none h.2.2.2 hg⟩
theorem PushS.l3 {b0 : Nat} {M Y : Int} {v u : Value} {xs : List T3} {wr w1 : World} (hL : L3 wr u xs) (h : PushS b0 M Y v wr w1) : L3 w1 u xs := hL.keptN h.2.2.2
theorem pushI_step {g b0 C k off cz q g8 c8 : Nat} {M Y : Int} {ys t : List T3} {x1 y1 z1 : Int} {wc wr w9 w1 : World} {u7 : Value} (hC : wc.heap.size = C) (hk : k < ys.length) (hbc : b0 + 1 + 1 < C) (hgC : g < C) (hgb : b0 ≠ g)
    (hzs : (x1, y1, z1) :: t = ys.drop k ∧ ∀ j, j < k → fits M Y (ys.drop j) = false) (hF : ¬ fits M Y ((x1, y1, z1) :: t) = true) (hq : q = t.length + 1) (hql : q ≤ 1000) (htd : t = ys.drop (k + 1)) (hyk : ys.take (k + 1) = ys.take k ++ [(x1, y1, z1)])
    (hL : L3 wr (.slice (some ⟨g, off, none⟩) q cz) ((x1, y1, z1) :: t)) (hb : Blk wr b0 39 [.int .i64 M, .int .i64 Y, .slice (some ⟨g, off, none⟩) q cz])
    (hb2 : Blk wr (b0 + 1 + 1) 39 [.int .i64 0, .int .i64 0, .slice none 0 0]) (hgR : wc.grownBy wr (some b0)) (hrow : wr.ownsRow C 33 3 u7 k (flat3 (ys.take k))) (hg9 : wr.grownBy w9 none)
    {X : Obj} (hg : (w9.alloc X).grownBy w1 u7.ownBlock) (hown : w1.ownsRow C 33 3 (.slice (some ⟨g8, 0, none⟩) (k + 1) c8) (k + 1) (flat3 (ys.take k) ++ [.int .i64 x1, .int .i64 y1, .int .i64 z1])) :
    PushI g b0 C M Y ys wc (.slice (some ⟨g8, 0, none⟩) (k + 1) c8) (w1.setCell ⟨b0, 2, none⟩ (.slice (if cz = 1 then some ⟨g, off, none⟩ else some ⟨g, off + 3, none⟩) (q - 1) (cz - 1))) := by
  have hr7 : ∀ r, u7.ownBlock = some r → C ≤ r := fun r e => (row_base hrow r e).1
  have hne7 : ∀ b, b < C → some b ≠ u7.ownBlock := fun b hb e => by have := hr7 b e.symm; omega
  have hg8 : C ≤ g8 := (row_base hown g8 rfl).1
  have hgA : wr.grownBy (w9.alloc X) none := g_alloc hg9 X
  have hg1 : wc.grownBy w1 (some b0) := g_trans (g_trans hgR hgA (fun r e => by cases e)) hg (fun r e => .inr (by have := hr7 r e; omega))
  have hcc : q ≤ cz ∧ cz ≤ maxLen := by
    obtain ⟨_, _, e, _, hc1, hc2, _⟩ := id hL
    cases e
    exact ⟨by simpa using hc1, hc2⟩
  obtain ⟨hc1, hc2⟩ := hcc
  have hset := grownBy_setCell'' w1 b0 2 (.slice (if cz = 1 then some ⟨g, off, none⟩ else some ⟨g, off + 3, none⟩) (q - 1) (cz - 1))
  have hq1 : q - 1 = t.length := by omega
  have hfl : ∀ off', L3 wr (.slice (some ⟨g, off', none⟩) (q - 1) (cz - 1)) t → L3 (w1.setCell ⟨b0, 2, none⟩ (.slice (if cz = 1 then some ⟨g, off, none⟩ else some ⟨g, off + 3, none⟩) (q - 1) (cz - 1))) (.slice (some ⟨g, off', none⟩) t.length (cz - 1)) t := fun off' h => by
    rw [← hq1]
    refine ((h.keptN hgA).kept hg (fun r e => ?_)).kept hset (fun r e => ?_)
    · have := hr7 r e
      simp [Value.ownBlock]; omega
    · cases e
      simp [Value.ownBlock]; omega
  have hb' := (((hb.keptN hg9).alloc X).kept hg (hne7 b0 (by omega))).set 2 (.slice (if cz = 1 then some ⟨g, off, none⟩ else some ⟨g, off + 3, none⟩) (q - 1) (cz - 1))
  have hb2' := (((hb2.keptN hg9).alloc X).kept hg (hne7 _ hbc)).other (a := ⟨b0, 2, none⟩) (by simp; omega) (.slice (if cz = 1 then some ⟨g, off, none⟩ else some ⟨g, off + 3, none⟩) (q - 1) (cz - 1))
  have hnf : ∀ j, j < k + 1 → fits M Y (ys.drop j) = false := fun j hj => by
    by_cases hj' : j < k
    · exact hzs.2 j hj'
    · obtain rfl : j = k := by omega
      rw [← hzs.1]; simpa using hF
  have hown' := hown.kept hset (.inr (by simp [Value.ownBlock]; omega))
  rw [show flat3 (ys.take k) ++ [Value.int .i64 x1, .int .i64 y1, .int .i64 z1] = flat3 (ys.take (k + 1)) by rw [hyk, flat3_append]; rfl] at hown'
  by_cases hcz : cz = 1
  · simp only [if_pos hcz] at hb' hb2' hfl hown' hset ⊢
    refine ⟨k + 1, t, off, cz - 1, by omega, (by omega), hid ⟨htd, hnf⟩, hid hown', hid ?_, hid (hfl off ?_), hid hb2', hid (g_set hg1 _ (.inl rfl))⟩
    · rw [← hq1]; exact hb'
    · have ht : t = [] := by cases t with
        | nil => rfl
        | cons a l => simp at hq; omega
      subst ht
      have h0 : q - 1 = 0 := hq1
      rw [h0]
      exact L3.empty wr _ _ (by omega) (.inr ⟨g, off, rfl⟩)
  · simp only [if_neg hcz] at hb' hb2' hfl hown' hset ⊢
    refine ⟨k + 1, t, off + 3, cz - 1, by omega, by omega, hid ⟨htd, hnf⟩, hid hown', hid ?_, hid (hfl (off + 3) ?_), hid hb2', hid (g_set hg1 _ (.inl rfl))⟩
    · rw [← hq1]; exact hb'
    · rw [hq] at hL
      have h0 := hL.tail hcz
      rw [hq1]
      exact h0
theorem pushR_fin {b0 B g4 cap4 n : Nat} {M Y : Int} {xs : List T3} {u : Value} {x y z : Int} {w2 w4 : World} (hB : w2.heap.size = B) (hb0 : b0 < B) (hn : n = xs.length)
    (hb : Blk w2 b0 39 [.int .i64 M, .int .i64 Y, u]) (hg : w2.grownBy w4 none)
    (hown : w4.ownsRow B 33 3 (.slice (some ⟨g4, 0, none⟩) (n + 1) cap4) (n + 1) (flat3 xs ++ [.int .i64 x, .int .i64 y, .int .i64 z])) :
    PushR b0 B M Y (xs ++ [(x, y, z)]) w2 (w4.setCell ⟨b0, 2, none⟩ (.slice (some ⟨g4, 0, none⟩) (n + 1) cap4)) := by
  subst hn
  have hl : (xs ++ [(x, y, z)]).length = xs.length + 1 := by simp
  refine ⟨g4, cap4, by rw [hl]; exact (hb.keptN hg).set 2 _, ?_, g_set (g_weak hg) _ (.inl rfl)⟩
  rw [hl, flat3_append]
  refine hown.kept (grownBy_setCell'' w4 b0 2 _) (.inr ?_)
  have := (row_base hown g4 rfl).1
  simp [Value.ownBlock]
  omega

set_option maxHeartbeats 2000000 in
theorem refPush_ok (M Y : Int) (hM : 0 ≤ M) (hY : 0 ≤ Y) (xs : List T3) (hG : Good xs) (hx : xs.length < 1000) (v : Value) (x y z : Int) (w : World) (h : L3 w v xs) (hr : rightB (x, y, z) = true) (ha : atOf xs x y < 0) :
    Calls Try.prog 30 #[RQ M Y v, .agg #[.int .i64 x, .int .i64 y, .int .i64 z]] w fun e w' => ∃ a' n' c' a n c, e = .returned (.tuple #[RQ M Y (.slice a' n' c'), .slice a n c, .int .i64 0]) ∧
      L3 w' (.slice a' n' c') ((xs ++ [(x, y, z)]).drop (lvN M Y (xs ++ [(x, y, z)]))) ∧ L3 w' (.slice a n c) ((xs ++ [(x, y, z)]).take (lvN M Y (xs ++ [(x, y, z)]))) ∧ w.grownBy w' none ∧
      (∀ r, (Value.slice a' n' c').ownBlock = some r → w.heap.size ≤ r ∧ r < w'.heap.size) ∧ (∀ r, (Value.slice a n c).ownBlock = some r → w.heap.size ≤ r) := by
  obtain ⟨i0, hi, hz0, hz1, hz2⟩ := info_parts info_held
  have hfl := flat3_length xs
  obtain ⟨hb1, hb2, hb3⟩ := right_parts hr
  have hGy : Good (xs ++ [(x, y, z)]) := fun t ht => by
    rcases List.mem_append.1 ht with ht | ht
    · exact hG t ht
    · simp at ht; subst ht
      simp only [inB, Bool.and_eq_true, decide_eq_true_eq] at hb3
      show 0 ≤ z ∧ z ≤ 1048576
      omega
  clear hb1 hb2 hb3 hG
  obtain ⟨a, cap, hv, hl, hcp, hm, _⟩ := id h
  subst hv
  obtain ⟨n, hn⟩ : ∃ n, n = atOf xs x y := ⟨_, rfl⟩
  rw [← hn] at ha
  have b0 := ((rq_box M Y (.slice a xs.length cap) w).alloc (.cells #[.int .i64 x, .int .i64 y, .int .i64 z] 33)).alloc (.cells #[.int .i64 0, .int .i64 0, .slice none 0 0] 39)
  have b1 := (Blk.new (w.alloc (.cells #[.int .i64 M, .int .i64 Y, .slice a xs.length cap] 39)) [.int .i64 x, .int .i64 y, .int .i64 z] 33).alloc (.cells #[.int .i64 0, .int .i64 0, .slice none 0 0] 39)
  have b2 := Blk.new ((w.alloc (.cells #[.int .i64 M, .int .i64 Y, .slice a xs.length cap] 39)).alloc (.cells #[.int .i64 x, .int .i64 y, .int .i64 z] 33)) [.int .i64 0, .int .i64 0, .slice none 0 0] 39
  simp only [World.size_alloc] at b1 b2
  have hgA := g_alloc (g_alloc (g_alloc (g_refl w none) (.cells #[.int .i64 M, .int .i64 Y, .slice a xs.length cap] 39)) (.cells #[.int .i64 x, .int .i64 y, .int .i64 z] 33)) (.cells #[.int .i64 0, .int .i64 0, .slice none 0 0] 39)
  have k10 := b1.cellOf (i := 0) rfl
  have k11 := b1.cellOf (i := 1) rfl
  have k12 := b1.cellOf (i := 2) rfl
  have hL := h.keptN hgA
  clear h
  go_enter Try.func30, Try.ntmps30
  go_wp2_with fail
  refine (refRight_any x y z _).mono ?_
  rintro e w1 ⟨rfl, hg1⟩
  simp only [hr]
  have cc0 := (b0.keptN hg1).cellOf (i := 0) rfl
  have cc1 := (b0.keptN hg1).cellOf (i := 1) rfl
  have cc2 := (b0.keptN hg1).cellOf (i := 2) rfl
  have dd0 := (b1.keptN hg1).cellOf (i := 0) rfl
  have dd1 := (b1.keptN hg1).cellOf (i := 1) rfl
  clear k10 k11 k12
  go_wp2_with fail
  refine (refAt_any M Y xs (.slice a xs.length cap) x y _ (hL.keptN hg1)).mono ?_
  rintro e w2 ⟨rfl, hg2⟩
  simp only [← hn]
  have HN := hid hn
  clear hn
  have hB0 := hid ((b0.keptN hg1).keptN hg2)
  have hB1 := hid ((b1.keptN hg1).keptN hg2)
  have bb1 := hB1.out
  have hB2 := hid ((b2.keptN hg1).keptN hg2)
  have gW := g_none (g_none hgA hg1) hg2
  have HL := hid ((hL.keptN hg1).keptN hg2)
  have hbB : w.heap.size < w2.heap.size := by have := hB0.out.lt; omega
  have hb2B : w.heap.size + 1 + 1 < w2.heap.size := hB2.out.lt
  clear b0 b1 b2 cc0 cc1 cc2 dd0 dd1 hL hgA hg1 hg2
  have k0 := hB0.out.cellOf (i := 2) rfl
  have k1 := bb1.cellOf (i := 0) rfl
  have k2 := bb1.cellOf (i := 1) rfl
  have k3 := bb1.cellOf (i := 2) rfl
  obtain ⟨B, hB⟩ : ∃ B, w2.heap.size = B := ⟨_, rfl⟩
  go_wp2_with fail
  go_cut [] from 20 to 27 (fun wx => PushR w.heap.size B M Y (xs ++ [(x, y, z)]) w2 wx)
  case first =>
    rw [hB] at hbB hb2B
    by_cases hxs : xs = []
    · have HX0 := hid hxs
      clear hxs
      have gS1 : w2.grownBy ((w2.alloc (.cells #[] 33)).drew) none := g_drewN (g_alloc (g_refl w2 none) _) rfl
      have gS2 : w2.grownBy (((w2.alloc (.cells #[] 33)).alloc (.cells #[.int .i64 x, .int .i64 y, .int .i64 z] 33)).drew) none := g_drewN (g_alloc (g_alloc (g_refl w2 none) _) _) rfl
      have gS3 : w2.grownBy (((w2.alloc (.cells #[.int .i64 x, .int .i64 y, .int .i64 z] 33)).alloc (.cells #[] 33)).drew) none := g_drewN (g_alloc (g_alloc (g_refl w2 none) _) _) rfl
      have own1' := behindR (World.ownsRow_made w2 (e := 33) (size := 3) #[] 0 (Nat.le_refl _) (by simp [maxLen]) rfl) B (by omega)
      have own3' := behindR (World.ownsRow_made (w2.alloc (.cells #[.int .i64 x, .int .i64 y, .int .i64 z] 33)) (e := 33) (size := 3) #[] 0 (Nat.le_refl _) (by simp [maxLen]) rfl) B (by rw [World.size_alloc]; omega)
      rw [World.size_alloc] at own3'
      have hbX2 := Blk.new (w2.alloc (.cells #[] 33)) [.int .i64 x, .int .i64 y, .int .i64 z] 33
      have hbX3 := (Blk.new w2 [.int .i64 x, .int .i64 y, .int .i64 z] 33).alloc (.cells #[] 33)
      rw [World.size_alloc] at hbX2
      rw [hB] at own1' own3' hbX2 hbX3
      have own1 : ((w2.alloc (.cells #[] 33)).drew).ownsRow B 33 3 (.slice (some ⟨B, 0, none⟩) 0 0) 0 [] := own1'
      have own2 : (((w2.alloc (.cells #[] 33)).alloc (.cells #[.int .i64 x, .int .i64 y, .int .i64 z] 33)).drew).ownsRow B 33 3 (.slice (some ⟨B, 0, none⟩) 0 0) 0 [] := own1'.alloc _
      have own3 : (((w2.alloc (.cells #[.int .i64 x, .int .i64 y, .int .i64 z] 33)).alloc (.cells #[] 33)).drew).ownsRow B 33 3 (.slice (some ⟨B + 1, 0, none⟩) 0 0) 0 [] := own3'
      have bX2 : Blk (((w2.alloc (.cells #[] 33)).alloc (.cells #[.int .i64 x, .int .i64 y, .int .i64 z] 33)).drew) (B + 1) 33 [.int .i64 x, .int .i64 y, .int .i64 z] := hbX2
      have bX3 : Blk (((w2.alloc (.cells #[.int .i64 x, .int .i64 y, .int .i64 z] 33)).alloc (.cells #[] 33)).drew) B 33 [.int .i64 x, .int .i64 y, .int .i64 z] := hbX3
      clear hbX2 hbX3 own1' own3'
      have ka0 := fun o => (hB0.out.alloc o).cellOf (i := 2) rfl
      have ka1 := fun o => (hB1.out.alloc o).cellOf (i := 0) rfl
      have ka2 := fun o => (hB1.out.alloc o).cellOf (i := 1) rfl
      have ka3 := fun o => (hB1.out.alloc o).cellOf (i := 2) rfl
      have kb0 := fun o o' => ((hB0.out.alloc o).alloc o').cellOf (i := 2) rfl
      have kb1 := fun o o' => ((hB1.out.alloc o).alloc o').cellOf (i := 0) rfl
      have kb2 := fun o o' => ((hB1.out.alloc o).alloc o').cellOf (i := 1) rfl
      have kb3 := fun o o' => ((hB1.out.alloc o).alloc o').cellOf (i := 2) rfl
      go_region_law (first
        | (refine step_append_lies _ (by rfl) _ _ _ (by rfl) B 33 i0 _ 3 24 Try.underlying23 hi hz0 hz1 hz2 rfl (by omega) _ 0 [] (by rfl) own2 ⟨B + 1, 0, none⟩ 1 1 [.int .i64 x, .int .i64 y, .int .i64 z] (by rfl) (by rfl) (blk_cells bX2) (by simp [Value.oneCell']) (by omega) (by unfold maxLen; omega) (by omega) (by simp; omega) _ rfl ?_; intro g4 cap4 w4 hown4 hg4 hat4 hlt4; have hgF := g_trans gS2 hg4 (fun r e => .inr (by simp [Value.ownBlock] at e; omega)); have hb4 := hB0.out.keptN hgF; have c6 := hb4.cellOf (i := 2) rfl; have f6 := hb4.frozen 2)
        | (refine step_append_lies _ (by rfl) _ _ _ (by rfl) B 33 i0 _ 3 24 Try.underlying23 hi hz0 hz1 hz2 rfl (by omega) _ 0 [] (by rfl) own3 ⟨B, 0, none⟩ 1 1 [.int .i64 x, .int .i64 y, .int .i64 z] (by rfl) (by rfl) (blk_cells bX3) (by simp [Value.oneCell']) (by omega) (by unfold maxLen; omega) (by omega) (by simp; omega) _ rfl ?_; intro g4 cap4 w4 hown4 hg4 hat4 hlt4; have hgF := g_trans gS3 hg4 (fun r e => .inr (by simp [Value.ownBlock] at e; omega)); have hb4 := hB0.out.keptN hgF; have c6 := hb4.cellOf (i := 2) rfl; have f6 := hb4.frozen 2)
        | (refine step_append_nothing (by rfl) _ _ _ (by rfl) 33 i0 Try.underlying23 hi _ 0 0 (by rfl) (Nat.le_refl _) a xs.length cap (by rfl) (by rw [HX0.out]; rfl) ?_)
        | fail)
      all_goals
        go_wp2_with fail
        go_meet
        have hx0 := HX0.out
        subst hx0
        exact pushR_fin hB hbB (xs := []) rfl hB0.out hgF (by first | exact hown4 | simpa [flat3] using hown4)

    · obtain ⟨g, off, rfl⟩ := L3.addr HL.out hxs
      have hxp : 0 < xs.length := by cases xs with
        | nil => exact absurd rfl hxs
        | cons t l => simp
      have gS1 : w2.grownBy ((w2.alloc (.cells #[] 33)).drew) none := g_drewN (g_alloc (g_refl w2 none) _) rfl
      have gS2 : w2.grownBy (((w2.alloc (.cells #[] 33)).alloc (.cells #[.int .i64 x, .int .i64 y, .int .i64 z] 33)).drew) none := g_drewN (g_alloc (g_alloc (g_refl w2 none) _) _) rfl
      have gS3 : w2.grownBy (((w2.alloc (.cells #[.int .i64 x, .int .i64 y, .int .i64 z] 33)).alloc (.cells #[] 33)).drew) none := g_drewN (g_alloc (g_alloc (g_refl w2 none) _) _) rfl
      have own1' := behindR (World.ownsRow_made w2 (e := 33) (size := 3) #[] 0 (Nat.le_refl _) (by simp [maxLen]) rfl) B (by omega)
      have own3' := behindR (World.ownsRow_made (w2.alloc (.cells #[.int .i64 x, .int .i64 y, .int .i64 z] 33)) (e := 33) (size := 3) #[] 0 (Nat.le_refl _) (by simp [maxLen]) rfl) B (by rw [World.size_alloc]; omega)
      rw [World.size_alloc] at own3'
      have hbX2 := Blk.new (w2.alloc (.cells #[] 33)) [.int .i64 x, .int .i64 y, .int .i64 z] 33
      have hbX3 := (Blk.new w2 [.int .i64 x, .int .i64 y, .int .i64 z] 33).alloc (.cells #[] 33)
      rw [World.size_alloc] at hbX2
      rw [hB] at own1' own3' hbX2 hbX3
      have own1 : ((w2.alloc (.cells #[] 33)).drew).ownsRow B 33 3 (.slice (some ⟨B, 0, none⟩) 0 0) 0 [] := own1'
      have own2 : (((w2.alloc (.cells #[] 33)).alloc (.cells #[.int .i64 x, .int .i64 y, .int .i64 z] 33)).drew).ownsRow B 33 3 (.slice (some ⟨B, 0, none⟩) 0 0) 0 [] := own1'.alloc _
      have own3 : (((w2.alloc (.cells #[.int .i64 x, .int .i64 y, .int .i64 z] 33)).alloc (.cells #[] 33)).drew).ownsRow B 33 3 (.slice (some ⟨B + 1, 0, none⟩) 0 0) 0 [] := own3'
      have bX2 : Blk (((w2.alloc (.cells #[] 33)).alloc (.cells #[.int .i64 x, .int .i64 y, .int .i64 z] 33)).drew) (B + 1) 33 [.int .i64 x, .int .i64 y, .int .i64 z] := hbX2
      have bX3 : Blk (((w2.alloc (.cells #[.int .i64 x, .int .i64 y, .int .i64 z] 33)).alloc (.cells #[] 33)).drew) B 33 [.int .i64 x, .int .i64 y, .int .i64 z] := hbX3
      clear hbX2 hbX3 own1' own3'
      have ka0 := fun o => (hB0.out.alloc o).cellOf (i := 2) rfl
      have ka1 := fun o => (hB1.out.alloc o).cellOf (i := 0) rfl
      have ka2 := fun o => (hB1.out.alloc o).cellOf (i := 1) rfl
      have ka3 := fun o => (hB1.out.alloc o).cellOf (i := 2) rfl
      have kb0 := fun o o' => ((hB0.out.alloc o).alloc o').cellOf (i := 2) rfl
      have kb1 := fun o o' => ((hB1.out.alloc o).alloc o').cellOf (i := 0) rfl
      have kb2 := fun o o' => ((hB1.out.alloc o).alloc o').cellOf (i := 1) rfl
      have kb3 := fun o o' => ((hB1.out.alloc o).alloc o').cellOf (i := 2) rfl
      go_region_law (first
        | (refine step_append_lies _ (by rfl) _ _ _ (by rfl) B 33 i0 _ 3 24 Try.underlying23 hi hz0 hz1 hz2 rfl (by omega) _ xs.length (flat3 xs) (by rfl) own4 ⟨_, 0, none⟩ 1 1 [.int .i64 x, .int .i64 y, .int .i64 z] (by rfl) (by rfl) (blk_cells bX) (by simp [Value.oneCell']) (by omega) (by unfold maxLen at *; omega) (by omega) (by have := G4.size; omega) _ rfl ?_; intro g4 cap4 w4 hown4 hg4 hat4 hlt4; have hgF := g_trans G4 hg4 (fun r e => .inr (by have := (row_base hown3 r e).1; omega)); have hb4 := hB0.out.keptN hgF; have c6 := hb4.cellOf (i := 2) rfl; have f6 := hb4.frozen 2)
        | (refine step_append_lies _ (by rfl) _ _ _ (by rfl) B 33 i0 _ 3 24 Try.underlying23 hi hz0 hz1 hz2 rfl (by omega) _ 0 [] (by rfl) own1 ⟨g, off, none⟩ xs.length cap (flat3 xs) (by rfl) (by omega) ((HL.out.keptN gS1).cells) (flat3_oneCell xs) (by omega) (by unfold maxLen at *; omega) (by omega) (by simp; omega) _ rfl ?_; intro g3 cap3 w3 hown3 hg3 hat3 hlt3; simp only [Nat.zero_add, List.nil_append] at hown3; have G3 := g_trans gS1 hg3 (fun r e => .inr (by simp [Value.ownBlock] at e; omega)); have bX := Blk.new w3 [.int .i64 x, .int .i64 y, .int .i64 z] 33; have own4 := hown3.alloc (.cells #[.int .i64 x, .int .i64 y, .int .i64 z] 33); have G4 := g_alloc G3 (.cells #[.int .i64 x, .int .i64 y, .int .i64 z] 33); have q1 := (hB1.out.keptN G3).cellOf (i := 0) rfl; have q2 := (hB1.out.keptN G3).cellOf (i := 1) rfl; have q3 := (hB1.out.keptN G3).cellOf (i := 2) rfl)
        | (refine step_append_lies _ (by rfl) _ _ _ (by rfl) B 33 i0 _ 3 24 Try.underlying23 hi hz0 hz1 hz2 rfl (by omega) _ 0 [] (by rfl) own2 ⟨g, off, none⟩ xs.length cap (flat3 xs) (by rfl) (by omega) ((HL.out.keptN gS2).cells) (flat3_oneCell xs) (by omega) (by unfold maxLen at *; omega) (by omega) (by simp; omega) _ rfl ?_; intro g3 cap3 w3 hown3 hg3 hat3 hlt3; simp only [Nat.zero_add, List.nil_append] at hown3; have G3 := g_trans gS2 hg3 (fun r e => .inr (by simp [Value.ownBlock] at e; omega)); have bX := bX2.kept hg3 (by simp [Value.ownBlock]); have own4 := hown3; have G4 := G3)
        | (refine step_append_lies _ (by rfl) _ _ _ (by rfl) B 33 i0 _ 3 24 Try.underlying23 hi hz0 hz1 hz2 rfl (by omega) _ 0 [] (by rfl) own3 ⟨g, off, none⟩ xs.length cap (flat3 xs) (by rfl) (by omega) ((HL.out.keptN gS3).cells) (flat3_oneCell xs) (by omega) (by unfold maxLen at *; omega) (by omega) (by simp; omega) _ rfl ?_; intro g3 cap3 w3 hown3 hg3 hat3 hlt3; simp only [Nat.zero_add, List.nil_append] at hown3; have G3 := g_trans gS3 hg3 (fun r e => .inr (by simp [Value.ownBlock] at e; omega)); have bX := bX3.kept hg3 (by simp [Value.ownBlock]); have own4 := hown3; have G4 := G3)
        | fail)
      all_goals
        go_wp2_with fail
        go_meet
        exact pushR_fin hB hbB (by omega) hB0.out hgF (by first | exact hown4 | simpa [flat3] using hown4)

  case rest =>
    obtain ⟨g, cap', hbY, hown, hgX⟩ := hcut
    obtain ⟨ys, hys⟩ : ∃ ys, ys = xs ++ [(x, y, z)] := ⟨_, rfl⟩
    rw [← hys] at hbY hown hGy
    have HYS := hid hys
    have hyl : ys.length ≤ 1000 := by rw [hys]; simp; omega
    have hb2 := hB2.out.kept hgX (by simp; omega)
    have hgWc : w.grownBy wc none := g_trans gW hgX (fun r e => by cases e; exact .inr (Nat.le_refl _))
    have hLc : L3 wc (.slice (some ⟨g, 0, none⟩) ys.length cap') ys := L3.own hyl hown
    have hgl : B ≤ g ∧ g < wc.heap.size := row_base hown g rfl
    have hsz := hgX.size
    have HG := hid hGy
    clear hB0 hB1 bb1 hB2 HL HN k0 k1 k2 k3 hown hys hgX hGy gW hfl hx hl hcp
    obtain ⟨C, hC⟩ : ∃ C, wc.heap.size = C := ⟨_, rfl⟩
    obtain ⟨b0, hb0⟩ : ∃ b, b = w.heap.size := ⟨_, rfl⟩
    rw [← hb0] at hbY hb2 ⊢
    have hbb : b0 < B := by omega
    have hwg : b0 ≤ g := by omega
    have hbc : b0 + 1 + 1 < C := by omega
    have hgC : g < C := by omega
    have hgb : b0 ≠ g := by omega
    have hgb2 : b0 + 1 + 1 ≠ g := by omega
    have HW := hid (show w.grownBy wc none ∧ b0 = w.heap.size from ⟨hgWc, hb0⟩)
    clear hgWc hb0 hgl hsz hbB hb2B hB
    go_wp2_with fail
    go_loopw [7] (PushI g b0 C M Y ys wc) (fun v7 _ => ys.length - cntOf v7)
    case atStart => exact ⟨0, ys, 0, cap', Nat.zero_le _, hyl, hid ⟨by simp, fun j hj => absurd hj (by omega)⟩, hid (World.ownsRow_nil _ _ _ _), hid hbY, hid hLc, hid hb2, hid (g_refl _ _)⟩
    case round =>
      obtain ⟨k, zs, off, cz, hk, hzl, hzs, hrow, hbR, hLR, hb2R, hgR⟩ := hrel
      have q0 := hbR.out.cellOf (i := 0) rfl
      have q1 := hbR.out.cellOf (i := 1) rfl
      have q2 := hbR.out.cellOf (i := 2) rfl
      have hGz : Good zs := by rw [hzs.out.1]; exact HG.out.drop k
      have HGz := hid hGz
      have hCw : C ≤ wr.heap.size := by have := hgR.out.size; omega
      have hgd : wr.grownBy wr.drew none := g_drewN (g_refl wr none) rfl
      have hS1 : PushS b0 M Y (.slice (some ⟨g, off, none⟩) zs.length cz) wr wr.drew := ⟨q0, q1, q2, hgd⟩
      clear q0 q1 q2 hgd hGz
      by_cases hf : fits M Y zs = true
      · have hf2 : (zs.length : Int) ≤ M ∧ sum3 zs ≤ Y := by simpa [fits, fitB] using hf
        have h1 : decide (M < (zs.length : Int)) = false := by simp; omega
        obtain ⟨S, hS⟩ : ∃ S, S = sum3 zs := ⟨_, rfl⟩
        have h2 : decide (Y < S) = false := by simp; omega
        have HS := hid hS
        have HF := hid hf
        clear hf2 hf hS
        go_wp2_with fail
        go_region_held3 (fun w' => w'.cell? ⟨b0, 0, none⟩ = some (.int .i64 M) ∧ w'.cell? ⟨b0, 1, none⟩ = some (.int .i64 Y) ∧ w'.cell? ⟨b0, 2, none⟩ = some (.slice (some ⟨g, off, none⟩) zs.length cz) ∧ wr.grownBy w' none)
          (first | assumption | exact PushS.more (by assumption) hg9)
          (first | (go_at_call 31; refine (refSum_any M Y zs _ _ (PushS.l3 hLR.out (by assumption)) HGz.out).mono ?_; rintro e w9 ⟨rfl, hg9⟩; simp only [← HS.out]) | fail)
        all_goals
          rename _ ∧ _ ∧ _ ∧ World.grownBy _ _ _ => hS9
          have hg9' := hS9.2.2.2
          have hb9 := hb2R.out.keptN hg9'
          have r0 := hS9.1
          have r1 := hS9.2.1
          have r2 := hS9.2.2.1
          have f0 := hb9.frozen 0
          have f1 := (hb9.set 0 (.int .i64 M)).frozen 1
          have f2 := ((hb9.set 0 (.int .i64 M)).set 1 (.int .i64 Y)).frozen 2
          have s0 := hb9.cellOf (i := 0) rfl
          have s1 := (hb9.set 0 (.int .i64 M)).cellOf (i := 1) rfl
          have s2 := ((hb9.set 0 (.int .i64 M)).set 1 (.int .i64 Y)).cellOf (i := 2) rfl
          have bF := ((hb9.set 0 (.int .i64 M)).set 1 (.int .i64 Y)).set 2 (.slice (some ⟨g, off, none⟩) zs.length cz)
          have hgS := g_set (g_set (g_set (g_weak (row := some (b0 + 1 + 1)) hg9') (a := ⟨b0 + 1 + 1, 0, none⟩) (.int .i64 M) (.inl rfl)) (a := ⟨b0 + 1 + 1, 1, none⟩) (.int .i64 Y) (.inl rfl)) (a := ⟨b0 + 1 + 1, 2, none⟩) (.slice (some ⟨g, off, none⟩) zs.length cz) (.inl rfl)
          obtain ⟨a7, n7, c7, rfl⟩ := row_slice hrow.out
          go_wp2
          refine bodyPost_ret (results_row_tmp2 rfl _ _ (b0 + 1 + 1) _ _ _ _ rfl bF Try.underlying39 rfl (by kernel_rfl)) rfl ?_
          have hlv := lvN_of M Y ys k hk hzs.out.2 (.inr (by rw [← hzs.out.1]; exact HF.out))
          rw [← HYS.out, hlv, ← hzs.out.1]
          have hC7 := fun r hr => (row_base hrow.out r hr).1
          have hL7 : L3 wr (.slice a7 n7 c7) (ys.take k) := L3.own (by simp; omega) (by simpa [Nat.min_eq_left hk] using hrow.out)
          have hbw := HW.out.2
          refine ⟨_, _, _, _, _, _, rfl, hLR.out.kept hgS (fun r e => by cases e; simp [Value.ownBlock]; omega), hL7.kept hgS (fun r e hr => by cases e; have := hC7 _ hr; omega), ?_, fun r hr => (by simp only [Value.ownBlock, Option.some.injEq] at hr; subst hr; have := hgS.size; omega), fun r hr => by have := hC7 r hr; omega⟩
          exact g_trans (g_trans HW.out.1 hgR.out (fun r e => by cases e; exact .inr (by omega))) hgS (fun r e => by cases e; exact .inr (by omega))
      · have hne : zs ≠ [] := fun e => hf (by rw [e]; simp [fits, fitB, sum3, hM, hY])
        obtain ⟨⟨x1, y1, z1⟩, t, rfl⟩ : ∃ t0 t, zs = t0 :: t := by cases zs with
          | nil => exact absurd rfl hne
          | cons t0 t => exact ⟨t0, t, rfl⟩
        rw [List.length_cons] at hbR hLR hS1 hzl
        obtain ⟨q, hq⟩ : ∃ q, q = t.length + 1 := ⟨_, rfl⟩
        rw [← hq] at hbR hLR hS1 hzl
        have hkl : k < ys.length := by have h0 := congrArg List.length hzs.out.1; simp at h0; omega
        have hqp : (0 : Int) < (q : Int) := by omega
        have hq1 : 1 ≤ q := by omega
        have hql : q ≤ cz ∧ cz ≤ maxLen := by obtain ⟨_, _, e, _, h2, h3, _⟩ := id hLR.out; cases e; exact ⟨by simpa [hq] using h2, h3⟩
        have hqt : ((x1, y1, z1) :: t).length = q := by simp [hq]
        have hyk : ys.take (k + 1) = ys.take k ++ [(x1, y1, z1)] := by
          have h0 := hzs.out.1
          rw [List.drop_eq_getElem_cons hkl] at h0
          rw [List.take_add_one, List.getElem?_eq_getElem hkl]
          simp only [List.cons.injEq] at h0
          rw [h0.1]; rfl
        have htd : t = ys.drop (k + 1) := by
          have h0 := hzs.out.1
          rw [List.drop_eq_getElem_cons hkl] at h0
          simp only [List.cons.injEq] at h0
          exact h0.2
        have HYK := hid hyk
        have HTD := hid htd
        have HF := hid hf
        have HQ := hid hq
        have HQT := hid hqt
        have hf3 : M < (q : Int) ∨ Y < sum3 ((x1, y1, z1) :: t) := by
          have h0 : ¬ ((((x1, y1, z1) :: t).length : Int) ≤ M ∧ sum3 ((x1, y1, z1) :: t) ≤ Y) := by simpa [fits, fitB] using hf
          rw [hqt] at h0
          omega
        clear hyk htd hf hq hqt hne
        obtain ⟨S, hS⟩ : ∃ S, S = sum3 ((x1, y1, z1) :: t) := ⟨_, rfl⟩
        rw [← hS] at hf3
        have HS := hid hS
        clear hS
        have hL0 : L3 wr (.slice (some ⟨g, off, none⟩) ((x1, y1, z1) :: t).length cz) ((x1, y1, z1) :: t) := by rw [HQT.out]; exact hLR.out
        obtain ⟨g', off', cap9, e9, d0, d1, d2⟩ := hL0.at (k := 0) rfl
        cases e9
        simp only [Nat.zero_mul, Nat.add_zero] at d0 d1 d2
        by_cases h1 : M < (q : Int)
        · have h1d : decide (M < (q : Int)) = true := by simpa using h1
          clear h1 hf3
          go_wp2_with fail
          have e0 := hbR.out.cellOf (i := 0) rfl
          have e1 := hbR.out.cellOf (i := 1) rfl
          have e2 := hbR.out.cellOf (i := 2) rfl
          clear hS1
          go_quiet (fail)
          have hS9 : PushS b0 M Y (.slice (some ⟨g, off, none⟩) q cz) wr (wr.drewN nq) := ⟨e0, e1, e2, g_drewM (g_refl wr none) nq⟩
          clear e0 e1 e2
          obtain ⟨w9, hw9⟩ : ∃ w9, w9 = wr.drewN nq := ⟨_, rfl⟩
          rw [← hw9] at hS9 ⊢
          clear hw9
          have r0 := hS9.1
          have r1 := hS9.2.1
          have r2 := hS9.2.2.1
          have hg9' := hS9.2.2.2
          have m0 := g_cellN hg9' d0
          have m1 := g_cellN hg9' d1
          have m2 := g_cellN hg9' d2
          have hs9 := hg9'.size
          have hyl2 : (k : Int) + 1 ≤ 1000 := by omega
          go_wp2_with (at_builtin; refine wpList_append_own _ rfl _ _ 23 rfl C 33 i0 (.agg #[.int .i64 0, .int .i64 0, .int .i64 0]) 3 24 Try.underlying23 hi hz0 hz1 hz2 rfl (by decide) _ _ _ rfl ((row_keptN hrow.out hg9').alloc _) ⟨w9.heap.size, 0, none⟩ 1 1 [.int .i64 x1, .int .i64 y1, .int .i64 z1] rfl rfl (cells_new3 w9 [.int .i64 x1, .int .i64 y1, .int .i64 z1] _) (by simp [Value.oneCell']) (by unfold maxLen; omega) (by omega) (by simp; omega) ?_; intro v' w1 hown' hgrow hnn; obtain ⟨g8, c8, rfl⟩ := ownsRow_succ hown'; have hne8 : ∀ b, b < C → some b ≠ u7.ownBlock := (fun b hb e => by have := (row_base hrow.out b e.symm).1; omega); have hb8 := ((hbR.out.keptN hg9').alloc (.cells #[.int .i64 x1, .int .i64 y1, .int .i64 z1] 33)).kept hgrow (hne8 b0 (by omega)); have e8 := hb8.cellOf (i := 2) rfl; have f8 := hb8.frozen 2)
          exact ⟨pushI_step hC hkl hbc hgC hgb hzs.out HF.out HQ.out hzl HTD.out HYK.out hLR.out hbR.out hb2R.out hgR.out hrow.out hg9' hgrow hown', by rw [row_cnt hrow.out]; show ys.length - (k + 1) < ys.length - k; omega⟩
        · have h1d : decide (M < (q : Int)) = false := by simpa using h1
          have h2d : decide (Y < S) = true := by simp; omega
          clear h1 hf3
          go_wp2_with fail
          go_region_held3 (fun w' => w'.cell? ⟨b0, 0, none⟩ = some (.int .i64 M) ∧ w'.cell? ⟨b0, 1, none⟩ = some (.int .i64 Y) ∧ w'.cell? ⟨b0, 2, none⟩ = some (.slice (some ⟨g, off, none⟩) q cz) ∧ wr.grownBy w' none)
            (first | assumption | exact PushS.more (by assumption) hg9)
            (first | (go_at_call 31; refine (refSum_any M Y ((x1, y1, z1) :: t) _ _ (by rw [← HQT.out]; exact PushS.l3 hL0 (by assumption)) HGz.out).mono ?_; rintro e w9 ⟨rfl, hg9⟩; simp only [← HS.out]) | fail)
          rename _ ∧ _ ∧ _ ∧ World.grownBy _ _ _ => hS9
          have r0 := hS9.1
          have r1 := hS9.2.1
          have r2 := hS9.2.2.1
          have hg9' := hS9.2.2.2
          have m0 := g_cellN hg9' d0
          have m1 := g_cellN hg9' d1
          have m2 := g_cellN hg9' d2
          have hs9 := hg9'.size
          have hyl2 : (k : Int) + 1 ≤ 1000 := by omega
          go_wp2_with (at_builtin; refine wpList_append_own _ rfl _ _ 23 rfl C 33 i0 (.agg #[.int .i64 0, .int .i64 0, .int .i64 0]) 3 24 Try.underlying23 hi hz0 hz1 hz2 rfl (by decide) _ _ _ rfl ((row_keptN hrow.out hg9').alloc _) ⟨w9.heap.size, 0, none⟩ 1 1 [.int .i64 x1, .int .i64 y1, .int .i64 z1] rfl rfl (cells_new3 w9 [.int .i64 x1, .int .i64 y1, .int .i64 z1] _) (by simp [Value.oneCell']) (by unfold maxLen; omega) (by omega) (by simp; omega) ?_; intro v' w1 hown' hgrow hnn; obtain ⟨g8, c8, rfl⟩ := ownsRow_succ hown'; have hne8 : ∀ b, b < C → some b ≠ u7.ownBlock := (fun b hb e => by have := (row_base hrow.out b e.symm).1; omega); have hb8 := ((hbR.out.keptN hg9').alloc (.cells #[.int .i64 x1, .int .i64 y1, .int .i64 z1] 33)).kept hgrow (hne8 b0 (by omega)); have e8 := hb8.cellOf (i := 2) rfl; have f8 := hb8.frozen 2)
          exact ⟨pushI_step hC hkl hbc hgC hgb hzs.out HF.out HQ.out hzl HTD.out HYK.out hLR.out hbR.out hb2R.out hgR.out hrow.out hg9' hgrow hown', by rw [row_cnt hrow.out]; show ys.length - (k + 1) < ys.length - k; omega⟩


theorem refPush_any (M Y : Int) (hM : 0 ≤ M) (hY : 0 ≤ Y) (xs : List T3) (hG : Good xs) (hx : xs.length < 1000) (v : Value) (x y z : Int) (w : World) (h : L3 w v xs) :
    Calls Try.prog 30 #[RQ M Y v, .agg #[.int .i64 x, .int .i64 y, .int .i64 z]] w fun e w' => ∃ a' n' c' a n c, e = .returned (.tuple #[RQ M Y (.slice a' n' c'), .slice a n c, .int .i64 (pushE xs (x, y, z))]) ∧
      L3 w' (.slice a' n' c') (pushL M Y xs (x, y, z)) ∧ L3 w' (.slice a n c) (pushO M Y xs (x, y, z)) ∧ w.grownBy w' none ∧
      (∀ r, (Value.slice a' n' c').ownBlock = some r → v.ownBlock = some r ∨ (w.heap.size ≤ r ∧ r < w'.heap.size)) ∧ (∀ r, (Value.slice a n c).ownBlock = some r → w.heap.size ≤ r) := by
  rcases pushE_cases xs x y z with ⟨hr, he⟩ | ⟨hr, ha, he⟩ | ⟨hr, ha, he⟩
  · obtain ⟨a, cap, rfl, _⟩ := id h
    refine (refPush_wrong M Y xs _ x y z w h hr).mono ?_
    rintro e w' ⟨rfl, hg⟩
    exact ⟨_, _, _, _, _, _, by rw [he], by simpa [pushL, he] using h.keptN hg, by simpa [pushO, he] using L3.nil w', hg, fun r hr => .inl hr, fun r hr => by simp [Value.ownBlock] at hr⟩
  · obtain ⟨a, cap, rfl, _⟩ := id h
    refine (refPush_twice M Y xs _ x y z w h hr ha).mono ?_
    rintro e w' ⟨rfl, hg⟩
    exact ⟨_, _, _, _, _, _, by rw [he], by simpa [pushL, he] using h.keptN hg, by simpa [pushO, he] using L3.nil w', hg, fun r hr => .inl hr, fun r hr => by simp [Value.ownBlock] at hr⟩
  · refine (refPush_ok M Y hM hY xs hG hx v x y z w h hr ha).mono ?_
    rintro e w' ⟨a', n', c', a, n, c, rfl, h1, h2, hg, hb1, hb2⟩
    exact ⟨_, _, _, _, _, _, by rw [he], by rw [pushL, if_pos he]; exact h1, by rw [pushO, if_pos he]; exact h2, hg, fun r hr => .inr (hb1 r hr), hb2⟩
end Go.Proofs.Ytjjkhbipeehljaa
