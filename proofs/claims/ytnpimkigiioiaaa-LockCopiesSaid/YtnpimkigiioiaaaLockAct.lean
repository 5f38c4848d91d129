/-
  A call by both: the locks, and the document's.
-/
import Derived.Test.YtnpimkigiioiaaaLockWorks
namespace Go.Proofs.Ytnpimkigiioiaaa
open Go.RowKit
set_option maxRecDepth 100000

def actL (l : List Int) (a t n : Int) : List Int := if a = 0 then tryL l t n else if a = 1 then freeL l t n else if a = 2 then (if thB t then dropL l t else l) else l
theorem Fr.fresh {w w1 : World} {v v' : Value} (h : Fr w v v') {g : Nat} (hg : g < w.heap.size) (hv : v.ownBlock ≠ some g) : v'.ownBlock ≠ some g := by
  rcases h with rfl | h
  · exact hv
  · intro e
    have := h g e
    omega

theorem IntsAt.low {w : World} {v : Value} {ns : List Int} (h : IntsAt w v ns) (hn : ns ≠ []) : ∀ r, v.ownBlock = some r → r < w.heap.size := by
  intro r hr
  cases ns with
  | nil => exact absurd rfl hn
  | cons x xs =>
    obtain ⟨g, off, cap, rfl, hc⟩ := h.at (i := 0) (n := x) rfl
    cases hr
    exact cell_lt hc
theorem IntsAt.kept' {w w' : World} {v : Value} {ns : List Int} {g : Nat} (h : IntsAt w v ns) (hg : w.grownBy w' (some g)) (hne : ns ≠ [] → v.ownBlock ≠ some g) : IntsAt w' v ns := by
  by_cases h0 : ns = []
  · subst h0
    obtain ⟨a, cap, rfl, h1, h2, h3, h4⟩ := h
    refine ⟨a, cap, rfl, h1, h2, h3, ?_⟩
    rcases h4 with h4 | ⟨g', off, ha, _⟩
    · exact .inl h4
    · exact .inr ⟨g', off, ha, fun i n hi => by simp at hi⟩
  · exact h.kept hg (fun r hr => by cases hr; exact hne h0)
theorem tryL_length (l : List Int) (t n : Int) : (tryL l t n).length = l.length := by unfold tryL; split <;> simp
theorem freeL_length (l : List Int) (t n : Int) : (freeL l t n).length = l.length := by
  unfold freeL
  split
  · unfold swapL; split <;> simp
  · rfl
theorem dropL_length (l : List Int) (t : Int) : (dropL l t).length = l.length := dropN_length _ _
theorem actL_length (l : List Int) (a t n : Int) : (actL l a t n).length = l.length := by
  unfold actL
  split
  · exact tryL_length _ _ _
  · split
    · exact freeL_length _ _ _
    · split
      · split
        · exact dropL_length _ _
        · rfl
      · rfl
theorem ne_of_len {l l' : List Int} (h : l'.length = l.length) (h0 : l' ≠ []) : l ≠ [] := by
  rintro rfl
  exact h0 (List.length_eq_zero_iff.1 (by simpa using h))

/-- What both are behind a call. -/
def ActPost (w : World) (p pc g K : Nat) (l' : List Int) (v : Value) (e : Ending) (w' : World) : Prop :=
  ∃ p' pc' g' v', e = .returned (.tuple #[.pointer (some ⟨p', 0, none⟩), v', .bool true]) ∧ LockAt w' p' pc' g' (K + 64) l' ∧ IntsAt w' v' l' ∧ w.grownBy w' (some g) ∧ ((p' = p ∧ pc' = pc ∧ g' = g) ∨ (w.heap.size ≤ p' ∧ w.heap.size ≤ pc' ∧ w.heap.size ≤ g')) ∧ Fr w v v' ∧ (l' ≠ [] → v'.ownBlock ≠ some g')

set_option maxHeartbeats 2000000 in
theorem act_any (p pc g K : Nat) (hK : K ≤ 50000) (l : List Int) (v : Value) (a t n : Int) (w : World) (h : LockAt w p pc g K l) (hI : IntsAt w v l) (hv : l ≠ [] → v.ownBlock ≠ some g) :
    Calls Try.prog 10 #[.pointer (some ⟨p, 0, none⟩), v, .agg #[.int .i64 a, .int .i64 t, .int .i64 n]] w (ActPost w p pc g K (actL l a t n) v) := by
  have hgA := g_alloc (g_refl w none) (.cells #[.int .i64 a, .int .i64 t, .int .i64 n] 34)
  have hB := Blk.new w [.int .i64 a, .int .i64 t, .int .i64 n] 34
  obtain ⟨wa, hwa⟩ : ∃ wa, wa = w.alloc (.cells #[.int .i64 a, .int .i64 t, .int .i64 n] 34) := ⟨_, rfl⟩
  have c0 := hB.cellOf (i := 0) rfl
  have c1 := hB.cellOf (i := 1) rfl
  have c2 := hB.cellOf (i := 2) rfl
  have hsz : wa.heap.size = w.heap.size + 1 := by rw [hwa]; simp
  have hlt := h.lt
  have hthr := h.thr
  rw [← hwa] at hgA c0 c1 c2
  clear hB
  have hLa := h.keptN hgA
  have hIa := hI.keptN hgA
  have HTHR := hid hthr
  have HL := hid hLa
  have HI := hid hIa
  have HV := hid hv
  clear hthr hLa hIa hv h hI
  by_cases h0 : a = 0
  · subst h0
    have hal : actL l 0 t n = tryL l t n := rfl
    rw [hal]
    clear hal
    have hR := refTry v l HTHR.out t n wa HI.out
    obtain ⟨b, hb⟩ : ∃ b, tryB l t n = b := ⟨_, rfl⟩
    obtain ⟨E, hE⟩ : ∃ E, tryE l t n = E := ⟨_, rfl⟩
    rw [hb, hE] at hR
    have HR := hid hR
    have HB := hid hb
    have HE := hid hE
    clear hR hb hE
    subst hwa
    go_enter Try.func10, Try.ntmps10
    go_wp2_with fail
    refine HR.out.mono ?_
    rintro e w1 ⟨v', rfl, hI1, hg1, hfr⟩
    have d1 := g_cellN hg1 c1
    have d2 := g_cellN hg1 c2
    have hT := try_some p pc g K (by omega) l t n w1 (HL.out.keptN hg1)
    rw [HB.out, HE.out] at hT
    have HT := hid hT
    clear hT
    go_wp2_with fail
    refine HT.out.mono ?_
    rintro e w2 ⟨rfl, hL2, hg2⟩
    have hvg : tryL l t n ≠ [] → v'.ownBlock ≠ some g := fun h0 => hfr.fresh (w1 := w) (g := g) (by omega) (HV.out (ne_of_len (tryL_length _ _ _) h0))
    have hI2 := hI1.kept' hg2 hvg
    go_wp2_with (go_at_call 13; refine (num_any _ _).mono ?_; rintro e _ ⟨rfl, rfl⟩)
    go_ret3
    exact ⟨p, pc, g, v', rfl, hL2.more (by omega), hI2, g_trans (g_weak (g_none hgA hg1)) hg2 (fun r e => .inl e), .inl ⟨rfl, rfl, rfl⟩, hfr.imp id (fun h r hr => by have := h r hr; omega), hvg⟩
  · by_cases h1 : a = 1
    · subst h1
      have hal : actL l 1 t n = freeL l t n := rfl
      rw [hal]
      clear hal
      have hR := refFree v l t n wa HI.out
      obtain ⟨E, hE⟩ : ∃ E, freeE l t n = E := ⟨_, rfl⟩
      rw [hE] at hR
      have HR := hid hR
      have HE := hid hE
      clear hR hE
      subst hwa
      go_enter Try.func10, Try.ntmps10
      go_wp2_with fail
      refine HR.out.mono ?_
      rintro e w1 ⟨v', rfl, hI1, hg1, hfr⟩
      have d1 := g_cellN hg1 c1
      have d2 := g_cellN hg1 c2
      have hT := free_some p pc g K (by omega) l t n w1 (HL.out.keptN hg1)
      rw [HE.out] at hT
      have HT := hid hT
      clear hT
      go_wp2_with fail
      refine HT.out.mono ?_
      rintro e w2 ⟨rfl, hL2, hg2⟩
      have hvg : freeL l t n ≠ [] → v'.ownBlock ≠ some g := fun h0 => hfr.fresh (w1 := w) (g := g) (by omega) (HV.out (ne_of_len (freeL_length _ _ _) h0))
      have hI2 := hI1.kept' hg2 hvg
      go_wp2_with (go_at_call 13; refine (num_any _ _).mono ?_; rintro e _ ⟨rfl, rfl⟩)
      go_ret3
      exact ⟨p, pc, g, v', rfl, hL2.more (by omega), hI2, g_trans (g_weak (g_none hgA hg1)) hg2 (fun r e => .inl e), .inl ⟨rfl, rfl, rfl⟩, hfr.imp id (fun h r hr => by have := h r hr; omega), hvg⟩
    · by_cases h2 : a = 2
      · subst h2
        cases hth : thB t with
        | true =>
          have hal : actL l 2 t n = dropL l t := by simp [actL, hth]
          rw [hal]
          clear hal
          have hT := drop_yes p pc g K (by omega) l t hth wa HL.out
          obtain ⟨m, hm⟩ : ∃ m, (heldL l t).length = m := ⟨_, rfl⟩
          rw [hm] at hT
          have HT := hid hT
          have HM := hid hm
          have HTH := hid hth
          clear hT hm hth
          subst hwa
          go_enter Try.func10, Try.ntmps10
          go_wp2_with fail
          refine HT.out.mono ?_
          rintro e w1 ⟨rfl, hL1, hg1⟩
          have d1 : w1.cell? ⟨w.heap.size, 1, none⟩ = some (.int .i64 t) := by
            rw [← c1]; exact g_cell hg1 (by simp) (by simp; omega)
          have hI1 := HI.out.kept' hg1 HV.out
          have hR := refDrop v l t w1 hI1
          rw [HM.out] at hR
          have HR := hid hR
          clear hR
          go_wp2_with fail
          refine (thread_ref t w1).mono ?_
          rintro e _ ⟨rfl, rfl⟩
          rw [HTH.out]
          go_wp2_with fail
          refine HR.out.mono ?_
          rintro e w2 ⟨v', rfl, hI2, hg2, hfr⟩
          have hL2 := hL1.keptN hg2
          go_wp2_with (go_at_call 13; refine (num_any _ _).mono ?_; rintro e _ ⟨rfl, rfl⟩)
          go_ret3
          have hs1 := hg1.size
          exact ⟨p, pc, g, v', rfl, hL2, hI2, g_none (g_trans (g_weak hgA) hg1 (fun r e => .inl e)) hg2, .inl ⟨rfl, rfl, rfl⟩, hfr.imp id (fun h r hr => by have := h r hr; omega), fun h0 => hfr.fresh (w1 := w) (g := g) (by omega) (HV.out (ne_of_len (dropL_length _ _) h0))⟩
        | false =>
          have hal : actL l 2 t n = l := by simp [actL, hth]
          rw [hal]
          clear hal
          have hT := drop_no p pc g K l t hth wa HL.out
          have HT := hid hT
          have HTH := hid hth
          clear hT hth
          subst hwa
          go_enter Try.func10, Try.ntmps10
          go_wp2_with fail
          refine HT.out.mono ?_
          rintro e w1 ⟨rfl, hg1⟩
          have d1 := g_cellN hg1 c1
          go_wp2_with fail
          refine (thread_ref t w1).mono ?_
          rintro e _ ⟨rfl, rfl⟩
          rw [HTH.out]
          go_wp2_with (go_at_call 13; refine (num_any _ _).mono ?_; rintro e _ ⟨rfl, rfl⟩)
          go_ret3
          exact ⟨p, pc, g, _, rfl, (HL.out.keptN hg1).more (by omega), HI.out.keptN hg1, g_weak (g_none hgA hg1), .inl ⟨rfl, rfl, rfl⟩, .inl rfl, HV.out⟩
      · have hal : actL l a t n = l := by simp [actL, h0, h1, h2]
        rw [hal]
        clear hal
        have b0 : (a == 0) = false := by simpa using h0
        have b1 : (a == 1) = false := by simpa using h1
        have b2 : (a == 2) = false := by simpa using h2
        subst hwa
        go_enter Try.func10, Try.ntmps10
        go_wp2_with fail
        refine (lcopy_some p pc g K l _ HL.out).mono ?_
        rintro e w1 ⟨p', pc', g', rfl, hL1, hg1, hp, hpc, hgg⟩
        go_wp2_with fail
        go_ret3
        exact ⟨p', pc', g', _, rfl, hL1.more (by omega), HI.out.keptN hg1, g_weak (g_none hgA hg1), .inr ⟨by omega, by omega, by omega⟩, .inl rfl, fun h0 h1 => by have := HI.out.low h0 _ h1; omega⟩
end Go.Proofs.Ytnpimkigiioiaaa
