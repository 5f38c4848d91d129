/-
  The stage's theorem, in plain words: what threads wait for as far as they may.
-/
import Derived.Test.YtnpimkigiioiaaaLockStart
namespace Go.Proofs.Ytnpimkigiioiaaa
open Go.RowKit
set_option maxRecDepth 100000

/-- Would the thread wait? -/
def waitsB (l : List Int) (B : Nat → Int) (t : Nat) : Bool := (tryE l t (B t) == 0) && !(tryB l t (B t))
def waitV (l : List Int) (B : Nat → Int) (t : Nat) : Int := if waitsB l B t then B t else -1
def waitL (l : List Int) (B : Nat → Int) (k : Nat) : List Int := (List.range k).map (waitV l B)
def goesN (l : List Int) (B : Nat → Int) : Nat → Nat
  | 0 => 0
  | k + 1 => goesN l B k + if waitsB l B k then 0 else 1
theorem waitL_length (l : List Int) (B : Nat → Int) (k : Nat) : (waitL l B k).length = k := by simp [waitL]
theorem waitL_get {l : List Int} {B : Nat → Int} {k i : Nat} (h : i < k) : (waitL l B k)[i]? = some (waitV l B i) := by simp [waitL, h]
theorem waitL_succ (l : List Int) (B : Nat → Int) (k : Nat) : waitL l B (k + 1) = waitL l B k ++ [waitV l B k] := by simp [waitL, List.range_succ]
theorem goesN_pos {l : List Int} {B : Nat → Int} : ∀ (k i : Nat), i < k → waitsB l B i = false → 0 < goesN l B k
  | 0, i, h, _ => by omega
  | k + 1, i, h, hw => by
    rw [goesN]
    by_cases hk : i = k
    · subst hk; rw [hw]; simp
    · have := goesN_pos k i (by omega) hw
      omega
theorem goesN_le (l : List Int) (B : Nat → Int) : ∀ k, goesN l B k ≤ k
  | 0 => Nat.le_refl _
  | k + 1 => by
    have := goesN_le l B k
    rw [goesN]; split <;> omega
theorem waits_in {l : List Int} {B : Nat → Int} {t : Nat} (hthr : ∀ t ∈ l, -1 ≤ t ∧ t < 4) (h : waitsB l B t = true) : inL l (B t) = true ∧ ordB l t (B t) = false ∧ holdB l (B t) = true := by
  simp only [waitsB, Bool.and_eq_true, beq_iff_eq, Bool.not_eq_true'] at h
  obtain ⟨hE, hB⟩ := h
  have hth : thB (t : Int) = true := by
    have h1 := hE; unfold tryE at h1; by_cases hh : thB (t : Int) = true
    · exact hh
    · rw [if_neg hh] at h1; cases h1
  have hin : inL l (B t) = true := by
    have h1 := hE; unfold tryE at h1; rw [if_pos hth] at h1; by_cases hh : inL l (B t) = true
    · exact hh
    · rw [if_neg hh] at h1; cases h1
  have hor : ordB l t (B t) = false := by
    rw [tryE_of l t (B t) hth hin] at hE
    cases hb : ordB l t (B t) with
    | false => rfl
    | true => rw [hb] at hE; cases hE
  refine ⟨hin, hor, ?_⟩
  obtain ⟨k, hk, hkl⟩ := inL_nat hin
  obtain ⟨x, hx⟩ : ∃ x, l[k]? = some x := ⟨l[k], List.getElem?_eq_getElem hkl⟩
  have hab := atB_iff (a := -1) hx
  rw [tryB, hE, hk, Int.toNat_natCast, hab] at hB
  have hx1 := hthr x (List.mem_of_getElem? hx)
  have hne : ¬ x = -1 := by simpa using hB
  rw [hk]
  exact (holdV_of hx (by omega)).1
theorem wait_want {l : List Int} {B : Nat → Int} {u : Int} (h : wantB (waitL l B 4) u = true) : ∃ i : Nat, u = i ∧ i < 4 ∧ waitsB l B i = true ∧ wantV (waitL l B 4) u = B i := by
  obtain ⟨k, rfl, hk, n, hn, h0⟩ := wantB_iff.1 h
  rw [waitL_length] at hk
  have h1 := waitL_get (l := l) (B := B) hk
  have h2 := (wantV_of hn h0).2
  rw [h1] at hn
  cases hn
  have hw : waitsB l B k = true := by
    cases hb : waitsB l B k with
    | true => rfl
    | false => rw [waitV, hb] at h0; simp at h0
  exact ⟨k, rfl, hk, hw, by rw [h2, waitV, if_pos hw]⟩

section
variable {l : List Int} {B : Nat → Int}
theorem hold_ok (hthr : ∀ t ∈ l, -1 ≤ t ∧ t < 4) : OkW l (waitL l B 4) := by
  intro u hu
  obtain ⟨i, rfl, hi, hw, hv⟩ := wait_want hu
  rw [hv]
  exact (waits_in hthr hw).2.1
theorem hold_bad (hthr : ∀ t ∈ l, -1 ≤ t ∧ t < 4) : badR l (waitL l B 4) = false := by
  refine badR_all fun i x hi hx => ?_
  rw [waitL_length] at hi
  rw [waitL_get hi] at hx
  cases hx
  by_cases hw : waitsB l B i = true
  · have := (waits_in hthr hw).1
    simp only [inL, Bool.and_eq_true, decide_eq_true_eq] at this
    rw [waitV, if_pos hw]; omega
  · rw [waitV, if_neg hw]; omega
theorem hold_chain (hthr : ∀ t ∈ l, -1 ≤ t ∧ t < 4) (t : Nat) (ht : t < 4) : chainE l t (waitL l B 4) = 0 ∧ chainL l t (waitL l B 4) = chainF l (waitL l B 4) 5 t := by
  have hth : thB (t : Int) = true := thB_iff.2 ⟨by omega, by omega⟩
  have h0 : chE0 l t (waitL l B 4) = 0 := by rw [chE0, hth, if_pos rfl, waitL_length, if_neg (by omega), hold_bad hthr]; rfl
  have hE : chainE l t (waitL l B 4) = 0 := by rw [chainE, h0]; exact ordK_okW.2 (hold_ok hthr)
  exact ⟨hE, by rw [chainL, hE]; rfl⟩
/-- The last of a chain does not wait. -/
theorem hold_last (hthr : ∀ t ∈ l, -1 ≤ t ∧ t < 4) (t : Nat) (ht : t < 4) {C : List Int} (hC : chainF l (waitL l B 4) 5 t = C) {u : Int} (hu : C[C.length - 1]? = some u) : ∃ i : Nat, u = i ∧ i < 4 ∧ waitsB l B i = false := by
  have hth : thB (t : Int) = true := thB_iff.2 ⟨by omega, by omega⟩
  have hok : OkW l (waitL l B 4) := hold_ok hthr
  have hlen := chain_len hok hthr 5 t hth
  have hpos := chain_pos l (waitL l B 4) 5 t
  rw [hC] at hlen hpos
  have hut : thB u = true := chain_thr hthr 5 t hth u (by rw [hC]; exact List.mem_of_getElem? hu)
  obtain ⟨h0, h4⟩ := thB_iff.1 hut
  refine ⟨u.toNat, by omega, by omega, ?_⟩
  have hn := (chain_step (l := l) (ws := waitL l B 4) 5 t (C.length - 1) u (by rw [hC]; exact hu)).2 (by rw [hC]; omega) (by rw [hC]; omega)
  cases hb : waitsB l B u.toNat with
  | false => rfl
  | true =>
    obtain ⟨h1, h2, h3⟩ := waits_in hthr hb
    simp only [inL, Bool.and_eq_true, decide_eq_true_eq] at h1
    have hg := waitL_get (l := l) (B := B) (k := 4) (i := u.toNat) (by omega)
    have hv : waitV l B u.toNat = B u.toNat := by rw [waitV, if_pos hb]
    rw [hv] at hg
    obtain ⟨h5, h6⟩ := wantV_of hg h1.1
    rw [show ((u.toNat : Nat) : Int) = u by omega] at h5 h6
    rw [nextB, h5, h6, h3] at hn
    cases hn
theorem hold_goes (hthr : ∀ t ∈ l, -1 ≤ t ∧ t < 4) : 0 < goesN l B 4 := by
  obtain ⟨C, hC⟩ : ∃ C, chainF l (waitL l B 4) 5 (0 : Nat) = C := ⟨_, rfl⟩
  have hpos := chain_pos l (waitL l B 4) 5 (0 : Nat)
  rw [hC] at hpos
  obtain ⟨u, hu⟩ : ∃ u, C[C.length - 1]? = some u := ⟨C[C.length - 1]'(by omega), List.getElem?_eq_getElem _⟩
  obtain ⟨i, _, hi, hw⟩ := hold_last hthr 0 (by omega) hC hu
  exact goesN_pos 4 i hi hw
end

/-! ### Seen -/
def seenL (C : List Int) (j : Nat) : List Value := (List.range 4).map fun (i : Nat) => Value.bool (decide ((i : Int) ∈ C.take j))
theorem seenL_get (C : List Int) (j : Nat) {k : Nat} (hk : k < 4) : (seenL C j)[k]? = some (.bool (decide ((k : Int) ∈ C.take j))) := by simp [seenL, hk]
theorem seenL_zero (C : List Int) : seenL C 0 = [.bool false, .bool false, .bool false, .bool false] := by simp [seenL, List.range_succ]
theorem nodup_take {C : List Int} (h : C.Nodup) {j : Nat} {u : Int} (hu : C[j]? = some u) : u ∉ C.take j := by
  intro hm
  obtain ⟨i, hi⟩ := List.mem_iff_getElem?.1 hm
  have hil := (List.getElem?_eq_some_iff.1 hi).1
  rw [List.length_take] at hil
  rw [List.getElem?_take, if_pos (by omega)] at hi
  obtain ⟨h1, h2⟩ := List.getElem?_eq_some_iff.1 hi
  obtain ⟨h3, h4⟩ := List.getElem?_eq_some_iff.1 hu
  have := (List.getElem_inj h).1 (h2.trans h4.symm)
  omega
theorem seenL_succ {C : List Int} {j k : Nat} (hk : C[j]? = some (k : Int)) (h4 : k < 4) : (seenL C j).set k (.bool true) = seenL C (j + 1) := by
  apply List.ext_getElem?
  intro i
  by_cases hi : i < 4
  · rw [seenL_get C (j + 1) hi]
    by_cases hik : k = i
    · subst hik
      rw [List.getElem?_set_self (by simp [seenL, h4])]
      rw [List.take_add_one, hk]
      simp
    · rw [List.getElem?_set_ne hik, seenL_get C j hi, List.take_add_one, hk]
      have : ((i : Int) ∈ C.take j ++ (some (k : Int)).toList) ↔ ((i : Int) ∈ C.take j) := by
        simp
        omega
      simp only [decide_eq_decide.2 this]
  · rw [List.getElem?_eq_none (by simp [seenL]; omega), List.getElem?_eq_none (by simp [seenL]; omega)]
end Go.Proofs.Ytnpimkigiioiaaa
