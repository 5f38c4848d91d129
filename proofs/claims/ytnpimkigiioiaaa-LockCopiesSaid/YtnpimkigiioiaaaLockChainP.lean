/-
  Who waits for whom: the plain law of chains, and the map of what threads wait for.
-/
import Derived.Test.YtnpimkigiioiaaaLockMore
import Derived.Maps.OwnSet
namespace Go.Proofs.Ytnpimkigiioiaaa
open Go.RowKit Go.Maps
set_option maxRecDepth 100000

def wantB (ws : List Int) (t : Int) : Bool := decide (0 ≤ t) && decide (t < ws.length) && decide (0 ≤ ws.getD t.toNat 0)
def wantV (ws : List Int) (t : Int) : Int := if wantB ws t then ws.getD t.toNat 0 else 0
def nextB (l ws : List Int) (t : Int) : Bool := wantB ws t && holdB l (wantV ws t)
def nextV (l ws : List Int) (t : Int) : Int := holdV l (wantV ws t)
def chainF (l ws : List Int) : Nat → Int → List Int
  | 0, t => [t]
  | f + 1, t => t :: (if nextB l ws t then chainF l ws f (nextV l ws t) else [])
def ordK (l ws : List Int) : Nat → Int
  | 0 => 0
  | k + 1 => if ordK l ws k == 0 && wantB ws k && ordB l k (wantV ws k) then 220 else ordK l ws k
def badR (l ws : List Int) : Bool := ws.any fun n => decide (n < -1) || decide ((l.length : Int) ≤ n)
def chE0 (l : List Int) (t : Int) (ws : List Int) : Int := if thB t then (if 4 < ws.length then 2 else if badR l ws then 4 else 0) else 2
def chainE (l : List Int) (t : Int) (ws : List Int) : Int := if chE0 l t ws == 0 then ordK l ws ws.length else chE0 l t ws
def chainL (l : List Int) (t : Int) (ws : List Int) : List Int := if chainE l t ws == 0 then chainF l ws 5 t else []

theorem wantB_iff {ws : List Int} {t : Int} : wantB ws t = true ↔ ∃ k : Nat, t = k ∧ k < ws.length ∧ ∃ n, ws[k]? = some n ∧ 0 ≤ n := by
  simp only [wantB, Bool.and_eq_true, decide_eq_true_eq]
  constructor
  · rintro ⟨⟨h1, h2⟩, h3⟩
    have hk : t.toNat < ws.length := by omega
    refine ⟨t.toNat, by omega, hk, ws[t.toNat], List.getElem?_eq_getElem hk, ?_⟩
    simpa [List.getD_eq_getElem?_getD, List.getElem?_eq_getElem hk] using h3
  · rintro ⟨k, rfl, hk, n, hn, h0⟩
    refine ⟨⟨by omega, by omega⟩, ?_⟩
    simpa [List.getD_eq_getElem?_getD, hn] using h0
theorem wantV_of {ws : List Int} {k : Nat} {n : Int} (hn : ws[k]? = some n) (h0 : 0 ≤ n) : wantB ws k = true ∧ wantV ws k = n := by
  have hb : wantB ws k = true := wantB_iff.2 ⟨k, rfl, (List.getElem?_eq_some_iff.1 hn).1, n, hn, h0⟩
  refine ⟨hb, ?_⟩
  rw [wantV, if_pos hb]
  simp [List.getD_eq_getElem?_getD, hn]
theorem wantB_neg {ws : List Int} {k : Nat} {n : Int} (hn : ws[k]? = some n) (h0 : n < 0) : wantB ws k = false := by
  rw [Bool.eq_false_iff]
  intro h
  obtain ⟨j, hj, _, m, hm, h1⟩ := wantB_iff.1 h
  obtain rfl : k = j := by omega
  rw [hn] at hm; cases hm; omega
theorem holdB_iff {l : List Int} {n : Int} : holdB l n = true ↔ ∃ k : Nat, n = k ∧ k < l.length ∧ ∃ t, l[k]? = some t ∧ 0 ≤ t := by
  simp only [holdB, inL, Bool.and_eq_true, decide_eq_true_eq]
  constructor
  · rintro ⟨⟨h1, h2⟩, h3⟩
    have hk : n.toNat < l.length := by omega
    refine ⟨n.toNat, by omega, hk, l[n.toNat], List.getElem?_eq_getElem hk, ?_⟩
    simpa [List.getD_eq_getElem?_getD, List.getElem?_eq_getElem hk] using h3
  · rintro ⟨k, rfl, hk, n, hn, h0⟩
    refine ⟨⟨by omega, by omega⟩, ?_⟩
    simpa [List.getD_eq_getElem?_getD, hn] using h0
theorem holdV_of {l : List Int} {k : Nat} {t : Int} (hn : l[k]? = some t) (h0 : 0 ≤ t) : holdB l k = true ∧ holdV l k = t := by
  have hb : holdB l k = true := holdB_iff.2 ⟨k, rfl, (List.getElem?_eq_some_iff.1 hn).1, t, hn, h0⟩
  refine ⟨hb, ?_⟩
  rw [holdV, if_pos hb]
  simp [List.getD_eq_getElem?_getD, hn]
theorem mem_heldL {l : List Int} {k : Nat} {t : Int} (h : l[k]? = some t) (h0 : 0 ≤ t) : (k : Int) ∈ heldL l t := by
  simp only [heldL, selT, List.mem_map, List.mem_filter]
  exact ⟨(k, t), ⟨(lk_mem l 0 (k, t)).2 ⟨Nat.zero_le _, by simpa using h, h0⟩, by simp⟩, rfl⟩
theorem ordB_false {l : List Int} {t n : Int} (h : ordB l t n = false) {k : Nat} (hk : l[k]? = some t) (h0 : 0 ≤ t) : (k : Int) < n := by
  rw [ordB, List.any_eq_false] at h
  have := h k (mem_heldL hk h0)
  simp at this; omega

/-- As far as it may. -/
def OkW (l ws : List Int) : Prop := ∀ t, wantB ws t = true → ordB l t (wantV ws t) = false
theorem ordK_cases (l ws : List Int) : ∀ k, ordK l ws k = 0 ∨ ordK l ws k = 220
  | 0 => .inl rfl
  | k + 1 => by
    rw [ordK]
    split
    · exact .inr rfl
    · exact ordK_cases l ws k
theorem ordK_zero {l ws : List Int} : ∀ k, ordK l ws k = 0 ↔ ∀ i : Nat, i < k → wantB ws i = true → ordB l i (wantV ws i) = false
  | 0 => by simp [ordK]
  | k + 1 => by
    have ih := ordK_zero (l := l) (ws := ws) k
    rw [ordK]
    split
    · rename_i h
      simp only [Bool.and_eq_true] at h
      constructor
      · intro h1; cases h1
      · intro h1
        have := h1 k (by omega) h.1.2
        rw [this] at h
        exact absurd h.2 (by simp)
    · rename_i h
      constructor
      · intro h0 i hi hw
        by_cases hk : i = k
        · subst hk
          cases hb : ordB l i (wantV ws i) with
          | false => rfl
          | true => exact absurd (by rw [h0, hw, hb]; rfl) h
        · exact ih.1 h0 i (by omega) hw
      · intro h1
        exact ih.2 fun i hi => h1 i (by omega)
theorem ordK_okW {l ws : List Int} : ordK l ws ws.length = 0 ↔ OkW l ws := by
  rw [ordK_zero]
  constructor
  · intro h t ht
    obtain ⟨k, rfl, hk, _⟩ := wantB_iff.1 ht
    exact h k hk ht
  · intro h i _ hw
    exact h i hw

theorem chain_rise {l ws : List Int} (hO : OkW l ws) : ∀ (f : Nat) (u b : Int), (wantB ws u = true → b < wantV ws u) → ∀ v ∈ chainF l ws f u, wantB ws v = true → b < wantV ws v
  | 0, u, b, h, v, hv => by
    simp only [chainF, List.mem_singleton] at hv
    subst hv; exact h
  | f + 1, u, b, h, v, hv => by
    rw [chainF, List.mem_cons] at hv
    rcases hv with rfl | hv
    · exact h
    · split at hv
      · rename_i hn
        simp only [nextB, Bool.and_eq_true] at hn
        obtain ⟨k, hk, hkl, t, ht, h0⟩ := holdB_iff.1 hn.2
        have hV : nextV l ws u = t := by rw [nextV, hk]; exact (holdV_of ht h0).2
        rw [hV] at hv
        have h1 := h hn.1
        refine chain_rise hO f t b (fun hw => ?_) v hv
        have := ordB_false (hO t hw) ht h0
        omega
      · cases hv
theorem chain_nodup {l ws : List Int} (hO : OkW l ws) : ∀ (f : Nat) (u : Int), (chainF l ws f u).Nodup
  | 0, u => by simp [chainF]
  | f + 1, u => by
    rw [chainF, List.nodup_cons]
    split
    · rename_i hn
      refine ⟨fun hm => ?_, chain_nodup hO f _⟩
      simp only [nextB, Bool.and_eq_true] at hn
      obtain ⟨k, hk, hkl, t, ht, h0⟩ := holdB_iff.1 hn.2
      have hV : nextV l ws u = t := by rw [nextV, hk]; exact (holdV_of ht h0).2
      rw [hV] at hm
      have := chain_rise hO f t (wantV ws u) (fun hw => by
        have := ordB_false (hO t hw) ht h0
        omega) u hm hn.1
      omega
    · simp
theorem chain_thr {l ws : List Int} (hl : ∀ t ∈ l, -1 ≤ t ∧ t < 4) : ∀ (f : Nat) (u : Int), thB u = true → ∀ v ∈ chainF l ws f u, thB v = true
  | 0, u, h, v, hv => by
    simp only [chainF, List.mem_singleton] at hv
    subst hv; exact h
  | f + 1, u, h, v, hv => by
    rw [chainF, List.mem_cons] at hv
    rcases hv with rfl | hv
    · exact h
    · split at hv
      · rename_i hn
        simp only [nextB, Bool.and_eq_true] at hn
        obtain ⟨k, hk, hkl, t, ht, h0⟩ := holdB_iff.1 hn.2
        have hV : nextV l ws u = t := by rw [nextV, hk]; exact (holdV_of ht h0).2
        rw [hV] at hv
        exact chain_thr hl f t (thB_iff.2 ⟨h0, (hl t (List.mem_of_getElem? ht)).2⟩) v hv
      · cases hv
theorem nodup_len : ∀ (n : Nat) (C : List Int), C.Nodup → (∀ v ∈ C, 0 ≤ v ∧ v < n) → C.length ≤ n
  | 0, C, _, h => by
    cases C with
    | nil => simp
    | cons v C => have := h v List.mem_cons_self; omega
  | n + 1, C, hn, h => by
    have h1 := nodup_len n (C.erase (n : Int)) (hn.erase _) (fun v hv => by
      have h2 := (List.Nodup.mem_erase_iff hn).1 hv
      have h3 := h v h2.2
      have h4 := h2.1
      omega)
    have h2 := List.length_erase (a := (n : Int)) (l := C)
    split at h2 <;> omega
theorem chain_len {l ws : List Int} (hO : OkW l ws) (hl : ∀ t ∈ l, -1 ≤ t ∧ t < 4) (f : Nat) (u : Int) (h : thB u = true) : (chainF l ws f u).length ≤ 4 :=
  nodup_len 4 _ (chain_nodup hO f u) (fun v hv => by have := thB_iff.1 (chain_thr hl f u h v hv); omega)
theorem chain_head (l ws : List Int) (f : Nat) (t : Int) : (chainF l ws f t)[0]? = some t := by cases f <;> simp [chainF]
theorem chain_pos (l ws : List Int) (f : Nat) (t : Int) : 0 < (chainF l ws f t).length := by cases f <;> simp [chainF]
theorem chain_step {l ws : List Int} : ∀ (f : Nat) (t : Int) (k : Nat) (v : Int), (chainF l ws f t)[k]? = some v →
    (∀ u, (chainF l ws f t)[k + 1]? = some u → nextB l ws v = true ∧ u = nextV l ws v) ∧ (k + 1 = (chainF l ws f t).length → (chainF l ws f t).length ≤ f → nextB l ws v = false)
  | 0, t, k, v, h => by
    refine ⟨fun u hu => ?_, fun _ h2 => ?_⟩
    · simp [chainF] at hu
    · simp [chainF] at h2
  | f + 1, t, 0, v, h => by
    rw [chainF] at h ⊢
    simp at h; subst h
    cases hn : nextB l ws t with
    | false => simp
    | true =>
      simp only [if_pos, List.getElem?_cons_succ, chain_head, List.length_cons]
      refine ⟨fun u hu => ⟨trivial, by cases hu; rfl⟩, fun h1 => ?_⟩
      have := chain_pos l ws f (nextV l ws t)
      omega
  | f + 1, t, k + 1, v, h => by
    rw [chainF] at h ⊢
    cases hn : nextB l ws t with
    | false => rw [hn] at h; simp at h
    | true =>
      rw [hn] at h
      simp only [if_pos, List.getElem?_cons_succ, List.length_cons] at h ⊢
      have ih := chain_step f (nextV l ws t) k v h
      exact ⟨ih.1, fun h1 h2 => ih.2 (by omega) (by omega)⟩

/-! ### The map -/
theorem want_take {ws : List Int} {k : Nat} {x : Int} (hx : ws[k]? = some x) (i : Int) : (i ≠ k → wantB (ws.take (k + 1)) i = wantB (ws.take k) i ∧ wantV (ws.take (k + 1)) i = wantV (ws.take k) i) := by
  intro hne
  have hk := (List.getElem?_eq_some_iff.1 hx).1
  have h1 : ∀ j : Nat, j ≠ k → (ws.take (k + 1)).getD j 0 = (ws.take k).getD j 0 := fun j hj => by
    simp only [List.getD_eq_getElem?_getD, List.getElem?_take]
    by_cases h : j < k
    · rw [if_pos h, if_pos (by omega)]
    · rw [if_neg h, if_neg (by omega)]
  have h2 : wantB (ws.take (k + 1)) i = wantB (ws.take k) i := by
    by_cases h0 : 0 ≤ i
    · have hi : i.toNat ≠ k := by omega
      simp only [wantB, h1 _ hi, List.length_take]
      have : decide (i < ((min (k + 1) ws.length : Nat) : Int)) = decide (i < ((min k ws.length : Nat) : Int)) := by
        rw [Bool.eq_iff_iff, decide_eq_true_eq, decide_eq_true_eq]; omega
      rw [this]
    · simp [wantB, h0]
  refine ⟨h2, ?_⟩
  simp only [wantV, h2]
  split
  · rename_i hb
    obtain ⟨j, rfl, hj, _⟩ := wantB_iff.1 hb
    rw [h1 _ (by simpa using (by omega : j ≠ k))]
  · rfl
theorem want_at {ws : List Int} {k : Nat} {x : Int} (hx : ws[k]? = some x) : (0 ≤ x → wantB (ws.take (k + 1)) k = true ∧ wantV (ws.take (k + 1)) k = x) ∧ (x < 0 → wantB (ws.take (k + 1)) k = false) ∧ wantB (ws.take k) k = false := by
  have hx' : (ws.take (k + 1))[k]? = some x := by rw [List.getElem?_take, if_pos (by omega), hx]
  refine ⟨fun h => wantV_of hx' h, fun h => wantB_neg hx' h, ?_⟩
  rw [Bool.eq_false_iff]
  intro h
  obtain ⟨j, hj, h2, _⟩ := wantB_iff.1 h
  rw [List.length_take] at h2
  omega

theorem lawI : Keyed Try.prog 3 := int_keyed Try.underlying3
theorem zeroI (w : World) : (zeroValue 3).run Try.prog w = .ok (.int .i64 0) w := by kernel_rfl
def MapW (W : World) (B : Nat) (ws : List Int) : Prop := ∃ (n : Nat) (D : DataW Unit), W.ownsMap Try.prog 3 (plainElem Try.prog 3) B n D ∧ n ≤ ws.length ∧ (∀ i : Int, Maps.has D (.int .i64 i) = wantB ws i) ∧ ∀ i : Int, wantB ws i = true → D.atKey (.int .i64 i) (.lit (.int .i64 0)) = .lit (.int .i64 (wantV ws i))
theorem MapW.kept {W W' : World} {B : Nat} {ws : List Int} {row : Option Nat} (h : MapW W B ws) (hg : W.grownBy W' row) (hne : some B ≠ row) : MapW W' B ws := by
  obtain ⟨n, D, h1, rest⟩ := h
  exact ⟨n, D, h1.kept hg hne, rest⟩
theorem MapW.keptN {W W' : World} {B : Nat} {ws : List Int} (h : MapW W B ws) (hg : W.grownBy W' none) : MapW W' B ws := h.kept hg (by simp)
theorem MapW.made (W : World) : MapW (W.alloc (.map #[] 0)) W.heap.size [] := by
  refine ⟨0, .map [], World.ownsMap_made W _ _ _, Nat.le_refl _, fun i => ?_, fun i hi => ?_⟩
  · have : wantB [] i = false := by
      rw [Bool.eq_false_iff]; intro h
      obtain ⟨j, _, h2, _⟩ := wantB_iff.1 h
      simp at h2
    rw [this]; rfl
  · obtain ⟨j, _, h2, _⟩ := wantB_iff.1 hi
    simp at h2
theorem MapW.lt {W : World} {B : Nat} {ws : List Int} (h : MapW W B ws) : B < W.heap.size := by
  obtain ⟨n, D, h1, rest⟩ := h
  exact h1.lt
theorem MapW.look {W : World} {B : Nat} {ws : List Int} (h : MapW W B ws) (i : Int) (hw : (Lit.int .i64 i).wf = true) :
    (Instr.lookup 72 (.map (some B)) (.int .i64 i) true).run Try.prog W = .ok (.tuple #[.int .i64 (wantV ws i), .bool (wantB ws i)]) W := by
  obtain ⟨n, D, h1, hn, hh, ha⟩ := h
  obtain ⟨v, ps, hrun, hv⟩ := h1.look_ok lawI Try.underlying72 (zeroI _) (plainElem_int Try.underlying3 (by decide)) (keyOf_int_mk Try.underlying3 hw)
  obtain ⟨c, rfl, hc, _⟩ := plainElem_int_inv Try.underlying3 hv
  rw [hrun, hh]
  have hcv : c = wantV ws i := by
    have h2 := congrArg Prod.fst hc
    simp only [] at h2
    cases hb : wantB ws i with
    | true => rw [ha i hb] at h2; simpa using h2.symm
    | false =>
      have : Maps.has D (.int .i64 i) = false := by rw [hh, hb]
      rw [atKey_of_not_has this] at h2
      rw [wantV, hb]
      simpa using h2.symm
  rw [hcv]
theorem MapW.put {W : World} {B : Nat} {ws : List Int} {k : Nat} {x : Int} (hx : ws[k]? = some x) (h0 : 0 ≤ x) {n : Nat} {D : DataW Unit} (hm : IsMap D) (hn : n ≤ (ws.take k).length) (hh : ∀ i : Int, Maps.has D (.int .i64 i) = wantB (ws.take k) i)
    (ha : ∀ i : Int, wantB (ws.take k) i = true → D.atKey (.int .i64 i) (.lit (.int .i64 0)) = .lit (.int .i64 (wantV (ws.take k) i)))
    (h : W.ownsMap Try.prog 3 (plainElem Try.prog 3) B (n + 1) (D.put (.int .i64 k) (.lit (.int .i64 x)))) : MapW W B (ws.take (k + 1)) := by
  have hk := (List.getElem?_eq_some_iff.1 hx).1
  have hw := (want_at hx).1 h0
  refine ⟨n + 1, _, h, by rw [List.length_take] at hn ⊢; omega, fun i => ?_, fun i hi => ?_⟩
  · by_cases hik : i = k
    · subst hik
      rw [has_put_same hm (by simp [WideAt.IsKeyLit]), hw.1]
    · rw [has_put_other (by simpa using hik), hh, (want_take hx i hik).1]
  · by_cases hik : i = k
    · subst hik
      rw [atKey_put_same hm (by simp [WideAt.IsKeyLit]), hw.2]
    · rw [atKey_put_other (by simpa using hik)]
      rw [(want_take hx i hik).1] at hi
      rw [ha i hi, (want_take hx i hik).2]
theorem MapW.skip {W : World} {B : Nat} {ws : List Int} {k : Nat} {x : Int} (hx : ws[k]? = some x) (h0 : x < 0) (h : MapW W B (ws.take k)) : MapW W B (ws.take (k + 1)) := by
  have hk := (List.getElem?_eq_some_iff.1 hx).1
  have hw := (want_at hx).2.1 h0
  have hw2 := (want_at hx).2.2
  obtain ⟨n, D, h1, hn, hh, ha⟩ := h
  have e1 : ∀ i : Int, wantB (ws.take (k + 1)) i = wantB (ws.take k) i := fun i => by
    by_cases hik : i = k
    · subst hik; rw [hw, hw2]
    · exact (want_take hx i hik).1
  refine ⟨n, D, h1, by rw [List.length_take] at hn ⊢; omega, fun i => by rw [hh, e1], fun i hi => ?_⟩
  have hi' := hi
  rw [e1] at hi'
  rw [ha i hi']
  by_cases hik : i = k
  · subst hik; rw [hw] at hi; cases hi
  · rw [(want_take hx i hik).2]
end Go.Proofs.Ytnpimkigiioiaaa
