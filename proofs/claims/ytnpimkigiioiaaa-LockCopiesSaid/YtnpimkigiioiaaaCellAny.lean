/-
  The same for every number of a cell, in one contract each; what lists of cells become.
-/
import Derived.Test.YtnpimkigiioiaaaCellNew
namespace Go.Proofs.Ytnpimkigiioiaaa
open Go.RowKit
set_option maxRecDepth 100000

def inR (xs : List (Int × Int)) (i : Int) : Bool := decide (0 ≤ i) && decide (i < xs.length)
def errOf (xs : List (Int × Int)) (i : Int) : Int := if inR xs i then 0 else 4
def wordOf (xs : List (Int × Int)) (i : Int) : Int := if inR xs i then (xs.getD i.toNat (0, 0)).1 else 0
def countOf (xs : List (Int × Int)) (i : Int) : Int := if inR xs i then (xs.getD i.toNat (0, 0)).2 else 0
def swB (xs : List (Int × Int)) (i fr : Int) : Bool := inR xs i && (wordOf xs i == fr)
def upd (xs : List (Int × Int)) (i n : Int) : List (Int × Int) := if inR xs i then xs.set i.toNat (n, countOf xs i + 1) else xs
def swp (xs : List (Int × Int)) (i fr to : Int) : List (Int × Int) := if swB xs i fr then upd xs i to else xs
def Small (xs : List (Int × Int)) (K : Nat) : Prop := ∀ x ∈ xs, 0 ≤ x.2 ∧ x.2 ≤ K

theorem inR_cases (xs : List (Int × Int)) (i : Int) : (inR xs i = false ∧ (i < 0 ∨ xs.length ≤ i)) ∨ (inR xs i = true ∧ ∃ k : Nat, i = k ∧ ∃ u c, xs[k]? = some (u, c)) := by
  by_cases h : 0 ≤ i ∧ i < xs.length
  · refine .inr ⟨by simp [inR, h], i.toNat, by omega, ?_⟩
    have hk : i.toNat < xs.length := by omega
    exact ⟨(xs[i.toNat]).1, (xs[i.toNat]).2, List.getElem?_eq_getElem hk⟩
  · refine .inl ⟨by simp [inR]; omega, by omega⟩
theorem getD_of {xs : List (Int × Int)} {k : Nat} {u c : Int} (h : xs[k]? = some (u, c)) : xs.getD k (0, 0) = (u, c) := by simp [h]
theorem inR_of {xs : List (Int × Int)} {k : Nat} {u c : Int} (h : xs[k]? = some (u, c)) : inR xs k = true := by
  have := (List.getElem?_eq_some_iff.1 h).1
  simp [inR]; omega
theorem errOf_of {xs : List (Int × Int)} {k : Nat} {u c : Int} (h : xs[k]? = some (u, c)) : errOf xs k = 0 := by simp [errOf, inR_of h]
theorem wordOf_of {xs : List (Int × Int)} {k : Nat} {u c : Int} (h : xs[k]? = some (u, c)) : wordOf xs k = u := by rw [wordOf, if_pos (inR_of h), Int.toNat_natCast, getD_of h]
theorem countOf_of {xs : List (Int × Int)} {k : Nat} {u c : Int} (h : xs[k]? = some (u, c)) : countOf xs k = c := by rw [countOf, if_pos (inR_of h), Int.toNat_natCast, getD_of h]
theorem upd_of {xs : List (Int × Int)} {k : Nat} {u c : Int} (h : xs[k]? = some (u, c)) (n : Int) : upd xs k n = xs.set k (n, c + 1) := by rw [upd, if_pos (inR_of h), Int.toNat_natCast, countOf_of h]
theorem upd_length (xs : List (Int × Int)) (i n : Int) : (upd xs i n).length = xs.length := by unfold upd; split <;> simp
theorem swp_length (xs : List (Int × Int)) (i fr to : Int) : (swp xs i fr to).length = xs.length := by unfold swp; split <;> simp [upd_length]
theorem Small.more {xs : List (Int × Int)} {K K' : Nat} (h : Small xs K) (hK : K ≤ K') : Small xs K' := fun x hx => ⟨(h x hx).1, by have := (h x hx).2; omega⟩
theorem Small.get {xs : List (Int × Int)} {K : Nat} (h : Small xs K) {k : Nat} {u c : Int} (hx : xs[k]? = some (u, c)) : 0 ≤ c ∧ c ≤ K := h (u, c) (List.mem_of_getElem? hx)
theorem Small.upd {xs : List (Int × Int)} {K : Nat} (h : Small xs K) (i n : Int) : Small (upd xs i n) (K + 1) := by
  rcases inR_cases xs i with ⟨hi, _⟩ | ⟨hi, k, rfl, u, c, hx⟩
  · unfold Go.Proofs.Ytnpimkigiioiaaa.upd; rw [if_neg (by rw [hi]; simp)]; exact h.more (by omega)
  · rw [upd_of hx]
    intro x hm
    rcases List.mem_or_eq_of_mem_set hm with hm | rfl
    · exact (h.more (by omega)) x hm
    · have := h.get hx
      exact ⟨by show 0 ≤ c + 1; omega, by show c + 1 ≤ _; omega⟩
theorem Small.swp {xs : List (Int × Int)} {K : Nat} (h : Small xs K) (i fr to : Int) : Small (swp xs i fr to) (K + 1) := by
  unfold Go.Proofs.Ytnpimkigiioiaaa.swp; split
  · exact h.upd _ _
  · exact h.more (by omega)
theorem Small.zero (n : Nat) : Small (List.replicate n (0, 0)) 0 := fun x hx => by
  obtain rfl := (List.mem_replicate.1 hx).2
  exact ⟨Int.le_refl _, Int.le_refl _⟩

theorem load_any (p g : Nat) (xs : List (Int × Int)) (i : Int) (w : World) (h : CellsAt w p g xs) :
    Calls Try.prog 61 #[.pointer (some ⟨p, 0, none⟩), .int .i64 i] w fun e w' => e = .returned (.tuple #[.int .u64 (wordOf xs i), .int .i64 (errOf xs i)]) ∧ w = w' := by
  rcases inR_cases xs i with ⟨hi, ho⟩ | ⟨hi, k, rfl, u, c, hx⟩
  · have := load_out p g xs i ho w h
    simpa [wordOf, errOf, hi] using this
  · rw [wordOf_of hx, errOf_of hx]; exact load_in p g xs k u c hx w h
theorem store_any (p g : Nat) (xs : List (Int × Int)) (i n : Int) (K : Nat) (hK : K ≤ 1000000) (hs : Small xs K) (w : World) (h : CellsAt w p g xs) :
    Calls Try.prog 43 #[.pointer (some ⟨p, 0, none⟩), .int .i64 i, .int .u64 n] w fun e w' => e = .returned (.int .i64 (errOf xs i)) ∧ CellsAt w' p g (upd xs i n) ∧ w.grownBy w' (some g) := by
  rcases inR_cases xs i with ⟨hi, ho⟩ | ⟨hi, k, rfl, u, c, hx⟩
  · have := store_out p g xs i ho n w h
    simp only [upd, errOf, hi]
    exact this.mono fun e w' ⟨he, h1, h2⟩ => ⟨he, h1, g_weak h2⟩
  · rw [upd_of hx, errOf_of hx]
    have := hs.get hx
    exact store_in p g xs k u c n hx (by omega) (by omega) w h
theorem swap_any (p g : Nat) (xs : List (Int × Int)) (i fr to : Int) (K : Nat) (hK : K ≤ 1000000) (hs : Small xs K) (w : World) (h : CellsAt w p g xs) :
    Calls Try.prog 41 #[.pointer (some ⟨p, 0, none⟩), .int .i64 i, .int .u64 fr, .int .u64 to] w fun e w' => e = .returned (.tuple #[.bool (swB xs i fr), .int .i64 (errOf xs i)]) ∧ CellsAt w' p g (swp xs i fr to) ∧ w.grownBy w' (some g) := by
  rcases inR_cases xs i with ⟨hi, ho⟩ | ⟨hi, k, rfl, u, c, hx⟩
  · have := swap_out p g xs i ho fr to w h
    simp only [swp, swB, errOf, hi, Bool.false_and]
    exact this.mono fun e w' ⟨he, h1, h2⟩ => ⟨he, h1, g_weak h2⟩
  · have hb := hs.get hx
    by_cases hu : u = fr
    · subst hu
      have hB : swB xs k u = true := by simp [swB, inR_of hx, wordOf_of hx]
      rw [swp, hB, errOf_of hx, if_pos rfl, upd_of hx]
      exact swap_yes p g xs k u c to hx (by omega) (by omega) w h
    · have hB : swB xs k fr = false := by simp [swB, inR_of hx, wordOf_of hx, hu]
      rw [swp, hB, errOf_of hx, if_neg (by simp)]
      exact (swap_no p g xs k u c fr to hx (by simpa using hu) w h).mono fun e w' ⟨he, h1, h2⟩ => ⟨he, h1, g_weak h2⟩

end Go.Proofs.Ytnpimkigiioiaaa
