/-
  A feed in memory: what is taken of it: bytes, a number.
-/
import Derived.Test.YtkeicoadpdfkkaaFeedSum
namespace Go.Proofs.Ytkeicoadpdfkkaa
open Go.RowKit

theorem ofTake_any (v : Value) (xs : List Int) (w : World) (h : LB w v xs) :
    Calls Try.prog 25 #[v] w fun e w' => ∃ v', e = .returned v' ∧ w'.ownsRow w.heap.size 5 1 v' xs.length (fb xs) ∧ w.grownBy w' none := by
  obtain ⟨a, cap, hv, _⟩ := id h
  subst hv
  go_enter Try.func25, Try.ntmps25
  go_wp2_with fail
  refine (clone_any _ xs w h).mono ?_
  rintro e w1 ⟨v1, rfl, hr1, hg1⟩
  obtain ⟨a1, c1, hv1, _⟩ := row_slice hr1
  subst hv1
  go_wp2
  go_ret
  exact ⟨_, rfl, hr1, hg1⟩
theorem ofDraw_any (v : Value) (xs : List Int) (w : World) (h : LB w v xs) :
    Calls Try.prog 29 #[v] w fun e w' => e = .returned (.int .u32 (sumV xs)) ∧ w.grownBy w' none := by
  obtain ⟨a, cap, hv, _⟩ := id h
  subst hv
  go_enter Try.func29, Try.ntmps29
  go_wp2_with fail
  refine (sum_any _ xs w h).mono ?_
  rintro e w1 ⟨rfl, hg1⟩
  go_wp2
  go_ret
  exact ⟨rfl, hg1⟩

/-- What came of it, behind the place's store. -/
theorem taken_row {w w3 : World} {p k d : Nat} {v out : Value} {xs : List Int} (h : FeedAt w p v xs k) (_ : k + d ≤ xs.length) (hr : w3.ownsRow w.heap.size 5 1 out d (fb ((xs.drop k).take d))) (_ : w.heap.size ≤ w3.heap.size) (j : Nat) (u : Value) :
    ((w3.drewN j).setCell ⟨p, 1, none⟩ u).ownsRow w.heap.size 5 1 out d (fb ((xs.drop k).take d)) := by
  have hr2 : (w3.drewN j).ownsRow w.heap.size 5 1 out d (fb ((xs.drop k).take d)) := hr
  exact hr2.kept (grownBy_setCell'' _ p 1 u) (.inr (fun e => by have h1 := (row_base hr p e).1; have h2 := h.1.lt; omega))
theorem sumV_one {x : Int} (h0 : 0 ≤ x) (h1 : x < 256) : sumV [x] = x := by
  obtain ⟨n, rfl⟩ := Int.eq_ofNat_of_zero_le h0
  have hn : n < 256 := by omega
  simp only [sumV, List.foldr, stepV]
  rw [show ((0 : Int) * 256 % 4294967296) = 0 by decide, show ((n : Int) % 4294967296) = n by omega]
  clear h0 h1
  have key : ∀ n : Fin 256, bits BinOp.or IntKind.u32 0 (n.1 : Int) = n.1 := by decide +kernel
  exact key ⟨n, hn⟩
/-- What is picked of so many bytes, among n. -/
def pickV (xs : List Int) (n : Int) : Int := match xs with
  | [] => 0
  | x :: _ => x % n
theorem ofPick_any (v : Value) (xs : List Int) (hx : ∀ x ∈ xs, 0 ≤ x ∧ x < 256) (hx1 : xs.length ≤ 1) (nb : Nat) (n : Int) (hn : 1 ≤ n) (hn2 : n ≤ 256) (w : World) (h : LB w v xs) (hc : w.cell? ⟨nb, 0, none⟩ = some (.int .i64 n)) :
    Calls Try.prog 37 #[v, .pointer (some ⟨nb, 0, none⟩)] w fun e w' => e = .returned (.int .i64 (pickV xs n)) ∧ w.grownBy w' none := by
  obtain ⟨a, cap, hv, _⟩ := id h
  subst hv
  have hS : 0 ≤ sumV xs ∧ sumV xs < 256 ∧ pickV xs n = sumV xs % n := by
    match xs, hx, hx1 with
    | [], _, _ => simp [sumV, pickV]
    | [x], hx, _ =>
      have := hx x (by simp)
      rw [sumV_one this.1 this.2]
      exact ⟨this.1, this.2, rfl⟩
    | x :: y :: l, _, h => simp at h
  obtain ⟨S, hSS⟩ : ∃ S, S = sumV xs := ⟨_, rfl⟩
  rw [← hSS] at hS
  obtain ⟨h0, h1, h2⟩ := hS
  rw [h2]
  have HS := hid hSS
  have HL := hid (h.keptN (g_drewN (g_refl w none) rfl))
  clear hSS h h2 hx
  have hne : ¬ n = 0 := by omega
  have hS1 : w.drew.cell? ⟨nb, 0, none⟩ = some (.int .i64 n) ∧ w.grownBy w.drew none := ⟨hc, g_drewN (g_refl w none) rfl⟩
  go_enter Try.func37, Try.ntmps37
  go_wp2_with fail
  go_region_held3 (fun w' => w'.cell? ⟨nb, 0, none⟩ = some (.int .i64 n) ∧ w.grownBy w' none)
    (first | assumption | exact ⟨g_cellN hg2 (And.left (by assumption)), g_none (And.right (by assumption)) hg2⟩)
    (first
      | (go_at_call 30; refine (sum_any _ xs _ HL.out).mono ?_; rintro e w2 ⟨rfl, hg2⟩; rw [← HS.out])
      | fail)
  go_wp2
  go_ret
  refine ⟨?_, And.right (by assumption)⟩
  show Ending.returned (.int .i64 ((IntKind.i64.wrap S).tmod n)) = _
  rw [wrap_in _ (by omega) (by omega), Int.tmod_eq_emod_of_nonneg h0]
end Go.Proofs.Ytkeicoadpdfkkaa
