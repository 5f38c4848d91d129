/-
  A feed in memory: what is left of it; a new one, a copy, its place.
-/
import Derived.Test.YtkeicoadpdfkkaaFeed
namespace Go.Proofs.Ytkeicoadpdfkkaa
open Go.RowKit

/-- A feed: its bytes, and its place. -/
def FeedAt (w : World) (p : Nat) (v : Value) (xs : List Int) (at' : Nat) : Prop :=
  Blk w p 55 [v, .int .i64 at', .bool true] ∧ w.ownsRow 0 5 1 v xs.length (fb xs) ∧ xs.length ≤ 20000 ∧ at' ≤ xs.length ∧ v.ownBlock ≠ some p
section
variable {w w' : World} {p at' : Nat} {v : Value} {xs : List Int}
theorem FeedAt.kept {row : Option Nat} (h : FeedAt w p v xs at') (hg : w.grownBy w' row) (h1 : some p ≠ row) (h2 : v.ownBlock ≠ row ∨ row = none) : FeedAt w' p v xs at' :=
  ⟨h.1.kept hg h1, h.2.1.kept hg (by
    rcases h2 with h2 | rfl
    · exact .inr h2
    · cases hv : v.ownBlock with
      | none => exact .inl rfl
      | some r => exact .inr (by simp)), h.2.2.1, h.2.2.2.1, h.2.2.2.2⟩
theorem FeedAt.keptN (h : FeedAt w p v xs at') (hg : w.grownBy w' none) : FeedAt w' p v xs at' := h.kept hg (by simp) (.inr rfl)
theorem FeedAt.facts (h : FeedAt w p v xs at') : w.cell? ⟨p, 0, none⟩ = some v ∧ w.cell? ⟨p, 1, none⟩ = some (.int .i64 at') ∧ w.cell? ⟨p, 2, none⟩ = some (.bool true) ∧ p < w.heap.size :=
  ⟨h.1.cellOf rfl, h.1.cellOf rfl, h.1.cellOf rfl, h.1.lt⟩
theorem FeedAt.list (h : FeedAt w p v xs at') : LB w v xs := LB.own h.2.2.1 h.2.1
/-- The place turned. -/
theorem FeedAt.put (h : FeedAt w p v xs at') (k : Nat) (hk : k ≤ xs.length) : FeedAt (w.setCell ⟨p, 1, none⟩ (.int .i64 k)) p v xs k :=
  ⟨h.1.set 1 _, h.2.1.kept (grownBy_setCell'' w p 1 _) (.inr h.2.2.2.2), h.2.2.1, hk, h.2.2.2.2⟩
end

theorem none_some (w : World) (p : Nat) (v : Value) (xs : List Int) (k : Nat) (h : FeedAt w p v xs k) :
    Calls Try.prog 22 #[.pointer (some ⟨p, 0, none⟩)] w fun e w' => e = .returned (.bool false) ∧ w = w' := by
  obtain ⟨c0, c1, c2, hl⟩ := h.facts
  go_enter Try.func22, Try.ntmps22
  go_wp2
  go_ret
  exact ⟨rfl, rfl⟩
/-- No feed: nil, or one that New did not make. -/
def IsNone (w : World) (v : Option Addr) : Prop := v = none ∨ ∃ p : Nat, v = some ⟨p, 0, none⟩ ∧ w.cell? ⟨p, 2, none⟩ = some (.bool false)
theorem none_none (w : World) (v : Option Addr) (h : IsNone w v) :
    Calls Try.prog 22 #[.pointer v] w fun e w' => e = .returned (.bool true) ∧ w = w' := by
  rcases h with rfl | ⟨p, rfl, c3⟩
  · go_enter Try.func22, Try.ntmps22
    go_wp2
    go_ret
    exact ⟨rfl, rfl⟩
  · go_enter Try.func22, Try.ntmps22
    go_wp2
    go_ret
    exact ⟨rfl, rfl⟩

theorem from_any (v : Value) (xs : List Int) (k : Nat) (hk : k ≤ xs.length) (hx : xs.length ≤ 20000) (w : World) (h : w.ownsRow 0 5 1 v xs.length (fb xs)) :
    Calls Try.prog 39 #[v, .int .i64 k] w fun e w' => ∃ a c, e = .returned (.slice a (xs.length - k) c) ∧ LB w (.slice a (xs.length - k) c) (xs.drop k) ∧ w = w' := by
  have hL := LB.own hx h
  rcases h.2 with ⟨rfl, h0⟩ | ⟨g, cap, cur, rfl, _, _, h1, h2, _⟩
  · obtain rfl : k = 0 := by omega
    have hxs : xs = [] := List.length_eq_zero_iff.1 h0
    subst hxs
    go_enter Try.func39, Try.ntmps39
    go_wp2
    go_ret
    exact ⟨none, 0, rfl, by simpa using hL, rfl⟩
  · have hD := hL.drop hk
    by_cases hck : cap = k
    · rw [if_pos hck, hck, Nat.sub_self] at hD
      have HD := hid hD
      clear hL h hD
      go_enter Try.func39, Try.ntmps39
      go_wp2
      go_ret
      exact ⟨_, _, rfl, HD.out, rfl⟩
    · rw [if_neg hck, Nat.zero_add] at hD
      have HD := hid hD
      clear hL h hD
      go_enter Try.func39, Try.ntmps39
      go_wp2
      go_ret
      exact ⟨_, _, rfl, HD.out, rfl⟩

/-- The bytes that are left. -/
theorem left_any (p : Nat) (v : Value) (xs : List Int) (k : Nat) (w : World) (h : FeedAt w p v xs k) :
    Calls Try.prog 26 #[.pointer (some ⟨p, 0, none⟩)] w fun e w' => ∃ a c, e = .returned (.slice a (xs.length - k) c) ∧ LB w' (.slice a (xs.length - k) c) (xs.drop k) ∧ ∃ n, w' = w.drewN n := by
  obtain ⟨c0, c1, c2, hpl⟩ := h.facts
  obtain ⟨a0, q0, hv, hq1, hq2⟩ := row_slice h.2.1
  subst hv
  have HF := hid h
  clear h c2
  go_enter Try.func26, Try.ntmps26
  go_wp2_with fail
  have hS1 : w.drew.cell? ⟨p, 0, none⟩ = some (.slice a0 xs.length q0) ∧ w.drew.cell? ⟨p, 1, none⟩ = some (.int .i64 k) ∧ (∃ n, w.drew = w.drewN n) := ⟨c0, c1, 1, rfl⟩
  go_region_held3 (fun w' => w'.cell? ⟨p, 0, none⟩ = some (.slice a0 xs.length q0) ∧ w'.cell? ⟨p, 1, none⟩ = some (.int .i64 k) ∧ (∃ n, w' = w.drewN n))
    (assumption)
    (first
      | (go_at_call 39; refine (from_any _ xs k HF.out.2.2.2.1 HF.out.2.2.1 _ (HF.out.keptN (g_drewN (g_refl w none) rfl)).2.1).mono ?_; rintro e w2 ⟨a, c, rfl, hL2, rfl⟩)
      | fail)
  go_wp2
  go_ret
  exact ⟨a, c, rfl, hL2, 1, rfl⟩

theorem at_some (p : Nat) (v : Value) (xs : List Int) (k : Nat) (w : World) (h : FeedAt w p v xs k) :
    Calls Try.prog 11 #[.pointer (some ⟨p, 0, none⟩)] w fun e w' => e = .returned (.int .i64 k) ∧ w = w' := by
  obtain ⟨c0, c1, c2, hpl⟩ := h.facts
  go_enter Try.func11, Try.ntmps11
  go_wp2_with fail
  refine (none_some _ p v xs k h).mono ?_
  rintro e w1 ⟨rfl, rfl⟩
  go_wp2
  go_ret
  exact ⟨rfl, rfl⟩
theorem at_none (v : Option Addr) (w : World) (h : IsNone w v) :
    Calls Try.prog 11 #[.pointer v] w fun e w' => e = .returned (.int .i64 0) ∧ w = w' := by
  go_enter Try.func11, Try.ntmps11
  go_wp2_with fail
  refine (none_none _ v h).mono ?_
  rintro e w1 ⟨rfl, rfl⟩
  go_wp2
  go_ret
  exact ⟨rfl, rfl⟩
theorem lft_some (p : Nat) (v : Value) (xs : List Int) (k : Nat) (w : World) (h : FeedAt w p v xs k) :
    Calls Try.prog 12 #[.pointer (some ⟨p, 0, none⟩)] w fun e w' => e = .returned (.int .i64 ((xs.length - k : Nat) : Int)) ∧ ∃ n, w' = w.drewN n := by
  go_enter Try.func12, Try.ntmps12
  go_wp2_with fail
  refine (none_some _ p v xs k h).mono ?_
  rintro e w1 ⟨rfl, rfl⟩
  go_wp2_with fail
  refine (left_any p v xs k _ h).mono ?_
  rintro e w1 ⟨a, c, rfl, hL, n, rfl⟩
  obtain ⟨m, hm⟩ : ∃ m, m = xs.length - k := ⟨_, rfl⟩
  rw [← hm]
  go_wp2
  go_ret
  exact ⟨rfl, n, rfl⟩
theorem lft_none (v : Option Addr) (w : World) (h : IsNone w v) :
    Calls Try.prog 12 #[.pointer v] w fun e w' => e = .returned (.int .i64 0) ∧ w = w' := by
  go_enter Try.func12, Try.ntmps12
  go_wp2_with fail
  refine (none_none _ v h).mono ?_
  rintro e w1 ⟨rfl, rfl⟩
  go_wp2
  go_ret
  exact ⟨rfl, rfl⟩

theorem new_any (v : Value) (xs : List Int) (hx : xs.length ≤ 20000) (w : World) (h : LB w v xs) :
    Calls Try.prog 7 #[v] w fun e w' => ∃ p v', e = .returned (.pointer (some ⟨p, 0, none⟩)) ∧ FeedAt w' p v' xs 0 ∧ w.grownBy w' none ∧ w.heap.size ≤ p ∧ (∀ r, v'.ownBlock = some r → w.heap.size ≤ r ∧ r < w'.heap.size) := by
  obtain ⟨a0, q0, hv, _⟩ := id h
  subst hv
  go_enter Try.func7, Try.ntmps7
  go_wp2_with fail
  refine (clone_any _ xs w h).mono ?_
  rintro e w1 ⟨v1, rfl, hr1, hg1⟩
  obtain ⟨a1, c1, hv1, _⟩ := row_slice hr1
  subst hv1
  go_wp2
  go_ret
  have hb := Blk.new w1 [.slice a1 xs.length c1, .int .i64 0, .bool true] 55
  have hgA := g_alloc (g_refl w1 none) (.cells #[.slice a1 xs.length c1, .int .i64 0, .bool true] 55)
  have hr := row_base hr1
  refine ⟨w1.heap.size, _, rfl, ⟨by simpa using hb, (row_down hr1 0 (by omega)).alloc _, hx, by omega, fun e => by have := (hr _ e).2; omega⟩, g_none hg1 hgA, hg1.size, fun r e => ⟨(hr r e).1, by have := (hr r e).2; simp; omega⟩⟩

theorem seek_none (v : Option Addr) (i : Int) (w : World) (h : IsNone w v) :
    Calls Try.prog 14 #[.pointer v, .int .i64 i] w fun e w' => e = .returned (.tuple #[.int .i64 0, .int .i64 1]) ∧ w = w' := by
  go_enter Try.func14, Try.ntmps14
  go_wp2_with fail
  refine (none_none _ v h).mono ?_
  rintro e w1 ⟨rfl, rfl⟩
  go_wp2
  go_ret2
  exact ⟨rfl, rfl⟩
theorem seek_out (p : Nat) (v : Value) (xs : List Int) (k : Nat) (i : Int) (hi : i < 0 ∨ (xs.length : Int) < i) (w : World) (h : FeedAt w p v xs k) :
    Calls Try.prog 14 #[.pointer (some ⟨p, 0, none⟩), .int .i64 i] w fun e w' => e = .returned (.tuple #[.int .i64 0, .int .i64 4]) ∧ w = w' := by
  obtain ⟨c0, c1, c2, hpl⟩ := h.facts
  obtain ⟨a0, q0, hv, hq1, hq2⟩ := row_slice h.2.1
  subst hv
  by_cases h0 : i < 0
  · go_enter Try.func14, Try.ntmps14
    go_wp2_with fail
    refine (none_some _ p _ xs k h).mono ?_
    rintro e w1 ⟨rfl, rfl⟩
    go_wp2
    go_ret2
    exact ⟨rfl, rfl⟩
  · have h1 : (xs.length : Int) < i := hi.resolve_left h0
    clear hi
    go_enter Try.func14, Try.ntmps14
    go_wp2_with fail
    refine (none_some _ p _ xs k h).mono ?_
    rintro e w1 ⟨rfl, rfl⟩
    go_wp2
    go_ret2
    exact ⟨rfl, rfl⟩
theorem seek_in (p : Nat) (v : Value) (xs : List Int) (k i : Nat) (hi : i ≤ xs.length) (w : World) (h : FeedAt w p v xs k) :
    Calls Try.prog 14 #[.pointer (some ⟨p, 0, none⟩), .int .i64 i] w fun e w' => e = .returned (.tuple #[.int .i64 k, .int .i64 0]) ∧ FeedAt w' p v xs i ∧ w.grownBy w' (some p) := by
  obtain ⟨c0, c1, c2, hpl⟩ := h.facts
  have f1 := h.1.frozen 1
  obtain ⟨a0, q0, hv, hq1, hq2⟩ := row_slice h.2.1
  subst hv
  go_enter Try.func14, Try.ntmps14
  go_wp2_with fail
  refine (none_some _ p _ xs k h).mono ?_
  rintro e w1 ⟨rfl, rfl⟩
  go_wp2
  go_ret2
  exact ⟨rfl, h.put i hi, grownBy_setCell'' _ p 1 _⟩
end Go.Proofs.Ytkeicoadpdfkkaa
