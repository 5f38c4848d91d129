/-
  The iterators: those, All.
-/
import Derived.Test.YtnpimkigiioiaaaCellSame
import Derived.Test.YtnpimkigiioiaaaIter
import Derived.Test.YtnpimkigiioiaaaStill
import Derived.LoopIn
import Derived.TacticsInMore
import Derived.WalkMore
namespace Go.Proofs.Ytnpimkigiioiaaa
open Go.RowKit
set_option maxRecDepth 100000

/-- The cells that are not 0: their numbers, and their words. -/
def nz : Nat → List (Int × Int) → List (Nat × Int)
  | _, [] => []
  | k, x :: xs => if x.1 != 0 then (k, x.1) :: nz (k + 1) xs else nz (k + 1) xs

theorem nz_append (xs : List (Int × Int)) (x : Int × Int) : ∀ k, nz k (xs ++ [x]) = nz k xs ++ (if x.1 != 0 then [(k + xs.length, x.1)] else []) := by
  induction xs with
  | nil => intro k; simp [nz]
  | cons y ys ih =>
    intro k
    simp only [List.cons_append, nz, ih, List.length_cons]
    rw [show k + 1 + ys.length = k + (ys.length + 1) by omega]
    split <;> simp
theorem nz_take {xs : List (Int × Int)} {k : Nat} {u c : Int} (h : xs[k]? = some (u, c)) : nz 0 (xs.take (k + 1)) = nz 0 (xs.take k) ++ (if u != 0 then [(k, u)] else []) := by
  have hk : k < xs.length := (List.getElem?_eq_some_iff.1 h).1
  rw [List.take_add_one, h]
  simp only [Option.toList_some]
  rw [nz_append]
  simp [Nat.min_eq_left (Nat.le_of_lt hk)]
theorem nz_append2 (xs ys : List (Int × Int)) : ∀ k, nz k (xs ++ ys) = nz k xs ++ nz (k + xs.length) ys := by
  induction xs with
  | nil => intro k; simp [nz]
  | cons x xs ih =>
    intro k
    simp only [List.cons_append, nz, ih, List.length_cons]
    rw [show k + 1 + xs.length = k + (xs.length + 1) by omega]
    split <;> simp
theorem nz_prefix (xs : List (Int × Int)) (k : Nat) : nz 0 (xs.take k) <+: nz 0 xs := by
  conv => rhs; rw [← List.take_append_drop k xs]
  rw [nz_append2]
  exact List.prefix_append _ _
theorem nz_mem : ∀ (xs : List (Int × Int)) (k : Nat) (x : Nat × Int), x ∈ nz k xs → k ≤ x.1 ∧ ∃ c, xs[x.1 - k]? = some (x.2, c)
  | [], _, _, h => by simp [nz] at h
  | y :: ys, k, x, h => by
    have more : x ∈ nz (k + 1) ys → k ≤ x.1 ∧ ∃ c, (y :: ys)[x.1 - k]? = some (x.2, c) := fun h' => by
      obtain ⟨h1, c, h2⟩ := nz_mem ys (k + 1) x h'
      refine ⟨by omega, c, ?_⟩
      rw [show x.1 - k = (x.1 - (k + 1)) + 1 by omega]
      simpa using h2
    simp only [nz] at h
    split at h
    · rcases List.mem_cons.1 h with rfl | h'
      · exact ⟨Nat.le_refl _, y.2, by simp⟩
      · exact more h'
    · exact more h
theorem nz_length (xs : List (Int × Int)) : ∀ k, (nz k xs).length ≤ xs.length := by
  induction xs with
  | nil => intro k; simp [nz]
  | cons x xs ih => intro k; simp only [nz]; have := ih (k + 1); split <;> simp <;> omega

theorem nzFn_any (u c : Int) (w : World) : Calls Try.prog 70 #[.agg #[.int .u64 u, .int .i64 c]] w fun e w' => e = .returned (.bool (u != 0)) ∧ w.grownBy w' none := by
  obtain ⟨i0, hi, hz0, hz1, hz2⟩ := info_parts info_one
  go_enter Try.func70, Try.ntmps70
  go_wp2
  go_ret
  exact ⟨rfl, g_alloc (g_refl w _) _⟩

/-- What All's inner iterator reads. -/
def ThoseX (lb sb : Nat) (v : Value) (xs : List (Int × Int)) (W : World) : Prop :=
  W.cell? ⟨lb, 0, none⟩ = some v ∧ W.cell? ⟨sb, 0, none⟩ = some (.func (.func 70) #[] #[]) ∧ SliceOf W .u64 .i64 v xs

theorem own_grown {α : Type} {B : Nat} {J : α → World → Prop} (h : OwnFrom B J) {s : α} {A W : World} (hA : J s A) (hg : A.grownBy W none) : J s W := h s A W none hA hg (fun r e => by cases e)

attribute [local go_sem] Oper.semAt_some

set_option maxHeartbeats 1000000 in
theorem those1_iter (lb sb : Nat) (v : Value) (xs : List (Int × Int)) (W : World) :
    IterAt Try.prog 74 #[.pointer (some ⟨lb, 0, none⟩), .pointer (some ⟨sb, 0, none⟩)] (fun x : Nat × Int => #[.int .i64 x.1]) (fun _ => ThoseX lb sb v xs) (fun pre x => pre ++ [x] <+: nz 0 xs) (fun ys => ys = nz 0 xs) (fun pre => pre <+: nz 0 xs) W := by
  intro l J Jx bs rb hfoot hX hJ hJx hY h0
  obtain ⟨i0, hi, hz0, hz1, hz2⟩ := info_parts info_one
  obtain ⟨hlb, hsb, a, cap, rfl, hlen, hcells⟩ := hX _ _ h0
  have HX := hid hX
  have HY := hid hY
  have HC := hid hcells
  clear hX hY hcells
  refine calls_of_wpIn Try.func74 rfl ?_
  simp only [Try.ntmps74, List.size_toArray, List.length_cons, List.length_nil, Nat.reduceAdd, Nat.reduceSub, Array.replicate_succ, Array.replicate_zero, List.push_toArray, List.append_toArray, List.nil_append, List.cons_append]
  gi_wp2
  gi_loopw [8] (fun v wr => ∃ (k : Nat), k ≤ xs.length ∧ v = .int .i64 k ∧ J (nz 0 (xs.take k)) wr ∧ W.heap.size ≤ wr.heap.size) (fun v _ => xs.length - (intOf v).toNat)
  case atStart => exact ⟨0, Nat.zero_le _, rfl, by simpa [nz] using h0, Nat.le_refl _⟩
  case round =>
    obtain ⟨k, hk, rfl, hJk, hsz⟩ := hrel
    by_cases hlt : k < xs.length
    · obtain ⟨hl1, hs1, hsl1⟩ := HX.out _ _ hJk
      obtain ⟨⟨u, c⟩, hxk⟩ : ∃ x, xs[k]? = some x := ⟨xs[k], List.getElem?_eq_getElem hlt⟩
      obtain ⟨g, rfl, _⟩ := HC.out (by omega)
      obtain ⟨a', cap', e', _, hc'⟩ := hsl1
      cases e'
      obtain ⟨g', e', hc''⟩ := hc' (by omega)
      cases e'
      obtain ⟨d1, e1⟩ := hc'' k u c hxk
      clear hc'' hc'
      have ht := nz_take hxk
      have hgA : wr.grownBy (wr.alloc (.cells #[.int .u64 u, .int .i64 c] 109)) none := g_alloc (g_refl wr _) _
      have hs2 := g_cellN hgA hs1
      cases hu : (u != 0) with
      | false =>
        gi_wp2_with (gi_at_call 70; refine (callsIn_wide.2 (nzFn_any u c _)).mono ?_; rintro e w2 ⟨rfl, hg2⟩; simp only [hu])
        go_roundw
        case rel => exact ⟨k + 1, by omega, by simp, by rw [ht, hu]; simpa using own_grown hJ hJk (g_none hgA hg2), Nat.le_trans hsz (g_none hgA hg2).size⟩
        case measure => simp [intOf]; omega
      | true =>
        have hN : nz 0 (xs.take k) ++ [(k, u)] <+: nz 0 xs := by have := nz_prefix xs (k + 1); rw [ht, hu] at this; exact this
        gi_wp2_with (gi_at_call 70; refine (callsIn_wide.2 (nzFn_any u c _)).mono ?_; rintro e w2 ⟨rfl, hg2⟩; simp only [hu]; obtain ⟨fn, tmps, assign, body, hy, hR⟩ := HY.out (nz 0 (xs.take k)) (k, u) w2 (own_grown hJ hJk (g_none hgA hg2)) hN; simp only [] at hy)
        refine (hR _).mono ?_
        rintro e W3 ⟨hk3, hkp3, (⟨rfl, hJ3⟩ | ⟨rfl, hJx3⟩)⟩
        · gi_wp2
          go_roundw
          case rel => exact ⟨k + 1, by omega, by simp, by rw [ht, hu]; exact hJ3, Nat.le_trans hsz (Nat.le_trans (g_none hgA hg2).size hk3.size)⟩
          case measure => simp [intOf]; omega
        · gi_wp2
          refine bodyPost_ret (results_none rfl _ _ _) rfl ?_
          exact ⟨⟨_, rfl⟩, .inr ⟨_, hN, hJx3⟩⟩
    · obtain rfl : k = xs.length := by omega
      gi_wp2
      go_end0
      exact ⟨⟨_, rfl⟩, .inl (by rw [List.take_length] at hJk; exact hJk)⟩
end Go.Proofs.Ytnpimkigiioiaaa
