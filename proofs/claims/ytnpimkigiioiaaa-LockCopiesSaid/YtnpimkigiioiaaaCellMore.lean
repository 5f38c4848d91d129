/-
  Lists of cells: copies of their own, how many, which are the same.
-/
import Derived.Test.YtnpimkigiioiaaaCellAny
import Derived.RegionTactic
import Derived.BigRegion
namespace Go.Proofs.Ytnpimkigiioiaaa
open Go.RowKit
set_option maxRecDepth 100000

/-- A list of cells of its own: the slice's value, and what it holds. -/
def ListAt (w : World) (e : TypeId) (v : Value) (xs : List (Int × Int)) : Prop :=
  ∃ g cap tail, v = .slice (some ⟨g, 0, none⟩) xs.length cap ∧ Blk w g e (flat xs ++ tail) ∧ xs.length ≤ cap ∧ cap ≤ maxLen ∧ (flat xs ++ tail).length = cap * 2

theorem ListAt.kept {w w' : World} {e : TypeId} {v : Value} {xs : List (Int × Int)} {row : Option Nat} (h : ListAt w e v xs) (hg : w.grownBy w' row) (hne : ∀ r, row = some r → v.ownBlock ≠ some r) : ListAt w' e v xs := by
  obtain ⟨g, cap, tail, rfl, hb, rest⟩ := h
  exact ⟨g, cap, tail, rfl, hb.kept hg (fun e' => hne g e'.symm rfl), rest⟩
theorem ListAt.keptN {w w' : World} {e : TypeId} {v : Value} {xs : List (Int × Int)} (h : ListAt w e v xs) (hg : w.grownBy w' none) : ListAt w' e v xs := h.kept hg (fun r e => by cases e)
theorem ListAt.lt {w : World} {e : TypeId} {v : Value} {xs : List (Int × Int)} (h : ListAt w e v xs) : ∀ r, v.ownBlock = some r → r < w.heap.size := by
  obtain ⟨g, cap, tail, rfl, hb, _⟩ := h
  intro r hr; simp [Value.ownBlock] at hr; subst hr; exact hb.lt
theorem ListAt.facts {w : World} {e : TypeId} {v : Value} {xs : List (Int × Int)} (h : ListAt w e v xs) : ∃ g cap, v = .slice (some ⟨g, 0, none⟩) xs.length cap ∧ xs.length ≤ 9223372036854775807 ∧ xs.length ≤ cap ∧
    ∀ k u c, xs[k]? = some (u, c) → w.cell? ⟨g, k * 2, none⟩ = some (.int .u64 u) ∧ w.cell? ⟨g, k * 2 + 1, none⟩ = some (.int .i64 c) := by
  obtain ⟨g, cap, tail, rfl, hb, hl, hm, _⟩ := h
  refine ⟨g, cap, rfl, by unfold maxLen at hm; omega, hl, fun k u c hx => ?_⟩
  have hk : k < xs.length := (List.getElem?_eq_some_iff.1 hx).1
  obtain ⟨h0, h1⟩ := flat_get xs k hx
  exact ⟨hb.cellOf (by rw [List.getElem?_append_left (by rw [flat_length]; omega)]; exact h0), hb.cellOf (by rw [List.getElem?_append_left (by rw [flat_length]; omega)]; exact h1)⟩
theorem ListAt.own {w : World} {base : Nat} {e : TypeId} {v : Value} {xs : List (Int × Int)} (h : w.ownsRow base e 2 v xs.length (flat xs)) (hv : v ≠ .slice none 0 0) : ListAt w e v xs ∧ ∀ r, v.ownBlock = some r → base ≤ r := by
  rcases h.2 with ⟨rfl, _⟩ | ⟨g, cap, cur, rfl, hb, _⟩
  · exact absurd rfl hv
  · obtain ⟨tail, h1, h2, h3, h4, h5⟩ := row_blk h
    exact ⟨⟨g, cap, tail, rfl, h1, h3, h4, h2⟩, fun r hr => by simp [Value.ownBlock] at hr; omega⟩
theorem flat_cells {w : World} {e : TypeId} {g : Nat} {xs : List (Int × Int)} {tail : List Value} (h : Blk w g e (flat xs ++ tail)) : ∀ j u, (flat xs)[j]? = some u → w.cell? ((⟨g, 0, none⟩ : Addr).add j) = some u := by
  intro j u hj
  have : w.cell? ⟨g, j, none⟩ = some u := h.cellOf (by rw [List.getElem?_append_left (List.getElem?_eq_some_iff.1 hj).1]; exact hj)
  unfold Addr.add
  split
  · rename_i h0; subst h0; exact this
  · simpa using this
theorem flat_oneCell (xs : List (Int × Int)) : ∀ u ∈ flat xs, u.oneCell' = true := by
  intro u hu
  obtain ⟨x, _, hx⟩ := List.mem_flatMap.1 hu
  simp at hx
  rcases hx with rfl | rfl <;> rfl

theorem clone_any (v : Value) (xs : List (Int × Int)) (hx : xs.length ≤ 1000000) (w : World) (h : ListAt w 109 v xs) :
    Calls Try.prog 67 #[v] w fun e w' => ∃ v', e = .returned v' ∧ ListAt w' 109 v' xs ∧ w.grownBy w' none ∧ ∀ r, v'.ownBlock = some r → w.heap.size ≤ r := by
  obtain ⟨i0, hi, hz0, hz1, hz2⟩ := info_parts info_one
  obtain ⟨g, cap, tail, rfl, hb, hl, hm, hcap⟩ := h
  have hfl := flat_length xs
  have hrow : (w.alloc (.cells #[] 109)).ownsRow w.heap.size 109 2 (.slice (some ⟨w.heap.size, 0, none⟩) 0 0) 0 [] := World.ownsRow_made w #[] 0 (Nat.le_refl _) (by simp [maxLen]) rfl
  have hb' := hb.alloc (.cells #[] 109)
  have qT : ∀ (w : World) (a : Option Addr) (n c : Nat), (binOp .eql 98 (.slice a n c) (.slice none 0 0)).run Try.prog w = .ok (.bool a.isNone) w := fun w a n c => Lib.run_eql_slice_nil w _ _ a n c 0 0 Try.underlying98
  go_enter Try.func67, Try.ntmps67
  go_wp2_with (at_builtin; refine wpList_append_own _ rfl _ _ 98 rfl w.heap.size 109 i0 (.agg #[.int .u64 0, .int .i64 0]) 2 16 Try.underlying98 hi hz0 hz1 hz2 rfl (by decide) _ _ _ rfl hrow ⟨g, 0, none⟩ xs.length cap (flat xs) rfl (by omega) (flat_cells hb') (flat_oneCell xs) (by unfold maxLen; omega) (by omega) (by simp) ?_; intro v' w1 hown' hgrow hnn)
  go_ret
  have hv : v' ≠ .slice none 0 0 := fun e => by have := (hnn.1 e).1; cases this
  simp only [Nat.zero_add, List.nil_append] at hown'
  obtain ⟨h1, h2⟩ := ListAt.own hown' hv
  exact ⟨v', rfl, h1, g_new (g_alloc (g_refl w _) _) hgrow (Nat.le_refl _), h2⟩

theorem len_some (p g : Nat) (xs : List (Int × Int)) (w : World) (h : CellsAt w p g xs) :
    Calls Try.prog 36 #[.pointer (some ⟨p, 0, none⟩)] w fun e w' => e = .returned (.int .i64 xs.length) ∧ w = w' := by
  obtain ⟨cap, c0, c1, hl, _⟩ := h.facts
  go_enter Try.func36, Try.ntmps36
  go_wp2_with (go_at_call 58; refine (none_some _ _ _ _ h).mono ?_; rintro e w' ⟨rfl, rfl⟩)
  go_ret
  exact ⟨rfl, rfl⟩
theorem len_none (v : Option Addr) (w : World) (h : IsNone w v) :
    Calls Try.prog 36 #[.pointer v] w fun e w' => e = .returned (.int .i64 0) ∧ w = w' := by
  go_enter Try.func36, Try.ntmps36
  go_wp2_with (go_at_call 58; refine (none_none _ _ h).mono ?_; rintro e w' ⟨rfl, rfl⟩)
  go_ret
  exact ⟨rfl, rfl⟩

theorem CellsAt.list {w : World} {p g : Nat} {xs : List (Int × Int)} (h : CellsAt w p g xs) : ∃ cap, w.cell? ⟨p, 0, none⟩ = some (.slice (some ⟨g, 0, none⟩) xs.length cap) ∧ ListAt w 109 (.slice (some ⟨g, 0, none⟩) xs.length cap) xs := by
  obtain ⟨cap, tail, hp, hg, hl, hm, hcap, _⟩ := h
  exact ⟨cap, hp.cellOf rfl, g, cap, tail, rfl, hg, hl, hm, hcap⟩

theorem copy_some (p g : Nat) (xs : List (Int × Int)) (hx : xs.length ≤ 1000000) (w : World) (h : CellsAt w p g xs) :
    Calls Try.prog 45 #[.pointer (some ⟨p, 0, none⟩)] w fun e w' => ∃ p' g', e = .returned (.pointer (some ⟨p', 0, none⟩)) ∧ CellsAt w' p' g' xs ∧ w.grownBy w' none ∧ w.heap.size ≤ p' ∧ w.heap.size ≤ g' := by
  obtain ⟨cap, c0, hlist⟩ := h.list
  go_enter Try.func45, Try.ntmps45
  go_wp2_with (first | (go_at_call 58; refine (none_some _ _ _ _ h).mono ?_; rintro e w' ⟨rfl, rfl⟩) | (go_at_call 67; refine (clone_any _ xs hx _ hlist).mono ?_; rintro e w1 ⟨v', rfl, ⟨g', cap', tail', rfl, hb', hl', hm', hcap'⟩, hg', hn'⟩))
  go_ret
  have hg0 := hn' g' rfl
  refine ⟨w1.heap.size, g', rfl, ⟨cap', tail', ?_, hb'.alloc _, hl', hm', hcap', by have := hb'.lt; omega⟩, g_alloc hg' _, hg'.size, hg0⟩
  have := Blk.new w1 [.slice (some ⟨g', 0, none⟩) xs.length cap', .bool true] 100
  simpa using this
theorem copy_none (v : Option Addr) (w : World) (h : IsNone w v) :
    Calls Try.prog 45 #[.pointer v] w fun e w' => e = .returned (.pointer none) ∧ w = w' := by
  go_enter Try.func45, Try.ntmps45
  go_wp2_with (go_at_call 58; refine (none_none _ _ h).mono ?_; rintro e w' ⟨rfl, rfl⟩)
  go_ret
  exact ⟨rfl, rfl⟩
end Go.Proofs.Ytnpimkigiioiaaa
