/-
  At most so many picks, in a slice: among no number, of no feed: none.
-/
import Derived.Test.YtkeicoadpdfkkaaFeedList
namespace Go.Proofs.Ytkeicoadpdfkkaa
open Go.RowKit

attribute [local go_sem] Oper.semAt_some

set_option maxHeartbeats 4000000 in
theorem picksL_no (p : Nat) (v : Value) (xs : List Int) (k : Nat) (n : Int) (hn : n < 1 ∨ 256 < n) (m : Nat) (hm0 : 1 ≤ m) (hm : m ≤ 9) (w : World) (hF : FeedAt w p v xs k) :
    Calls Try.prog 35 #[.pointer (some ⟨p, 0, none⟩), .int .i64 n, .int .i64 m] w fun e w' => ∃ v', e = .returned v' ∧ LI w' v' [] ∧ w.grownBy w' none := by
  obtain ⟨i0, hi, hz0, hz1, hz2⟩ := info_parts info_i
  have hgA : w.grownBy ((w.alloc (.cells #[.int .i64 m] 3)).alloc (.cells #[.slice none 0 0] 68)) none := g_alloc (g_alloc (g_refl w _) _) _
  have bM := (Boxed.new w 3 (.int .i64 m)).alloc (.cells #[.slice none 0 0] 68)
  have bL := Boxed.new (w.alloc (.cells #[.int .i64 m] 3)) 68 (.slice none 0 0)
  rw [World.size_alloc] at bL
  have qF : ∀ (w : World) (fn : Fn) (a b : Array Value), (binOp .eql 78 (.func fn a b) .nilFunc).run Try.prog w = .ok (.bool false) w := fun w fn a b => run_eql_func_nil w _ _ _ _ fn a b Try.underlying78
  have hSt := Picks_any (some ⟨p, 0, none⟩) n
  refine calls_of_wp_marks Try.func35 rfl (wpIn_wide.2 ?_)
  simp only [Try.ntmps35, List.size_toArray, List.length_cons, List.length_nil, Nat.reduceAdd, Nat.reduceSub, Array.replicate_succ, Array.replicate_zero, List.push_toArray, List.append_toArray, List.nil_append, List.cons_append]
  go_wp2_with fail
  refine (hSt _).mono ?_
  rintro e w1 ⟨c, rfl, h31, h32, hc', hg1⟩
  go_wp2_with fail
  refine (hSt _).mono ?_
  rintro e w2 ⟨b, rfl, h3, h4, hb, hg2⟩
  go_wp2_with fail
  have hg12 := g_none hg1 hg2
  replace hgA := g_none hgA hg12
  replace bM := bM.kept hg12 (by simp)
  replace bL := bL.kept hg12 (by simp)
  have hF2 := hF.keptN hgA
  have hbs : w.heap.size + 2 ≤ b := by have := hg1.size; simp at this; omega
  have hs2' : w.heap.size + 2 ≤ w2.heap.size := by have := hg12.size; simpa using this
  clear h31 h32 hc' hg1 hg2 hg12 hb
  have hfoot : Foot [w.heap.size + 1] (some (w.heap.size + 1)) w2 := ⟨fun b hw => by
    rcases hw with hm' | ⟨r, u, hr, hc, hu⟩
    · simp at hm'; omega
    · cases hr; rw [bL.cell] at hc; cases hc; simp [Value.ownBlock] at hu, fun r hr => by cases hr; simp⟩
  have hnw : ∀ {p : Nat}, p < w2.heap.size → p ≠ w.heap.size + 1 → NotW [w.heap.size + 1] (some (w.heap.size + 1)) p w2 := fun {p} hp hne => ⟨hp, fun hw => by
    rcases hw with hm' | ⟨r, u, hr, hc, hu⟩
    · simp at hm'; exact hne hm'
    · cases hr; rw [bL.cell] at hc; cases hc; simp [Value.ownBlock] at hu⟩
  have kM : Box [w.heap.size + 1] (some (w.heap.size + 1)) w2.heap.size w.heap.size (.int .i64 m) w2 := ⟨Nat.le_refl _, hnw (by omega) (by omega), bM.cell⟩
  have kF : Box [w.heap.size + 1] (some (w.heap.size + 1)) w2.heap.size b (.pointer (some ⟨p, 0, none⟩)) w2 := ⟨Nat.le_refl _, hnw (cell_lt h3) (by omega), h3⟩
  have kN : Box [w.heap.size + 1] (some (w.heap.size + 1)) w2.heap.size (b + 1) (.int .i64 n) w2 := ⟨Nat.le_refl _, hnw (cell_lt h4) (by omega), h4⟩
  have key : ∀ (α : Type), OwnFrom w2.heap.size (fun (_ : α) W1 => Boxed W1 (w.heap.size + 1) 68 (.slice none 0 0) ∧ Box [w.heap.size + 1] (some (w.heap.size + 1)) w2.heap.size b (.pointer (some ⟨p, 0, none⟩)) W1 ∧ Box [w.heap.size + 1] (some (w.heap.size + 1)) w2.heap.size (b + 1) (.int .i64 n) W1 ∧ w2.grownBy W1 none) := fun α s A W row ⟨h1, h2, h3, h4⟩ hg hr =>
    ⟨h1.kept hg (fun e => by have := (hr _ e.symm).1; omega), Box.own (α := Unit) hfoot () A W row h2 hg hr, Box.own (α := Unit) hfoot () A W row h3 hg hr, g_trans h4 hg (fun r e => .inr (hr r e).1)⟩
  refine wp_of_in (wp_iterG (own := []) (gf := 45) (lb := #[.pointer (some ⟨b, 0, none⟩), .pointer (some ⟨b + 1, 0, none⟩)]) rfl (Go.Proofs.enters_of Try.func45 (by kernel_rfl) rfl)
    (encs := fun x : Int => #[.int .i64 x]) (fun _ => rfl) [w.heap.size + 1] (some (w.heap.size + 1)) hfoot (fun q hq => by simp at hq)
    (fun W1 _ => picks1_no p b (b + 1) v xs k n hn W1)
    (fun pre W1 => pre = [] ∧ (Boxed W1 (w.heap.size + 1) 68 (.slice none 0 0) ∧ Box [w.heap.size + 1] (some (w.heap.size + 1)) w2.heap.size b (.pointer (some ⟨p, 0, none⟩)) W1 ∧ Box [w.heap.size + 1] (some (w.heap.size + 1)) w2.heap.size (b + 1) (.int .i64 n) W1 ∧ w2.grownBy W1 none))
    (fun cc pre W1 => False)
    (fun s A B row ⟨h0, h1⟩ hg hr => ⟨h0, key Unit () A B row h1 hg hr⟩)
    (fun cc s A B row h _ _ => h)
    (fun pre W1 h => ⟨h.2.2.1.2.2, h.2.2.2.1.2.2, by rw [h.1]; exact hF2.keptN h.2.2.2.2⟩)
    ⟨rfl, bL, kF, kN, g_refl _ _⟩
    (fun pre x W1 W2 h => ⟨none, by subst h; exact g_refl _ _, fun r e => by cases e⟩)
    (fun ss W1 => True) (fun _ _ _ _ _ _ _ => trivial) (fun _ _ _ _ _ _ => trivial)
    (fun x a' _ => True)
    (fun x a' s A B row h _ _ => h) ?assign ?body ?done ?stop)
  case assign =>
    intro l' pre x W1 K _ hx hK
    exact hx.elim
  case body =>
    intro l' pre x a' W1 hl' _ _ hx
    exact hx.elim
  case done =>
    rintro D ys W1 hD hS ⟨rfl, hb1, _, _, hgW1⟩ hK
    have hc1 := hb1.cell
    go_wp2
    refine ⟨by simp, .inl ⟨_, _, rfl, run_takeDeferred hK, ?_⟩⟩
    exact ⟨_, results_tmp rfl _ _ _, _, rfl, ⟨none, 0, rfl, by simp, by simp, by simp [maxLen], fun h => by simp at h⟩, g_put (g_none hgA hgW1) D _ (by omega)⟩
  case stop =>
    intro D cc pre W1 hD hp _ hK
    exact hp.elim

set_option maxHeartbeats 4000000 in
theorem picksL_none (u0 : Option Addr) (n : Int) (m : Nat) (hm0 : 1 ≤ m) (hm : m ≤ 9) (w : World) (hF : IsNone w u0) :
    Calls Try.prog 35 #[.pointer u0, .int .i64 n, .int .i64 m] w fun e w' => ∃ v', e = .returned v' ∧ LI w' v' [] ∧ w.grownBy w' none := by
  obtain ⟨i0, hi, hz0, hz1, hz2⟩ := info_parts info_i
  have hgA : w.grownBy ((w.alloc (.cells #[.int .i64 m] 3)).alloc (.cells #[.slice none 0 0] 68)) none := g_alloc (g_alloc (g_refl w _) _) _
  have bM := (Boxed.new w 3 (.int .i64 m)).alloc (.cells #[.slice none 0 0] 68)
  have bL := Boxed.new (w.alloc (.cells #[.int .i64 m] 3)) 68 (.slice none 0 0)
  rw [World.size_alloc] at bL
  have qF : ∀ (w : World) (fn : Fn) (a b : Array Value), (binOp .eql 78 (.func fn a b) .nilFunc).run Try.prog w = .ok (.bool false) w := fun w fn a b => run_eql_func_nil w _ _ _ _ fn a b Try.underlying78
  have hSt := Picks_any u0 n
  refine calls_of_wp_marks Try.func35 rfl (wpIn_wide.2 ?_)
  simp only [Try.ntmps35, List.size_toArray, List.length_cons, List.length_nil, Nat.reduceAdd, Nat.reduceSub, Array.replicate_succ, Array.replicate_zero, List.push_toArray, List.append_toArray, List.nil_append, List.cons_append]
  go_wp2_with fail
  refine (hSt _).mono ?_
  rintro e w1 ⟨c, rfl, h31, h32, hc', hg1⟩
  go_wp2_with fail
  refine (hSt _).mono ?_
  rintro e w2 ⟨b, rfl, h3, h4, hb, hg2⟩
  go_wp2_with fail
  have hg12 := g_none hg1 hg2
  replace hgA := g_none hgA hg12
  replace bM := bM.kept hg12 (by simp)
  replace bL := bL.kept hg12 (by simp)
  have hF2 : IsNone w2 u0 := hF.imp id fun ⟨p, hv, hc⟩ => ⟨p, hv, g_cellN hgA hc⟩
  have hbs : w.heap.size + 2 ≤ b := by have := hg1.size; simp at this; omega
  have hs2' : w.heap.size + 2 ≤ w2.heap.size := by have := hg12.size; simpa using this
  clear h31 h32 hc' hg1 hg2 hg12 hb
  have hfoot : Foot [w.heap.size + 1] (some (w.heap.size + 1)) w2 := ⟨fun b hw => by
    rcases hw with hm' | ⟨r, u, hr, hc, hu⟩
    · simp at hm'; omega
    · cases hr; rw [bL.cell] at hc; cases hc; simp [Value.ownBlock] at hu, fun r hr => by cases hr; simp⟩
  have hnw : ∀ {p : Nat}, p < w2.heap.size → p ≠ w.heap.size + 1 → NotW [w.heap.size + 1] (some (w.heap.size + 1)) p w2 := fun {p} hp hne => ⟨hp, fun hw => by
    rcases hw with hm' | ⟨r, u, hr, hc, hu⟩
    · simp at hm'; exact hne hm'
    · cases hr; rw [bL.cell] at hc; cases hc; simp [Value.ownBlock] at hu⟩
  have kM : Box [w.heap.size + 1] (some (w.heap.size + 1)) w2.heap.size w.heap.size (.int .i64 m) w2 := ⟨Nat.le_refl _, hnw (by omega) (by omega), bM.cell⟩
  have kF : Box [w.heap.size + 1] (some (w.heap.size + 1)) w2.heap.size b (.pointer u0) w2 := ⟨Nat.le_refl _, hnw (cell_lt h3) (by omega), h3⟩
  have kN : Box [w.heap.size + 1] (some (w.heap.size + 1)) w2.heap.size (b + 1) (.int .i64 n) w2 := ⟨Nat.le_refl _, hnw (cell_lt h4) (by omega), h4⟩
  have key : ∀ (α : Type), OwnFrom w2.heap.size (fun (_ : α) W1 => Boxed W1 (w.heap.size + 1) 68 (.slice none 0 0) ∧ Box [w.heap.size + 1] (some (w.heap.size + 1)) w2.heap.size b (.pointer u0) W1 ∧ Box [w.heap.size + 1] (some (w.heap.size + 1)) w2.heap.size (b + 1) (.int .i64 n) W1 ∧ w2.grownBy W1 none) := fun α s A W row ⟨h1, h2, h3, h4⟩ hg hr =>
    ⟨h1.kept hg (fun e => by have := (hr _ e.symm).1; omega), Box.own (α := Unit) hfoot () A W row h2 hg hr, Box.own (α := Unit) hfoot () A W row h3 hg hr, g_trans h4 hg (fun r e => .inr (hr r e).1)⟩
  refine wp_of_in (wp_iterG (own := []) (gf := 45) (lb := #[.pointer (some ⟨b, 0, none⟩), .pointer (some ⟨b + 1, 0, none⟩)]) rfl (Go.Proofs.enters_of Try.func45 (by kernel_rfl) rfl)
    (encs := fun x : Int => #[.int .i64 x]) (fun _ => rfl) [w.heap.size + 1] (some (w.heap.size + 1)) hfoot (fun q hq => by simp at hq)
    (fun W1 _ => picks1_none u0 b (b + 1) n W1)
    (fun pre W1 => pre = [] ∧ (Boxed W1 (w.heap.size + 1) 68 (.slice none 0 0) ∧ Box [w.heap.size + 1] (some (w.heap.size + 1)) w2.heap.size b (.pointer u0) W1 ∧ Box [w.heap.size + 1] (some (w.heap.size + 1)) w2.heap.size (b + 1) (.int .i64 n) W1 ∧ w2.grownBy W1 none))
    (fun cc pre W1 => False)
    (fun s A B row ⟨h0, h1⟩ hg hr => ⟨h0, key Unit () A B row h1 hg hr⟩)
    (fun cc s A B row h _ _ => h)
    (fun pre W1 h => ⟨h.2.2.1.2.2, h.2.2.2.1.2.2, hF2.imp id fun ⟨p, hv, hc⟩ => ⟨p, hv, g_cellN h.2.2.2.2 hc⟩⟩)
    ⟨rfl, bL, kF, kN, g_refl _ _⟩
    (fun pre x W1 W2 h => ⟨none, by subst h; exact g_refl _ _, fun r e => by cases e⟩)
    (fun ss W1 => True) (fun _ _ _ _ _ _ _ => trivial) (fun _ _ _ _ _ _ => trivial)
    (fun x a' _ => True)
    (fun x a' s A B row h _ _ => h) ?assign ?body ?done ?stop)
  case assign =>
    intro l' pre x W1 K _ hx hK
    exact hx.elim
  case body =>
    intro l' pre x a' W1 hl' _ _ hx
    exact hx.elim
  case done =>
    rintro D ys W1 hD hS ⟨rfl, hb1, _, _, hgW1⟩ hK
    have hc1 := hb1.cell
    go_wp2
    refine ⟨by simp, .inl ⟨_, _, rfl, run_takeDeferred hK, ?_⟩⟩
    exact ⟨_, results_tmp rfl _ _ _, _, rfl, ⟨none, 0, rfl, by simp, by simp, by simp [maxLen], fun h => by simp at h⟩, g_put (g_none hgA hgW1) D _ (by omega)⟩
  case stop =>
    intro D cc pre W1 hD hp _ hK
    exact hp.elim
end Go.Proofs.Ytkeicoadpdfkkaa
