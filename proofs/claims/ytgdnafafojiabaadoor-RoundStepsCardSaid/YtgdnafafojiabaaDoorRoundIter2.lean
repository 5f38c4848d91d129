/-
  The iterator Steps.
-/
import Derived.Test.YtgdnafafojiabaaDoorRoundIter
namespace Go.Proofs.YtgdnafafojiabaaDoor
open Go.RowKit

attribute [local go_sem] Oper.semAt_some

set_option maxHeartbeats 1000000 in
theorem steps1_zero (f u b1 b2 b3 : Nat) (W : World) :
    IterAt Tryd.prog 37 #[.pointer (some ⟨b3, 0, none⟩), .pointer (some ⟨b1, 0, none⟩), .pointer (some ⟨b2, 0, none⟩)] (fun x : Nat => #[.int .u64 (x : Int)]) (fun _ W => Three W b1 b2 b3 f u 0) (stNx f u 0) (fun ys => ys = []) (fun _ => False) W := by
  intro l J Jx bs rb hfoot hX hJ hJx hY h0
  obtain ⟨x1, x2, x3⟩ := hX _ _ h0
  have x4 := g_cellN (g_alloc (g_refl W none) (.cells #[.func (.yield l) #[] #[]] 39)) x3
  have hJ1 := own_grown hJ h0 (g_alloc (g_refl W none) (.cells #[.func (.yield l) #[] #[]] 39))
  clear hX hY
  refine calls_of_wp_marks Tryd.func37 rfl (wpIn_wide.2 ?_)
  simp only [Tryd.ntmps37, List.size_toArray, List.length_cons, List.length_nil, Nat.reduceAdd, Nat.reduceSub, Array.replicate_succ, Array.replicate_zero, List.push_toArray, List.append_toArray, List.nil_append, List.cons_append, Array.append_empty]
  go_wp2_with (first | apply wp_scope_straight | apply wp_label)
  refine ⟨_, results_none rfl _ _ _, ⟨_, rfl⟩, .inl ⟨_, rfl, hJ1⟩⟩

set_option maxHeartbeats 2000000 in
theorem steps1_iter (f u s b1 b2 b3 : Nat) (hs : 1 ≤ s) (hf : f < 18446744073709551616) (hu : u < 18446744073709551616) (hs2 : s < 18446744073709551616) (W : World) :
    IterAt Tryd.prog 37 #[.pointer (some ⟨b3, 0, none⟩), .pointer (some ⟨b1, 0, none⟩), .pointer (some ⟨b2, 0, none⟩)] (fun x : Nat => #[.int .u64 (x : Int)]) (fun _ W => Three W b1 b2 b3 f u s) (stNx f u s) (stS f u s) (stSp f u s) W := by
  intro l J Jx bs rb hfoot hX hJ hJx hY h0
  have HY := hid hY
  obtain ⟨x1, x2, x3⟩ := (hX _ _ h0).keptN (g_alloc (g_refl W none) (.cells #[.func (.yield l) #[] #[]] 39))
  have hz : ((s : Int) == 0) = false := by simp; omega
  clear hX hY
  have hgW : W.grownBy (W.alloc (.cells #[.func (.yield l) #[] #[]] 39)) none := g_alloc (g_refl W _) _
  have hYb := (Blk.new W [.func (.yield l) #[] #[]] 39).cellOf (i := 0) rfl
  refine calls_of_wp_marks Tryd.func37 rfl (wpIn_wide.2 ?_)
  simp only [Tryd.ntmps37, List.size_toArray, List.length_cons, List.length_nil, Nat.reduceAdd, Nat.reduceSub, Array.replicate_succ, Array.replicate_zero, List.push_toArray, List.append_toArray, List.nil_append, List.cons_append, Array.append_empty]
  have hplaces := places_any f u s
  go_wp2_with (first | apply wp_scope_straight | apply wp_label)
  refine (hplaces _).mono ?_
  rintro e w1 ⟨b, rfl, h3, hb, hg1⟩
  go_wp2_with (first | apply wp_scope_straight | apply wp_label)
  have hgW1 := g_none hgW hg1
  have hs1 : W.heap.size ≤ w1.heap.size := hgW1.size
  have bY := Box.new hfoot hgW1 (Nat.le_refl _) (g_cellN hg1 hYb)
  have hb' : W.heap.size ≤ b := by simp at hb; omega
  have bF := Box.new hfoot hgW1 hb' h3.1
  have bU := Box.new hfoot hgW1 (by omega) h3.2.1
  have bS := Box.new hfoot hgW1 (by omega) h3.2.2
  refine wp_of_in (wp_iter (gf := 39) (lb := #[.pointer (some ⟨b, 0, none⟩), .pointer (some ⟨b + 1, 0, none⟩), .pointer (some ⟨b + 2, 0, none⟩)]) rfl (Go.Proofs.enters_of Tryd.func39 (by kernel_rfl) rfl)
    (encs := fun x : Nat => #[.int .u64 (x : Int)]) (fun _ => rfl) bs rb (hfoot.grown hgW1)
    (fun W1 _ => places1_iter f u s b (b + 1) (b + 2) hs hf hu hs2 W1)
    (fun pre W1 => J pre W1 ∧ Box bs rb W.heap.size W.heap.size (.func (.yield l) #[] #[]) W1 ∧ Box bs rb W.heap.size b (.int .u64 (f : Int)) W1 ∧ Box bs rb W.heap.size (b + 1) (.int .u64 (u : Int)) W1 ∧ Box bs rb W.heap.size (b + 2) (.int .u64 (s : Int)) W1)
    (fun c pre W1 => c = .exit 0 ∧ Jx pre W1)
    (own_mono (OwnFrom.and hJ (OwnFrom.and (Box.own hfoot) (OwnFrom.and (Box.own hfoot) (OwnFrom.and (Box.own hfoot) (Box.own hfoot))))) hs1)
    (fun c s A B row h hg hr => ⟨h.1, own_mono hJx hs1 s A B row h.2 hg hr⟩)
    (fun pre W1 h => ⟨h.2.2.1.2.2, h.2.2.2.1.2.2, h.2.2.2.2.2.2⟩)
    ⟨own_grown hJ h0 hgW1, bY, bF, bU, bS⟩
    (fun x a' _ => a' = { tmps := #[.func (.yield l) #[] #[], .pointer (some ⟨b3, 0, none⟩), .pointer (some ⟨b1, 0, none⟩), .pointer (some ⟨b2, 0, none⟩), .pointer (some ⟨W.heap.size, 0, none⟩), .int .u64 (x : Int), .int .u64 (s : Int), .bool false, .int .u64 (f : Int), .int .u64 (u : Int), .int .u64 (s : Int), .func (.func 39) #[] #[.pointer (some ⟨b, 0, none⟩), .pointer (some ⟨b + 1, 0, none⟩), .pointer (some ⟨b + 2, 0, none⟩)], .int .u64 (x : Int), undef, undef, undef, undef], defers := [] })
    (fun x a' s A B row h _ _ => h) ?assign ?body ?done ?stop)
  case assign =>
    intro l' pre x W1 K _ _ hK
    gi_wp2
    exact hK _ _ (KeepsFrom.refl _ _) (Keeps.refl _ _ _) (by assumption) rfl
  case body =>
    rintro l' pre x a' W1 hl' ⟨hJ1, bY1, bR1⟩ rfl hnx
    have hyc := bY1.2.2
    obtain ⟨fn, tmps, assign, body, hy, hR⟩ := HY.out pre x W1 hJ1 hnx
    try simp only [] at hy
    gi_wp2
    refine (hR _).mono ?_
    rintro e W3 ⟨hk3, hkp3, (⟨rfl, hJ3⟩ | ⟨rfl, hJx3⟩)⟩
    · gi_wp2
      exact ⟨keepsFrom_more hk3 hs1, hkp3, hJ3, bY1.keeps hkp3, bR1.1.keeps hkp3, bR1.2.1.keeps hkp3, bR1.2.2.keeps hkp3⟩
    · gi_wp2
      exact ⟨keepsFrom_more hk3 hs1, hkp3, rfl, hJx3⟩
  case done =>
    rintro D ys W2 hD hS ⟨hJ2, _⟩ hK
    show bodyPostM Fence.wide 10 _ _ _ .normal _ _
    refine ⟨by simp, .inl ⟨_, _, rfl, run_takeDeferred hK, ?_⟩⟩
    exact ⟨_, results_none rfl _ _ _, ⟨_, rfl⟩, .inl ⟨_, hS, hJ.putObj _ hJ2 (Nat.le_trans hs1 hD) hK rfl⟩⟩
  case stop =>
    rintro D c pre W2 hD hp ⟨rfl, hJx2⟩ hK
    refine wpIn_exit ?_
    show bodyPostM Fence.wide 10 _ _ _ .normal _ _
    refine ⟨by simp, .inl ⟨_, _, rfl, run_takeDeferred hK, ?_⟩⟩
    exact ⟨_, results_none rfl _ _ _, ⟨_, rfl⟩, .inr ⟨_, hp, hJx.putObj _ hJx2 (Nat.le_trans hs1 hD) hK rfl⟩⟩
end Go.Proofs.YtgdnafafojiabaaDoor
