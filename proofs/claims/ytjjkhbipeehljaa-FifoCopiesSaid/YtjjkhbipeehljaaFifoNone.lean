/-
  Of no quarantine, nothing is told.
-/
import Derived.Test.YtjjkhbipeehljaaFifoList2
import Derived.Test.YtjjkhbipeehljaaFifoSame
namespace Go.Proofs.Ytjjkhbipeehljaa
open Go.RowKit

theorem IsNone.keptN {w w' : World} {v : Option Addr} (h : IsNone w v) (hg : w.grownBy w' none) : IsNone w' v := h.imp id fun ⟨p, hv, hc⟩ => ⟨p, hv, g_cellN hg hc⟩

set_option maxHeartbeats 4000000 in
theorem alls_none (u : Option Addr) (m : Nat) (w : World) (h : IsNone w u) :
    Calls Try.prog 29 #[.pointer u, .int .i64 m] w fun e w' => e = .returned (.slice none 0 0) ∧ w.grownBy w' none := by
  have hgA : w.grownBy ((w.alloc (.cells #[.int .i64 m] 3)).alloc (.cells #[.slice none 0 0] 23)) none := g_alloc (g_alloc (g_refl w _) _) _
  have hA1 := h.keptN hgA
  have bL0 := Boxed.new (w.alloc (.cells #[.int .i64 m] 3)) 23 (.slice none 0 0)
  rw [World.size_alloc] at bL0
  have qF : ∀ (w : World) (fn : Fn) (a b : Array Value), (binOp .eql 53 (.func fn a b) .nilFunc).run Try.prog w = .ok (.bool false) w := fun w fn a b => run_eql_func_nil w _ _ _ _ fn a b Try.underlying53
  refine calls_of_wp_marks Try.func29 rfl (wpIn_wide.2 ?_)
  simp only [Try.ntmps29, List.size_toArray, List.length_cons, List.length_nil, Nat.reduceAdd, Nat.reduceSub, Array.replicate_succ, Array.replicate_zero, List.push_toArray, List.append_toArray, List.nil_append, List.cons_append]
  go_wp2_with fail
  refine (all_none u _ hA1).mono ?_
  rintro e w1 ⟨rfl, rfl⟩
  go_wp2_with fail
  refine (all_none u _ hA1).mono ?_
  rintro e w1 ⟨rfl, rfl⟩
  go_wp2_with fail
  obtain ⟨w2, hw2⟩ : ∃ w2, w2 = (w.alloc (.cells #[.int .i64 m] 3)).alloc (.cells #[.slice none 0 0] 23) := ⟨_, rfl⟩
  rw [← hw2] at bL0 hgA ⊢
  clear hw2 hA1
  have hfoot : Foot [] none w2 := ⟨fun b hw => (by
    rcases hw with hm' | ⟨r, u, hr, hc, hu⟩
    · simp at hm'
    · cases hr), fun r hr => by cases hr⟩
  have hI : OwnFrom w2.heap.size (fun (_ : List T3) W1 => Boxed W1 (w.heap.size + 1) 23 (.slice none 0 0) ∧ w.grownBy W1 none) := OwnFrom.and (Own.from (boxed_own _ _ (fun (_ : List T3) => .slice none 0 0)) _) (grown_own hgA.size)
  refine wp_of_in (wp_iter (gf := 35) (lb := #[]) rfl (Go.Proofs.enters_of Try.func35 (by kernel_rfl) rfl)
    (encs := fun x : T3 => #[.agg #[.int .i64 x.1, .int .i64 x.2.1, .int .i64 x.2.2]]) (fun _ => rfl) [] none hfoot
    (fun W1 _ => none1_iter W1)
    (fun _ W1 => Boxed W1 (w.heap.size + 1) 23 (.slice none 0 0) ∧ w.grownBy W1 none)
    (fun _ _ _ => False) hI (fun c s A W row h _ _ => h) (fun _ _ _ => trivial) ⟨bL0, hgA⟩ (fun _ _ _ => True) (fun x a' s A B row h _ _ => h) ?assign ?body ?done ?stop)
  case assign =>
    intro l' pre x W1 K _ hF hK
    exact hF.elim
  case body =>
    intro l' pre x a' W1 hl' _ _ hF
    exact hF.elim
  case done =>
    rintro D ys W1 hD rfl ⟨hb1, hgW1⟩ hK
    have hc1 := hb1.cell
    go_wp2
    refine ⟨by simp, .inl ⟨_, _, rfl, run_takeDeferred hK, ?_⟩⟩
    exact ⟨_, results_tmp rfl _ _ _, rfl, g_put hgW1 D _ (Nat.le_trans hgA.size hD)⟩
  case stop =>
    intro D c pre W1 hD hF
    exact hF.elim

set_option maxRecDepth 100000 in
set_option maxHeartbeats 4000000 in
theorem none_nil (w : World) : Calls Try.prog 12 #[.bool false] w fun e w' => e = .returned (.bool true) ∧ w.grownBy w' none := by
  have hn0 : IsNone w none := .inl rfl
  go_enter Try.func12, Try.ntmps12
  go_wp2_with (go_at_call 19; refine (of_any 1 1 _).mono ?_; rintro e w1 ⟨rfl, hg1⟩)
  have hn1 := hn0.keptN hg1
  have gg1 := g_none (g_refl w none) hg1
  refine (push_none none _ _ _ w1 hn1).mono ?_
  rintro e w2 ⟨rfl, hg2⟩
  have hn2 := hn1.keptN hg2
  have gg2 := g_none gg1 hg2
  go_wp2_with fail
  refine (clear_none none _ hn2).mono ?_
  rintro e w3 ⟨rfl, rfl⟩
  go_wp2_with fail
  refine (age_none none 0 1 _ hn2).mono ?_
  rintro e w3 ⟨rfl, rfl⟩
  go_wp2_with fail
  refine (len_none none _ hn2).mono ?_
  rintro e w3 ⟨rfl, rfl⟩
  go_wp2_with fail
  refine (bounds_none none _ hn2).mono ?_
  rintro e w3 ⟨rfl, rfl⟩
  go_wp2_with (go_at_call 8; refine (num_any _ _).mono ?_; rintro e _ ⟨rfl, rfl⟩)
  refine (alls_none none 9 _ hn2).mono ?_
  rintro e w3 ⟨rfl, hg3⟩
  have hn3 := hn2.keptN hg3
  have gg3 := g_none gg2 hg3
  go_wp2_with fail
  refine (copy_none none _ hn3).mono ?_
  rintro e w4 ⟨rfl, rfl⟩
  go_wp2_with fail
  refine (same_none none none _ hn3 (.inl rfl)).mono ?_
  rintro e w4 ⟨rfl, rfl⟩
  go_wp2_with fail
  go_ret
  exact ⟨rfl, gg3⟩

set_option maxRecDepth 100000 in
set_option maxHeartbeats 4000000 in
theorem none_zero (w : World) : Calls Try.prog 12 #[.bool true] w fun e w' => e = .returned (.bool true) ∧ w.grownBy w' none := by
  have hn0 : IsNone (w.alloc (.cells #[.int .i64 0, .int .i64 0, .slice none 0 0, .bool false] 64)) (some ⟨w.heap.size, 0, none⟩) := .inr ⟨_, rfl, (Blk.new w [.int .i64 0, .int .i64 0, .slice none 0 0, .bool false] 64).cellOf rfl⟩
  have hgA := g_alloc (g_refl w none) (.cells #[.int .i64 0, .int .i64 0, .slice none 0 0, .bool false] 64)
  go_enter Try.func12, Try.ntmps12
  go_wp2_with (go_at_call 19; refine (of_any 1 1 _).mono ?_; rintro e w1 ⟨rfl, hg1⟩)
  have hn1 := hn0.keptN hg1
  have gg1 := g_none hgA hg1
  refine (push_none (some ⟨w.heap.size, 0, none⟩) _ _ _ w1 hn1).mono ?_
  rintro e w2 ⟨rfl, hg2⟩
  have hn2 := hn1.keptN hg2
  have gg2 := g_none gg1 hg2
  go_wp2_with fail
  refine (clear_none (some ⟨w.heap.size, 0, none⟩) _ hn2).mono ?_
  rintro e w3 ⟨rfl, rfl⟩
  go_wp2_with fail
  refine (age_none (some ⟨w.heap.size, 0, none⟩) 0 1 _ hn2).mono ?_
  rintro e w3 ⟨rfl, rfl⟩
  go_wp2_with fail
  refine (len_none (some ⟨w.heap.size, 0, none⟩) _ hn2).mono ?_
  rintro e w3 ⟨rfl, rfl⟩
  go_wp2_with fail
  refine (bounds_none (some ⟨w.heap.size, 0, none⟩) _ hn2).mono ?_
  rintro e w3 ⟨rfl, rfl⟩
  go_wp2_with (go_at_call 8; refine (num_any _ _).mono ?_; rintro e _ ⟨rfl, rfl⟩)
  refine (alls_none (some ⟨w.heap.size, 0, none⟩) 9 _ hn2).mono ?_
  rintro e w3 ⟨rfl, hg3⟩
  have hn3 := hn2.keptN hg3
  have gg3 := g_none gg2 hg3
  go_wp2_with fail
  refine (copy_none (some ⟨w.heap.size, 0, none⟩) _ hn3).mono ?_
  rintro e w4 ⟨rfl, rfl⟩
  go_wp2_with fail
  refine (same_none (some ⟨w.heap.size, 0, none⟩) none _ hn3 (.inl rfl)).mono ?_
  rintro e w4 ⟨rfl, rfl⟩
  go_wp2_with fail
  go_ret
  exact ⟨rfl, gg3⟩

theorem none_any2 (z : Bool) (w : World) : Calls Try.prog 12 #[.bool z] w fun e w' => e = .returned (.bool true) ∧ w.grownBy w' none := by
  cases z with
  | false => exact none_nil w
  | true => exact none_zero w
end Go.Proofs.Ytjjkhbipeehljaa
