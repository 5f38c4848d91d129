/-
  Making cells; an error's number; the chapter's rows.
-/
import Derived.Test.YthoelbildokmpaaCell
namespace Go.Proofs.Ythoelbildokmpaa
open Go.RowKit

theorem info_one : (Try.prog.info? 70).map (fun i => (i.zero, i.size, i.bytes)) = some (some (.agg #[.int .u64 0, .int .i64 0]), 2, 16) := by kernel_rfl

theorem flat_replicate (n : Nat) : (List.replicate n [Value.int .u64 0, .int .i64 0]).flatten = flat (List.replicate n (0, 0)) := by
  induction n with
  | zero => rfl
  | succ n ih => rw [List.replicate_succ, List.replicate_succ, List.flatten_cons, ih]; rfl

theorem new_yes (n : Nat) (hn : n ≤ 1024) (w : World) :
    Calls Try.prog 7 #[.int .i64 n] w fun e w' => ∃ p g, e = .returned (.tuple #[.pointer (some ⟨p, 0, none⟩), .int .i64 0]) ∧ CellsAt w' p g (List.replicate n (0, 0)) ∧ w.grownBy w' none ∧ w.heap.size ≤ p ∧ w.heap.size ≤ g := by
  obtain ⟨i0, hi, hz0, hz1, hz2⟩ := info_parts info_one
  go_enter Try.func7, Try.ntmps7
  go_wp2_with (refine wpList_make_full _ rfl _ _ 45 rfl w.heap.size 70 i0 (.agg #[.int .u64 0, .int .i64 0]) 2 Try.underlying45 hi hz0 hz1 .i64 .i64 n n n rfl rfl rfl rfl (by rw [hz2]; omega) (by unfold maxLen; omega) (Nat.le_refl _) ?_; intro w1 hown hg)
  go_ret2
  refine ⟨w1.heap.size, w.heap.size, rfl, ?_, g_alloc hg _, hg.size, Nat.le_refl _⟩
  rw [show (Value.agg #[Value.int .u64 0, .int .i64 0]).cells = #[.int .u64 0, .int .i64 0] from rfl, madeCells_two, flat_replicate] at hown
  obtain ⟨tail, hb, hl, h1, h2, h3⟩ := row_blk hown
  refine ⟨n, tail, ?_, hb.alloc _, by simp, h2, hl, by have := hb.lt; omega⟩
  have := Blk.new w1 [.slice (some ⟨w.heap.size, 0, none⟩) n n, .bool true] 47
  simpa using this

theorem new_no (i : Int) (hi : i < 0 ∨ 1024 < i) (w : World) :
    Calls Try.prog 7 #[.int .i64 i] w fun e w' => e = .returned (.tuple #[.pointer none, .int .i64 2]) ∧ w = w' := by
  rcases hi with hi | hi
  all_goals
    go_enter Try.func7, Try.ntmps7
    go_wp2
    go_ret2
    exact ⟨rfl, rfl⟩

theorem num_any (n : Int) (w : World) : Calls Try.prog 8 #[.int .i64 n] w fun e w' => e = .returned (.int .i64 n) ∧ w = w' := by
  go_enter Try.func8, Try.ntmps8
  go_wp2
  go_ret
  exact ⟨rfl, rfl⟩

theorem works_true (w : World) : Calls Try.prog 6 #[] w fun e w' => e = .returned (.bool true) ∧ w.grownBy w' none := by
  go_enter Try.func6, Try.ntmps6
  go_wp2_with fail
  refine (new_yes 2 (by omega) w).mono ?_
  rintro e w1 ⟨p, g, rfl, h1, hg1, hp, hgg⟩
  go_wp2_with fail
  refine (swap_yes p g _ 0 0 0 7 rfl (by omega) (by omega) w1 h1).mono ?_
  rintro e w2 ⟨rfl, h2, hg2⟩
  go_wp2_with fail
  refine (swap_no p g _ 0 7 1 0 8 rfl rfl w2 h2).mono ?_
  rintro e w3 ⟨rfl, h3, hg3⟩
  go_wp2_with fail
  refine (load_in p g _ 0 7 1 rfl w3 h3).mono ?_
  rintro e _ ⟨rfl, rfl⟩
  go_wp2_with fail
  refine (count_in p g _ 0 7 1 rfl w3 h3).mono ?_
  rintro e _ ⟨rfl, rfl⟩
  go_wp2_with fail
  refine (store_in p g _ 1 0 0 7 rfl (by omega) (by omega) w3 h3).mono ?_
  rintro e w4 ⟨rfl, h4, hg4⟩
  go_wp2_with fail
  refine (swap_yes p g _ 1 7 1 7 rfl (by omega) (by omega) w4 h4).mono ?_
  rintro e w5 ⟨rfl, h5, hg5⟩
  go_wp2_with fail
  refine (count_in p g _ 1 7 2 rfl w5 h5).mono ?_
  rintro e _ ⟨rfl, rfl⟩
  go_wp2_with fail
  refine (load_out p g _ 2 (by simp) w5 h5).mono ?_
  rintro e _ ⟨rfl, rfl⟩
  go_wp2_with fail
  refine (new_no 1025 (by omega) w5).mono ?_
  rintro e _ ⟨rfl, rfl⟩
  go_wp2_with (go_at_call 8; refine (num_any _ _).mono ?_; rintro e _ ⟨rfl, rfl⟩)
  go_ret
  exact ⟨rfl, g_new (g_new (g_none (g_new hg1 hg2 hgg) hg3) hg4 hgg) hg5 hgg⟩

end Go.Proofs.Ythoelbildokmpaa
