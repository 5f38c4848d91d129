/-
  Making cells; an error's number; the chapter's rows.
-/
import Derived.Test.YtnpimkigiioiaaaCell
namespace Go.Proofs.Ytnpimkigiioiaaa
open Go.RowKit
set_option maxRecDepth 100000

theorem info_one : (Try.prog.info? 109).map (fun i => (i.zero, i.size, i.bytes)) = some (some (.agg #[.int .u64 0, .int .i64 0]), 2, 16) := by kernel_rfl

theorem flat_replicate (n : Nat) : (List.replicate n [Value.int .u64 0, .int .i64 0]).flatten = flat (List.replicate n (0, 0)) := by
  induction n with
  | zero => rfl
  | succ n ih => rw [List.replicate_succ, List.replicate_succ, List.flatten_cons, ih]; rfl

theorem new_yes (n : Nat) (hn : n ≤ 1024) (w : World) :
    Calls Try.prog 24 #[.int .i64 n] w fun e w' => ∃ p g, e = .returned (.tuple #[.pointer (some ⟨p, 0, none⟩), .int .i64 0]) ∧ CellsAt w' p g (List.replicate n (0, 0)) ∧ w.grownBy w' none ∧ w.heap.size ≤ p ∧ w.heap.size ≤ g := by
  obtain ⟨i0, hi, hz0, hz1, hz2⟩ := info_parts info_one
  go_enter Try.func24, Try.ntmps24
  go_wp2_with (refine wpList_make_full _ rfl _ _ 98 rfl w.heap.size 109 i0 (.agg #[.int .u64 0, .int .i64 0]) 2 Try.underlying98 hi hz0 hz1 .i64 .i64 n n n rfl rfl rfl rfl (by rw [hz2]; omega) (by unfold maxLen; omega) (Nat.le_refl _) ?_; intro w1 hown hg)
  go_ret2
  refine ⟨w1.heap.size, w.heap.size, rfl, ?_, g_alloc hg _, hg.size, Nat.le_refl _⟩
  rw [show (Value.agg #[Value.int .u64 0, .int .i64 0]).cells = #[.int .u64 0, .int .i64 0] from rfl, madeCells_two, flat_replicate] at hown
  obtain ⟨tail, hb, hl, h1, h2, h3⟩ := row_blk hown
  refine ⟨n, tail, ?_, hb.alloc _, by simp, h2, hl, by have := hb.lt; omega⟩
  have := Blk.new w1 [.slice (some ⟨w.heap.size, 0, none⟩) n n, .bool true] 100
  simpa using this

theorem new_no (i : Int) (hi : i < 0 ∨ 1024 < i) (w : World) :
    Calls Try.prog 24 #[.int .i64 i] w fun e w' => e = .returned (.tuple #[.pointer none, .int .i64 2]) ∧ w = w' := by
  rcases hi with hi | hi
  all_goals
    go_enter Try.func24, Try.ntmps24
    go_wp2
    go_ret2
    exact ⟨rfl, rfl⟩

end Go.Proofs.Ytnpimkigiioiaaa
