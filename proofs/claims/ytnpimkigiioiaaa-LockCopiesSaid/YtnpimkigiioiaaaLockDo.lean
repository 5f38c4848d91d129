/-
  New, Try, Free, Drop, Holder, Copy.
-/
import Derived.Test.YtnpimkigiioiaaaLockAsk
namespace Go.Proofs.Ytnpimkigiioiaaa
open Go.RowKit
set_option maxRecDepth 100000

theorem rank_any (v : Option Addr) (n : Int) (w : World) :
    Calls Try.prog 40 #[.pointer v, .int .i64 n] w fun e w' => ∃ f, e = .returned (.agg #[f, .int .i64 4]) ∧ w.grownBy w' none ∧ ∀ p pc g K l, v = some ⟨p, 0, none⟩ → LockAt w p pc g K l → WrongAt w' f (!inL l n) := by
  have hcl := ((Blk.new w [.pointer v] 25).alloc (.cells #[.int .i64 n] 3)).cellOf (i := 0) rfl
  have hcn := (Blk.new (w.alloc (.cells #[.pointer v] 25)) [.int .i64 n] 3).cellOf (i := 0) rfl
  rw [World.size_alloc] at hcn
  have hg1 := g_alloc (g_alloc (g_refl w none) (.cells #[.pointer v] 25)) (.cells #[.int .i64 n] 3)
  have hb := Blk.new ((w.alloc (.cells #[.pointer v] 25)).alloc (.cells #[.int .i64 n] 3)) [.func (.func 62) #[] #[.pointer (some ⟨w.heap.size + 1, 0, none⟩), .pointer (some ⟨w.heap.size, 0, none⟩)], .int .i64 4] 75
  have hg2 := g_alloc (g_refl ((w.alloc (.cells #[.pointer v] 25)).alloc (.cells #[.int .i64 n] 3)) none) (.cells #[.func (.func 62) #[] #[.pointer (some ⟨w.heap.size + 1, 0, none⟩), .pointer (some ⟨w.heap.size, 0, none⟩)], .int .i64 4] 75)
  go_enter Try.func40, Try.ntmps40
  go_wp2
  refine bodyPost_ret (results_cell_row rfl _ _ (w.heap.size + 1 + 1) _ _ _ _ rfl (by rw [World.size_alloc, World.size_alloc] at hb; exact hb) Try.underlying75 rfl (by kernel_rfl)) rfl ?_
  refine ⟨_, rfl, g_none hg1 hg2, fun p pc g K l hv hL => ⟨_, _, _, rfl, Go.Proofs.enters_of Try.func62 (by kernel_rfl) rfl, fun W hW => ?_⟩⟩
  subst hv
  exact rank1_any p pc g K l n _ _ W (hL.keptN (g_none hg1 (g_none hg2 hW))) (g_cellN (g_none hg2 hW) hcn) (g_cellN (g_none hg2 hW) hcl)

theorem order11_any (r n : Int) (nb : Nat) (w : World) (hn : w.cell? ⟨nb, 0, none⟩ = some (.int .i64 n)) :
    Calls Try.prog 60 #[.int .i64 r, .pointer (some ⟨nb, 0, none⟩)] w fun e w' => e = .returned (.bool (decide (n ≤ r))) ∧ w = w' := by
  go_enter Try.func60, Try.ntmps60
  go_wp2
  go_ret
  exact ⟨rfl, rfl⟩
theorem order1_any (p pc g K : Nat) (l : List Int) (t n : Int) (lb tb nb : Nat) (w : World) (h : LockAt w p pc g K l) (hl : w.cell? ⟨lb, 0, none⟩ = some (.pointer (some ⟨p, 0, none⟩))) (ht : w.cell? ⟨tb, 0, none⟩ = some (.int .i64 t)) (hn : w.cell? ⟨nb, 0, none⟩ = some (.int .i64 n)) :
    Calls Try.prog 59 #[.pointer (some ⟨lb, 0, none⟩), .pointer (some ⟨tb, 0, none⟩), .pointer (some ⟨nb, 0, none⟩)] w fun e w' => e = .returned (.bool (ordB l t n)) ∧ w.grownBy w' none := by
  go_enter Try.func59, Try.ntmps59
  go_wp2_with fail
  refine (held_some p pc g K l t w h).mono ?_
  rintro e w1 ⟨v', rfl, hI, hg1, _⟩
  have hn1 := g_cellN hg1 hn
  have hC := containsFunc_any 60 #[.pointer (some ⟨nb, 0, none⟩)] (Go.Proofs.enters_of Try.func60 (by kernel_rfl) rfl) v' (heldL l t) (fun r => decide (n ≤ r)) w1 hI (fun r => order11_any r n nb w1 hn1)
  have HC := hid hC
  clear hC
  go_wp2_with fail
  refine HC.out.mono ?_
  rintro e _ ⟨rfl, rfl⟩
  go_wp2_with fail
  go_ret
  exact ⟨rfl, hg1⟩
theorem order_any (v : Option Addr) (t n : Int) (w : World) :
    Calls Try.prog 37 #[.pointer v, .int .i64 t, .int .i64 n] w fun e w' => ∃ f, e = .returned (.agg #[f, .int .i64 220]) ∧ w.grownBy w' none ∧ ∀ p pc g K l, v = some ⟨p, 0, none⟩ → LockAt w p pc g K l → WrongAt w' f (ordB l t n) := by
  obtain ⟨w3, hw3⟩ : ∃ w3, w3 = ((w.alloc (.cells #[.pointer v] 25)).alloc (.cells #[.int .i64 t] 3)).alloc (.cells #[.int .i64 n] 3) := ⟨_, rfl⟩
  have hcl := (((Blk.new w [.pointer v] 25).alloc (.cells #[.int .i64 t] 3)).alloc (.cells #[.int .i64 n] 3)).cellOf (i := 0) rfl
  have hct := ((Blk.new (w.alloc (.cells #[.pointer v] 25)) [.int .i64 t] 3).alloc (.cells #[.int .i64 n] 3)).cellOf (i := 0) rfl
  have hcn := (Blk.new ((w.alloc (.cells #[.pointer v] 25)).alloc (.cells #[.int .i64 t] 3)) [.int .i64 n] 3).cellOf (i := 0) rfl
  have hg1 := g_alloc (g_alloc (g_alloc (g_refl w none) (.cells #[.pointer v] 25)) (.cells #[.int .i64 t] 3)) (.cells #[.int .i64 n] 3)
  rw [World.size_alloc] at hct hcn
  rw [World.size_alloc] at hcn
  have hs3 : w3.heap.size = w.heap.size + 1 + 1 + 1 := by rw [hw3]; simp
  have hb := Blk.new w3 [.func (.func 59) #[] #[.pointer (some ⟨w.heap.size, 0, none⟩), .pointer (some ⟨w.heap.size + 1, 0, none⟩), .pointer (some ⟨w.heap.size + 1 + 1, 0, none⟩)], .int .i64 220] 75
  have hg2 := g_alloc (g_refl w3 none) (.cells #[.func (.func 59) #[] #[.pointer (some ⟨w.heap.size, 0, none⟩), .pointer (some ⟨w.heap.size + 1, 0, none⟩), .pointer (some ⟨w.heap.size + 1 + 1, 0, none⟩)], .int .i64 220] 75)
  rw [hs3] at hb
  subst hw3
  clear hs3
  go_enter Try.func37, Try.ntmps37
  go_wp2
  refine bodyPost_ret (results_cell_row rfl _ _ (w.heap.size + 1 + 1 + 1) _ _ _ _ rfl hb Try.underlying75 rfl (by kernel_rfl)) rfl ?_
  refine ⟨_, rfl, g_none hg1 hg2, fun p pc g K l hv hL => ⟨_, _, _, rfl, Go.Proofs.enters_of Try.func59 (by kernel_rfl) rfl, fun W hW => ?_⟩⟩
  subst hv
  exact order1_any p pc g K l t n _ _ _ W (hL.keptN (g_none hg1 (g_none hg2 hW))) (g_cellN (g_none hg2 hW) hcl) (g_cellN (g_none hg2 hW) hct) (g_cellN (g_none hg2 hW) hcn)

theorem mine_any (t : Int) (h : thB t = true) (w : World) : Calls Try.prog 42 #[.int .i64 t] w fun e w' => e = .returned (.int .u64 (t + 1)) ∧ w' = w := by
  have h' : 0 ≤ t ∧ t < 4 := by simpa [thB] using h
  obtain ⟨h0, h1⟩ := h'
  clear h
  go_enter Try.func42, Try.ntmps42
  go_wp2
  go_ret
  exact ⟨rfl, rfl⟩
end Go.Proofs.Ytnpimkigiioiaaa
