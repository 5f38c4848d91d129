/-
  Classes and sizes in memory: the classes' numbers.
-/
import Derived.Test.YtfgiokaohbpeiaaProg
import Derived.Test.YtfgiokaohbpeiaaLib
import Derived.Test.YtfgiokaohbpeiaaIter
import Derived.Test.YtfgiokaohbpeiaaScope
import Derived.Test.YtfgiokaohbpeiaaKeep
import Derived.WalkSpells
import Derived.WalkLawsBesides
import Derived.BigQuiet
import Derived.OwnWalk
import Derived.Deep.RegionHeld3
import Derived.Deep.RegionWith
import Derived.Laws.ResultCell
namespace Go.Proofs.Ytfgiokaohbpeiaa
open Go.RowKit

theorem g_drewN {w w1 : World} {row : Option Nat} (h : w.grownBy w1 none) (_ : row = row) : w.grownBy w1.drew row := ⟨h.os, h.tape, h.output, h.size, fun i hi _ => h.block i hi (by simp)⟩
theorem g_drewM {w w1 : World} {row : Option Nat} (h : w.grownBy w1 row) (n : Nat) : w.grownBy (w1.drewN n) row := ⟨h.os, h.tape, h.output, h.size, h.block⟩

/-- Two results, of which the first is a struct or an array that lies in a variable. -/
theorem results_row_tmp {P : Program} {fn : Func} {p u : Tmp} {ty : TypeId} (h : fn.results = #[.cell p ty, .tmp u]) (tmps : Array Value) (w : World) (g : Nat) (t : TypeId) (cs : Array Value) (fr : Nat × Nat) (d : TypeDesc)
    (hp : tmps.getD p undef = .pointer (some ⟨g, 0, none⟩)) (hg : w.heap[g]? = some (.cells cs t fr))
    (hu : P.underlying ty = some d) (hd : (match d with | .struct _ | .array _ _ => true | _ => false) = true) (hi : (P.info? ty).map (·.size) = some cs.size) :
    (results fn tmps).run P w = .ok (.tuple #[.agg cs, tmps.getD u undef]) w := by
  rw [results_cell_tmp h tmps P w, hp]
  simp [asAddr, run_loadVar_row w g t ty cs fr d hg hu hd hi]

def pays : List Int := [16, 32, 48, 64, 96, 128, 192, 256]
def pay (k : Nat) : Int := pays.getD k 0
theorem eight {k : Nat} (h : k < 8) : k = 0 ∨ k = 1 ∨ k = 2 ∨ k = 3 ∨ k = 4 ∨ k = 5 ∨ k = 6 ∨ k = 7 := by omega

theorem num_any (n : Int) (w : World) : Calls Try.prog 13 #[.int .i64 n] w fun e w' => e = .returned (.int .i64 n) ∧ w = w' := by
  go_enter Try.func13, Try.ntmps13
  go_wp2
  go_ret
  exact ⟨rfl, rfl⟩

def paysV : Value := .agg #[.int .i64 16, .int .i64 32, .int .i64 48, .int .i64 64, .int .i64 96, .int .i64 128, .int .i64 192, .int .i64 256]
theorem payloads_any (w : World) : Calls Try.prog 28 #[] w fun e w' => e = .returned (.agg #[.int .i64 16, .int .i64 32, .int .i64 48, .int .i64 64, .int .i64 96, .int .i64 128, .int .i64 192, .int .i64 256]) ∧ w.grownBy w' none := by
  have hb := Blk.new w [.int .i64 16, .int .i64 32, .int .i64 48, .int .i64 64, .int .i64 96, .int .i64 128, .int .i64 192, .int .i64 256] 53
  go_enter Try.func28, Try.ntmps28
  go_wp2
  refine bodyPost_ret (results_cell_row rfl _ _ w.heap.size _ _ _ _ rfl hb Try.underlying53 rfl (by kernel_rfl)) rfl ?_
  exact ⟨rfl, g_alloc (g_refl w _) _⟩

def isB (n : Int) : Bool := decide (0 ≤ n) && decide (n < 8)
theorem is_any (n : Int) (w : World) : Calls Try.prog 37 #[.int .i64 n] w fun e w' => e = .returned (.bool (isB n)) ∧ w = w' := by
  by_cases h : 0 ≤ n
  · go_enter Try.func37, Try.ntmps37
    go_wp2
    go_ret
    exact ⟨by simp [isB, h], rfl⟩
  · have e : decide (0 ≤ n) = false := by simp; omega
    go_enter Try.func37, Try.ntmps37
    go_wp2
    go_ret
    exact ⟨by simp [isB, e], rfl⟩

/-- A method of a class: what it tells of each. -/
def TellsOf (F : Nat) (f : Nat → Int) : Prop := ∀ (k : Nat), k < 8 → ∀ w : World, Calls Try.prog F #[.agg #[.int .i64 (k : Int)]] w fun e w' => e = .returned (.int .i64 (f k)) ∧ w.grownBy w' none

theorem index_0 (w : World) : (Instr.index 53 (.agg #[.int .i64 16, .int .i64 32, .int .i64 48, .int .i64 64, .int .i64 96, .int .i64 128, .int .i64 192, .int .i64 256]) (.int .i64 0)).run Try.prog w = .ok (.int .i64 16) w := by
  simp [Instr.index, run_underlying Try.underlying53, asIntOf]
  simp [part, isAgg, run_underlying Try.underlying3]
theorem index_1 (w : World) : (Instr.index 53 (.agg #[.int .i64 16, .int .i64 32, .int .i64 48, .int .i64 64, .int .i64 96, .int .i64 128, .int .i64 192, .int .i64 256]) (.int .i64 1)).run Try.prog w = .ok (.int .i64 32) w := by
  simp [Instr.index, run_underlying Try.underlying53, asIntOf]
  simp [part, isAgg, run_underlying Try.underlying3]
theorem index_2 (w : World) : (Instr.index 53 (.agg #[.int .i64 16, .int .i64 32, .int .i64 48, .int .i64 64, .int .i64 96, .int .i64 128, .int .i64 192, .int .i64 256]) (.int .i64 2)).run Try.prog w = .ok (.int .i64 48) w := by
  simp [Instr.index, run_underlying Try.underlying53, asIntOf]
  simp [part, isAgg, run_underlying Try.underlying3]
theorem index_3 (w : World) : (Instr.index 53 (.agg #[.int .i64 16, .int .i64 32, .int .i64 48, .int .i64 64, .int .i64 96, .int .i64 128, .int .i64 192, .int .i64 256]) (.int .i64 3)).run Try.prog w = .ok (.int .i64 64) w := by
  simp [Instr.index, run_underlying Try.underlying53, asIntOf]
  simp [part, isAgg, run_underlying Try.underlying3]
theorem index_4 (w : World) : (Instr.index 53 (.agg #[.int .i64 16, .int .i64 32, .int .i64 48, .int .i64 64, .int .i64 96, .int .i64 128, .int .i64 192, .int .i64 256]) (.int .i64 4)).run Try.prog w = .ok (.int .i64 96) w := by
  simp [Instr.index, run_underlying Try.underlying53, asIntOf]
  simp [part, isAgg, run_underlying Try.underlying3]
theorem index_5 (w : World) : (Instr.index 53 (.agg #[.int .i64 16, .int .i64 32, .int .i64 48, .int .i64 64, .int .i64 96, .int .i64 128, .int .i64 192, .int .i64 256]) (.int .i64 5)).run Try.prog w = .ok (.int .i64 128) w := by
  simp [Instr.index, run_underlying Try.underlying53, asIntOf]
  simp [part, isAgg, run_underlying Try.underlying3]
theorem index_6 (w : World) : (Instr.index 53 (.agg #[.int .i64 16, .int .i64 32, .int .i64 48, .int .i64 64, .int .i64 96, .int .i64 128, .int .i64 192, .int .i64 256]) (.int .i64 6)).run Try.prog w = .ok (.int .i64 192) w := by
  simp [Instr.index, run_underlying Try.underlying53, asIntOf]
  simp [part, isAgg, run_underlying Try.underlying3]
theorem index_7 (w : World) : (Instr.index 53 (.agg #[.int .i64 16, .int .i64 32, .int .i64 48, .int .i64 64, .int .i64 96, .int .i64 128, .int .i64 192, .int .i64 256]) (.int .i64 7)).run Try.prog w = .ok (.int .i64 256) w := by
  simp [Instr.index, run_underlying Try.underlying53, asIntOf]
  simp [part, isAgg, run_underlying Try.underlying3]
theorem payload_0 (w : World) : Calls Try.prog 25 #[.agg #[.int .i64 0]] w fun e w' => e = .returned (.int .i64 (pay 0)) ∧ w.grownBy w' none := by
  have b1 := (Blk.new w [.int .i64 0] 52).cellOf (i := 0) rfl
  have hgA := g_alloc (g_refl w none) (.cells #[.int .i64 0] 52)
  have hS1 : (w.alloc (.cells #[.int .i64 0] 52)).drew.cell? ⟨w.heap.size, 0, none⟩ = some (.int .i64 0) ∧ w.grownBy (w.alloc (.cells #[.int .i64 0] 52)).drew none := ⟨b1, g_drewN hgA rfl⟩
  have hidx := index_0
  go_enter Try.func25, Try.ntmps25
  go_wp2_with fail
  go_region_held3 (fun w' => w'.cell? ⟨w.heap.size, 0, none⟩ = some (.int .i64 0) ∧ w.grownBy w' none)
    (first | assumption | exact ⟨g_cellN hg2 (And.left (by assumption)), g_none (And.right (by assumption)) hg2⟩)
    (first | (go_at_call 28; refine (payloads_any _).mono ?_; rintro e w2 ⟨rfl, hg2⟩) | fail)
  go_wp2
  go_ret
  exact ⟨rfl, And.right (by assumption)⟩
theorem payload_1 (w : World) : Calls Try.prog 25 #[.agg #[.int .i64 1]] w fun e w' => e = .returned (.int .i64 (pay 1)) ∧ w.grownBy w' none := by
  have b1 := (Blk.new w [.int .i64 1] 52).cellOf (i := 0) rfl
  have hgA := g_alloc (g_refl w none) (.cells #[.int .i64 1] 52)
  have hS1 : (w.alloc (.cells #[.int .i64 1] 52)).drew.cell? ⟨w.heap.size, 0, none⟩ = some (.int .i64 1) ∧ w.grownBy (w.alloc (.cells #[.int .i64 1] 52)).drew none := ⟨b1, g_drewN hgA rfl⟩
  have hidx := index_1
  go_enter Try.func25, Try.ntmps25
  go_wp2_with fail
  go_region_held3 (fun w' => w'.cell? ⟨w.heap.size, 0, none⟩ = some (.int .i64 1) ∧ w.grownBy w' none)
    (first | assumption | exact ⟨g_cellN hg2 (And.left (by assumption)), g_none (And.right (by assumption)) hg2⟩)
    (first | (go_at_call 28; refine (payloads_any _).mono ?_; rintro e w2 ⟨rfl, hg2⟩) | fail)
  go_wp2
  go_ret
  exact ⟨rfl, And.right (by assumption)⟩
theorem payload_2 (w : World) : Calls Try.prog 25 #[.agg #[.int .i64 2]] w fun e w' => e = .returned (.int .i64 (pay 2)) ∧ w.grownBy w' none := by
  have b1 := (Blk.new w [.int .i64 2] 52).cellOf (i := 0) rfl
  have hgA := g_alloc (g_refl w none) (.cells #[.int .i64 2] 52)
  have hS1 : (w.alloc (.cells #[.int .i64 2] 52)).drew.cell? ⟨w.heap.size, 0, none⟩ = some (.int .i64 2) ∧ w.grownBy (w.alloc (.cells #[.int .i64 2] 52)).drew none := ⟨b1, g_drewN hgA rfl⟩
  have hidx := index_2
  go_enter Try.func25, Try.ntmps25
  go_wp2_with fail
  go_region_held3 (fun w' => w'.cell? ⟨w.heap.size, 0, none⟩ = some (.int .i64 2) ∧ w.grownBy w' none)
    (first | assumption | exact ⟨g_cellN hg2 (And.left (by assumption)), g_none (And.right (by assumption)) hg2⟩)
    (first | (go_at_call 28; refine (payloads_any _).mono ?_; rintro e w2 ⟨rfl, hg2⟩) | fail)
  go_wp2
  go_ret
  exact ⟨rfl, And.right (by assumption)⟩
theorem payload_3 (w : World) : Calls Try.prog 25 #[.agg #[.int .i64 3]] w fun e w' => e = .returned (.int .i64 (pay 3)) ∧ w.grownBy w' none := by
  have b1 := (Blk.new w [.int .i64 3] 52).cellOf (i := 0) rfl
  have hgA := g_alloc (g_refl w none) (.cells #[.int .i64 3] 52)
  have hS1 : (w.alloc (.cells #[.int .i64 3] 52)).drew.cell? ⟨w.heap.size, 0, none⟩ = some (.int .i64 3) ∧ w.grownBy (w.alloc (.cells #[.int .i64 3] 52)).drew none := ⟨b1, g_drewN hgA rfl⟩
  have hidx := index_3
  go_enter Try.func25, Try.ntmps25
  go_wp2_with fail
  go_region_held3 (fun w' => w'.cell? ⟨w.heap.size, 0, none⟩ = some (.int .i64 3) ∧ w.grownBy w' none)
    (first | assumption | exact ⟨g_cellN hg2 (And.left (by assumption)), g_none (And.right (by assumption)) hg2⟩)
    (first | (go_at_call 28; refine (payloads_any _).mono ?_; rintro e w2 ⟨rfl, hg2⟩) | fail)
  go_wp2
  go_ret
  exact ⟨rfl, And.right (by assumption)⟩
theorem payload_4 (w : World) : Calls Try.prog 25 #[.agg #[.int .i64 4]] w fun e w' => e = .returned (.int .i64 (pay 4)) ∧ w.grownBy w' none := by
  have b1 := (Blk.new w [.int .i64 4] 52).cellOf (i := 0) rfl
  have hgA := g_alloc (g_refl w none) (.cells #[.int .i64 4] 52)
  have hS1 : (w.alloc (.cells #[.int .i64 4] 52)).drew.cell? ⟨w.heap.size, 0, none⟩ = some (.int .i64 4) ∧ w.grownBy (w.alloc (.cells #[.int .i64 4] 52)).drew none := ⟨b1, g_drewN hgA rfl⟩
  have hidx := index_4
  go_enter Try.func25, Try.ntmps25
  go_wp2_with fail
  go_region_held3 (fun w' => w'.cell? ⟨w.heap.size, 0, none⟩ = some (.int .i64 4) ∧ w.grownBy w' none)
    (first | assumption | exact ⟨g_cellN hg2 (And.left (by assumption)), g_none (And.right (by assumption)) hg2⟩)
    (first | (go_at_call 28; refine (payloads_any _).mono ?_; rintro e w2 ⟨rfl, hg2⟩) | fail)
  go_wp2
  go_ret
  exact ⟨rfl, And.right (by assumption)⟩
theorem payload_5 (w : World) : Calls Try.prog 25 #[.agg #[.int .i64 5]] w fun e w' => e = .returned (.int .i64 (pay 5)) ∧ w.grownBy w' none := by
  have b1 := (Blk.new w [.int .i64 5] 52).cellOf (i := 0) rfl
  have hgA := g_alloc (g_refl w none) (.cells #[.int .i64 5] 52)
  have hS1 : (w.alloc (.cells #[.int .i64 5] 52)).drew.cell? ⟨w.heap.size, 0, none⟩ = some (.int .i64 5) ∧ w.grownBy (w.alloc (.cells #[.int .i64 5] 52)).drew none := ⟨b1, g_drewN hgA rfl⟩
  have hidx := index_5
  go_enter Try.func25, Try.ntmps25
  go_wp2_with fail
  go_region_held3 (fun w' => w'.cell? ⟨w.heap.size, 0, none⟩ = some (.int .i64 5) ∧ w.grownBy w' none)
    (first | assumption | exact ⟨g_cellN hg2 (And.left (by assumption)), g_none (And.right (by assumption)) hg2⟩)
    (first | (go_at_call 28; refine (payloads_any _).mono ?_; rintro e w2 ⟨rfl, hg2⟩) | fail)
  go_wp2
  go_ret
  exact ⟨rfl, And.right (by assumption)⟩
theorem payload_6 (w : World) : Calls Try.prog 25 #[.agg #[.int .i64 6]] w fun e w' => e = .returned (.int .i64 (pay 6)) ∧ w.grownBy w' none := by
  have b1 := (Blk.new w [.int .i64 6] 52).cellOf (i := 0) rfl
  have hgA := g_alloc (g_refl w none) (.cells #[.int .i64 6] 52)
  have hS1 : (w.alloc (.cells #[.int .i64 6] 52)).drew.cell? ⟨w.heap.size, 0, none⟩ = some (.int .i64 6) ∧ w.grownBy (w.alloc (.cells #[.int .i64 6] 52)).drew none := ⟨b1, g_drewN hgA rfl⟩
  have hidx := index_6
  go_enter Try.func25, Try.ntmps25
  go_wp2_with fail
  go_region_held3 (fun w' => w'.cell? ⟨w.heap.size, 0, none⟩ = some (.int .i64 6) ∧ w.grownBy w' none)
    (first | assumption | exact ⟨g_cellN hg2 (And.left (by assumption)), g_none (And.right (by assumption)) hg2⟩)
    (first | (go_at_call 28; refine (payloads_any _).mono ?_; rintro e w2 ⟨rfl, hg2⟩) | fail)
  go_wp2
  go_ret
  exact ⟨rfl, And.right (by assumption)⟩
theorem payload_7 (w : World) : Calls Try.prog 25 #[.agg #[.int .i64 7]] w fun e w' => e = .returned (.int .i64 (pay 7)) ∧ w.grownBy w' none := by
  have b1 := (Blk.new w [.int .i64 7] 52).cellOf (i := 0) rfl
  have hgA := g_alloc (g_refl w none) (.cells #[.int .i64 7] 52)
  have hS1 : (w.alloc (.cells #[.int .i64 7] 52)).drew.cell? ⟨w.heap.size, 0, none⟩ = some (.int .i64 7) ∧ w.grownBy (w.alloc (.cells #[.int .i64 7] 52)).drew none := ⟨b1, g_drewN hgA rfl⟩
  have hidx := index_7
  go_enter Try.func25, Try.ntmps25
  go_wp2_with fail
  go_region_held3 (fun w' => w'.cell? ⟨w.heap.size, 0, none⟩ = some (.int .i64 7) ∧ w.grownBy w' none)
    (first | assumption | exact ⟨g_cellN hg2 (And.left (by assumption)), g_none (And.right (by assumption)) hg2⟩)
    (first | (go_at_call 28; refine (payloads_any _).mono ?_; rintro e w2 ⟨rfl, hg2⟩) | fail)
  go_wp2
  go_ret
  exact ⟨rfl, And.right (by assumption)⟩
theorem payload_tells : TellsOf 25 pay := by
  intro k hk w
  rcases eight hk with rfl | rfl | rfl | rfl | rfl | rfl | rfl | rfl
  · exact payload_0 w
  · exact payload_1 w
  · exact payload_2 w
  · exact payload_3 w
  · exact payload_4 w
  · exact payload_5 w
  · exact payload_6 w
  · exact payload_7 w
theorem slot_tells : TellsOf 26 (fun k => 16 + pay k + 16) := by
  intro k hk w
  have hgA := g_alloc (g_refl w none) (.cells #[.int .i64 (k : Int)] 52)
  have b1 := (Blk.new w [.int .i64 (k : Int)] 52).cellOf (i := 0) rfl
  have hp := payload_tells k hk (w.alloc (.cells #[.int .i64 (k : Int)] 52))
  have hb : 0 ≤ pay k ∧ pay k ≤ 256 := by rcases eight hk with rfl | rfl | rfl | rfl | rfl | rfl | rfl | rfl <;> decide
  obtain ⟨P, hP⟩ : ∃ P, P = pay k := ⟨_, rfl⟩
  show Calls _ _ _ _ (fun e w' => e = .returned (.int .i64 (16 + pay k + 16)) ∧ w.grownBy w' none)
  rw [← hP] at hp hb ⊢
  clear hP
  go_enter Try.func26, Try.ntmps26
  go_wp2_with fail
  refine hp.mono ?_
  rintro e w1 ⟨rfl, hg1⟩
  go_wp2
  go_ret
  exact ⟨by go_num, g_none hgA hg1⟩
theorem count_tells : TellsOf 27 (fun k => 4096 / (16 + pay k + 16)) := by
  intro k hk w
  have hgA := g_alloc (g_refl w none) (.cells #[.int .i64 (k : Int)] 52)
  have b1 := (Blk.new w [.int .i64 (k : Int)] 52).cellOf (i := 0) rfl
  have hp := slot_tells k hk (w.alloc (.cells #[.int .i64 (k : Int)] 52))
  have hb : 0 ≤ pay k ∧ pay k ≤ 256 := by rcases eight hk with rfl | rfl | rfl | rfl | rfl | rfl | rfl | rfl <;> decide
  simp only [] at hp ⊢
  obtain ⟨S, hS⟩ : ∃ S, S = 16 + pay k + 16 := ⟨_, rfl⟩
  rw [← hS] at hp ⊢
  have hS1 : 1 ≤ S ∧ S ≤ 300 := by omega
  have hne : ¬ S = 0 := by omega
  clear hS
  go_enter Try.func27, Try.ntmps27
  go_wp2_with fail
  refine hp.mono ?_
  rintro e w1 ⟨rfl, hg1⟩
  go_wp2
  go_ret
  exact ⟨rfl, g_none hgA hg1⟩

theorem told_no (n : Int) (hn : isB n = false) (of : Value) (w : World) :
    Calls Try.prog 24 #[.int .i64 n, of] w fun e w' => e = .returned (.tuple #[.int .i64 0, .int .i64 2]) ∧ w.grownBy w' none := by
  have hgA := g_alloc (g_refl w none) (.cells #[.int .i64 n] 52)
  have b1 := (Blk.new w [.int .i64 n] 52).cellOf (i := 0) rfl
  go_enter Try.func24, Try.ntmps24
  go_wp2
  refine wp_scope_fwd 0 rfl ?_
  go_wp2_with fail
  refine (is_any n _).mono ?_
  rintro e w1 ⟨rfl, rfl⟩
  simp only [hn]
  go_wp2_with fail
  go_step3
  simp only [Exit.then]
  refine fwd_goto ?_
  go_wp2
  refine noGoto_retI ?_
  go_ret2
  exact ⟨rfl, hgA⟩
theorem told_p (k : Nat) (hk : k < 8) (f : Nat → Int) (hf : TellsOf 25 f) (w : World) :
    Calls Try.prog 24 #[.int .i64 (k : Int), .func (.func 25) #[] #[]] w fun e w' => e = .returned (.tuple #[.int .i64 (f k), .int .i64 0]) ∧ w.grownBy w' none := by
  have hgA := g_alloc (g_refl w none) (.cells #[.int .i64 (k : Int)] 52)
  have b1 := (Blk.new w [.int .i64 (k : Int)] 52).cellOf (i := 0) rfl
  have hi : isB (k : Int) = true := by simp [isB]; omega
  go_enter Try.func24, Try.ntmps24
  go_wp2
  refine wp_scope_fwd 0 rfl ?_
  go_wp2_with fail
  refine (is_any (k : Int) _).mono ?_
  rintro e w1 ⟨rfl, rfl⟩
  simp only [hi]
  go_wp2_with fail
  refine (hf k hk _).mono ?_
  rintro e w2 ⟨rfl, hg2⟩
  go_wp2_with fail
  refine fwd_retI ?_
  go_ret2
  exact ⟨rfl, g_none hgA hg2⟩
theorem told_s (k : Nat) (hk : k < 8) (f : Nat → Int) (hf : TellsOf 26 f) (w : World) :
    Calls Try.prog 24 #[.int .i64 (k : Int), .func (.func 26) #[] #[]] w fun e w' => e = .returned (.tuple #[.int .i64 (f k), .int .i64 0]) ∧ w.grownBy w' none := by
  have hgA := g_alloc (g_refl w none) (.cells #[.int .i64 (k : Int)] 52)
  have b1 := (Blk.new w [.int .i64 (k : Int)] 52).cellOf (i := 0) rfl
  have hi : isB (k : Int) = true := by simp [isB]; omega
  go_enter Try.func24, Try.ntmps24
  go_wp2
  refine wp_scope_fwd 0 rfl ?_
  go_wp2_with fail
  refine (is_any (k : Int) _).mono ?_
  rintro e w1 ⟨rfl, rfl⟩
  simp only [hi]
  go_wp2_with fail
  refine (hf k hk _).mono ?_
  rintro e w2 ⟨rfl, hg2⟩
  go_wp2_with fail
  refine fwd_retI ?_
  go_ret2
  exact ⟨rfl, g_none hgA hg2⟩
theorem told_c (k : Nat) (hk : k < 8) (f : Nat → Int) (hf : TellsOf 27 f) (w : World) :
    Calls Try.prog 24 #[.int .i64 (k : Int), .func (.func 27) #[] #[]] w fun e w' => e = .returned (.tuple #[.int .i64 (f k), .int .i64 0]) ∧ w.grownBy w' none := by
  have hgA := g_alloc (g_refl w none) (.cells #[.int .i64 (k : Int)] 52)
  have b1 := (Blk.new w [.int .i64 (k : Int)] 52).cellOf (i := 0) rfl
  have hi : isB (k : Int) = true := by simp [isB]; omega
  go_enter Try.func24, Try.ntmps24
  go_wp2
  refine wp_scope_fwd 0 rfl ?_
  go_wp2_with fail
  refine (is_any (k : Int) _).mono ?_
  rintro e w1 ⟨rfl, rfl⟩
  simp only [hi]
  go_wp2_with fail
  refine (hf k hk _).mono ?_
  rintro e w2 ⟨rfl, hg2⟩
  go_wp2_with fail
  refine fwd_retI ?_
  go_ret2
  exact ⟨rfl, g_none hgA hg2⟩
theorem payload_ok (k : Nat) (hk : k < 8) (w : World) : Calls Try.prog 9 #[.int .i64 (k : Int)] w fun e w' => e = .returned (.tuple #[.int .i64 (pay k), .int .i64 0]) ∧ w.grownBy w' none := by
  have ht := told_p k hk _ payload_tells w
  go_enter Try.func9, Try.ntmps9
  go_wp2_with fail
  refine ht.mono ?_
  rintro e w1 ⟨rfl, hg1⟩
  go_wp2
  go_ret2
  exact ⟨rfl, hg1⟩
theorem payload_no (n : Int) (hn : isB n = false) (w : World) : Calls Try.prog 9 #[.int .i64 n] w fun e w' => e = .returned (.tuple #[.int .i64 0, .int .i64 2]) ∧ w.grownBy w' none := by
  go_enter Try.func9, Try.ntmps9
  go_wp2_with fail
  refine (told_no n hn _ w).mono ?_
  rintro e w1 ⟨rfl, hg1⟩
  go_wp2
  go_ret2
  exact ⟨rfl, hg1⟩
theorem slot_ok (k : Nat) (hk : k < 8) (w : World) : Calls Try.prog 10 #[.int .i64 (k : Int)] w fun e w' => e = .returned (.tuple #[.int .i64 (16 + pay k + 16), .int .i64 0]) ∧ w.grownBy w' none := by
  have ht := told_s k hk _ slot_tells w
  go_enter Try.func10, Try.ntmps10
  go_wp2_with fail
  refine ht.mono ?_
  rintro e w1 ⟨rfl, hg1⟩
  go_wp2
  go_ret2
  exact ⟨rfl, hg1⟩
theorem slot_no (n : Int) (hn : isB n = false) (w : World) : Calls Try.prog 10 #[.int .i64 n] w fun e w' => e = .returned (.tuple #[.int .i64 0, .int .i64 2]) ∧ w.grownBy w' none := by
  go_enter Try.func10, Try.ntmps10
  go_wp2_with fail
  refine (told_no n hn _ w).mono ?_
  rintro e w1 ⟨rfl, hg1⟩
  go_wp2
  go_ret2
  exact ⟨rfl, hg1⟩
theorem count_ok (k : Nat) (hk : k < 8) (w : World) : Calls Try.prog 11 #[.int .i64 (k : Int)] w fun e w' => e = .returned (.tuple #[.int .i64 (4096 / (16 + pay k + 16)), .int .i64 0]) ∧ w.grownBy w' none := by
  have ht := told_c k hk _ count_tells w
  go_enter Try.func11, Try.ntmps11
  go_wp2_with fail
  refine ht.mono ?_
  rintro e w1 ⟨rfl, hg1⟩
  go_wp2
  go_ret2
  exact ⟨rfl, hg1⟩
theorem count_no (n : Int) (hn : isB n = false) (w : World) : Calls Try.prog 11 #[.int .i64 n] w fun e w' => e = .returned (.tuple #[.int .i64 0, .int .i64 2]) ∧ w.grownBy w' none := by
  go_enter Try.func11, Try.ntmps11
  go_wp2_with fail
  refine (told_no n hn _ w).mono ?_
  rintro e w1 ⟨rfl, hg1⟩
  go_wp2
  go_ret2
  exact ⟨rfl, hg1⟩
end Go.Proofs.Ytfgiokaohbpeiaa
