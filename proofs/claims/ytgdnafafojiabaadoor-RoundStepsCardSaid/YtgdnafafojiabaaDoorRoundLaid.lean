/-
  The library's table as the program's text lays it: what the rows' condition gives the walks, and that the door's own heap meets it.
-/
import Derived.Test.YtgdnafafojiabaaDoorRows
import Derived.Test.YtgdnafafojiabaaDoorRoundLog
import Derived.ProofKit
import Derived.LaidMore
import Derived.OpenShut
import Derived.Stop.Joined
namespace Go.Proofs.YtgdnafafojiabaaDoor
open Go.ChangeShapes Go.WideShapes Go.ChangeAt Go.WideMaps Go.WideElems Go.RowKit

def laidL : List (String × DataW Unit) := [("math/bits.deBruijn64tab", Rows.laid_math_bits_deBruijn64tab)]
theorem gTab : Tryd.prog.globalNamed "math/bits.deBruijn64tab" = some 0 := by kernel_rfl
theorem tTab : (Tryd.prog.globals[0]?).map (·.type) = some 61 := by kernel_rfl
theorem door_met (os : Os) (args : Array Value) : laidMetH Tryd.prog laidL ((World.doorLaid Tryd.prog 400 os).forCall (fun _ _ => 0) ⟨#[], args, []⟩).memory :=
  laidMetH_of_parts3 (fuel := 8) (laidMet_of_run' 8 (by kernel_rfl) (by kernel_rfl)) (by kernel_rfl) (by kernel_rfl)
theorem tab_data {H : Type} : (Rows.laid_math_bits_deBruijn64tab : DataW H) = .agg (Lib.deBruijn64tab.map fun (n : Nat) => .lit (.int .u8 (n : Int))) := rfl
theorem tab_len : Lib.deBruijn64tab.length = 64 := by decide

theorem of_laid {W : World} (h : laidMetH Tryd.prog laidL W) : Tab W := by
  rw [MakeChecks.laidMetH_plain _ _ _ (by kernel_rfl)] at h
  obtain ⟨ps, ⟨g0, t0, cs0, f0, p0, q0, hg0, ht0, hv0, hd0, _⟩, _⟩ := h
  obtain rfl := Option.some.inj (gTab.symm.trans hg0)
  obtain rfl := Option.some.inj (tTab.symm.trans ht0)
  obtain ⟨xs, m1, rfl, hx1, hlen, hn3, hel⟩ := DataW.trod_array Tryd.underlying61 hd0
  rw [tab_data] at hx1
  simp only [Prod.mk.injEq, DataW.agg.injEq] at hx1
  have ce : Tryd.prog.cellsOf 5 = 1 := by kernel_rfl
  intro j hj
  have hj' := hel j hj
  rw [ce, Nat.mul_one] at hj'
  have hjx : j < xs.length := by omega
  rw [List.getElem?_eq_getElem hjx] at hj'
  obtain ⟨k, e1, e2, _⟩ := DataW.trod_int Tryd.underlying5 hj'
  have e3 : (xs.map (·.1))[j]? = some (DataW.lit (.int .u8 k)) := by
    rw [List.getElem?_map, List.getElem?_eq_getElem hjx, e2]
    rfl
  rw [← hx1.1] at e3
  have hjt : j < Lib.deBruijn64tab.length := by rw [tab_len]; exact hj
  rw [List.getElem?_map, List.getElem?_eq_getElem hjt] at e3
  simp only [Option.map_some, Option.some.injEq, DataW.lit.injEq, Lit.int.injEq, true_and] at e3
  rw [World.var?_cell hg0 hv0 j]
  have hcj : cs0.toList[j]? = some (.int .u8 k) := by
    have h1 : ((cs0.toList.drop j).take 1)[0]? = some (.int .u8 k) := by rw [e1]; rfl
    rw [List.getElem?_take_of_lt (by decide), List.getElem?_drop] at h1
    exact h1
  rw [Array.getElem?_toList] at hcj
  rw [hcj, ← e3, List.getD_eq_getElem?_getD, List.getElem?_eq_getElem hjt]
  rfl
end Go.Proofs.YtgdnafafojiabaaDoor
