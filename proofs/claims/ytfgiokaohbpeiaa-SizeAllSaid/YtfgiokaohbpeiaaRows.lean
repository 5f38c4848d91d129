/-
  No cell of these rows narrows 'for every input' (looked for: loops, veiled, ifaces, maps, wideKeys, modest, calm, conditions, laid).
  DERIVED. THE GIVEN ROWS OF THIS SEAT. 6 by the template 'for every input the law returns true; each argument reads behind the call as it read before'; 0 by the template 'total and deterministic' (their statements: YtfgiokaohbpeiaaTotals.lean).
  GIVEN WITH THE SEED: the statements are not yours to turn. If you find one false, say at which input.
  Laid BY PROGRAM, IN A SANDBOX (cutbox-rows.mjs): the forced cells as the released guide's own fill.sh prints them over the translation cbd4aa87674cd16a… (all of the seat's roots in one cut). By AI agents, Wed Nov 11 2026. No macro, syntax, notation, axiom, sorry.
-/
import Derived.Test.YtfgiokaohbpeiaaChecked
import GoSem.Claim
import GoSem.ClaimJoined
import GoSem.ClaimMapViews
import Derived.JoinedTies
import Derived.KernelRfl
namespace Go.Proofs.Ytfgiokaohbpeiaa
/- THE CELL 'sum', in the pinned program and in every row, IS THE sha256 OF THE DUMP (.gsa) THAT YtfgiokaohbpeiaaProg.lean LOADS. Nothing in Lean hashes anything: it is a label: what it is worth is what the hold of that sum in a sandbox is worth. -/
noncomputable def Try.pinned : Pinned := { name := "ytfgiokaohbpeiaa", sum := "cbd4aa87674cd16ac36b01c465f02cfc4efaabb6cfb1156fb28c18c003dc21f4", checked := Try.checked }
namespace Rows
def none {H : Type} : Left H := { results := [], args := [] }

/-- 'pinfoldlaw03.SizeClasses': WHATEVER THE INPUT: true; the input reads as it did. -/
def sizeClassesSpec : ChangeSpec := { name := "sizeClasses", fn := fun _ => fun
  | [d] => { results := [.lit (.bool true)], args := [d] }
  | _ => none }
def sizeClassesRow : OpenClaim := { program := "ytfgiokaohbpeiaa", sum := "cbd4aa87674cd16ac36b01c465f02cfc4efaabb6cfb1156fb28c18c003dc21f4", func := "pinfold/pinfoldlaw03.SizeClasses", spec := "sizeClasses", unfollowed := true, recurses := true, apart := false }
def SizeClassesSaid : Prop := sizeClassesRow.holds Try.pinned (OpenSpec.ofChange sizeClassesSpec)

/-- ITS FALSE NEIGHBOUR: 'it returns false'. Refute it at one input. -/
def sizeClassesWrong : ChangeSpec := { name := "sizeClasses", fn := fun _ => fun
  | [d] => { results := [.lit (.bool false)], args := [d] }
  | _ => none }
def SizeClassesWrongFalsely : Prop := sizeClassesRow.holds Try.pinned (OpenSpec.ofChange sizeClassesWrong)

/-- 'pinfoldlaw03.SizeFits': WHATEVER THE INPUT: true; the input reads as it did. -/
def sizeFitsSpec : ChangeSpec := { name := "sizeFits", fn := fun _ => fun
  | [d] => { results := [.lit (.bool true)], args := [d] }
  | _ => none }
def sizeFitsRow : OpenClaim := { program := "ytfgiokaohbpeiaa", sum := "cbd4aa87674cd16ac36b01c465f02cfc4efaabb6cfb1156fb28c18c003dc21f4", func := "pinfold/pinfoldlaw03.SizeFits", spec := "sizeFits", unfollowed := true, recurses := true, apart := false }
def SizeFitsSaid : Prop := sizeFitsRow.holds Try.pinned (OpenSpec.ofChange sizeFitsSpec)

/-- ITS FALSE NEIGHBOUR: 'it returns false'. Refute it at one input. -/
def sizeFitsWrong : ChangeSpec := { name := "sizeFits", fn := fun _ => fun
  | [d] => { results := [.lit (.bool false)], args := [d] }
  | _ => none }
def SizeFitsWrongFalsely : Prop := sizeFitsRow.holds Try.pinned (OpenSpec.ofChange sizeFitsWrong)

/-- 'pinfoldlaw03.SizeNeeds': WHATEVER THE INPUT: true; the input reads as it did. -/
def sizeNeedsSpec : ChangeSpec := { name := "sizeNeeds", fn := fun _ => fun
  | [d1, d2] => { results := [.lit (.bool true)], args := [d1, d2] }
  | _ => none }
def sizeNeedsRow : OpenClaim := { program := "ytfgiokaohbpeiaa", sum := "cbd4aa87674cd16ac36b01c465f02cfc4efaabb6cfb1156fb28c18c003dc21f4", func := "pinfold/pinfoldlaw03.SizeNeeds", spec := "sizeNeeds", unfollowed := true, recurses := true, apart := false }
def SizeNeedsSaid : Prop := sizeNeedsRow.holds Try.pinned (OpenSpec.ofChange sizeNeedsSpec)

/-- ITS FALSE NEIGHBOUR: 'it returns false'. Refute it at one input. -/
def sizeNeedsWrong : ChangeSpec := { name := "sizeNeeds", fn := fun _ => fun
  | [d1, d2] => { results := [.lit (.bool false)], args := [d1, d2] }
  | _ => none }
def SizeNeedsWrongFalsely : Prop := sizeNeedsRow.holds Try.pinned (OpenSpec.ofChange sizeNeedsWrong)

/-- 'pinfoldlaw03.SizeTotals': WHATEVER THE INPUT: true; the input reads as it did. -/
def sizeTotalsSpec : ChangeSpec := { name := "sizeTotals", fn := fun _ => fun
  | [d1, d2] => { results := [.lit (.bool true)], args := [d1, d2] }
  | _ => none }
def sizeTotalsRow : OpenClaim := { program := "ytfgiokaohbpeiaa", sum := "cbd4aa87674cd16ac36b01c465f02cfc4efaabb6cfb1156fb28c18c003dc21f4", func := "pinfold/pinfoldlaw03.SizeTotals", spec := "sizeTotals", unfollowed := true, recurses := true, apart := false }
def SizeTotalsSaid : Prop := sizeTotalsRow.holds Try.pinned (OpenSpec.ofChange sizeTotalsSpec)

/-- ITS FALSE NEIGHBOUR: 'it returns false'. Refute it at one input. -/
def sizeTotalsWrong : ChangeSpec := { name := "sizeTotals", fn := fun _ => fun
  | [d1, d2] => { results := [.lit (.bool false)], args := [d1, d2] }
  | _ => none }
def SizeTotalsWrongFalsely : Prop := sizeTotalsRow.holds Try.pinned (OpenSpec.ofChange sizeTotalsWrong)

/-- 'pinfoldlaw03.SizeHolds': WHATEVER THE INPUT: true; the input reads as it did. -/
def sizeHoldsSpec : ChangeSpec := { name := "sizeHolds", fn := fun _ => fun
  | [d1, d2, d3] => { results := [.lit (.bool true)], args := [d1, d2, d3] }
  | _ => none }
def sizeHoldsRow : OpenClaim := { program := "ytfgiokaohbpeiaa", sum := "cbd4aa87674cd16ac36b01c465f02cfc4efaabb6cfb1156fb28c18c003dc21f4", func := "pinfold/pinfoldlaw03.SizeHolds", spec := "sizeHolds", unfollowed := true, recurses := true, apart := false }
def SizeHoldsSaid : Prop := sizeHoldsRow.holds Try.pinned (OpenSpec.ofChange sizeHoldsSpec)

/-- ITS FALSE NEIGHBOUR: 'it returns false'. Refute it at one input. -/
def sizeHoldsWrong : ChangeSpec := { name := "sizeHolds", fn := fun _ => fun
  | [d1, d2, d3] => { results := [.lit (.bool false)], args := [d1, d2, d3] }
  | _ => none }
def SizeHoldsWrongFalsely : Prop := sizeHoldsRow.holds Try.pinned (OpenSpec.ofChange sizeHoldsWrong)

/-- 'pinfoldlaw03.SizeAll': WHATEVER THE INPUT: true; the input reads as it did. -/
def sizeAllSpec : ChangeSpec := { name := "sizeAll", fn := fun _ => fun
  | [d] => { results := [.lit (.bool true)], args := [d] }
  | _ => none }
def sizeAllRow : OpenClaim := { program := "ytfgiokaohbpeiaa", sum := "cbd4aa87674cd16ac36b01c465f02cfc4efaabb6cfb1156fb28c18c003dc21f4", func := "pinfold/pinfoldlaw03.SizeAll", spec := "sizeAll", unfollowed := true, recurses := true, apart := false }
def SizeAllSaid : Prop := sizeAllRow.holds Try.pinned (OpenSpec.ofChange sizeAllSpec)

/-- ITS FALSE NEIGHBOUR: 'it returns false'. Refute it at one input. -/
def sizeAllWrong : ChangeSpec := { name := "sizeAll", fn := fun _ => fun
  | [d] => { results := [.lit (.bool false)], args := [d] }
  | _ => none }
def SizeAllWrongFalsely : Prop := sizeAllRow.holds Try.pinned (OpenSpec.ofChange sizeAllWrong)

/- THE SECOND FORM. 'bulk': how many values and letters a reading holds, each counted each time it is reached (what is shared counts as often as it is met; a slice's spare places count too). A statement '..UptoSaid' is the law's where the arguments, and the package variables that the reading takes, are together of bulk at most 1048576: NARROWER than '..Said'. Prove '..Said' where nothing that the law and all that it calls make is longer than what came in: it says more and counts as full. Else prove '..UptoSaid'. A law counts once. -/
mutual
def uptoBulk {H : Type} : DataW H → Nat
  | .lit (.string bytes) => bytes.length + 1
  | .lit _ => 1
  | .nil => 1
  | .ptr d => uptoBulk d + 1
  | .slice elems spare => uptoBulkAll elems + uptoBulkAll spare + 1
  | .agg parts => uptoBulkAll parts + 1
  | .iface _ d => uptoBulk d + 1
  | .map entries => uptoBulkEntries entries + 1
  | .held _ => 1
def uptoBulkAll {H : Type} : List (DataW H) → Nat
  | [] => 0
  | d :: r => uptoBulk d + uptoBulkAll r
def uptoBulkEntries {H : Type} : List (Lit × DataW H) → Nat
  | [] => 0
  | x :: r => uptoBulkEntry x + uptoBulkEntries r
def uptoBulkEntry {H : Type} : Lit × DataW H → Nat
  | (.string bytes, d) => bytes.length + uptoBulk d + 1
  | (_, d) => uptoBulk d + 1
 end
def uptoSmall : (H : Type) → List (DataW H) → Bool := fun _ ds => decide (uptoBulkAll ds ≤ 1048576)
def OpenSpec.upto (s : _root_.Go.ChangeSpec) : _root_.Go.OpenSpec := { _root_.Go.OpenSpec.ofChange s with cond := some uptoSmall }

/-- 'pinfoldlaw03.SizeClasses', WHERE WHAT IT READS IS OF BULK AT MOST 1048576: true; the input reads as it did. -/
def sizeClassesUptoRow : OpenClaim := { program := "ytfgiokaohbpeiaa", sum := "cbd4aa87674cd16ac36b01c465f02cfc4efaabb6cfb1156fb28c18c003dc21f4", func := "pinfold/pinfoldlaw03.SizeClasses", spec := "sizeClasses", unfollowed := true, recurses := true, apart := false, narrowed := true }
def SizeClassesUptoSaid : Prop := sizeClassesUptoRow.holds Try.pinned (OpenSpec.upto sizeClassesSpec)

/-- 'pinfoldlaw03.SizeFits', WHERE WHAT IT READS IS OF BULK AT MOST 1048576: true; the input reads as it did. -/
def sizeFitsUptoRow : OpenClaim := { program := "ytfgiokaohbpeiaa", sum := "cbd4aa87674cd16ac36b01c465f02cfc4efaabb6cfb1156fb28c18c003dc21f4", func := "pinfold/pinfoldlaw03.SizeFits", spec := "sizeFits", unfollowed := true, recurses := true, apart := false, narrowed := true }
def SizeFitsUptoSaid : Prop := sizeFitsUptoRow.holds Try.pinned (OpenSpec.upto sizeFitsSpec)

/-- 'pinfoldlaw03.SizeNeeds', WHERE WHAT IT READS IS OF BULK AT MOST 1048576: true; the input reads as it did. -/
def sizeNeedsUptoRow : OpenClaim := { program := "ytfgiokaohbpeiaa", sum := "cbd4aa87674cd16ac36b01c465f02cfc4efaabb6cfb1156fb28c18c003dc21f4", func := "pinfold/pinfoldlaw03.SizeNeeds", spec := "sizeNeeds", unfollowed := true, recurses := true, apart := false, narrowed := true }
def SizeNeedsUptoSaid : Prop := sizeNeedsUptoRow.holds Try.pinned (OpenSpec.upto sizeNeedsSpec)

/-- 'pinfoldlaw03.SizeTotals', WHERE WHAT IT READS IS OF BULK AT MOST 1048576: true; the input reads as it did. -/
def sizeTotalsUptoRow : OpenClaim := { program := "ytfgiokaohbpeiaa", sum := "cbd4aa87674cd16ac36b01c465f02cfc4efaabb6cfb1156fb28c18c003dc21f4", func := "pinfold/pinfoldlaw03.SizeTotals", spec := "sizeTotals", unfollowed := true, recurses := true, apart := false, narrowed := true }
def SizeTotalsUptoSaid : Prop := sizeTotalsUptoRow.holds Try.pinned (OpenSpec.upto sizeTotalsSpec)

/-- 'pinfoldlaw03.SizeHolds', WHERE WHAT IT READS IS OF BULK AT MOST 1048576: true; the input reads as it did. -/
def sizeHoldsUptoRow : OpenClaim := { program := "ytfgiokaohbpeiaa", sum := "cbd4aa87674cd16ac36b01c465f02cfc4efaabb6cfb1156fb28c18c003dc21f4", func := "pinfold/pinfoldlaw03.SizeHolds", spec := "sizeHolds", unfollowed := true, recurses := true, apart := false, narrowed := true }
def SizeHoldsUptoSaid : Prop := sizeHoldsUptoRow.holds Try.pinned (OpenSpec.upto sizeHoldsSpec)

/-- 'pinfoldlaw03.SizeAll', WHERE WHAT IT READS IS OF BULK AT MOST 1048576: true; the input reads as it did. -/
def sizeAllUptoRow : OpenClaim := { program := "ytfgiokaohbpeiaa", sum := "cbd4aa87674cd16ac36b01c465f02cfc4efaabb6cfb1156fb28c18c003dc21f4", func := "pinfold/pinfoldlaw03.SizeAll", spec := "sizeAll", unfollowed := true, recurses := true, apart := false, narrowed := true }
def SizeAllUptoSaid : Prop := sizeAllUptoRow.holds Try.pinned (OpenSpec.upto sizeAllSpec)

end Rows
end Go.Proofs.Ytfgiokaohbpeiaa
