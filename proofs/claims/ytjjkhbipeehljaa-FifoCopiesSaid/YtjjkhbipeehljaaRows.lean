/-
  No cell of these rows narrows 'for every input' (looked for: loops, veiled, ifaces, maps, wideKeys, modest, calm, conditions, laid).
  DERIVED. THE GIVEN ROWS OF THIS SEAT. 3 by the template 'for every input the law returns true; each argument reads behind the call as it read before'; 0 by the template 'total and deterministic' (their statements: YtjjkhbipeehljaaTotals.lean).
  GIVEN WITH THE SEED: the statements are not yours to turn. If you find one false, say at which input.
  Laid BY PROGRAM, IN A SANDBOX (cutbox-rows.mjs): the forced cells as the released guide's own fill.sh prints them over the translation 4ededf1e9c74e426… (all of the seat's roots in one cut). By AI agents, Wed Nov 11 2026. No macro, syntax, notation, axiom, sorry.
-/
import Derived.Test.YtjjkhbipeehljaaChecked
import GoSem.Claim
import GoSem.ClaimJoined
import GoSem.ClaimMapViews
import Derived.JoinedTies
import Derived.KernelRfl
namespace Go.Proofs.Ytjjkhbipeehljaa
/- THE CELL 'sum', in the pinned program and in every row, IS THE sha256 OF THE DUMP (.gsa) THAT YtjjkhbipeehljaaProg.lean LOADS. Nothing in Lean hashes anything: it is a label: what it is worth is what the hold of that sum in a sandbox is worth. -/
noncomputable def Try.pinned : Pinned := { name := "ytjjkhbipeehljaa", sum := "4ededf1e9c74e426e6a2399a042b6b80cb9ad84bb8f6090f976605a063453092", checked := Try.checked }
namespace Rows
def none {H : Type} : Left H := { results := [], args := [] }

/-- 'pinfoldlaw19.FifoHolds': WHATEVER THE INPUT: true; the input reads as it did. -/
def fifoHoldsSpec : ChangeSpec := { name := "fifoHolds", fn := fun _ => fun
  | [d1, d2] => { results := [.lit (.bool true)], args := [d1, d2] }
  | _ => none }
def fifoHoldsRow : OpenClaim := { program := "ytjjkhbipeehljaa", sum := "4ededf1e9c74e426e6a2399a042b6b80cb9ad84bb8f6090f976605a063453092", func := "pinfold/pinfoldlaw19.FifoHolds", spec := "fifoHolds", unfollowed := true, recurses := true, apart := false }
def FifoHoldsSaid : Prop := fifoHoldsRow.holds Try.pinned (OpenSpec.ofChange fifoHoldsSpec)

/-- ITS FALSE NEIGHBOUR: 'it returns false'. Refute it at one input. -/
def fifoHoldsWrong : ChangeSpec := { name := "fifoHolds", fn := fun _ => fun
  | [d1, d2] => { results := [.lit (.bool false)], args := [d1, d2] }
  | _ => none }
def FifoHoldsWrongFalsely : Prop := fifoHoldsRow.holds Try.pinned (OpenSpec.ofChange fifoHoldsWrong)

/-- 'pinfoldlaw19.FifoPlays': WHATEVER THE INPUT: true; the input reads as it did. -/
def fifoPlaysSpec : ChangeSpec := { name := "fifoPlays", fn := fun _ => fun
  | [d1, d2] => { results := [.lit (.bool true)], args := [d1, d2] }
  | _ => none }
def fifoPlaysRow : OpenClaim := { program := "ytjjkhbipeehljaa", sum := "4ededf1e9c74e426e6a2399a042b6b80cb9ad84bb8f6090f976605a063453092", func := "pinfold/pinfoldlaw19.FifoPlays", spec := "fifoPlays", unfollowed := true, recurses := true, apart := false }
def FifoPlaysSaid : Prop := fifoPlaysRow.holds Try.pinned (OpenSpec.ofChange fifoPlaysSpec)

/-- ITS FALSE NEIGHBOUR: 'it returns false'. Refute it at one input. -/
def fifoPlaysWrong : ChangeSpec := { name := "fifoPlays", fn := fun _ => fun
  | [d1, d2] => { results := [.lit (.bool false)], args := [d1, d2] }
  | _ => none }
def FifoPlaysWrongFalsely : Prop := fifoPlaysRow.holds Try.pinned (OpenSpec.ofChange fifoPlaysWrong)

/-- 'pinfoldlaw19.FifoCopies': WHATEVER THE INPUT: true; the input reads as it did. -/
def fifoCopiesSpec : ChangeSpec := { name := "fifoCopies", fn := fun _ => fun
  | [d1, d2, d3] => { results := [.lit (.bool true)], args := [d1, d2, d3] }
  | _ => none }
def fifoCopiesRow : OpenClaim := { program := "ytjjkhbipeehljaa", sum := "4ededf1e9c74e426e6a2399a042b6b80cb9ad84bb8f6090f976605a063453092", func := "pinfold/pinfoldlaw19.FifoCopies", spec := "fifoCopies", unfollowed := true, recurses := true, apart := false }
def FifoCopiesSaid : Prop := fifoCopiesRow.holds Try.pinned (OpenSpec.ofChange fifoCopiesSpec)

/-- ITS FALSE NEIGHBOUR: 'it returns false'. Refute it at one input. -/
def fifoCopiesWrong : ChangeSpec := { name := "fifoCopies", fn := fun _ => fun
  | [d1, d2, d3] => { results := [.lit (.bool false)], args := [d1, d2, d3] }
  | _ => none }
def FifoCopiesWrongFalsely : Prop := fifoCopiesRow.holds Try.pinned (OpenSpec.ofChange fifoCopiesWrong)

/- THE SECOND FORM. 'bulk': how many values and letters a reading holds, each counted each time it is reached (what is shared counts as often as it is met; a slice's spare places count too). A statement '..UptoSaid' is the law's where the arguments, and the package variables that the reading takes, are together of bulk at most 1048576: NARROWER than '..Said'. Prove '..Said' where nothing that the law and all that it calls make is longer than what came in: it says more and counts as full. Else prove '..UptoSaid'. A law counts once. -/
mutual
def uptoBulk {H : Type} : DataW H → Nat
  | .lit (.string bytes) => bytes.length + 1
  | .lit _ => 1
  | .nil => 1
  | .ptr d => uptoBulk d + 1
  | .slice elems spare => uptoBulkAll elems + uptoBulkAll spare + 1
  | .agg parts => uptoBulkAll parts + 1
  | .iface _ d => uptoBulk d + 1
  | .map entries => uptoBulkEntries entries + 1
  | .held _ => 1
def uptoBulkAll {H : Type} : List (DataW H) → Nat
  | [] => 0
  | d :: r => uptoBulk d + uptoBulkAll r
def uptoBulkEntries {H : Type} : List (Lit × DataW H) → Nat
  | [] => 0
  | x :: r => uptoBulkEntry x + uptoBulkEntries r
def uptoBulkEntry {H : Type} : Lit × DataW H → Nat
  | (.string bytes, d) => bytes.length + uptoBulk d + 1
  | (_, d) => uptoBulk d + 1
 end
def uptoSmall : (H : Type) → List (DataW H) → Bool := fun _ ds => decide (uptoBulkAll ds ≤ 1048576)
def OpenSpec.upto (s : _root_.Go.ChangeSpec) : _root_.Go.OpenSpec := { _root_.Go.OpenSpec.ofChange s with cond := some uptoSmall }

/-- 'pinfoldlaw19.FifoHolds', WHERE WHAT IT READS IS OF BULK AT MOST 1048576: true; the input reads as it did. -/
def fifoHoldsUptoRow : OpenClaim := { program := "ytjjkhbipeehljaa", sum := "4ededf1e9c74e426e6a2399a042b6b80cb9ad84bb8f6090f976605a063453092", func := "pinfold/pinfoldlaw19.FifoHolds", spec := "fifoHolds", unfollowed := true, recurses := true, apart := false, narrowed := true }
def FifoHoldsUptoSaid : Prop := fifoHoldsUptoRow.holds Try.pinned (OpenSpec.upto fifoHoldsSpec)

/-- 'pinfoldlaw19.FifoPlays', WHERE WHAT IT READS IS OF BULK AT MOST 1048576: true; the input reads as it did. -/
def fifoPlaysUptoRow : OpenClaim := { program := "ytjjkhbipeehljaa", sum := "4ededf1e9c74e426e6a2399a042b6b80cb9ad84bb8f6090f976605a063453092", func := "pinfold/pinfoldlaw19.FifoPlays", spec := "fifoPlays", unfollowed := true, recurses := true, apart := false, narrowed := true }
def FifoPlaysUptoSaid : Prop := fifoPlaysUptoRow.holds Try.pinned (OpenSpec.upto fifoPlaysSpec)

/-- 'pinfoldlaw19.FifoCopies', WHERE WHAT IT READS IS OF BULK AT MOST 1048576: true; the input reads as it did. -/
def fifoCopiesUptoRow : OpenClaim := { program := "ytjjkhbipeehljaa", sum := "4ededf1e9c74e426e6a2399a042b6b80cb9ad84bb8f6090f976605a063453092", func := "pinfold/pinfoldlaw19.FifoCopies", spec := "fifoCopies", unfollowed := true, recurses := true, apart := false, narrowed := true }
def FifoCopiesUptoSaid : Prop := fifoCopiesUptoRow.holds Try.pinned (OpenSpec.upto fifoCopiesSpec)

end Rows
end Go.Proofs.Ytjjkhbipeehljaa
