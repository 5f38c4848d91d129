/-
  DERIVED. GIVEN WITH THE SEED: THE CARDS: each row of YtgdnafafojiabaaDoorRows.lean that lists a variable, with what it lists TIED to the program's text (the seventh form; the later family's looks); each row that meets fmt, with fmt's text TOLD by the authors' own Lean function (tested against real Go, not proved from fmt's source: count such statements apart). THE CARD IS WHAT COUNTS. Prove the row's statement (the work); the ties are given (YtgdnafafojiabaaDoorTie.lean); close each card by the builder's one call (the guide's Derived/Test/ToyasCard.lean, 'card_holds'). Laid BY PROGRAM, IN A SANDBOX (cutbox-door.mjs). By AI agents, Wed Nov 11 2026. No macro, syntax, notation, axiom, sorry.
-/
import Derived.Test.YtgdnafafojiabaaDoorRows
import GoSem.ClaimSeven
namespace Go.Proofs.YtgdnafafojiabaaDoor
namespace Rows

/-- THE TIED CARD OF 'pinfoldlaw02.RoundSums'. -/
def roundSumsCard : Claim7 := { stood := { row := roundSumsRow, standIns := [], harness := (true, "b89ea5b8a321b665cbf016b3cb7d8a2e048cfae200c3b1eb11244adfe1642bfd"), looks := false }, kinds := [], alts := [], laidByText := true, laidKinds := [.data], laidTests := true, laidLooks := .later }
def RoundSumsCardSaid : Prop := Claim7.holds Tryd.pinned (.plain (OpenSpec.ofChange roundSumsSpec)) roundSumsCard

/-- THE TIED CARD OF 'pinfoldlaw02.RoundUps'. -/
def roundUpsCard : Claim7 := { stood := { row := roundUpsRow, standIns := [], harness := (true, "b89ea5b8a321b665cbf016b3cb7d8a2e048cfae200c3b1eb11244adfe1642bfd"), looks := false }, kinds := [], alts := [], laidByText := true, laidKinds := [.data], laidTests := true, laidLooks := .later }
def RoundUpsCardSaid : Prop := Claim7.holds Tryd.pinned (.plain (OpenSpec.ofChange roundUpsSpec)) roundUpsCard

/-- THE TIED CARD OF 'pinfoldlaw02.RoundPowers'. -/
def roundPowersCard : Claim7 := { stood := { row := roundPowersRow, standIns := [], harness := (true, "b89ea5b8a321b665cbf016b3cb7d8a2e048cfae200c3b1eb11244adfe1642bfd"), looks := false }, kinds := [], alts := [], laidByText := true, laidKinds := [.data], laidTests := true, laidLooks := .later }
def RoundPowersCardSaid : Prop := Claim7.holds Tryd.pinned (.plain (OpenSpec.ofChange roundPowersSpec)) roundPowersCard

/-- THE TIED CARD OF 'pinfoldlaw02.RoundHolds'. -/
def roundHoldsCard : Claim7 := { stood := { row := roundHoldsRow, standIns := [], harness := (true, "b89ea5b8a321b665cbf016b3cb7d8a2e048cfae200c3b1eb11244adfe1642bfd"), looks := false }, kinds := [], alts := [], laidByText := true, laidKinds := [.data], laidTests := true, laidLooks := .later }
def RoundHoldsCardSaid : Prop := Claim7.holds Tryd.pinned (.plain (OpenSpec.ofChange roundHoldsSpec)) roundHoldsCard

/-- THE TIED CARD OF 'pinfoldlaw02.RoundSteps'. -/
def roundStepsCard : Claim7 := { stood := { row := roundStepsRow, standIns := [], harness := (true, "b89ea5b8a321b665cbf016b3cb7d8a2e048cfae200c3b1eb11244adfe1642bfd"), looks := false }, kinds := [], alts := [], laidByText := true, laidKinds := [.data], laidTests := true, laidLooks := .later }
def RoundStepsCardSaid : Prop := Claim7.holds Tryd.pinned (.plain (OpenSpec.ofChange roundStepsSpec)) roundStepsCard

/-- THE SECOND FORM's CARD OF 'pinfoldlaw02.RoundSums'. -/
def roundSumsUptoCard : Claim7 := { stood := { row := roundSumsUptoRow, standIns := [], harness := (true, "b89ea5b8a321b665cbf016b3cb7d8a2e048cfae200c3b1eb11244adfe1642bfd"), looks := false }, kinds := [], alts := [], laidByText := true, laidKinds := [.data], laidTests := true, laidLooks := .later }
def RoundSumsUptoCardSaid : Prop := Claim7.holds Tryd.pinned (.plain (OpenSpec.upto roundSumsSpec)) roundSumsUptoCard

/-- THE SECOND FORM's CARD OF 'pinfoldlaw02.RoundUps'. -/
def roundUpsUptoCard : Claim7 := { stood := { row := roundUpsUptoRow, standIns := [], harness := (true, "b89ea5b8a321b665cbf016b3cb7d8a2e048cfae200c3b1eb11244adfe1642bfd"), looks := false }, kinds := [], alts := [], laidByText := true, laidKinds := [.data], laidTests := true, laidLooks := .later }
def RoundUpsUptoCardSaid : Prop := Claim7.holds Tryd.pinned (.plain (OpenSpec.upto roundUpsSpec)) roundUpsUptoCard

/-- THE SECOND FORM's CARD OF 'pinfoldlaw02.RoundPowers'. -/
def roundPowersUptoCard : Claim7 := { stood := { row := roundPowersUptoRow, standIns := [], harness := (true, "b89ea5b8a321b665cbf016b3cb7d8a2e048cfae200c3b1eb11244adfe1642bfd"), looks := false }, kinds := [], alts := [], laidByText := true, laidKinds := [.data], laidTests := true, laidLooks := .later }
def RoundPowersUptoCardSaid : Prop := Claim7.holds Tryd.pinned (.plain (OpenSpec.upto roundPowersSpec)) roundPowersUptoCard

/-- THE SECOND FORM's CARD OF 'pinfoldlaw02.RoundHolds'. -/
def roundHoldsUptoCard : Claim7 := { stood := { row := roundHoldsUptoRow, standIns := [], harness := (true, "b89ea5b8a321b665cbf016b3cb7d8a2e048cfae200c3b1eb11244adfe1642bfd"), looks := false }, kinds := [], alts := [], laidByText := true, laidKinds := [.data], laidTests := true, laidLooks := .later }
def RoundHoldsUptoCardSaid : Prop := Claim7.holds Tryd.pinned (.plain (OpenSpec.upto roundHoldsSpec)) roundHoldsUptoCard

/-- THE SECOND FORM's CARD OF 'pinfoldlaw02.RoundSteps'. -/
def roundStepsUptoCard : Claim7 := { stood := { row := roundStepsUptoRow, standIns := [], harness := (true, "b89ea5b8a321b665cbf016b3cb7d8a2e048cfae200c3b1eb11244adfe1642bfd"), looks := false }, kinds := [], alts := [], laidByText := true, laidKinds := [.data], laidTests := true, laidLooks := .later }
def RoundStepsUptoCardSaid : Prop := Claim7.holds Tryd.pinned (.plain (OpenSpec.upto roundStepsSpec)) roundStepsUptoCard
end Rows
end Go.Proofs.YtgdnafafojiabaaDoor
