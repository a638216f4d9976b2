/-
  DERIVED. GIVEN WITH THE SEED: THE CARDS: each row of YtdfjbnfdknpahaaGreatDoorRows.lean that lists a variable, with what it lists TIED to the program's text (the seventh form; the later family's looks); each row that meets fmt, with fmt's text TOLD by the authors' own Lean function (tested against real Go, not proved from fmt's source: count such statements apart). THE CARD IS WHAT COUNTS. Prove the row's statement (the work); the ties are given (YtdfjbnfdknpahaaGreatDoorTie.lean); close each card by the builder's one call (the guide's Derived/Test/ToyasCard.lean, 'card_holds'). Laid BY PROGRAM, IN A SANDBOX (cutbox-door.mjs). By AI agents, Wed Nov 11 2026. No macro, syntax, notation, axiom, sorry.
-/
import Derived.Test.YtdfjbnfdknpahaaGreatDoorRows
import GoSem.ClaimSeven
namespace Go.Proofs.YtdfjbnfdknpahaaGreatDoor
namespace Rows

/-- THE TIED CARD OF 'mootlaw3.RunAnswers'. -/
def runAnswersCard : Claim7 := { stood := { row := runAnswersRow, standIns := [], harness := (true, "13396ecda5bd030f3afc5e4d8c16f8154e323f3faec9d139d2ab881e6742e0ec"), looks := true }, kinds := [], alts := [], laidByText := true, laidKinds := [.data, .data, .data, .data, .handle, .sentinel, .sentinel, .wider, .pinned], laidTests := true, laidLooks := .later }
def RunAnswersCardSaid : Prop := Claim7.holds Tryz.pinned (.plain (OpenSpec.ofChange runAnswersSpec)) runAnswersCard

/-- THE TIED CARD OF 'mootlaw3.RunBegins'. -/
def runBeginsCard : Claim7 := { stood := { row := runBeginsRow, standIns := [], harness := (true, "13396ecda5bd030f3afc5e4d8c16f8154e323f3faec9d139d2ab881e6742e0ec"), looks := true }, kinds := [], alts := [], laidByText := true, laidKinds := [.data, .data, .data, .data, .handle, .sentinel, .sentinel, .wider, .pinned], laidTests := true, laidLooks := .later }
def RunBeginsCardSaid : Prop := Claim7.holds Tryz.pinned (.plain (OpenSpec.ofChange runBeginsSpec)) runBeginsCard

/-- THE TIED CARD OF 'mootlaw3.RunCausal'. -/
def runCausalCard : Claim7 := { stood := { row := runCausalRow, standIns := [], harness := (true, "13396ecda5bd030f3afc5e4d8c16f8154e323f3faec9d139d2ab881e6742e0ec"), looks := true }, kinds := [], alts := [], laidByText := true, laidKinds := [.data, .data, .data, .data, .handle, .sentinel, .sentinel, .wider, .pinned], laidTests := true, laidLooks := .later }
def RunCausalCardSaid : Prop := Claim7.holds Tryz.pinned (.plain (OpenSpec.ofChange runCausalSpec)) runCausalCard

/-- THE SECOND FORM's CARD OF 'mootlaw3.RunAnswers'. -/
def runAnswersUptoCard : Claim7 := { stood := { row := runAnswersUptoRow, standIns := [], harness := (true, "13396ecda5bd030f3afc5e4d8c16f8154e323f3faec9d139d2ab881e6742e0ec"), looks := true }, kinds := [], alts := [], laidByText := true, laidKinds := [.data, .data, .data, .data, .handle, .sentinel, .sentinel, .wider, .pinned], laidTests := true, laidLooks := .later }
def RunAnswersUptoCardSaid : Prop := Claim7.holds Tryz.pinned (.plain (OpenSpec.upto runAnswersSpec)) runAnswersUptoCard

/-- THE SECOND FORM's CARD OF 'mootlaw3.RunBegins'. -/
def runBeginsUptoCard : Claim7 := { stood := { row := runBeginsUptoRow, standIns := [], harness := (true, "13396ecda5bd030f3afc5e4d8c16f8154e323f3faec9d139d2ab881e6742e0ec"), looks := true }, kinds := [], alts := [], laidByText := true, laidKinds := [.data, .data, .data, .data, .handle, .sentinel, .sentinel, .wider, .pinned], laidTests := true, laidLooks := .later }
def RunBeginsUptoCardSaid : Prop := Claim7.holds Tryz.pinned (.plain (OpenSpec.upto runBeginsSpec)) runBeginsUptoCard

/-- THE SECOND FORM's CARD OF 'mootlaw3.RunCausal'. -/
def runCausalUptoCard : Claim7 := { stood := { row := runCausalUptoRow, standIns := [], harness := (true, "13396ecda5bd030f3afc5e4d8c16f8154e323f3faec9d139d2ab881e6742e0ec"), looks := true }, kinds := [], alts := [], laidByText := true, laidKinds := [.data, .data, .data, .data, .handle, .sentinel, .sentinel, .wider, .pinned], laidTests := true, laidLooks := .later }
def RunCausalUptoCardSaid : Prop := Claim7.holds Tryz.pinned (.plain (OpenSpec.upto runCausalSpec)) runCausalUptoCard
end Rows
end Go.Proofs.YtdfjbnfdknpahaaGreatDoor
