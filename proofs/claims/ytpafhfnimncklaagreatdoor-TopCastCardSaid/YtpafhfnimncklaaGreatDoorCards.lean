/-
  DERIVED. GIVEN WITH THE SEED: THE CARDS: each row of YtpafhfnimncklaaGreatDoorRows.lean that lists a variable, with what it lists TIED to the program's text (the seventh form; the later family's looks); each row that meets fmt, with fmt's text TOLD by the authors' own Lean function (tested against real Go, not proved from fmt's source: count such statements apart). THE CARD IS WHAT COUNTS. Prove the row's statement (the work); the ties are given (YtpafhfnimncklaaGreatDoorTie.lean); close each card by the builder's one call (the guide's Derived/Test/ToyasCard.lean, 'card_holds'). Laid BY PROGRAM, IN A SANDBOX (cutbox-door.mjs). By AI agents, Wed Nov 11 2026. No macro, syntax, notation, axiom, sorry.
-/
import Derived.Test.YtpafhfnimncklaaGreatDoorRows
import GoSem.ClaimSeven
namespace Go.Proofs.YtpafhfnimncklaaGreatDoor
namespace Rows

/-- THE TIED CARD OF 'moottop.TopCast'. -/
def topCastCard : Claim7 := { stood := { row := topCastRow, standIns := [], harness := (true, "f0232f2c0d78c35ce5839ad5f343add979838fb5cda16091cc7c5b315f64aa64"), looks := true }, kinds := [], alts := [], laidByText := true, laidKinds := [.data, .data, .data, .handle], laidTests := true, laidLooks := .later }
def TopCastCardSaid : Prop := Claim7.holds Tryz.pinned (.plain (OpenSpec.ofChange topCastSpec)) topCastCard

/-- THE SECOND FORM's CARD OF 'moottop.TopCast'. -/
def topCastUptoCard : Claim7 := { stood := { row := topCastUptoRow, standIns := [], harness := (true, "f0232f2c0d78c35ce5839ad5f343add979838fb5cda16091cc7c5b315f64aa64"), looks := true }, kinds := [], alts := [], laidByText := true, laidKinds := [.data, .data, .data, .handle], laidTests := true, laidLooks := .later }
def TopCastUptoCardSaid : Prop := Claim7.holds Tryz.pinned (.plain (OpenSpec.upto topCastSpec)) topCastUptoCard
end Rows
end Go.Proofs.YtpafhfnimncklaaGreatDoor
