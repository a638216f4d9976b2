/-
  DERIVED. GIVEN WITH THE SEED: THE CARDS: each row of YtbfiahdddbcebaaDoorRows.lean that lists a variable, with what it lists TIED to the program's text (the seventh form; the later family's looks); each row that meets fmt, with fmt's text TOLD by the authors' own Lean function (tested against real Go, not proved from fmt's source: count such statements apart). THE CARD IS WHAT COUNTS. Prove the row's statement (the work); the ties are given (YtbfiahdddbcebaaDoorTie.lean); close each card by the builder's one call (the guide's Derived/Test/ToyasCard.lean, 'card_holds'). Laid BY PROGRAM, IN A SANDBOX (cutbox-door.mjs). By AI agents, Wed Nov 11 2026. No macro, syntax, notation, axiom, sorry.
-/
import Derived.Test.YtbfiahdddbcebaaDoorRows
import GoSem.ClaimSeven
namespace Go.Proofs.YtbfiahdddbcebaaDoor
namespace Rows

/-- THE TIED CARD OF 'mootlaw3.WireBack'. -/
def wireBackCard : Claim7 := { stood := { row := wireBackRow, standIns := [], harness := (true, "227132048c1817c72499e24384e8f2713d78646324410d1f6d747a9ad8c959fa"), looks := true }, kinds := [], alts := [], laidByText := true, laidKinds := [.handle], laidTests := true, laidLooks := .later }
def WireBackCardSaid : Prop := Claim7.holds Tryd.pinned (.plain (OpenSpec.ofChange wireBackSpec)) wireBackCard

/-- THE TIED CARD OF 'mootlaw2.PiecesTell'. -/
def piecesTellCard : Claim7 := { stood := { row := piecesTellRow, standIns := [], harness := (true, "227132048c1817c72499e24384e8f2713d78646324410d1f6d747a9ad8c959fa"), looks := true }, kinds := [], alts := [], laidByText := true, laidKinds := [.handle], laidTests := true, laidLooks := .later }
def PiecesTellCardSaid : Prop := Claim7.holds Tryd.pinned (.plain (OpenSpec.ofChange piecesTellSpec)) piecesTellCard

/-- THE TIED CARD OF 'mootlaw2.PiecesBack'. -/
def piecesBackCard : Claim7 := { stood := { row := piecesBackRow, standIns := [], harness := (true, "227132048c1817c72499e24384e8f2713d78646324410d1f6d747a9ad8c959fa"), looks := true }, kinds := [], alts := [], laidByText := true, laidKinds := [.handle], laidTests := true, laidLooks := .later }
def PiecesBackCardSaid : Prop := Claim7.holds Tryd.pinned (.plain (OpenSpec.ofChange piecesBackSpec)) piecesBackCard

/-- THE TIED CARD OF 'mootlaw3.WireTells'. -/
def wireTellsCard : Claim7 := { stood := { row := wireTellsRow, standIns := [], harness := (true, "227132048c1817c72499e24384e8f2713d78646324410d1f6d747a9ad8c959fa"), looks := true }, kinds := [], alts := [], laidByText := true, laidKinds := [.handle], laidTests := true, laidLooks := .later }
def WireTellsCardSaid : Prop := Claim7.holds Tryd.pinned (.plain (OpenSpec.ofChange wireTellsSpec)) wireTellsCard

/-- THE SECOND FORM's CARD OF 'mootlaw3.WireBack'. -/
def wireBackUptoCard : Claim7 := { stood := { row := wireBackUptoRow, standIns := [], harness := (true, "227132048c1817c72499e24384e8f2713d78646324410d1f6d747a9ad8c959fa"), looks := true }, kinds := [], alts := [], laidByText := true, laidKinds := [.handle], laidTests := true, laidLooks := .later }
def WireBackUptoCardSaid : Prop := Claim7.holds Tryd.pinned (.plain (OpenSpec.upto wireBackSpec)) wireBackUptoCard

/-- THE SECOND FORM's CARD OF 'mootlaw2.PiecesTell'. -/
def piecesTellUptoCard : Claim7 := { stood := { row := piecesTellUptoRow, standIns := [], harness := (true, "227132048c1817c72499e24384e8f2713d78646324410d1f6d747a9ad8c959fa"), looks := true }, kinds := [], alts := [], laidByText := true, laidKinds := [.handle], laidTests := true, laidLooks := .later }
def PiecesTellUptoCardSaid : Prop := Claim7.holds Tryd.pinned (.plain (OpenSpec.upto piecesTellSpec)) piecesTellUptoCard

/-- THE SECOND FORM's CARD OF 'mootlaw2.PiecesBack'. -/
def piecesBackUptoCard : Claim7 := { stood := { row := piecesBackUptoRow, standIns := [], harness := (true, "227132048c1817c72499e24384e8f2713d78646324410d1f6d747a9ad8c959fa"), looks := true }, kinds := [], alts := [], laidByText := true, laidKinds := [.handle], laidTests := true, laidLooks := .later }
def PiecesBackUptoCardSaid : Prop := Claim7.holds Tryd.pinned (.plain (OpenSpec.upto piecesBackSpec)) piecesBackUptoCard

/-- THE SECOND FORM's CARD OF 'mootlaw3.WireTells'. -/
def wireTellsUptoCard : Claim7 := { stood := { row := wireTellsUptoRow, standIns := [], harness := (true, "227132048c1817c72499e24384e8f2713d78646324410d1f6d747a9ad8c959fa"), looks := true }, kinds := [], alts := [], laidByText := true, laidKinds := [.handle], laidTests := true, laidLooks := .later }
def WireTellsUptoCardSaid : Prop := Claim7.holds Tryd.pinned (.plain (OpenSpec.upto wireTellsSpec)) wireTellsUptoCard
end Rows
end Go.Proofs.YtbfiahdddbcebaaDoor
