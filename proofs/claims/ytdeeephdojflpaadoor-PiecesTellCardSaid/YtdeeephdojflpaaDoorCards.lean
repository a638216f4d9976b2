/-
  DERIVED. GIVEN WITH THE SEED: THE CARDS: each row of YtdeeephdojflpaaDoorRows.lean that lists a variable, with what it lists TIED to the program's text (the seventh form; the later family's looks); each row that meets fmt, with fmt's text TOLD by the authors' own Lean function (tested against real Go, not proved from fmt's source: count such statements apart). THE CARD IS WHAT COUNTS. Prove the row's statement (the work); the ties are given (YtdeeephdojflpaaDoorTie.lean); close each card by the builder's one call (the guide's Derived/Test/ToyasCard.lean, 'card_holds'). Laid BY PROGRAM, IN A SANDBOX (cutbox-door.mjs). By AI agents, Wed Nov 11 2026. No macro, syntax, notation, axiom, sorry.
-/
import Derived.Test.YtdeeephdojflpaaDoorRows
import GoSem.ClaimSeven
namespace Go.Proofs.YtdeeephdojflpaaDoor
namespace Rows

/-- THE TIED CARD OF 'mootlaw2.PiecesTell'. -/
def piecesTellCard : Claim7 := { stood := { row := piecesTellRow, standIns := [], harness := (true, "7fe5506d89795f8cb981fbe8dcf4eb7ba6e248a7c8f780a0343dbd8367892dea"), looks := true }, kinds := [], alts := [], laidByText := true, laidKinds := [.handle], laidTests := true, laidLooks := .later }
def PiecesTellCardSaid : Prop := Claim7.holds Tryd.pinned (.plain (OpenSpec.ofChange piecesTellSpec)) piecesTellCard

/-- THE TIED CARD OF 'mootlaw2.PiecesBack'. -/
def piecesBackCard : Claim7 := { stood := { row := piecesBackRow, standIns := [], harness := (true, "7fe5506d89795f8cb981fbe8dcf4eb7ba6e248a7c8f780a0343dbd8367892dea"), looks := true }, kinds := [], alts := [], laidByText := true, laidKinds := [.handle], laidTests := true, laidLooks := .later }
def PiecesBackCardSaid : Prop := Claim7.holds Tryd.pinned (.plain (OpenSpec.ofChange piecesBackSpec)) piecesBackCard

/-- THE TIED CARD OF 'mootlaw4.WireLong'. -/
def wireLongCard : Claim7 := { stood := { row := wireLongRow, standIns := [], harness := (true, "7fe5506d89795f8cb981fbe8dcf4eb7ba6e248a7c8f780a0343dbd8367892dea"), looks := true }, kinds := [], alts := [], laidByText := true, laidKinds := [.handle], laidTests := true, laidLooks := .later }
def WireLongCardSaid : Prop := Claim7.holds Tryd.pinned (.plain (OpenSpec.ofChange wireLongSpec)) wireLongCard

/-- THE TIED CARD OF 'mootlaw3.WireBack'. -/
def wireBackCard : Claim7 := { stood := { row := wireBackRow, standIns := [], harness := (true, "7fe5506d89795f8cb981fbe8dcf4eb7ba6e248a7c8f780a0343dbd8367892dea"), looks := true }, kinds := [], alts := [], laidByText := true, laidKinds := [.handle], laidTests := true, laidLooks := .later }
def WireBackCardSaid : Prop := Claim7.holds Tryd.pinned (.plain (OpenSpec.ofChange wireBackSpec)) wireBackCard

/-- THE TIED CARD OF 'mootlaw3.WireTells'. -/
def wireTellsCard : Claim7 := { stood := { row := wireTellsRow, standIns := [], harness := (true, "7fe5506d89795f8cb981fbe8dcf4eb7ba6e248a7c8f780a0343dbd8367892dea"), looks := true }, kinds := [], alts := [], laidByText := true, laidKinds := [.handle], laidTests := true, laidLooks := .later }
def WireTellsCardSaid : Prop := Claim7.holds Tryd.pinned (.plain (OpenSpec.ofChange wireTellsSpec)) wireTellsCard

/-- THE TIED CARD OF 'mootlaw4.ViewAll'. -/
def viewAllCard : Claim7 := { stood := { row := viewAllRow, standIns := [], harness := (true, "7fe5506d89795f8cb981fbe8dcf4eb7ba6e248a7c8f780a0343dbd8367892dea"), looks := true }, kinds := [], alts := [], laidByText := true, laidKinds := [.handle], laidTests := true, laidLooks := .later }
def ViewAllCardSaid : Prop := Claim7.holds Tryd.pinned (.plain (OpenSpec.ofChange viewAllSpec)) viewAllCard

/-- THE TIED CARD OF 'mootlaw3.ViewTells'. -/
def viewTellsCard : Claim7 := { stood := { row := viewTellsRow, standIns := [], harness := (true, "7fe5506d89795f8cb981fbe8dcf4eb7ba6e248a7c8f780a0343dbd8367892dea"), looks := true }, kinds := [], alts := [], laidByText := true, laidKinds := [.handle], laidTests := true, laidLooks := .later }
def ViewTellsCardSaid : Prop := Claim7.holds Tryd.pinned (.plain (OpenSpec.ofChange viewTellsSpec)) viewTellsCard

/-- THE TIED CARD OF 'mootlaw4.FlushLost'. -/
def flushLostCard : Claim7 := { stood := { row := flushLostRow, standIns := [], harness := (true, "7fe5506d89795f8cb981fbe8dcf4eb7ba6e248a7c8f780a0343dbd8367892dea"), looks := true }, kinds := [], alts := [], laidByText := true, laidKinds := [.handle], laidTests := true, laidLooks := .later }
def FlushLostCardSaid : Prop := Claim7.holds Tryd.pinned (.plain (OpenSpec.ofChange flushLostSpec)) flushLostCard

/-- THE TIED CARD OF 'mootlaw3.FlushPlays'. -/
def flushPlaysCard : Claim7 := { stood := { row := flushPlaysRow, standIns := [], harness := (true, "7fe5506d89795f8cb981fbe8dcf4eb7ba6e248a7c8f780a0343dbd8367892dea"), looks := true }, kinds := [], alts := [], laidByText := true, laidKinds := [.handle], laidTests := true, laidLooks := .later }
def FlushPlaysCardSaid : Prop := Claim7.holds Tryd.pinned (.plain (OpenSpec.ofChange flushPlaysSpec)) flushPlaysCard

/-- THE TIED CARD OF 'mootlaw4.PictureStill'. -/
def pictureStillCard : Claim7 := { stood := { row := pictureStillRow, standIns := [], harness := (true, "7fe5506d89795f8cb981fbe8dcf4eb7ba6e248a7c8f780a0343dbd8367892dea"), looks := true }, kinds := [], alts := [], laidByText := true, laidKinds := [.handle], laidTests := true, laidLooks := .later }
def PictureStillCardSaid : Prop := Claim7.holds Tryd.pinned (.plain (OpenSpec.ofChange pictureStillSpec)) pictureStillCard

/-- THE TIED CARD OF 'mootlaw3.PictureKeeps'. -/
def pictureKeepsCard : Claim7 := { stood := { row := pictureKeepsRow, standIns := [], harness := (true, "7fe5506d89795f8cb981fbe8dcf4eb7ba6e248a7c8f780a0343dbd8367892dea"), looks := true }, kinds := [], alts := [], laidByText := true, laidKinds := [.handle], laidTests := true, laidLooks := .later }
def PictureKeepsCardSaid : Prop := Claim7.holds Tryd.pinned (.plain (OpenSpec.ofChange pictureKeepsSpec)) pictureKeepsCard

/-- THE TIED CARD OF 'mootlaw3.PicturePlays'. -/
def picturePlaysCard : Claim7 := { stood := { row := picturePlaysRow, standIns := [], harness := (true, "7fe5506d89795f8cb981fbe8dcf4eb7ba6e248a7c8f780a0343dbd8367892dea"), looks := true }, kinds := [], alts := [], laidByText := true, laidKinds := [.handle], laidTests := true, laidLooks := .later }
def PicturePlaysCardSaid : Prop := Claim7.holds Tryd.pinned (.plain (OpenSpec.ofChange picturePlaysSpec)) picturePlaysCard

/-- THE SECOND FORM's CARD OF 'mootlaw2.PiecesTell'. -/
def piecesTellUptoCard : Claim7 := { stood := { row := piecesTellUptoRow, standIns := [], harness := (true, "7fe5506d89795f8cb981fbe8dcf4eb7ba6e248a7c8f780a0343dbd8367892dea"), looks := true }, kinds := [], alts := [], laidByText := true, laidKinds := [.handle], laidTests := true, laidLooks := .later }
def PiecesTellUptoCardSaid : Prop := Claim7.holds Tryd.pinned (.plain (OpenSpec.upto piecesTellSpec)) piecesTellUptoCard

/-- THE SECOND FORM's CARD OF 'mootlaw2.PiecesBack'. -/
def piecesBackUptoCard : Claim7 := { stood := { row := piecesBackUptoRow, standIns := [], harness := (true, "7fe5506d89795f8cb981fbe8dcf4eb7ba6e248a7c8f780a0343dbd8367892dea"), looks := true }, kinds := [], alts := [], laidByText := true, laidKinds := [.handle], laidTests := true, laidLooks := .later }
def PiecesBackUptoCardSaid : Prop := Claim7.holds Tryd.pinned (.plain (OpenSpec.upto piecesBackSpec)) piecesBackUptoCard

/-- THE SECOND FORM's CARD OF 'mootlaw4.WireLong'. -/
def wireLongUptoCard : Claim7 := { stood := { row := wireLongUptoRow, standIns := [], harness := (true, "7fe5506d89795f8cb981fbe8dcf4eb7ba6e248a7c8f780a0343dbd8367892dea"), looks := true }, kinds := [], alts := [], laidByText := true, laidKinds := [.handle], laidTests := true, laidLooks := .later }
def WireLongUptoCardSaid : Prop := Claim7.holds Tryd.pinned (.plain (OpenSpec.upto wireLongSpec)) wireLongUptoCard

/-- THE SECOND FORM's CARD OF 'mootlaw3.WireBack'. -/
def wireBackUptoCard : Claim7 := { stood := { row := wireBackUptoRow, standIns := [], harness := (true, "7fe5506d89795f8cb981fbe8dcf4eb7ba6e248a7c8f780a0343dbd8367892dea"), looks := true }, kinds := [], alts := [], laidByText := true, laidKinds := [.handle], laidTests := true, laidLooks := .later }
def WireBackUptoCardSaid : Prop := Claim7.holds Tryd.pinned (.plain (OpenSpec.upto wireBackSpec)) wireBackUptoCard

/-- THE SECOND FORM's CARD OF 'mootlaw3.WireTells'. -/
def wireTellsUptoCard : Claim7 := { stood := { row := wireTellsUptoRow, standIns := [], harness := (true, "7fe5506d89795f8cb981fbe8dcf4eb7ba6e248a7c8f780a0343dbd8367892dea"), looks := true }, kinds := [], alts := [], laidByText := true, laidKinds := [.handle], laidTests := true, laidLooks := .later }
def WireTellsUptoCardSaid : Prop := Claim7.holds Tryd.pinned (.plain (OpenSpec.upto wireTellsSpec)) wireTellsUptoCard

/-- THE SECOND FORM's CARD OF 'mootlaw4.ViewAll'. -/
def viewAllUptoCard : Claim7 := { stood := { row := viewAllUptoRow, standIns := [], harness := (true, "7fe5506d89795f8cb981fbe8dcf4eb7ba6e248a7c8f780a0343dbd8367892dea"), looks := true }, kinds := [], alts := [], laidByText := true, laidKinds := [.handle], laidTests := true, laidLooks := .later }
def ViewAllUptoCardSaid : Prop := Claim7.holds Tryd.pinned (.plain (OpenSpec.upto viewAllSpec)) viewAllUptoCard

/-- THE SECOND FORM's CARD OF 'mootlaw3.ViewTells'. -/
def viewTellsUptoCard : Claim7 := { stood := { row := viewTellsUptoRow, standIns := [], harness := (true, "7fe5506d89795f8cb981fbe8dcf4eb7ba6e248a7c8f780a0343dbd8367892dea"), looks := true }, kinds := [], alts := [], laidByText := true, laidKinds := [.handle], laidTests := true, laidLooks := .later }
def ViewTellsUptoCardSaid : Prop := Claim7.holds Tryd.pinned (.plain (OpenSpec.upto viewTellsSpec)) viewTellsUptoCard

/-- THE SECOND FORM's CARD OF 'mootlaw4.FlushLost'. -/
def flushLostUptoCard : Claim7 := { stood := { row := flushLostUptoRow, standIns := [], harness := (true, "7fe5506d89795f8cb981fbe8dcf4eb7ba6e248a7c8f780a0343dbd8367892dea"), looks := true }, kinds := [], alts := [], laidByText := true, laidKinds := [.handle], laidTests := true, laidLooks := .later }
def FlushLostUptoCardSaid : Prop := Claim7.holds Tryd.pinned (.plain (OpenSpec.upto flushLostSpec)) flushLostUptoCard

/-- THE SECOND FORM's CARD OF 'mootlaw3.FlushPlays'. -/
def flushPlaysUptoCard : Claim7 := { stood := { row := flushPlaysUptoRow, standIns := [], harness := (true, "7fe5506d89795f8cb981fbe8dcf4eb7ba6e248a7c8f780a0343dbd8367892dea"), looks := true }, kinds := [], alts := [], laidByText := true, laidKinds := [.handle], laidTests := true, laidLooks := .later }
def FlushPlaysUptoCardSaid : Prop := Claim7.holds Tryd.pinned (.plain (OpenSpec.upto flushPlaysSpec)) flushPlaysUptoCard

/-- THE SECOND FORM's CARD OF 'mootlaw4.PictureStill'. -/
def pictureStillUptoCard : Claim7 := { stood := { row := pictureStillUptoRow, standIns := [], harness := (true, "7fe5506d89795f8cb981fbe8dcf4eb7ba6e248a7c8f780a0343dbd8367892dea"), looks := true }, kinds := [], alts := [], laidByText := true, laidKinds := [.handle], laidTests := true, laidLooks := .later }
def PictureStillUptoCardSaid : Prop := Claim7.holds Tryd.pinned (.plain (OpenSpec.upto pictureStillSpec)) pictureStillUptoCard

/-- THE SECOND FORM's CARD OF 'mootlaw3.PictureKeeps'. -/
def pictureKeepsUptoCard : Claim7 := { stood := { row := pictureKeepsUptoRow, standIns := [], harness := (true, "7fe5506d89795f8cb981fbe8dcf4eb7ba6e248a7c8f780a0343dbd8367892dea"), looks := true }, kinds := [], alts := [], laidByText := true, laidKinds := [.handle], laidTests := true, laidLooks := .later }
def PictureKeepsUptoCardSaid : Prop := Claim7.holds Tryd.pinned (.plain (OpenSpec.upto pictureKeepsSpec)) pictureKeepsUptoCard

/-- THE SECOND FORM's CARD OF 'mootlaw3.PicturePlays'. -/
def picturePlaysUptoCard : Claim7 := { stood := { row := picturePlaysUptoRow, standIns := [], harness := (true, "7fe5506d89795f8cb981fbe8dcf4eb7ba6e248a7c8f780a0343dbd8367892dea"), looks := true }, kinds := [], alts := [], laidByText := true, laidKinds := [.handle], laidTests := true, laidLooks := .later }
def PicturePlaysUptoCardSaid : Prop := Claim7.holds Tryd.pinned (.plain (OpenSpec.upto picturePlaysSpec)) picturePlaysUptoCard
end Rows
end Go.Proofs.YtdeeephdojflpaaDoor
