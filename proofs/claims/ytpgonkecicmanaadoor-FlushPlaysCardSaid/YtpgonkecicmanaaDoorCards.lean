/-
  DERIVED. GIVEN WITH THE SEED: THE CARDS: each row of YtpgonkecicmanaaDoorRows.lean that lists a variable, with what it lists TIED to the program's text (the seventh form; the later family's looks); each row that meets fmt, with fmt's text TOLD by the authors' own Lean function (tested against real Go, not proved from fmt's source: count such statements apart). THE CARD IS WHAT COUNTS. Prove the row's statement (the work); the ties are given (YtpgonkecicmanaaDoorTie.lean); close each card by the builder's one call (the guide's Derived/Test/ToyasCard.lean, 'card_holds'). Laid BY PROGRAM, IN A SANDBOX (cutbox-door.mjs). By AI agents, Wed Nov 11 2026. No macro, syntax, notation, axiom, sorry.
-/
import Derived.Test.YtpgonkecicmanaaDoorRows
import GoSem.ClaimSeven
namespace Go.Proofs.YtpgonkecicmanaaDoor
namespace Rows

/-- THE TIED CARD OF 'mootlaw2.AgreePlays'. -/
def agreePlaysCard : Claim7 := { stood := { row := agreePlaysRow, standIns := [], harness := (true, "dbb0b6f605a319f08a2594e49c578f2bc8915987e33fba8417450507e23e7f45"), looks := true }, kinds := [], alts := [], laidByText := true, laidKinds := [.handle], laidTests := true, laidLooks := .later }
def AgreePlaysCardSaid : Prop := Claim7.holds Tryd.pinned (.plain (OpenSpec.ofChange agreePlaysSpec)) agreePlaysCard

/-- THE TIED CARD OF 'mootlaw3.PicturePlays'. -/
def picturePlaysCard : Claim7 := { stood := { row := picturePlaysRow, standIns := [], harness := (true, "dbb0b6f605a319f08a2594e49c578f2bc8915987e33fba8417450507e23e7f45"), looks := true }, kinds := [], alts := [], laidByText := true, laidKinds := [.handle], laidTests := true, laidLooks := .later }
def PicturePlaysCardSaid : Prop := Claim7.holds Tryd.pinned (.plain (OpenSpec.ofChange picturePlaysSpec)) picturePlaysCard

/-- THE TIED CARD OF 'mootlaw3.FlushPlays'. -/
def flushPlaysCard : Claim7 := { stood := { row := flushPlaysRow, standIns := [], harness := (true, "dbb0b6f605a319f08a2594e49c578f2bc8915987e33fba8417450507e23e7f45"), looks := true }, kinds := [], alts := [], laidByText := true, laidKinds := [.handle], laidTests := true, laidLooks := .later }
def FlushPlaysCardSaid : Prop := Claim7.holds Tryd.pinned (.plain (OpenSpec.ofChange flushPlaysSpec)) flushPlaysCard

/-- THE TIED CARD OF 'mootlaw1.ClockTells'. -/
def clockTellsCard : Claim7 := { stood := { row := clockTellsRow, standIns := [], harness := (true, "dbb0b6f605a319f08a2594e49c578f2bc8915987e33fba8417450507e23e7f45"), looks := true }, kinds := [], alts := [], laidByText := true, laidKinds := [.handle], laidTests := true, laidLooks := .later }
def ClockTellsCardSaid : Prop := Claim7.holds Tryd.pinned (.plain (OpenSpec.ofChange clockTellsSpec)) clockTellsCard

/-- THE TIED CARD OF 'mootlaw4.LogRefuses'. -/
def logRefusesCard : Claim7 := { stood := { row := logRefusesRow, standIns := [], harness := (true, "dbb0b6f605a319f08a2594e49c578f2bc8915987e33fba8417450507e23e7f45"), looks := true }, kinds := [], alts := [], laidByText := true, laidKinds := [.data, .data, .data, .handle], laidTests := true, laidLooks := .later }
def LogRefusesCardSaid : Prop := Claim7.holds Tryd.pinned (.plain (OpenSpec.ofChange logRefusesSpec)) logRefusesCard

/-- THE TIED CARD OF 'mootlaw3.LogStops'. -/
def logStopsCard : Claim7 := { stood := { row := logStopsRow, standIns := [], harness := (true, "dbb0b6f605a319f08a2594e49c578f2bc8915987e33fba8417450507e23e7f45"), looks := true }, kinds := [], alts := [], laidByText := true, laidKinds := [.data, .data, .data, .handle], laidTests := true, laidLooks := .later }
def LogStopsCardSaid : Prop := Claim7.holds Tryd.pinned (.plain (OpenSpec.ofChange logStopsSpec)) logStopsCard

/-- THE TIED CARD OF 'mootlaw3.LogKeeps'. -/
def logKeepsCard : Claim7 := { stood := { row := logKeepsRow, standIns := [], harness := (true, "dbb0b6f605a319f08a2594e49c578f2bc8915987e33fba8417450507e23e7f45"), looks := true }, kinds := [], alts := [], laidByText := true, laidKinds := [.data, .data, .data, .handle], laidTests := true, laidLooks := .later }
def LogKeepsCardSaid : Prop := Claim7.holds Tryd.pinned (.plain (OpenSpec.ofChange logKeepsSpec)) logKeepsCard

/-- THE SECOND FORM's CARD OF 'mootlaw2.AgreePlays'. -/
def agreePlaysUptoCard : Claim7 := { stood := { row := agreePlaysUptoRow, standIns := [], harness := (true, "dbb0b6f605a319f08a2594e49c578f2bc8915987e33fba8417450507e23e7f45"), looks := true }, kinds := [], alts := [], laidByText := true, laidKinds := [.handle], laidTests := true, laidLooks := .later }
def AgreePlaysUptoCardSaid : Prop := Claim7.holds Tryd.pinned (.plain (OpenSpec.upto agreePlaysSpec)) agreePlaysUptoCard

/-- THE SECOND FORM's CARD OF 'mootlaw3.PicturePlays'. -/
def picturePlaysUptoCard : Claim7 := { stood := { row := picturePlaysUptoRow, standIns := [], harness := (true, "dbb0b6f605a319f08a2594e49c578f2bc8915987e33fba8417450507e23e7f45"), looks := true }, kinds := [], alts := [], laidByText := true, laidKinds := [.handle], laidTests := true, laidLooks := .later }
def PicturePlaysUptoCardSaid : Prop := Claim7.holds Tryd.pinned (.plain (OpenSpec.upto picturePlaysSpec)) picturePlaysUptoCard

/-- THE SECOND FORM's CARD OF 'mootlaw3.FlushPlays'. -/
def flushPlaysUptoCard : Claim7 := { stood := { row := flushPlaysUptoRow, standIns := [], harness := (true, "dbb0b6f605a319f08a2594e49c578f2bc8915987e33fba8417450507e23e7f45"), looks := true }, kinds := [], alts := [], laidByText := true, laidKinds := [.handle], laidTests := true, laidLooks := .later }
def FlushPlaysUptoCardSaid : Prop := Claim7.holds Tryd.pinned (.plain (OpenSpec.upto flushPlaysSpec)) flushPlaysUptoCard

/-- THE SECOND FORM's CARD OF 'mootlaw1.ClockTells'. -/
def clockTellsUptoCard : Claim7 := { stood := { row := clockTellsUptoRow, standIns := [], harness := (true, "dbb0b6f605a319f08a2594e49c578f2bc8915987e33fba8417450507e23e7f45"), looks := true }, kinds := [], alts := [], laidByText := true, laidKinds := [.handle], laidTests := true, laidLooks := .later }
def ClockTellsUptoCardSaid : Prop := Claim7.holds Tryd.pinned (.plain (OpenSpec.upto clockTellsSpec)) clockTellsUptoCard

/-- THE SECOND FORM's CARD OF 'mootlaw4.LogRefuses'. -/
def logRefusesUptoCard : Claim7 := { stood := { row := logRefusesUptoRow, standIns := [], harness := (true, "dbb0b6f605a319f08a2594e49c578f2bc8915987e33fba8417450507e23e7f45"), looks := true }, kinds := [], alts := [], laidByText := true, laidKinds := [.data, .data, .data, .handle], laidTests := true, laidLooks := .later }
def LogRefusesUptoCardSaid : Prop := Claim7.holds Tryd.pinned (.plain (OpenSpec.upto logRefusesSpec)) logRefusesUptoCard

/-- THE SECOND FORM's CARD OF 'mootlaw3.LogStops'. -/
def logStopsUptoCard : Claim7 := { stood := { row := logStopsUptoRow, standIns := [], harness := (true, "dbb0b6f605a319f08a2594e49c578f2bc8915987e33fba8417450507e23e7f45"), looks := true }, kinds := [], alts := [], laidByText := true, laidKinds := [.data, .data, .data, .handle], laidTests := true, laidLooks := .later }
def LogStopsUptoCardSaid : Prop := Claim7.holds Tryd.pinned (.plain (OpenSpec.upto logStopsSpec)) logStopsUptoCard

/-- THE SECOND FORM's CARD OF 'mootlaw3.LogKeeps'. -/
def logKeepsUptoCard : Claim7 := { stood := { row := logKeepsUptoRow, standIns := [], harness := (true, "dbb0b6f605a319f08a2594e49c578f2bc8915987e33fba8417450507e23e7f45"), looks := true }, kinds := [], alts := [], laidByText := true, laidKinds := [.data, .data, .data, .handle], laidTests := true, laidLooks := .later }
def LogKeepsUptoCardSaid : Prop := Claim7.holds Tryd.pinned (.plain (OpenSpec.upto logKeepsSpec)) logKeepsUptoCard
end Rows
end Go.Proofs.YtpgonkecicmanaaDoor
