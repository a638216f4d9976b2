/-
  DERIVED. GIVEN WITH THE SEED: THE CARDS: each row of YtljlnhbndkdlcaaDoorRows.lean that lists a variable, with what it lists TIED to the program's text (the seventh form; the later family's looks); each row that meets fmt, with fmt's text TOLD by the authors' own Lean function (tested against real Go, not proved from fmt's source: count such statements apart). THE CARD IS WHAT COUNTS. Prove the row's statement (the work); the ties are given (YtljlnhbndkdlcaaDoorTie.lean); close each card by the builder's one call (the guide's Derived/Test/ToyasCard.lean, 'card_holds'). Laid BY PROGRAM, IN A SANDBOX (cutbox-door.mjs). By AI agents, Wed Nov 11 2026. No macro, syntax, notation, axiom, sorry.
-/
import Derived.Test.YtljlnhbndkdlcaaDoorRows
import GoSem.ClaimSeven
namespace Go.Proofs.YtljlnhbndkdlcaaDoor
namespace Rows

/-- THE TIED CARD OF 'mootlaw4.LogRefuses'. -/
def logRefusesCard : Claim7 := { stood := { row := logRefusesRow, standIns := [], harness := (true, "0b14536513db411de4419e34f14fbed5a8ee2d68298c73c9424bd6d4ce82cca5"), looks := true }, kinds := [], alts := [], laidByText := true, laidKinds := [.data, .data, .data, .handle], laidTests := true, laidLooks := .later }
def LogRefusesCardSaid : Prop := Claim7.holds Tryd.pinned (.plain (OpenSpec.ofChange logRefusesSpec)) logRefusesCard

/-- THE TIED CARD OF 'mootlaw3.LogStops'. -/
def logStopsCard : Claim7 := { stood := { row := logStopsRow, standIns := [], harness := (true, "0b14536513db411de4419e34f14fbed5a8ee2d68298c73c9424bd6d4ce82cca5"), looks := true }, kinds := [], alts := [], laidByText := true, laidKinds := [.data, .data, .data, .handle], laidTests := true, laidLooks := .later }
def LogStopsCardSaid : Prop := Claim7.holds Tryd.pinned (.plain (OpenSpec.ofChange logStopsSpec)) logStopsCard

/-- THE TIED CARD OF 'mootlaw1.ClockTells'. -/
def clockTellsCard : Claim7 := { stood := { row := clockTellsRow, standIns := [], harness := (true, "0b14536513db411de4419e34f14fbed5a8ee2d68298c73c9424bd6d4ce82cca5"), looks := true }, kinds := [], alts := [], laidByText := true, laidKinds := [.handle], laidTests := true, laidLooks := .later }
def ClockTellsCardSaid : Prop := Claim7.holds Tryd.pinned (.plain (OpenSpec.ofChange clockTellsSpec)) clockTellsCard

/-- THE TIED CARD OF 'mootlaw3.LogKeeps'. -/
def logKeepsCard : Claim7 := { stood := { row := logKeepsRow, standIns := [], harness := (true, "0b14536513db411de4419e34f14fbed5a8ee2d68298c73c9424bd6d4ce82cca5"), looks := true }, kinds := [], alts := [], laidByText := true, laidKinds := [.data, .data, .data, .handle], laidTests := true, laidLooks := .later }
def LogKeepsCardSaid : Prop := Claim7.holds Tryd.pinned (.plain (OpenSpec.ofChange logKeepsSpec)) logKeepsCard

/-- THE SECOND FORM's CARD OF 'mootlaw4.LogRefuses'. -/
def logRefusesUptoCard : Claim7 := { stood := { row := logRefusesUptoRow, standIns := [], harness := (true, "0b14536513db411de4419e34f14fbed5a8ee2d68298c73c9424bd6d4ce82cca5"), looks := true }, kinds := [], alts := [], laidByText := true, laidKinds := [.data, .data, .data, .handle], laidTests := true, laidLooks := .later }
def LogRefusesUptoCardSaid : Prop := Claim7.holds Tryd.pinned (.plain (OpenSpec.upto logRefusesSpec)) logRefusesUptoCard

/-- THE SECOND FORM's CARD OF 'mootlaw3.LogStops'. -/
def logStopsUptoCard : Claim7 := { stood := { row := logStopsUptoRow, standIns := [], harness := (true, "0b14536513db411de4419e34f14fbed5a8ee2d68298c73c9424bd6d4ce82cca5"), looks := true }, kinds := [], alts := [], laidByText := true, laidKinds := [.data, .data, .data, .handle], laidTests := true, laidLooks := .later }
def LogStopsUptoCardSaid : Prop := Claim7.holds Tryd.pinned (.plain (OpenSpec.upto logStopsSpec)) logStopsUptoCard

/-- THE SECOND FORM's CARD OF 'mootlaw1.ClockTells'. -/
def clockTellsUptoCard : Claim7 := { stood := { row := clockTellsUptoRow, standIns := [], harness := (true, "0b14536513db411de4419e34f14fbed5a8ee2d68298c73c9424bd6d4ce82cca5"), looks := true }, kinds := [], alts := [], laidByText := true, laidKinds := [.handle], laidTests := true, laidLooks := .later }
def ClockTellsUptoCardSaid : Prop := Claim7.holds Tryd.pinned (.plain (OpenSpec.upto clockTellsSpec)) clockTellsUptoCard

/-- THE SECOND FORM's CARD OF 'mootlaw3.LogKeeps'. -/
def logKeepsUptoCard : Claim7 := { stood := { row := logKeepsUptoRow, standIns := [], harness := (true, "0b14536513db411de4419e34f14fbed5a8ee2d68298c73c9424bd6d4ce82cca5"), looks := true }, kinds := [], alts := [], laidByText := true, laidKinds := [.data, .data, .data, .handle], laidTests := true, laidLooks := .later }
def LogKeepsUptoCardSaid : Prop := Claim7.holds Tryd.pinned (.plain (OpenSpec.upto logKeepsSpec)) logKeepsUptoCard
end Rows
end Go.Proofs.YtljlnhbndkdlcaaDoor
