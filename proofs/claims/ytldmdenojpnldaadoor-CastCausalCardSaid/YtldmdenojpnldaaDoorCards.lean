/-
  DERIVED. GIVEN WITH THE SEED: THE CARDS: each row of YtldmdenojpnldaaDoorRows.lean that lists a variable, with what it lists TIED to the program's text (the seventh form; the later family's looks); each row that meets fmt, with fmt's text TOLD by the authors' own Lean function (tested against real Go, not proved from fmt's source: count such statements apart). THE CARD IS WHAT COUNTS. Prove the row's statement (the work); the ties are given (YtldmdenojpnldaaDoorTie.lean); close each card by the builder's one call (the guide's Derived/Test/ToyasCard.lean, 'card_holds'). Laid BY PROGRAM, IN A SANDBOX (cutbox-door.mjs). By AI agents, Wed Nov 11 2026. No macro, syntax, notation, axiom, sorry.
-/
import Derived.Test.YtldmdenojpnldaaDoorRows
import GoSem.ClaimSeven
namespace Go.Proofs.YtldmdenojpnldaaDoor
namespace Rows

/-- THE TIED CARD OF 'mootlaw4.NetFull'. -/
def netFullCard : Claim7 := { stood := { row := netFullRow, standIns := [], harness := (true, "efb28e49a20537892941772ce5852f5c50fb2ad86a7a7461c6ae4b1d9ef66813"), looks := true }, kinds := [], alts := [], laidByText := true, laidKinds := [.handle], laidTests := true, laidLooks := .later }
def NetFullCardSaid : Prop := Claim7.holds Tryd.pinned (.plain (OpenSpec.ofChange netFullSpec)) netFullCard

/-- THE TIED CARD OF 'mootlaw1.NetKeeps'. -/
def netKeepsCard : Claim7 := { stood := { row := netKeepsRow, standIns := [], harness := (true, "efb28e49a20537892941772ce5852f5c50fb2ad86a7a7461c6ae4b1d9ef66813"), looks := true }, kinds := [], alts := [], laidByText := true, laidKinds := [.handle], laidTests := true, laidLooks := .later }
def NetKeepsCardSaid : Prop := Claim7.holds Tryd.pinned (.plain (OpenSpec.ofChange netKeepsSpec)) netKeepsCard

/-- THE TIED CARD OF 'mootlaw1.NetPlays'. -/
def netPlaysCard : Claim7 := { stood := { row := netPlaysRow, standIns := [], harness := (true, "efb28e49a20537892941772ce5852f5c50fb2ad86a7a7461c6ae4b1d9ef66813"), looks := true }, kinds := [], alts := [], laidByText := true, laidKinds := [.handle], laidTests := true, laidLooks := .later }
def NetPlaysCardSaid : Prop := Claim7.holds Tryd.pinned (.plain (OpenSpec.ofChange netPlaysSpec)) netPlaysCard

/-- THE TIED CARD OF 'mootlaw1.CauseWaits'. -/
def causeWaitsCard : Claim7 := { stood := { row := causeWaitsRow, standIns := [], harness := (true, "efb28e49a20537892941772ce5852f5c50fb2ad86a7a7461c6ae4b1d9ef66813"), looks := true }, kinds := [], alts := [], laidByText := true, laidKinds := [.handle], laidTests := true, laidLooks := .later }
def CauseWaitsCardSaid : Prop := Claim7.holds Tryd.pinned (.plain (OpenSpec.ofChange causeWaitsSpec)) causeWaitsCard

/-- THE TIED CARD OF 'mootlaw1.CausePlays'. -/
def causePlaysCard : Claim7 := { stood := { row := causePlaysRow, standIns := [], harness := (true, "efb28e49a20537892941772ce5852f5c50fb2ad86a7a7461c6ae4b1d9ef66813"), looks := true }, kinds := [], alts := [], laidByText := true, laidKinds := [.handle], laidTests := true, laidLooks := .later }
def CausePlaysCardSaid : Prop := Claim7.holds Tryd.pinned (.plain (OpenSpec.ofChange causePlaysSpec)) causePlaysCard

/-- THE TIED CARD OF 'mootlaw4.CastAll'. -/
def castAllCard : Claim7 := { stood := { row := castAllRow, standIns := [], harness := (true, "efb28e49a20537892941772ce5852f5c50fb2ad86a7a7461c6ae4b1d9ef66813"), looks := true }, kinds := [], alts := [], laidByText := true, laidKinds := [.handle], laidTests := true, laidLooks := .later }
def CastAllCardSaid : Prop := Claim7.holds Tryd.pinned (.plain (OpenSpec.ofChange castAllSpec)) castAllCard

/-- THE TIED CARD OF 'mootlaw1.CastPlays'. -/
def castPlaysCard : Claim7 := { stood := { row := castPlaysRow, standIns := [], harness := (true, "efb28e49a20537892941772ce5852f5c50fb2ad86a7a7461c6ae4b1d9ef66813"), looks := true }, kinds := [], alts := [], laidByText := true, laidKinds := [.handle], laidTests := true, laidLooks := .later }
def CastPlaysCardSaid : Prop := Claim7.holds Tryd.pinned (.plain (OpenSpec.ofChange castPlaysSpec)) castPlaysCard

/-- THE TIED CARD OF 'mootlaw1.CastCausal'. -/
def castCausalCard : Claim7 := { stood := { row := castCausalRow, standIns := [], harness := (true, "efb28e49a20537892941772ce5852f5c50fb2ad86a7a7461c6ae4b1d9ef66813"), looks := true }, kinds := [], alts := [], laidByText := true, laidKinds := [.handle], laidTests := true, laidLooks := .later }
def CastCausalCardSaid : Prop := Claim7.holds Tryd.pinned (.plain (OpenSpec.ofChange castCausalSpec)) castCausalCard

/-- THE TIED CARD OF 'mootlaw2.AgreeOne'. -/
def agreeOneCard : Claim7 := { stood := { row := agreeOneRow, standIns := [], harness := (true, "efb28e49a20537892941772ce5852f5c50fb2ad86a7a7461c6ae4b1d9ef66813"), looks := true }, kinds := [], alts := [], laidByText := true, laidKinds := [.handle], laidTests := true, laidLooks := .later }
def AgreeOneCardSaid : Prop := Claim7.holds Tryd.pinned (.plain (OpenSpec.ofChange agreeOneSpec)) agreeOneCard

/-- THE TIED CARD OF 'mootlaw2.AgreePlays'. -/
def agreePlaysCard : Claim7 := { stood := { row := agreePlaysRow, standIns := [], harness := (true, "efb28e49a20537892941772ce5852f5c50fb2ad86a7a7461c6ae4b1d9ef66813"), looks := true }, kinds := [], alts := [], laidByText := true, laidKinds := [.handle], laidTests := true, laidLooks := .later }
def AgreePlaysCardSaid : Prop := Claim7.holds Tryd.pinned (.plain (OpenSpec.ofChange agreePlaysSpec)) agreePlaysCard

/-- THE SECOND FORM's CARD OF 'mootlaw4.NetFull'. -/
def netFullUptoCard : Claim7 := { stood := { row := netFullUptoRow, standIns := [], harness := (true, "efb28e49a20537892941772ce5852f5c50fb2ad86a7a7461c6ae4b1d9ef66813"), looks := true }, kinds := [], alts := [], laidByText := true, laidKinds := [.handle], laidTests := true, laidLooks := .later }
def NetFullUptoCardSaid : Prop := Claim7.holds Tryd.pinned (.plain (OpenSpec.upto netFullSpec)) netFullUptoCard

/-- THE SECOND FORM's CARD OF 'mootlaw1.NetKeeps'. -/
def netKeepsUptoCard : Claim7 := { stood := { row := netKeepsUptoRow, standIns := [], harness := (true, "efb28e49a20537892941772ce5852f5c50fb2ad86a7a7461c6ae4b1d9ef66813"), looks := true }, kinds := [], alts := [], laidByText := true, laidKinds := [.handle], laidTests := true, laidLooks := .later }
def NetKeepsUptoCardSaid : Prop := Claim7.holds Tryd.pinned (.plain (OpenSpec.upto netKeepsSpec)) netKeepsUptoCard

/-- THE SECOND FORM's CARD OF 'mootlaw1.NetPlays'. -/
def netPlaysUptoCard : Claim7 := { stood := { row := netPlaysUptoRow, standIns := [], harness := (true, "efb28e49a20537892941772ce5852f5c50fb2ad86a7a7461c6ae4b1d9ef66813"), looks := true }, kinds := [], alts := [], laidByText := true, laidKinds := [.handle], laidTests := true, laidLooks := .later }
def NetPlaysUptoCardSaid : Prop := Claim7.holds Tryd.pinned (.plain (OpenSpec.upto netPlaysSpec)) netPlaysUptoCard

/-- THE SECOND FORM's CARD OF 'mootlaw1.CauseWaits'. -/
def causeWaitsUptoCard : Claim7 := { stood := { row := causeWaitsUptoRow, standIns := [], harness := (true, "efb28e49a20537892941772ce5852f5c50fb2ad86a7a7461c6ae4b1d9ef66813"), looks := true }, kinds := [], alts := [], laidByText := true, laidKinds := [.handle], laidTests := true, laidLooks := .later }
def CauseWaitsUptoCardSaid : Prop := Claim7.holds Tryd.pinned (.plain (OpenSpec.upto causeWaitsSpec)) causeWaitsUptoCard

/-- THE SECOND FORM's CARD OF 'mootlaw1.CausePlays'. -/
def causePlaysUptoCard : Claim7 := { stood := { row := causePlaysUptoRow, standIns := [], harness := (true, "efb28e49a20537892941772ce5852f5c50fb2ad86a7a7461c6ae4b1d9ef66813"), looks := true }, kinds := [], alts := [], laidByText := true, laidKinds := [.handle], laidTests := true, laidLooks := .later }
def CausePlaysUptoCardSaid : Prop := Claim7.holds Tryd.pinned (.plain (OpenSpec.upto causePlaysSpec)) causePlaysUptoCard

/-- THE SECOND FORM's CARD OF 'mootlaw4.CastAll'. -/
def castAllUptoCard : Claim7 := { stood := { row := castAllUptoRow, standIns := [], harness := (true, "efb28e49a20537892941772ce5852f5c50fb2ad86a7a7461c6ae4b1d9ef66813"), looks := true }, kinds := [], alts := [], laidByText := true, laidKinds := [.handle], laidTests := true, laidLooks := .later }
def CastAllUptoCardSaid : Prop := Claim7.holds Tryd.pinned (.plain (OpenSpec.upto castAllSpec)) castAllUptoCard

/-- THE SECOND FORM's CARD OF 'mootlaw1.CastPlays'. -/
def castPlaysUptoCard : Claim7 := { stood := { row := castPlaysUptoRow, standIns := [], harness := (true, "efb28e49a20537892941772ce5852f5c50fb2ad86a7a7461c6ae4b1d9ef66813"), looks := true }, kinds := [], alts := [], laidByText := true, laidKinds := [.handle], laidTests := true, laidLooks := .later }
def CastPlaysUptoCardSaid : Prop := Claim7.holds Tryd.pinned (.plain (OpenSpec.upto castPlaysSpec)) castPlaysUptoCard

/-- THE SECOND FORM's CARD OF 'mootlaw1.CastCausal'. -/
def castCausalUptoCard : Claim7 := { stood := { row := castCausalUptoRow, standIns := [], harness := (true, "efb28e49a20537892941772ce5852f5c50fb2ad86a7a7461c6ae4b1d9ef66813"), looks := true }, kinds := [], alts := [], laidByText := true, laidKinds := [.handle], laidTests := true, laidLooks := .later }
def CastCausalUptoCardSaid : Prop := Claim7.holds Tryd.pinned (.plain (OpenSpec.upto castCausalSpec)) castCausalUptoCard

/-- THE SECOND FORM's CARD OF 'mootlaw2.AgreeOne'. -/
def agreeOneUptoCard : Claim7 := { stood := { row := agreeOneUptoRow, standIns := [], harness := (true, "efb28e49a20537892941772ce5852f5c50fb2ad86a7a7461c6ae4b1d9ef66813"), looks := true }, kinds := [], alts := [], laidByText := true, laidKinds := [.handle], laidTests := true, laidLooks := .later }
def AgreeOneUptoCardSaid : Prop := Claim7.holds Tryd.pinned (.plain (OpenSpec.upto agreeOneSpec)) agreeOneUptoCard

/-- THE SECOND FORM's CARD OF 'mootlaw2.AgreePlays'. -/
def agreePlaysUptoCard : Claim7 := { stood := { row := agreePlaysUptoRow, standIns := [], harness := (true, "efb28e49a20537892941772ce5852f5c50fb2ad86a7a7461c6ae4b1d9ef66813"), looks := true }, kinds := [], alts := [], laidByText := true, laidKinds := [.handle], laidTests := true, laidLooks := .later }
def AgreePlaysUptoCardSaid : Prop := Claim7.holds Tryd.pinned (.plain (OpenSpec.upto agreePlaysSpec)) agreePlaysUptoCard
end Rows
end Go.Proofs.YtldmdenojpnldaaDoor
