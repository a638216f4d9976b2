/-
  DERIVED. GIVEN WITH THE SEED: THE CARDS: each row of YteelldblfmhjlaaDoorRows.lean that lists a variable, with what it lists TIED to the program's text (the seventh form; the later family's looks); each row that meets fmt, with fmt's text TOLD by the authors' own Lean function (tested against real Go, not proved from fmt's source: count such statements apart). THE CARD IS WHAT COUNTS. Prove the row's statement (the work); the ties are given (YteelldblfmhjlaaDoorTie.lean); close each card by the builder's one call (the guide's Derived/Test/ToyasCard.lean, 'card_holds'). Laid BY PROGRAM, IN A SANDBOX (cutbox-door.mjs). By AI agents, Wed Nov 11 2026. No macro, syntax, notation, axiom, sorry.
-/
import Derived.Test.YteelldblfmhjlaaDoorRows
import GoSem.ClaimSeven
namespace Go.Proofs.YteelldblfmhjlaaDoor
namespace Rows

/-- THE TIED CARD OF 'mootlaw1.VectorTells'. -/
def vectorTellsCard : Claim7 := { stood := { row := vectorTellsRow, standIns := [], harness := (true, "33a68201540236a8caf062e9fedd8d0f342cd831468be7e54c55c2ffad5e0a55"), looks := true }, kinds := [], alts := [], laidByText := true, laidKinds := [.handle], laidTests := true, laidLooks := .later }
def VectorTellsCardSaid : Prop := Claim7.holds Tryd.pinned (.plain (OpenSpec.ofChange vectorTellsSpec)) vectorTellsCard

/-- THE TIED CARD OF 'mootlaw2.StablePlays'. -/
def stablePlaysCard : Claim7 := { stood := { row := stablePlaysRow, standIns := [], harness := (true, "33a68201540236a8caf062e9fedd8d0f342cd831468be7e54c55c2ffad5e0a55"), looks := true }, kinds := [], alts := [], laidByText := true, laidKinds := [.handle], laidTests := true, laidLooks := .later }
def StablePlaysCardSaid : Prop := Claim7.holds Tryd.pinned (.plain (OpenSpec.ofChange stablePlaysSpec)) stablePlaysCard

/-- THE TIED CARD OF 'mootlaw1.FifoWhole'. -/
def fifoWholeCard : Claim7 := { stood := { row := fifoWholeRow, standIns := [], harness := (true, "33a68201540236a8caf062e9fedd8d0f342cd831468be7e54c55c2ffad5e0a55"), looks := true }, kinds := [], alts := [], laidByText := true, laidKinds := [.handle], laidTests := true, laidLooks := .later }
def FifoWholeCardSaid : Prop := Claim7.holds Tryd.pinned (.plain (OpenSpec.ofChange fifoWholeSpec)) fifoWholeCard

/-- THE TIED CARD OF 'mootlaw1.FifoPlays'. -/
def fifoPlaysCard : Claim7 := { stood := { row := fifoPlaysRow, standIns := [], harness := (true, "33a68201540236a8caf062e9fedd8d0f342cd831468be7e54c55c2ffad5e0a55"), looks := true }, kinds := [], alts := [], laidByText := true, laidKinds := [.handle], laidTests := true, laidLooks := .later }
def FifoPlaysCardSaid : Prop := Claim7.holds Tryd.pinned (.plain (OpenSpec.ofChange fifoPlaysSpec)) fifoPlaysCard

/-- THE TIED CARD OF 'mootlaw4.AgainOld'. -/
def againOldCard : Claim7 := { stood := { row := againOldRow, standIns := [], harness := (true, "33a68201540236a8caf062e9fedd8d0f342cd831468be7e54c55c2ffad5e0a55"), looks := true }, kinds := [], alts := [], laidByText := true, laidKinds := [.handle], laidTests := true, laidLooks := .later }
def AgainOldCardSaid : Prop := Claim7.holds Tryd.pinned (.plain (OpenSpec.ofChange againOldSpec)) againOldCard

/-- THE TIED CARD OF 'mootlaw2.AgainPlays'. -/
def againPlaysCard : Claim7 := { stood := { row := againPlaysRow, standIns := [], harness := (true, "33a68201540236a8caf062e9fedd8d0f342cd831468be7e54c55c2ffad5e0a55"), looks := true }, kinds := [], alts := [], laidByText := true, laidKinds := [.handle], laidTests := true, laidLooks := .later }
def AgainPlaysCardSaid : Prop := Claim7.holds Tryd.pinned (.plain (OpenSpec.ofChange againPlaysSpec)) againPlaysCard

/-- THE TIED CARD OF 'mootlaw2.TokenPlays'. -/
def tokenPlaysCard : Claim7 := { stood := { row := tokenPlaysRow, standIns := [], harness := (true, "33a68201540236a8caf062e9fedd8d0f342cd831468be7e54c55c2ffad5e0a55"), looks := true }, kinds := [], alts := [], laidByText := true, laidKinds := [.handle], laidTests := true, laidLooks := .later }
def TokenPlaysCardSaid : Prop := Claim7.holds Tryd.pinned (.plain (OpenSpec.ofChange tokenPlaysSpec)) tokenPlaysCard

/-- THE TIED CARD OF 'mootlaw2.LeaderPlays'. -/
def leaderPlaysCard : Claim7 := { stood := { row := leaderPlaysRow, standIns := [], harness := (true, "33a68201540236a8caf062e9fedd8d0f342cd831468be7e54c55c2ffad5e0a55"), looks := true }, kinds := [], alts := [], laidByText := true, laidKinds := [.handle], laidTests := true, laidLooks := .later }
def LeaderPlaysCardSaid : Prop := Claim7.holds Tryd.pinned (.plain (OpenSpec.ofChange leaderPlaysSpec)) leaderPlaysCard

/-- THE SECOND FORM's CARD OF 'mootlaw1.VectorTells'. -/
def vectorTellsUptoCard : Claim7 := { stood := { row := vectorTellsUptoRow, standIns := [], harness := (true, "33a68201540236a8caf062e9fedd8d0f342cd831468be7e54c55c2ffad5e0a55"), looks := true }, kinds := [], alts := [], laidByText := true, laidKinds := [.handle], laidTests := true, laidLooks := .later }
def VectorTellsUptoCardSaid : Prop := Claim7.holds Tryd.pinned (.plain (OpenSpec.upto vectorTellsSpec)) vectorTellsUptoCard

/-- THE SECOND FORM's CARD OF 'mootlaw2.StablePlays'. -/
def stablePlaysUptoCard : Claim7 := { stood := { row := stablePlaysUptoRow, standIns := [], harness := (true, "33a68201540236a8caf062e9fedd8d0f342cd831468be7e54c55c2ffad5e0a55"), looks := true }, kinds := [], alts := [], laidByText := true, laidKinds := [.handle], laidTests := true, laidLooks := .later }
def StablePlaysUptoCardSaid : Prop := Claim7.holds Tryd.pinned (.plain (OpenSpec.upto stablePlaysSpec)) stablePlaysUptoCard

/-- THE SECOND FORM's CARD OF 'mootlaw1.FifoWhole'. -/
def fifoWholeUptoCard : Claim7 := { stood := { row := fifoWholeUptoRow, standIns := [], harness := (true, "33a68201540236a8caf062e9fedd8d0f342cd831468be7e54c55c2ffad5e0a55"), looks := true }, kinds := [], alts := [], laidByText := true, laidKinds := [.handle], laidTests := true, laidLooks := .later }
def FifoWholeUptoCardSaid : Prop := Claim7.holds Tryd.pinned (.plain (OpenSpec.upto fifoWholeSpec)) fifoWholeUptoCard

/-- THE SECOND FORM's CARD OF 'mootlaw1.FifoPlays'. -/
def fifoPlaysUptoCard : Claim7 := { stood := { row := fifoPlaysUptoRow, standIns := [], harness := (true, "33a68201540236a8caf062e9fedd8d0f342cd831468be7e54c55c2ffad5e0a55"), looks := true }, kinds := [], alts := [], laidByText := true, laidKinds := [.handle], laidTests := true, laidLooks := .later }
def FifoPlaysUptoCardSaid : Prop := Claim7.holds Tryd.pinned (.plain (OpenSpec.upto fifoPlaysSpec)) fifoPlaysUptoCard

/-- THE SECOND FORM's CARD OF 'mootlaw4.AgainOld'. -/
def againOldUptoCard : Claim7 := { stood := { row := againOldUptoRow, standIns := [], harness := (true, "33a68201540236a8caf062e9fedd8d0f342cd831468be7e54c55c2ffad5e0a55"), looks := true }, kinds := [], alts := [], laidByText := true, laidKinds := [.handle], laidTests := true, laidLooks := .later }
def AgainOldUptoCardSaid : Prop := Claim7.holds Tryd.pinned (.plain (OpenSpec.upto againOldSpec)) againOldUptoCard

/-- THE SECOND FORM's CARD OF 'mootlaw2.AgainPlays'. -/
def againPlaysUptoCard : Claim7 := { stood := { row := againPlaysUptoRow, standIns := [], harness := (true, "33a68201540236a8caf062e9fedd8d0f342cd831468be7e54c55c2ffad5e0a55"), looks := true }, kinds := [], alts := [], laidByText := true, laidKinds := [.handle], laidTests := true, laidLooks := .later }
def AgainPlaysUptoCardSaid : Prop := Claim7.holds Tryd.pinned (.plain (OpenSpec.upto againPlaysSpec)) againPlaysUptoCard

/-- THE SECOND FORM's CARD OF 'mootlaw2.TokenPlays'. -/
def tokenPlaysUptoCard : Claim7 := { stood := { row := tokenPlaysUptoRow, standIns := [], harness := (true, "33a68201540236a8caf062e9fedd8d0f342cd831468be7e54c55c2ffad5e0a55"), looks := true }, kinds := [], alts := [], laidByText := true, laidKinds := [.handle], laidTests := true, laidLooks := .later }
def TokenPlaysUptoCardSaid : Prop := Claim7.holds Tryd.pinned (.plain (OpenSpec.upto tokenPlaysSpec)) tokenPlaysUptoCard

/-- THE SECOND FORM's CARD OF 'mootlaw2.LeaderPlays'. -/
def leaderPlaysUptoCard : Claim7 := { stood := { row := leaderPlaysUptoRow, standIns := [], harness := (true, "33a68201540236a8caf062e9fedd8d0f342cd831468be7e54c55c2ffad5e0a55"), looks := true }, kinds := [], alts := [], laidByText := true, laidKinds := [.handle], laidTests := true, laidLooks := .later }
def LeaderPlaysUptoCardSaid : Prop := Claim7.holds Tryd.pinned (.plain (OpenSpec.upto leaderPlaysSpec)) leaderPlaysUptoCard
end Rows
end Go.Proofs.YteelldblfmhjlaaDoor
