/-
  No cell of these rows narrows 'for every input' (looked for: loops, veiled, ifaces, maps, wideKeys, modest, calm, conditions, laid).
  DERIVED. THE GIVEN ROWS OF THIS SEAT. 25 by the template 'for every input the law returns true; each argument reads behind the call as it read before'; 0 by the template 'total and deterministic' (their statements: YtclapdicocbnoaaTotals.lean).
  GIVEN WITH THE SEED: the statements are not yours to turn. If you find one false, say at which input.
  Laid BY PROGRAM, IN A SANDBOX (cutbox-rows.mjs): the forced cells as the released guide's own fill.sh prints them over the translation 96218886314ac31e… (all of the seat's roots in one cut). By AI agents, Wed Nov 11 2026. No macro, syntax, notation, axiom, sorry.
-/
import Derived.Test.YtclapdicocbnoaaChecked
import GoSem.Claim
import GoSem.ClaimJoined
import GoSem.ClaimMapViews
import Derived.JoinedTies
import Derived.KernelRfl
namespace Go.Proofs.Ytclapdicocbnoaa
/- THE CELL 'sum', in the pinned program and in every row, IS THE sha256 OF THE DUMP (.gsa) THAT YtclapdicocbnoaaProg.lean LOADS. Nothing in Lean hashes anything: it is a label: what it is worth is what the hold of that sum in a sandbox is worth. -/
noncomputable def Try.pinned : Pinned := { name := "ytclapdicocbnoaa", sum := "96218886314ac31e3a8ce7534ce4935989b7587a40ea576252b867812d8f6ebc", checked := Try.checked }
namespace Rows
def none {H : Type} : Left H := { results := [], args := [] }

/-- 'mootlaw4.PiecesFew': WHATEVER THE INPUT: true; the input reads as it did. -/
def piecesFewSpec : ChangeSpec := { name := "piecesFew", fn := fun _ => fun
  | [d1, d2] => { results := [.lit (.bool true)], args := [d1, d2] }
  | _ => none }
def piecesFewRow : OpenClaim := { program := "ytclapdicocbnoaa", sum := "96218886314ac31e3a8ce7534ce4935989b7587a40ea576252b867812d8f6ebc", func := "mootbell/mootlaw4.PiecesFew", spec := "piecesFew", plainKeys := false, apart := false }
def PiecesFewSaid : Prop := piecesFewRow.holds Try.pinned (OpenSpec.ofChange piecesFewSpec)

/-- ITS FALSE NEIGHBOUR: 'it returns false'. Refute it at one input. -/
def piecesFewWrong : ChangeSpec := { name := "piecesFew", fn := fun _ => fun
  | [d1, d2] => { results := [.lit (.bool false)], args := [d1, d2] }
  | _ => none }
def PiecesFewWrongFalsely : Prop := piecesFewRow.holds Try.pinned (OpenSpec.ofChange piecesFewWrong)

/-- 'mootlaw1.Names': WHATEVER THE INPUT: true; the input reads as it did. -/
def namesSpec : ChangeSpec := { name := "names", fn := fun _ => fun
  | [] => { results := [.lit (.bool true)], args := [] }
  | _ => none }
def namesRow : OpenClaim := { program := "ytclapdicocbnoaa", sum := "96218886314ac31e3a8ce7534ce4935989b7587a40ea576252b867812d8f6ebc", func := "mootbell/mootlaw1.Names", spec := "names", plainKeys := false, apart := false }
def NamesSaid : Prop := namesRow.holds Try.pinned (OpenSpec.ofChange namesSpec)

/-- ITS FALSE NEIGHBOUR: 'it returns false'. Refute it at one input. -/
def namesWrong : ChangeSpec := { name := "names", fn := fun _ => fun
  | [] => { results := [.lit (.bool false)], args := [] }
  | _ => none }
def NamesWrongFalsely : Prop := namesRow.holds Try.pinned (OpenSpec.ofChange namesWrong)

/-- 'mootlaw4.TokenRound': WHATEVER THE INPUT: true; the input reads as it did. -/
def tokenRoundSpec : ChangeSpec := { name := "tokenRound", fn := fun _ => fun
  | [d1, d2, d3] => { results := [.lit (.bool true)], args := [d1, d2, d3] }
  | _ => none }
def tokenRoundRow : OpenClaim := { program := "ytclapdicocbnoaa", sum := "96218886314ac31e3a8ce7534ce4935989b7587a40ea576252b867812d8f6ebc", func := "mootbell/mootlaw4.TokenRound", spec := "tokenRound", plainKeys := false, apart := false }
def TokenRoundSaid : Prop := tokenRoundRow.holds Try.pinned (OpenSpec.ofChange tokenRoundSpec)

/-- ITS FALSE NEIGHBOUR: 'it returns false'. Refute it at one input. -/
def tokenRoundWrong : ChangeSpec := { name := "tokenRound", fn := fun _ => fun
  | [d1, d2, d3] => { results := [.lit (.bool false)], args := [d1, d2, d3] }
  | _ => none }
def TokenRoundWrongFalsely : Prop := tokenRoundRow.holds Try.pinned (OpenSpec.ofChange tokenRoundWrong)

/-- 'mootlaw4.FifoBack': WHATEVER THE INPUT: true; the input reads as it did. -/
def fifoBackSpec : ChangeSpec := { name := "fifoBack", fn := fun _ => fun
  | [d1, d2] => { results := [.lit (.bool true)], args := [d1, d2] }
  | _ => none }
def fifoBackRow : OpenClaim := { program := "ytclapdicocbnoaa", sum := "96218886314ac31e3a8ce7534ce4935989b7587a40ea576252b867812d8f6ebc", func := "mootbell/mootlaw4.FifoBack", spec := "fifoBack", plainKeys := false, apart := false }
def FifoBackSaid : Prop := fifoBackRow.holds Try.pinned (OpenSpec.ofChange fifoBackSpec)

/-- ITS FALSE NEIGHBOUR: 'it returns false'. Refute it at one input. -/
def fifoBackWrong : ChangeSpec := { name := "fifoBack", fn := fun _ => fun
  | [d1, d2] => { results := [.lit (.bool false)], args := [d1, d2] }
  | _ => none }
def FifoBackWrongFalsely : Prop := fifoBackRow.holds Try.pinned (OpenSpec.ofChange fifoBackWrong)

/-- 'mootlaw4.VectorApart': WHATEVER THE INPUT: true; the input reads as it did. -/
def vectorApartSpec : ChangeSpec := { name := "vectorApart", fn := fun _ => fun
  | [d1, d2] => { results := [.lit (.bool true)], args := [d1, d2] }
  | _ => none }
def vectorApartRow : OpenClaim := { program := "ytclapdicocbnoaa", sum := "96218886314ac31e3a8ce7534ce4935989b7587a40ea576252b867812d8f6ebc", func := "mootbell/mootlaw4.VectorApart", spec := "vectorApart", unfollowed := true, recurses := true, plainKeys := false, apart := false }
def VectorApartSaid : Prop := vectorApartRow.holds Try.pinned (OpenSpec.ofChange vectorApartSpec)

/-- ITS FALSE NEIGHBOUR: 'it returns false'. Refute it at one input. -/
def vectorApartWrong : ChangeSpec := { name := "vectorApart", fn := fun _ => fun
  | [d1, d2] => { results := [.lit (.bool false)], args := [d1, d2] }
  | _ => none }
def VectorApartWrongFalsely : Prop := vectorApartRow.holds Try.pinned (OpenSpec.ofChange vectorApartWrong)

/-- 'mootlaw2.TokenFair': WHATEVER THE INPUT: true; the input reads as it did. -/
def tokenFairSpec : ChangeSpec := { name := "tokenFair", fn := fun _ => fun
  | [d1, d2, d3] => { results := [.lit (.bool true)], args := [d1, d2, d3] }
  | _ => none }
def tokenFairRow : OpenClaim := { program := "ytclapdicocbnoaa", sum := "96218886314ac31e3a8ce7534ce4935989b7587a40ea576252b867812d8f6ebc", func := "mootbell/mootlaw2.TokenFair", spec := "tokenFair", plainKeys := false, apart := false }
def TokenFairSaid : Prop := tokenFairRow.holds Try.pinned (OpenSpec.ofChange tokenFairSpec)

/-- ITS FALSE NEIGHBOUR: 'it returns false'. Refute it at one input. -/
def tokenFairWrong : ChangeSpec := { name := "tokenFair", fn := fun _ => fun
  | [d1, d2, d3] => { results := [.lit (.bool false)], args := [d1, d2, d3] }
  | _ => none }
def TokenFairWrongFalsely : Prop := tokenFairRow.holds Try.pinned (OpenSpec.ofChange tokenFairWrong)

/-- 'mootlaw4.LeaderBack': WHATEVER THE INPUT: true; the input reads as it did. -/
def leaderBackSpec : ChangeSpec := { name := "leaderBack", fn := fun _ => fun
  | [d1, d2] => { results := [.lit (.bool true)], args := [d1, d2] }
  | _ => none }
def leaderBackRow : OpenClaim := { program := "ytclapdicocbnoaa", sum := "96218886314ac31e3a8ce7534ce4935989b7587a40ea576252b867812d8f6ebc", func := "mootbell/mootlaw4.LeaderBack", spec := "leaderBack", plainKeys := false, apart := false }
def LeaderBackSaid : Prop := leaderBackRow.holds Try.pinned (OpenSpec.ofChange leaderBackSpec)

/-- ITS FALSE NEIGHBOUR: 'it returns false'. Refute it at one input. -/
def leaderBackWrong : ChangeSpec := { name := "leaderBack", fn := fun _ => fun
  | [d1, d2] => { results := [.lit (.bool false)], args := [d1, d2] }
  | _ => none }
def LeaderBackWrongFalsely : Prop := leaderBackRow.holds Try.pinned (OpenSpec.ofChange leaderBackWrong)

/-- 'mootlaw4.StableOne': WHATEVER THE INPUT: true; the input reads as it did. -/
def stableOneSpec : ChangeSpec := { name := "stableOne", fn := fun _ => fun
  | [d1, d2, d3] => { results := [.lit (.bool true)], args := [d1, d2, d3] }
  | _ => none }
def stableOneRow : OpenClaim := { program := "ytclapdicocbnoaa", sum := "96218886314ac31e3a8ce7534ce4935989b7587a40ea576252b867812d8f6ebc", func := "mootbell/mootlaw4.StableOne", spec := "stableOne", unfollowed := true, recurses := true, plainKeys := false, apart := false }
def StableOneSaid : Prop := stableOneRow.holds Try.pinned (OpenSpec.ofChange stableOneSpec)

/-- ITS FALSE NEIGHBOUR: 'it returns false'. Refute it at one input. -/
def stableOneWrong : ChangeSpec := { name := "stableOne", fn := fun _ => fun
  | [d1, d2, d3] => { results := [.lit (.bool false)], args := [d1, d2, d3] }
  | _ => none }
def StableOneWrongFalsely : Prop := stableOneRow.holds Try.pinned (OpenSpec.ofChange stableOneWrong)

/-- 'mootlaw2.LeaderOne': WHATEVER THE INPUT: true; the input reads as it did. -/
def leaderOneSpec : ChangeSpec := { name := "leaderOne", fn := fun _ => fun
  | [d1, d2, d3] => { results := [.lit (.bool true)], args := [d1, d2, d3] }
  | _ => none }
def leaderOneRow : OpenClaim := { program := "ytclapdicocbnoaa", sum := "96218886314ac31e3a8ce7534ce4935989b7587a40ea576252b867812d8f6ebc", func := "mootbell/mootlaw2.LeaderOne", spec := "leaderOne", plainKeys := false, apart := false }
def LeaderOneSaid : Prop := leaderOneRow.holds Try.pinned (OpenSpec.ofChange leaderOneSpec)

/-- ITS FALSE NEIGHBOUR: 'it returns false'. Refute it at one input. -/
def leaderOneWrong : ChangeSpec := { name := "leaderOne", fn := fun _ => fun
  | [d1, d2, d3] => { results := [.lit (.bool false)], args := [d1, d2, d3] }
  | _ => none }
def LeaderOneWrongFalsely : Prop := leaderOneRow.holds Try.pinned (OpenSpec.ofChange leaderOneWrong)

/-- 'mootlaw1.VectorJoins': WHATEVER THE INPUT: true; the input reads as it did. -/
def vectorJoinsSpec : ChangeSpec := { name := "vectorJoins", fn := fun _ => fun
  | [d1, d2, d3, d4] => { results := [.lit (.bool true)], args := [d1, d2, d3, d4] }
  | _ => none }
def vectorJoinsRow : OpenClaim := { program := "ytclapdicocbnoaa", sum := "96218886314ac31e3a8ce7534ce4935989b7587a40ea576252b867812d8f6ebc", func := "mootbell/mootlaw1.VectorJoins", spec := "vectorJoins", unfollowed := true, recurses := true, plainKeys := false, apart := false }
def VectorJoinsSaid : Prop := vectorJoinsRow.holds Try.pinned (OpenSpec.ofChange vectorJoinsSpec)

/-- ITS FALSE NEIGHBOUR: 'it returns false'. Refute it at one input. -/
def vectorJoinsWrong : ChangeSpec := { name := "vectorJoins", fn := fun _ => fun
  | [d1, d2, d3, d4] => { results := [.lit (.bool false)], args := [d1, d2, d3, d4] }
  | _ => none }
def VectorJoinsWrongFalsely : Prop := vectorJoinsRow.holds Try.pinned (OpenSpec.ofChange vectorJoinsWrong)

/-- 'mootlaw2.AgainWhole': WHATEVER THE INPUT: true; the input reads as it did. -/
def againWholeSpec : ChangeSpec := { name := "againWhole", fn := fun _ => fun
  | [d1, d2, d3] => { results := [.lit (.bool true)], args := [d1, d2, d3] }
  | _ => none }
def againWholeRow : OpenClaim := { program := "ytclapdicocbnoaa", sum := "96218886314ac31e3a8ce7534ce4935989b7587a40ea576252b867812d8f6ebc", func := "mootbell/mootlaw2.AgainWhole", spec := "againWhole", plainKeys := false, apart := false }
def AgainWholeSaid : Prop := againWholeRow.holds Try.pinned (OpenSpec.ofChange againWholeSpec)

/-- ITS FALSE NEIGHBOUR: 'it returns false'. Refute it at one input. -/
def againWholeWrong : ChangeSpec := { name := "againWhole", fn := fun _ => fun
  | [d1, d2, d3] => { results := [.lit (.bool false)], args := [d1, d2, d3] }
  | _ => none }
def AgainWholeWrongFalsely : Prop := againWholeRow.holds Try.pinned (OpenSpec.ofChange againWholeWrong)

/-- 'mootlaw2.StableRises': WHATEVER THE INPUT: true; the input reads as it did. -/
def stableRisesSpec : ChangeSpec := { name := "stableRises", fn := fun _ => fun
  | [d1, d2, d3, d4] => { results := [.lit (.bool true)], args := [d1, d2, d3, d4] }
  | _ => none }
def stableRisesRow : OpenClaim := { program := "ytclapdicocbnoaa", sum := "96218886314ac31e3a8ce7534ce4935989b7587a40ea576252b867812d8f6ebc", func := "mootbell/mootlaw2.StableRises", spec := "stableRises", unfollowed := true, recurses := true, plainKeys := false, apart := false }
def StableRisesSaid : Prop := stableRisesRow.holds Try.pinned (OpenSpec.ofChange stableRisesSpec)

/-- ITS FALSE NEIGHBOUR: 'it returns false'. Refute it at one input. -/
def stableRisesWrong : ChangeSpec := { name := "stableRises", fn := fun _ => fun
  | [d1, d2, d3, d4] => { results := [.lit (.bool false)], args := [d1, d2, d3, d4] }
  | _ => none }
def StableRisesWrongFalsely : Prop := stableRisesRow.holds Try.pinned (OpenSpec.ofChange stableRisesWrong)

/-- 'mootlaw4.CauseAlone': WHATEVER THE INPUT: true; the input reads as it did. -/
def causeAloneSpec : ChangeSpec := { name := "causeAlone", fn := fun _ => fun
  | [d1, d2, d3] => { results := [.lit (.bool true)], args := [d1, d2, d3] }
  | _ => none }
def causeAloneRow : OpenClaim := { program := "ytclapdicocbnoaa", sum := "96218886314ac31e3a8ce7534ce4935989b7587a40ea576252b867812d8f6ebc", func := "mootbell/mootlaw4.CauseAlone", spec := "causeAlone", unfollowed := true, recurses := true, plainKeys := false, apart := false }
def CauseAloneSaid : Prop := causeAloneRow.holds Try.pinned (OpenSpec.ofChange causeAloneSpec)

/-- ITS FALSE NEIGHBOUR: 'it returns false'. Refute it at one input. -/
def causeAloneWrong : ChangeSpec := { name := "causeAlone", fn := fun _ => fun
  | [d1, d2, d3] => { results := [.lit (.bool false)], args := [d1, d2, d3] }
  | _ => none }
def CauseAloneWrongFalsely : Prop := causeAloneRow.holds Try.pinned (OpenSpec.ofChange causeAloneWrong)

/-- 'mootlaw3.ViewOne': WHATEVER THE INPUT: true; the input reads as it did. -/
def viewOneSpec : ChangeSpec := { name := "viewOne", fn := fun _ => fun
  | [d1, d2, d3] => { results := [.lit (.bool true)], args := [d1, d2, d3] }
  | _ => none }
def viewOneRow : OpenClaim := { program := "ytclapdicocbnoaa", sum := "96218886314ac31e3a8ce7534ce4935989b7587a40ea576252b867812d8f6ebc", func := "mootbell/mootlaw3.ViewOne", spec := "viewOne", unfollowed := true, recurses := true, plainKeys := false, apart := false }
def ViewOneSaid : Prop := viewOneRow.holds Try.pinned (OpenSpec.ofChange viewOneSpec)

/-- ITS FALSE NEIGHBOUR: 'it returns false'. Refute it at one input. -/
def viewOneWrong : ChangeSpec := { name := "viewOne", fn := fun _ => fun
  | [d1, d2, d3] => { results := [.lit (.bool false)], args := [d1, d2, d3] }
  | _ => none }
def ViewOneWrongFalsely : Prop := viewOneRow.holds Try.pinned (OpenSpec.ofChange viewOneWrong)

/-- 'mootlaw4.ClockAlone': WHATEVER THE INPUT: true; the input reads as it did. -/
def clockAloneSpec : ChangeSpec := { name := "clockAlone", fn := fun _ => fun
  | [d1, d2] => { results := [.lit (.bool true)], args := [d1, d2] }
  | _ => none }
def clockAloneRow : OpenClaim := { program := "ytclapdicocbnoaa", sum := "96218886314ac31e3a8ce7534ce4935989b7587a40ea576252b867812d8f6ebc", func := "mootbell/mootlaw4.ClockAlone", spec := "clockAlone", unfollowed := true, recurses := true, plainKeys := false, apart := false }
def ClockAloneSaid : Prop := clockAloneRow.holds Try.pinned (OpenSpec.ofChange clockAloneSpec)

/-- ITS FALSE NEIGHBOUR: 'it returns false'. Refute it at one input. -/
def clockAloneWrong : ChangeSpec := { name := "clockAlone", fn := fun _ => fun
  | [d1, d2] => { results := [.lit (.bool false)], args := [d1, d2] }
  | _ => none }
def ClockAloneWrongFalsely : Prop := clockAloneRow.holds Try.pinned (OpenSpec.ofChange clockAloneWrong)

/-- 'mootlaw1.HistoryBefore': WHATEVER THE INPUT: true; the input reads as it did. -/
def historyBeforeSpec : ChangeSpec := { name := "historyBefore", fn := fun _ => fun
  | [d1, d2, d3, d4] => { results := [.lit (.bool true)], args := [d1, d2, d3, d4] }
  | _ => none }
def historyBeforeRow : OpenClaim := { program := "ytclapdicocbnoaa", sum := "96218886314ac31e3a8ce7534ce4935989b7587a40ea576252b867812d8f6ebc", func := "mootbell/mootlaw1.HistoryBefore", spec := "historyBefore", unfollowed := true, recurses := true, plainKeys := false, apart := false }
def HistoryBeforeSaid : Prop := historyBeforeRow.holds Try.pinned (OpenSpec.ofChange historyBeforeSpec)

/-- ITS FALSE NEIGHBOUR: 'it returns false'. Refute it at one input. -/
def historyBeforeWrong : ChangeSpec := { name := "historyBefore", fn := fun _ => fun
  | [d1, d2, d3, d4] => { results := [.lit (.bool false)], args := [d1, d2, d3, d4] }
  | _ => none }
def HistoryBeforeWrongFalsely : Prop := historyBeforeRow.holds Try.pinned (OpenSpec.ofChange historyBeforeWrong)

/-- 'moottop.TopPieces': WHATEVER THE INPUT: true; the input reads as it did. -/
def topPiecesSpec : ChangeSpec := { name := "topPieces", fn := fun _ => fun
  | [d1, d2] => { results := [.lit (.bool true)], args := [d1, d2] }
  | _ => none }
def topPiecesRow : OpenClaim := { program := "ytclapdicocbnoaa", sum := "96218886314ac31e3a8ce7534ce4935989b7587a40ea576252b867812d8f6ebc", func := "mootbell/moottop.TopPieces", spec := "topPieces", inPlace := ["internal/abi.NoEscape"], unfollowed := true, recurses := true, plainKeys := false, apart := false }
def TopPiecesSaid : Prop := topPiecesRow.holds Try.pinned (OpenSpec.ofChange topPiecesSpec)

/-- ITS FALSE NEIGHBOUR: 'it returns false'. Refute it at one input. -/
def topPiecesWrong : ChangeSpec := { name := "topPieces", fn := fun _ => fun
  | [d1, d2] => { results := [.lit (.bool false)], args := [d1, d2] }
  | _ => none }
def TopPiecesWrongFalsely : Prop := topPiecesRow.holds Try.pinned (OpenSpec.ofChange topPiecesWrong)

/-- 'mootlaw4.AgreeTwo': WHATEVER THE INPUT: true; the input reads as it did. -/
def agreeTwoSpec : ChangeSpec := { name := "agreeTwo", fn := fun _ => fun
  | [d1, d2, d3] => { results := [.lit (.bool true)], args := [d1, d2, d3] }
  | _ => none }
def agreeTwoRow : OpenClaim := { program := "ytclapdicocbnoaa", sum := "96218886314ac31e3a8ce7534ce4935989b7587a40ea576252b867812d8f6ebc", func := "mootbell/mootlaw4.AgreeTwo", spec := "agreeTwo", plainKeys := false, apart := false }
def AgreeTwoSaid : Prop := agreeTwoRow.holds Try.pinned (OpenSpec.ofChange agreeTwoSpec)

/-- ITS FALSE NEIGHBOUR: 'it returns false'. Refute it at one input. -/
def agreeTwoWrong : ChangeSpec := { name := "agreeTwo", fn := fun _ => fun
  | [d1, d2, d3] => { results := [.lit (.bool false)], args := [d1, d2, d3] }
  | _ => none }
def AgreeTwoWrongFalsely : Prop := agreeTwoRow.holds Try.pinned (OpenSpec.ofChange agreeTwoWrong)

/-- 'mootlaw1.FacesNest': WHATEVER THE INPUT: true; the input reads as it did. -/
def facesNestSpec : ChangeSpec := { name := "facesNest", fn := fun _ => fun
  | [d] => { results := [.lit (.bool true)], args := [d] }
  | _ => none }
def facesNestRow : OpenClaim := { program := "ytclapdicocbnoaa", sum := "96218886314ac31e3a8ce7534ce4935989b7587a40ea576252b867812d8f6ebc", func := "mootbell/mootlaw1.FacesNest", spec := "facesNest", unfollowed := true, recurses := true, plainKeys := false, apart := false }
def FacesNestSaid : Prop := facesNestRow.holds Try.pinned (OpenSpec.ofChange facesNestSpec)

/-- ITS FALSE NEIGHBOUR: 'it returns false'. Refute it at one input. -/
def facesNestWrong : ChangeSpec := { name := "facesNest", fn := fun _ => fun
  | [d] => { results := [.lit (.bool false)], args := [d] }
  | _ => none }
def FacesNestWrongFalsely : Prop := facesNestRow.holds Try.pinned (OpenSpec.ofChange facesNestWrong)

/-- 'mootlaw4.FacesTwo': WHATEVER THE INPUT: true; the input reads as it did. -/
def facesTwoSpec : ChangeSpec := { name := "facesTwo", fn := fun _ => fun
  | [d1, d2, d3] => { results := [.lit (.bool true)], args := [d1, d2, d3] }
  | _ => none }
def facesTwoRow : OpenClaim := { program := "ytclapdicocbnoaa", sum := "96218886314ac31e3a8ce7534ce4935989b7587a40ea576252b867812d8f6ebc", func := "mootbell/mootlaw4.FacesTwo", spec := "facesTwo", unfollowed := true, recurses := true, plainKeys := false, apart := false }
def FacesTwoSaid : Prop := facesTwoRow.holds Try.pinned (OpenSpec.ofChange facesTwoSpec)

/-- ITS FALSE NEIGHBOUR: 'it returns false'. Refute it at one input. -/
def facesTwoWrong : ChangeSpec := { name := "facesTwo", fn := fun _ => fun
  | [d1, d2, d3] => { results := [.lit (.bool false)], args := [d1, d2, d3] }
  | _ => none }
def FacesTwoWrongFalsely : Prop := facesTwoRow.holds Try.pinned (OpenSpec.ofChange facesTwoWrong)

/-- 'mootlaw3.FlushSame': WHATEVER THE INPUT: true; the input reads as it did. -/
def flushSameSpec : ChangeSpec := { name := "flushSame", fn := fun _ => fun
  | [d1, d2, d3] => { results := [.lit (.bool true)], args := [d1, d2, d3] }
  | _ => none }
def flushSameRow : OpenClaim := { program := "ytclapdicocbnoaa", sum := "96218886314ac31e3a8ce7534ce4935989b7587a40ea576252b867812d8f6ebc", func := "mootbell/mootlaw3.FlushSame", spec := "flushSame", unfollowed := true, recurses := true, plainKeys := false, apart := false }
def FlushSameSaid : Prop := flushSameRow.holds Try.pinned (OpenSpec.ofChange flushSameSpec)

/-- ITS FALSE NEIGHBOUR: 'it returns false'. Refute it at one input. -/
def flushSameWrong : ChangeSpec := { name := "flushSame", fn := fun _ => fun
  | [d1, d2, d3] => { results := [.lit (.bool false)], args := [d1, d2, d3] }
  | _ => none }
def FlushSameWrongFalsely : Prop := flushSameRow.holds Try.pinned (OpenSpec.ofChange flushSameWrong)

/-- 'moottop.TopCut': WHATEVER THE INPUT: true; the input reads as it did. -/
def topCutSpec : ChangeSpec := { name := "topCut", fn := fun _ => fun
  | [d1, d2] => { results := [.lit (.bool true)], args := [d1, d2] }
  | _ => none }
def topCutRow : OpenClaim := { program := "ytclapdicocbnoaa", sum := "96218886314ac31e3a8ce7534ce4935989b7587a40ea576252b867812d8f6ebc", func := "mootbell/moottop.TopCut", spec := "topCut", unfollowed := true, recurses := true, plainKeys := false, apart := false }
def TopCutSaid : Prop := topCutRow.holds Try.pinned (OpenSpec.ofChange topCutSpec)

/-- ITS FALSE NEIGHBOUR: 'it returns false'. Refute it at one input. -/
def topCutWrong : ChangeSpec := { name := "topCut", fn := fun _ => fun
  | [d1, d2] => { results := [.lit (.bool false)], args := [d1, d2] }
  | _ => none }
def TopCutWrongFalsely : Prop := topCutRow.holds Try.pinned (OpenSpec.ofChange topCutWrong)

/-- 'moottop.TopViews': WHATEVER THE INPUT: true; the input reads as it did. -/
def topViewsSpec : ChangeSpec := { name := "topViews", fn := fun _ => fun
  | [d1, d2, d3] => { results := [.lit (.bool true)], args := [d1, d2, d3] }
  | _ => none }
def topViewsRow : OpenClaim := { program := "ytclapdicocbnoaa", sum := "96218886314ac31e3a8ce7534ce4935989b7587a40ea576252b867812d8f6ebc", func := "mootbell/moottop.TopViews", spec := "topViews", unfollowed := true, recurses := true, plainKeys := false, apart := false }
def TopViewsSaid : Prop := topViewsRow.holds Try.pinned (OpenSpec.ofChange topViewsSpec)

/-- ITS FALSE NEIGHBOUR: 'it returns false'. Refute it at one input. -/
def topViewsWrong : ChangeSpec := { name := "topViews", fn := fun _ => fun
  | [d1, d2, d3] => { results := [.lit (.bool false)], args := [d1, d2, d3] }
  | _ => none }
def TopViewsWrongFalsely : Prop := topViewsRow.holds Try.pinned (OpenSpec.ofChange topViewsWrong)

/-- 'mootlaw1.ClockKnows': WHATEVER THE INPUT: true; the input reads as it did. -/
def clockKnowsSpec : ChangeSpec := { name := "clockKnows", fn := fun _ => fun
  | [d] => { results := [.lit (.bool true)], args := [d] }
  | _ => none }
def clockKnowsRow : OpenClaim := { program := "ytclapdicocbnoaa", sum := "96218886314ac31e3a8ce7534ce4935989b7587a40ea576252b867812d8f6ebc", func := "mootbell/mootlaw1.ClockKnows", spec := "clockKnows", unfollowed := true, recurses := true, plainKeys := false, apart := false }
def ClockKnowsSaid : Prop := clockKnowsRow.holds Try.pinned (OpenSpec.ofChange clockKnowsSpec)

/-- ITS FALSE NEIGHBOUR: 'it returns false'. Refute it at one input. -/
def clockKnowsWrong : ChangeSpec := { name := "clockKnows", fn := fun _ => fun
  | [d] => { results := [.lit (.bool false)], args := [d] }
  | _ => none }
def ClockKnowsWrongFalsely : Prop := clockKnowsRow.holds Try.pinned (OpenSpec.ofChange clockKnowsWrong)

/-- 'moottop.TopTotal': WHATEVER THE INPUT: true; the input reads as it did. -/
def topTotalSpec : ChangeSpec := { name := "topTotal", fn := fun _ => fun
  | [d1, d2, d3] => { results := [.lit (.bool true)], args := [d1, d2, d3] }
  | _ => none }
def topTotalRow : OpenClaim := { program := "ytclapdicocbnoaa", sum := "96218886314ac31e3a8ce7534ce4935989b7587a40ea576252b867812d8f6ebc", func := "mootbell/moottop.TopTotal", spec := "topTotal", unfollowed := true, recurses := true, plainKeys := false, apart := false }
def TopTotalSaid : Prop := topTotalRow.holds Try.pinned (OpenSpec.ofChange topTotalSpec)

/-- ITS FALSE NEIGHBOUR: 'it returns false'. Refute it at one input. -/
def topTotalWrong : ChangeSpec := { name := "topTotal", fn := fun _ => fun
  | [d1, d2, d3] => { results := [.lit (.bool false)], args := [d1, d2, d3] }
  | _ => none }
def TopTotalWrongFalsely : Prop := topTotalRow.holds Try.pinned (OpenSpec.ofChange topTotalWrong)

/- THE SECOND FORM. 'bulk': how many values and letters a reading holds, each counted each time it is reached (what is shared counts as often as it is met; a slice's spare places count too). A statement '..UptoSaid' is the law's where the arguments, and the package variables that the reading takes, are together of bulk at most 1048576: NARROWER than '..Said'. Prove '..Said' where nothing that the law and all that it calls make is longer than what came in: it says more and counts as full. Else prove '..UptoSaid'. A law counts once. -/
mutual
def uptoBulk {H : Type} : DataW H → Nat
  | .lit (.string bytes) => bytes.length + 1
  | .lit _ => 1
  | .nil => 1
  | .ptr d => uptoBulk d + 1
  | .slice elems spare => uptoBulkAll elems + uptoBulkAll spare + 1
  | .agg parts => uptoBulkAll parts + 1
  | .iface _ d => uptoBulk d + 1
  | .map entries => uptoBulkEntries entries + 1
  | .held _ => 1
def uptoBulkAll {H : Type} : List (DataW H) → Nat
  | [] => 0
  | d :: r => uptoBulk d + uptoBulkAll r
def uptoBulkEntries {H : Type} : List (Lit × DataW H) → Nat
  | [] => 0
  | x :: r => uptoBulkEntry x + uptoBulkEntries r
def uptoBulkEntry {H : Type} : Lit × DataW H → Nat
  | (.string bytes, d) => bytes.length + uptoBulk d + 1
  | (_, d) => uptoBulk d + 1
 end
def uptoSmall : (H : Type) → List (DataW H) → Bool := fun _ ds => decide (uptoBulkAll ds ≤ 1048576)
def OpenSpec.upto (s : _root_.Go.ChangeSpec) : _root_.Go.OpenSpec := { _root_.Go.OpenSpec.ofChange s with cond := some uptoSmall }

/-- 'mootlaw4.PiecesFew', WHERE WHAT IT READS IS OF BULK AT MOST 1048576: true; the input reads as it did. -/
def piecesFewUptoRow : OpenClaim := { program := "ytclapdicocbnoaa", sum := "96218886314ac31e3a8ce7534ce4935989b7587a40ea576252b867812d8f6ebc", func := "mootbell/mootlaw4.PiecesFew", spec := "piecesFew", plainKeys := false, apart := false, narrowed := true }
def PiecesFewUptoSaid : Prop := piecesFewUptoRow.holds Try.pinned (OpenSpec.upto piecesFewSpec)

/-- 'mootlaw1.Names', WHERE WHAT IT READS IS OF BULK AT MOST 1048576: true; the input reads as it did. -/
def namesUptoRow : OpenClaim := { program := "ytclapdicocbnoaa", sum := "96218886314ac31e3a8ce7534ce4935989b7587a40ea576252b867812d8f6ebc", func := "mootbell/mootlaw1.Names", spec := "names", plainKeys := false, apart := false, narrowed := true }
def NamesUptoSaid : Prop := namesUptoRow.holds Try.pinned (OpenSpec.upto namesSpec)

/-- 'mootlaw4.TokenRound', WHERE WHAT IT READS IS OF BULK AT MOST 1048576: true; the input reads as it did. -/
def tokenRoundUptoRow : OpenClaim := { program := "ytclapdicocbnoaa", sum := "96218886314ac31e3a8ce7534ce4935989b7587a40ea576252b867812d8f6ebc", func := "mootbell/mootlaw4.TokenRound", spec := "tokenRound", plainKeys := false, apart := false, narrowed := true }
def TokenRoundUptoSaid : Prop := tokenRoundUptoRow.holds Try.pinned (OpenSpec.upto tokenRoundSpec)

/-- 'mootlaw4.FifoBack', WHERE WHAT IT READS IS OF BULK AT MOST 1048576: true; the input reads as it did. -/
def fifoBackUptoRow : OpenClaim := { program := "ytclapdicocbnoaa", sum := "96218886314ac31e3a8ce7534ce4935989b7587a40ea576252b867812d8f6ebc", func := "mootbell/mootlaw4.FifoBack", spec := "fifoBack", plainKeys := false, apart := false, narrowed := true }
def FifoBackUptoSaid : Prop := fifoBackUptoRow.holds Try.pinned (OpenSpec.upto fifoBackSpec)

/-- 'mootlaw4.VectorApart', WHERE WHAT IT READS IS OF BULK AT MOST 1048576: true; the input reads as it did. -/
def vectorApartUptoRow : OpenClaim := { program := "ytclapdicocbnoaa", sum := "96218886314ac31e3a8ce7534ce4935989b7587a40ea576252b867812d8f6ebc", func := "mootbell/mootlaw4.VectorApart", spec := "vectorApart", unfollowed := true, recurses := true, plainKeys := false, apart := false, narrowed := true }
def VectorApartUptoSaid : Prop := vectorApartUptoRow.holds Try.pinned (OpenSpec.upto vectorApartSpec)

/-- 'mootlaw2.TokenFair', WHERE WHAT IT READS IS OF BULK AT MOST 1048576: true; the input reads as it did. -/
def tokenFairUptoRow : OpenClaim := { program := "ytclapdicocbnoaa", sum := "96218886314ac31e3a8ce7534ce4935989b7587a40ea576252b867812d8f6ebc", func := "mootbell/mootlaw2.TokenFair", spec := "tokenFair", plainKeys := false, apart := false, narrowed := true }
def TokenFairUptoSaid : Prop := tokenFairUptoRow.holds Try.pinned (OpenSpec.upto tokenFairSpec)

/-- 'mootlaw4.LeaderBack', WHERE WHAT IT READS IS OF BULK AT MOST 1048576: true; the input reads as it did. -/
def leaderBackUptoRow : OpenClaim := { program := "ytclapdicocbnoaa", sum := "96218886314ac31e3a8ce7534ce4935989b7587a40ea576252b867812d8f6ebc", func := "mootbell/mootlaw4.LeaderBack", spec := "leaderBack", plainKeys := false, apart := false, narrowed := true }
def LeaderBackUptoSaid : Prop := leaderBackUptoRow.holds Try.pinned (OpenSpec.upto leaderBackSpec)

/-- 'mootlaw4.StableOne', WHERE WHAT IT READS IS OF BULK AT MOST 1048576: true; the input reads as it did. -/
def stableOneUptoRow : OpenClaim := { program := "ytclapdicocbnoaa", sum := "96218886314ac31e3a8ce7534ce4935989b7587a40ea576252b867812d8f6ebc", func := "mootbell/mootlaw4.StableOne", spec := "stableOne", unfollowed := true, recurses := true, plainKeys := false, apart := false, narrowed := true }
def StableOneUptoSaid : Prop := stableOneUptoRow.holds Try.pinned (OpenSpec.upto stableOneSpec)

/-- 'mootlaw2.LeaderOne', WHERE WHAT IT READS IS OF BULK AT MOST 1048576: true; the input reads as it did. -/
def leaderOneUptoRow : OpenClaim := { program := "ytclapdicocbnoaa", sum := "96218886314ac31e3a8ce7534ce4935989b7587a40ea576252b867812d8f6ebc", func := "mootbell/mootlaw2.LeaderOne", spec := "leaderOne", plainKeys := false, apart := false, narrowed := true }
def LeaderOneUptoSaid : Prop := leaderOneUptoRow.holds Try.pinned (OpenSpec.upto leaderOneSpec)

/-- 'mootlaw1.VectorJoins', WHERE WHAT IT READS IS OF BULK AT MOST 1048576: true; the input reads as it did. -/
def vectorJoinsUptoRow : OpenClaim := { program := "ytclapdicocbnoaa", sum := "96218886314ac31e3a8ce7534ce4935989b7587a40ea576252b867812d8f6ebc", func := "mootbell/mootlaw1.VectorJoins", spec := "vectorJoins", unfollowed := true, recurses := true, plainKeys := false, apart := false, narrowed := true }
def VectorJoinsUptoSaid : Prop := vectorJoinsUptoRow.holds Try.pinned (OpenSpec.upto vectorJoinsSpec)

/-- 'mootlaw2.AgainWhole', WHERE WHAT IT READS IS OF BULK AT MOST 1048576: true; the input reads as it did. -/
def againWholeUptoRow : OpenClaim := { program := "ytclapdicocbnoaa", sum := "96218886314ac31e3a8ce7534ce4935989b7587a40ea576252b867812d8f6ebc", func := "mootbell/mootlaw2.AgainWhole", spec := "againWhole", plainKeys := false, apart := false, narrowed := true }
def AgainWholeUptoSaid : Prop := againWholeUptoRow.holds Try.pinned (OpenSpec.upto againWholeSpec)

/-- 'mootlaw2.StableRises', WHERE WHAT IT READS IS OF BULK AT MOST 1048576: true; the input reads as it did. -/
def stableRisesUptoRow : OpenClaim := { program := "ytclapdicocbnoaa", sum := "96218886314ac31e3a8ce7534ce4935989b7587a40ea576252b867812d8f6ebc", func := "mootbell/mootlaw2.StableRises", spec := "stableRises", unfollowed := true, recurses := true, plainKeys := false, apart := false, narrowed := true }
def StableRisesUptoSaid : Prop := stableRisesUptoRow.holds Try.pinned (OpenSpec.upto stableRisesSpec)

/-- 'mootlaw4.CauseAlone', WHERE WHAT IT READS IS OF BULK AT MOST 1048576: true; the input reads as it did. -/
def causeAloneUptoRow : OpenClaim := { program := "ytclapdicocbnoaa", sum := "96218886314ac31e3a8ce7534ce4935989b7587a40ea576252b867812d8f6ebc", func := "mootbell/mootlaw4.CauseAlone", spec := "causeAlone", unfollowed := true, recurses := true, plainKeys := false, apart := false, narrowed := true }
def CauseAloneUptoSaid : Prop := causeAloneUptoRow.holds Try.pinned (OpenSpec.upto causeAloneSpec)

/-- 'mootlaw3.ViewOne', WHERE WHAT IT READS IS OF BULK AT MOST 1048576: true; the input reads as it did. -/
def viewOneUptoRow : OpenClaim := { program := "ytclapdicocbnoaa", sum := "96218886314ac31e3a8ce7534ce4935989b7587a40ea576252b867812d8f6ebc", func := "mootbell/mootlaw3.ViewOne", spec := "viewOne", unfollowed := true, recurses := true, plainKeys := false, apart := false, narrowed := true }
def ViewOneUptoSaid : Prop := viewOneUptoRow.holds Try.pinned (OpenSpec.upto viewOneSpec)

/-- 'mootlaw4.ClockAlone', WHERE WHAT IT READS IS OF BULK AT MOST 1048576: true; the input reads as it did. -/
def clockAloneUptoRow : OpenClaim := { program := "ytclapdicocbnoaa", sum := "96218886314ac31e3a8ce7534ce4935989b7587a40ea576252b867812d8f6ebc", func := "mootbell/mootlaw4.ClockAlone", spec := "clockAlone", unfollowed := true, recurses := true, plainKeys := false, apart := false, narrowed := true }
def ClockAloneUptoSaid : Prop := clockAloneUptoRow.holds Try.pinned (OpenSpec.upto clockAloneSpec)

/-- 'mootlaw1.HistoryBefore', WHERE WHAT IT READS IS OF BULK AT MOST 1048576: true; the input reads as it did. -/
def historyBeforeUptoRow : OpenClaim := { program := "ytclapdicocbnoaa", sum := "96218886314ac31e3a8ce7534ce4935989b7587a40ea576252b867812d8f6ebc", func := "mootbell/mootlaw1.HistoryBefore", spec := "historyBefore", unfollowed := true, recurses := true, plainKeys := false, apart := false, narrowed := true }
def HistoryBeforeUptoSaid : Prop := historyBeforeUptoRow.holds Try.pinned (OpenSpec.upto historyBeforeSpec)

/-- 'moottop.TopPieces', WHERE WHAT IT READS IS OF BULK AT MOST 1048576: true; the input reads as it did. -/
def topPiecesUptoRow : OpenClaim := { program := "ytclapdicocbnoaa", sum := "96218886314ac31e3a8ce7534ce4935989b7587a40ea576252b867812d8f6ebc", func := "mootbell/moottop.TopPieces", spec := "topPieces", inPlace := ["internal/abi.NoEscape"], unfollowed := true, recurses := true, plainKeys := false, apart := false, narrowed := true }
def TopPiecesUptoSaid : Prop := topPiecesUptoRow.holds Try.pinned (OpenSpec.upto topPiecesSpec)

/-- 'mootlaw4.AgreeTwo', WHERE WHAT IT READS IS OF BULK AT MOST 1048576: true; the input reads as it did. -/
def agreeTwoUptoRow : OpenClaim := { program := "ytclapdicocbnoaa", sum := "96218886314ac31e3a8ce7534ce4935989b7587a40ea576252b867812d8f6ebc", func := "mootbell/mootlaw4.AgreeTwo", spec := "agreeTwo", plainKeys := false, apart := false, narrowed := true }
def AgreeTwoUptoSaid : Prop := agreeTwoUptoRow.holds Try.pinned (OpenSpec.upto agreeTwoSpec)

/-- 'mootlaw1.FacesNest', WHERE WHAT IT READS IS OF BULK AT MOST 1048576: true; the input reads as it did. -/
def facesNestUptoRow : OpenClaim := { program := "ytclapdicocbnoaa", sum := "96218886314ac31e3a8ce7534ce4935989b7587a40ea576252b867812d8f6ebc", func := "mootbell/mootlaw1.FacesNest", spec := "facesNest", unfollowed := true, recurses := true, plainKeys := false, apart := false, narrowed := true }
def FacesNestUptoSaid : Prop := facesNestUptoRow.holds Try.pinned (OpenSpec.upto facesNestSpec)

/-- 'mootlaw4.FacesTwo', WHERE WHAT IT READS IS OF BULK AT MOST 1048576: true; the input reads as it did. -/
def facesTwoUptoRow : OpenClaim := { program := "ytclapdicocbnoaa", sum := "96218886314ac31e3a8ce7534ce4935989b7587a40ea576252b867812d8f6ebc", func := "mootbell/mootlaw4.FacesTwo", spec := "facesTwo", unfollowed := true, recurses := true, plainKeys := false, apart := false, narrowed := true }
def FacesTwoUptoSaid : Prop := facesTwoUptoRow.holds Try.pinned (OpenSpec.upto facesTwoSpec)

/-- 'mootlaw3.FlushSame', WHERE WHAT IT READS IS OF BULK AT MOST 1048576: true; the input reads as it did. -/
def flushSameUptoRow : OpenClaim := { program := "ytclapdicocbnoaa", sum := "96218886314ac31e3a8ce7534ce4935989b7587a40ea576252b867812d8f6ebc", func := "mootbell/mootlaw3.FlushSame", spec := "flushSame", unfollowed := true, recurses := true, plainKeys := false, apart := false, narrowed := true }
def FlushSameUptoSaid : Prop := flushSameUptoRow.holds Try.pinned (OpenSpec.upto flushSameSpec)

/-- 'moottop.TopCut', WHERE WHAT IT READS IS OF BULK AT MOST 1048576: true; the input reads as it did. -/
def topCutUptoRow : OpenClaim := { program := "ytclapdicocbnoaa", sum := "96218886314ac31e3a8ce7534ce4935989b7587a40ea576252b867812d8f6ebc", func := "mootbell/moottop.TopCut", spec := "topCut", unfollowed := true, recurses := true, plainKeys := false, apart := false, narrowed := true }
def TopCutUptoSaid : Prop := topCutUptoRow.holds Try.pinned (OpenSpec.upto topCutSpec)

/-- 'moottop.TopViews', WHERE WHAT IT READS IS OF BULK AT MOST 1048576: true; the input reads as it did. -/
def topViewsUptoRow : OpenClaim := { program := "ytclapdicocbnoaa", sum := "96218886314ac31e3a8ce7534ce4935989b7587a40ea576252b867812d8f6ebc", func := "mootbell/moottop.TopViews", spec := "topViews", unfollowed := true, recurses := true, plainKeys := false, apart := false, narrowed := true }
def TopViewsUptoSaid : Prop := topViewsUptoRow.holds Try.pinned (OpenSpec.upto topViewsSpec)

/-- 'mootlaw1.ClockKnows', WHERE WHAT IT READS IS OF BULK AT MOST 1048576: true; the input reads as it did. -/
def clockKnowsUptoRow : OpenClaim := { program := "ytclapdicocbnoaa", sum := "96218886314ac31e3a8ce7534ce4935989b7587a40ea576252b867812d8f6ebc", func := "mootbell/mootlaw1.ClockKnows", spec := "clockKnows", unfollowed := true, recurses := true, plainKeys := false, apart := false, narrowed := true }
def ClockKnowsUptoSaid : Prop := clockKnowsUptoRow.holds Try.pinned (OpenSpec.upto clockKnowsSpec)

/-- 'moottop.TopTotal', WHERE WHAT IT READS IS OF BULK AT MOST 1048576: true; the input reads as it did. -/
def topTotalUptoRow : OpenClaim := { program := "ytclapdicocbnoaa", sum := "96218886314ac31e3a8ce7534ce4935989b7587a40ea576252b867812d8f6ebc", func := "mootbell/moottop.TopTotal", spec := "topTotal", unfollowed := true, recurses := true, plainKeys := false, apart := false, narrowed := true }
def TopTotalUptoSaid : Prop := topTotalUptoRow.holds Try.pinned (OpenSpec.upto topTotalSpec)

end Rows
end Go.Proofs.Ytclapdicocbnoaa
