/-
  No cell of these rows narrows 'for every input' (looked for: loops, veiled, ifaces, maps, wideKeys, modest, calm, conditions, laid).
  DERIVED. THE GIVEN ROWS OF THIS SEAT. 13 by the template 'for every input the law returns true; each argument reads behind the call as it read before'; 0 by the template 'total and deterministic' (their statements: YtkgnjkokbiefgaaTotals.lean).
  GIVEN WITH THE SEED: the statements are not yours to turn. If you find one false, say at which input.
  Laid BY PROGRAM, IN A SANDBOX (cutbox-rows.mjs): the forced cells as the released guide's own fill.sh prints them over the translation 27c1170e6e16d0fe… (all of the seat's roots in one cut). By AI agents, Wed Nov 11 2026. No macro, syntax, notation, axiom, sorry.
-/
import Derived.Test.YtkgnjkokbiefgaaChecked
import GoSem.Claim
import GoSem.ClaimJoined
import GoSem.ClaimMapViews
import Derived.JoinedTies
import Derived.KernelRfl
namespace Go.Proofs.Ytkgnjkokbiefgaa
/- THE CELL 'sum', in the pinned program and in every row, IS THE sha256 OF THE DUMP (.gsa) THAT YtkgnjkokbiefgaaProg.lean LOADS. Nothing in Lean hashes anything: it is a label: what it is worth is what the hold of that sum in a sandbox is worth. -/
noncomputable def Try.pinned : Pinned := { name := "ytkgnjkokbiefgaa", sum := "27c1170e6e16d0fe44a374caf287eaa289741d063089467202cdfe00c5eab2df", checked := Try.checked }
namespace Rows
def none {H : Type} : Left H := { results := [], args := [] }

/-- 'mootlaw4.CauseAlone': WHATEVER THE INPUT: true; the input reads as it did. -/
def causeAloneSpec : ChangeSpec := { name := "causeAlone", fn := fun _ => fun
  | [d1, d2, d3] => { results := [.lit (.bool true)], args := [d1, d2, d3] }
  | _ => none }
def causeAloneRow : OpenClaim := { program := "ytkgnjkokbiefgaa", sum := "27c1170e6e16d0fe44a374caf287eaa289741d063089467202cdfe00c5eab2df", func := "mootbell/mootlaw4.CauseAlone", spec := "causeAlone", unfollowed := true, recurses := true, plainKeys := false, apart := false }
def CauseAloneSaid : Prop := causeAloneRow.holds Try.pinned (OpenSpec.ofChange causeAloneSpec)

/-- ITS FALSE NEIGHBOUR: 'it returns false'. Refute it at one input. -/
def causeAloneWrong : ChangeSpec := { name := "causeAlone", fn := fun _ => fun
  | [d1, d2, d3] => { results := [.lit (.bool false)], args := [d1, d2, d3] }
  | _ => none }
def CauseAloneWrongFalsely : Prop := causeAloneRow.holds Try.pinned (OpenSpec.ofChange causeAloneWrong)

/-- 'mootlaw3.ViewOne': WHATEVER THE INPUT: true; the input reads as it did. -/
def viewOneSpec : ChangeSpec := { name := "viewOne", fn := fun _ => fun
  | [d1, d2, d3] => { results := [.lit (.bool true)], args := [d1, d2, d3] }
  | _ => none }
def viewOneRow : OpenClaim := { program := "ytkgnjkokbiefgaa", sum := "27c1170e6e16d0fe44a374caf287eaa289741d063089467202cdfe00c5eab2df", func := "mootbell/mootlaw3.ViewOne", spec := "viewOne", unfollowed := true, recurses := true, plainKeys := false, apart := false }
def ViewOneSaid : Prop := viewOneRow.holds Try.pinned (OpenSpec.ofChange viewOneSpec)

/-- ITS FALSE NEIGHBOUR: 'it returns false'. Refute it at one input. -/
def viewOneWrong : ChangeSpec := { name := "viewOne", fn := fun _ => fun
  | [d1, d2, d3] => { results := [.lit (.bool false)], args := [d1, d2, d3] }
  | _ => none }
def ViewOneWrongFalsely : Prop := viewOneRow.holds Try.pinned (OpenSpec.ofChange viewOneWrong)

/-- 'mootlaw4.ClockAlone': WHATEVER THE INPUT: true; the input reads as it did. -/
def clockAloneSpec : ChangeSpec := { name := "clockAlone", fn := fun _ => fun
  | [d1, d2] => { results := [.lit (.bool true)], args := [d1, d2] }
  | _ => none }
def clockAloneRow : OpenClaim := { program := "ytkgnjkokbiefgaa", sum := "27c1170e6e16d0fe44a374caf287eaa289741d063089467202cdfe00c5eab2df", func := "mootbell/mootlaw4.ClockAlone", spec := "clockAlone", unfollowed := true, recurses := true, plainKeys := false, apart := false }
def ClockAloneSaid : Prop := clockAloneRow.holds Try.pinned (OpenSpec.ofChange clockAloneSpec)

/-- ITS FALSE NEIGHBOUR: 'it returns false'. Refute it at one input. -/
def clockAloneWrong : ChangeSpec := { name := "clockAlone", fn := fun _ => fun
  | [d1, d2] => { results := [.lit (.bool false)], args := [d1, d2] }
  | _ => none }
def ClockAloneWrongFalsely : Prop := clockAloneRow.holds Try.pinned (OpenSpec.ofChange clockAloneWrong)

/-- 'mootlaw1.HistoryBefore': WHATEVER THE INPUT: true; the input reads as it did. -/
def historyBeforeSpec : ChangeSpec := { name := "historyBefore", fn := fun _ => fun
  | [d1, d2, d3, d4] => { results := [.lit (.bool true)], args := [d1, d2, d3, d4] }
  | _ => none }
def historyBeforeRow : OpenClaim := { program := "ytkgnjkokbiefgaa", sum := "27c1170e6e16d0fe44a374caf287eaa289741d063089467202cdfe00c5eab2df", func := "mootbell/mootlaw1.HistoryBefore", spec := "historyBefore", unfollowed := true, recurses := true, plainKeys := false, apart := false }
def HistoryBeforeSaid : Prop := historyBeforeRow.holds Try.pinned (OpenSpec.ofChange historyBeforeSpec)

/-- ITS FALSE NEIGHBOUR: 'it returns false'. Refute it at one input. -/
def historyBeforeWrong : ChangeSpec := { name := "historyBefore", fn := fun _ => fun
  | [d1, d2, d3, d4] => { results := [.lit (.bool false)], args := [d1, d2, d3, d4] }
  | _ => none }
def HistoryBeforeWrongFalsely : Prop := historyBeforeRow.holds Try.pinned (OpenSpec.ofChange historyBeforeWrong)

/-- 'moottop.TopPieces': WHATEVER THE INPUT: true; the input reads as it did. -/
def topPiecesSpec : ChangeSpec := { name := "topPieces", fn := fun _ => fun
  | [d1, d2] => { results := [.lit (.bool true)], args := [d1, d2] }
  | _ => none }
def topPiecesRow : OpenClaim := { program := "ytkgnjkokbiefgaa", sum := "27c1170e6e16d0fe44a374caf287eaa289741d063089467202cdfe00c5eab2df", func := "mootbell/moottop.TopPieces", spec := "topPieces", inPlace := ["internal/abi.NoEscape"], unfollowed := true, recurses := true, plainKeys := false, apart := false }
def TopPiecesSaid : Prop := topPiecesRow.holds Try.pinned (OpenSpec.ofChange topPiecesSpec)

/-- ITS FALSE NEIGHBOUR: 'it returns false'. Refute it at one input. -/
def topPiecesWrong : ChangeSpec := { name := "topPieces", fn := fun _ => fun
  | [d1, d2] => { results := [.lit (.bool false)], args := [d1, d2] }
  | _ => none }
def TopPiecesWrongFalsely : Prop := topPiecesRow.holds Try.pinned (OpenSpec.ofChange topPiecesWrong)

/-- 'mootlaw4.AgreeTwo': WHATEVER THE INPUT: true; the input reads as it did. -/
def agreeTwoSpec : ChangeSpec := { name := "agreeTwo", fn := fun _ => fun
  | [d1, d2, d3] => { results := [.lit (.bool true)], args := [d1, d2, d3] }
  | _ => none }
def agreeTwoRow : OpenClaim := { program := "ytkgnjkokbiefgaa", sum := "27c1170e6e16d0fe44a374caf287eaa289741d063089467202cdfe00c5eab2df", func := "mootbell/mootlaw4.AgreeTwo", spec := "agreeTwo", plainKeys := false, apart := false }
def AgreeTwoSaid : Prop := agreeTwoRow.holds Try.pinned (OpenSpec.ofChange agreeTwoSpec)

/-- ITS FALSE NEIGHBOUR: 'it returns false'. Refute it at one input. -/
def agreeTwoWrong : ChangeSpec := { name := "agreeTwo", fn := fun _ => fun
  | [d1, d2, d3] => { results := [.lit (.bool false)], args := [d1, d2, d3] }
  | _ => none }
def AgreeTwoWrongFalsely : Prop := agreeTwoRow.holds Try.pinned (OpenSpec.ofChange agreeTwoWrong)

/-- 'mootlaw1.FacesNest': WHATEVER THE INPUT: true; the input reads as it did. -/
def facesNestSpec : ChangeSpec := { name := "facesNest", fn := fun _ => fun
  | [d] => { results := [.lit (.bool true)], args := [d] }
  | _ => none }
def facesNestRow : OpenClaim := { program := "ytkgnjkokbiefgaa", sum := "27c1170e6e16d0fe44a374caf287eaa289741d063089467202cdfe00c5eab2df", func := "mootbell/mootlaw1.FacesNest", spec := "facesNest", unfollowed := true, recurses := true, plainKeys := false, apart := false }
def FacesNestSaid : Prop := facesNestRow.holds Try.pinned (OpenSpec.ofChange facesNestSpec)

/-- ITS FALSE NEIGHBOUR: 'it returns false'. Refute it at one input. -/
def facesNestWrong : ChangeSpec := { name := "facesNest", fn := fun _ => fun
  | [d] => { results := [.lit (.bool false)], args := [d] }
  | _ => none }
def FacesNestWrongFalsely : Prop := facesNestRow.holds Try.pinned (OpenSpec.ofChange facesNestWrong)

/-- 'mootlaw4.FacesTwo': WHATEVER THE INPUT: true; the input reads as it did. -/
def facesTwoSpec : ChangeSpec := { name := "facesTwo", fn := fun _ => fun
  | [d1, d2, d3] => { results := [.lit (.bool true)], args := [d1, d2, d3] }
  | _ => none }
def facesTwoRow : OpenClaim := { program := "ytkgnjkokbiefgaa", sum := "27c1170e6e16d0fe44a374caf287eaa289741d063089467202cdfe00c5eab2df", func := "mootbell/mootlaw4.FacesTwo", spec := "facesTwo", unfollowed := true, recurses := true, plainKeys := false, apart := false }
def FacesTwoSaid : Prop := facesTwoRow.holds Try.pinned (OpenSpec.ofChange facesTwoSpec)

/-- ITS FALSE NEIGHBOUR: 'it returns false'. Refute it at one input. -/
def facesTwoWrong : ChangeSpec := { name := "facesTwo", fn := fun _ => fun
  | [d1, d2, d3] => { results := [.lit (.bool false)], args := [d1, d2, d3] }
  | _ => none }
def FacesTwoWrongFalsely : Prop := facesTwoRow.holds Try.pinned (OpenSpec.ofChange facesTwoWrong)

/-- 'mootlaw3.FlushSame': WHATEVER THE INPUT: true; the input reads as it did. -/
def flushSameSpec : ChangeSpec := { name := "flushSame", fn := fun _ => fun
  | [d1, d2, d3] => { results := [.lit (.bool true)], args := [d1, d2, d3] }
  | _ => none }
def flushSameRow : OpenClaim := { program := "ytkgnjkokbiefgaa", sum := "27c1170e6e16d0fe44a374caf287eaa289741d063089467202cdfe00c5eab2df", func := "mootbell/mootlaw3.FlushSame", spec := "flushSame", unfollowed := true, recurses := true, plainKeys := false, apart := false }
def FlushSameSaid : Prop := flushSameRow.holds Try.pinned (OpenSpec.ofChange flushSameSpec)

/-- ITS FALSE NEIGHBOUR: 'it returns false'. Refute it at one input. -/
def flushSameWrong : ChangeSpec := { name := "flushSame", fn := fun _ => fun
  | [d1, d2, d3] => { results := [.lit (.bool false)], args := [d1, d2, d3] }
  | _ => none }
def FlushSameWrongFalsely : Prop := flushSameRow.holds Try.pinned (OpenSpec.ofChange flushSameWrong)

/-- 'moottop.TopCut': WHATEVER THE INPUT: true; the input reads as it did. -/
def topCutSpec : ChangeSpec := { name := "topCut", fn := fun _ => fun
  | [d1, d2] => { results := [.lit (.bool true)], args := [d1, d2] }
  | _ => none }
def topCutRow : OpenClaim := { program := "ytkgnjkokbiefgaa", sum := "27c1170e6e16d0fe44a374caf287eaa289741d063089467202cdfe00c5eab2df", func := "mootbell/moottop.TopCut", spec := "topCut", unfollowed := true, recurses := true, plainKeys := false, apart := false }
def TopCutSaid : Prop := topCutRow.holds Try.pinned (OpenSpec.ofChange topCutSpec)

/-- ITS FALSE NEIGHBOUR: 'it returns false'. Refute it at one input. -/
def topCutWrong : ChangeSpec := { name := "topCut", fn := fun _ => fun
  | [d1, d2] => { results := [.lit (.bool false)], args := [d1, d2] }
  | _ => none }
def TopCutWrongFalsely : Prop := topCutRow.holds Try.pinned (OpenSpec.ofChange topCutWrong)

/-- 'moottop.TopViews': WHATEVER THE INPUT: true; the input reads as it did. -/
def topViewsSpec : ChangeSpec := { name := "topViews", fn := fun _ => fun
  | [d1, d2, d3] => { results := [.lit (.bool true)], args := [d1, d2, d3] }
  | _ => none }
def topViewsRow : OpenClaim := { program := "ytkgnjkokbiefgaa", sum := "27c1170e6e16d0fe44a374caf287eaa289741d063089467202cdfe00c5eab2df", func := "mootbell/moottop.TopViews", spec := "topViews", unfollowed := true, recurses := true, plainKeys := false, apart := false }
def TopViewsSaid : Prop := topViewsRow.holds Try.pinned (OpenSpec.ofChange topViewsSpec)

/-- ITS FALSE NEIGHBOUR: 'it returns false'. Refute it at one input. -/
def topViewsWrong : ChangeSpec := { name := "topViews", fn := fun _ => fun
  | [d1, d2, d3] => { results := [.lit (.bool false)], args := [d1, d2, d3] }
  | _ => none }
def TopViewsWrongFalsely : Prop := topViewsRow.holds Try.pinned (OpenSpec.ofChange topViewsWrong)

/-- 'mootlaw1.ClockKnows': WHATEVER THE INPUT: true; the input reads as it did. -/
def clockKnowsSpec : ChangeSpec := { name := "clockKnows", fn := fun _ => fun
  | [d] => { results := [.lit (.bool true)], args := [d] }
  | _ => none }
def clockKnowsRow : OpenClaim := { program := "ytkgnjkokbiefgaa", sum := "27c1170e6e16d0fe44a374caf287eaa289741d063089467202cdfe00c5eab2df", func := "mootbell/mootlaw1.ClockKnows", spec := "clockKnows", unfollowed := true, recurses := true, plainKeys := false, apart := false }
def ClockKnowsSaid : Prop := clockKnowsRow.holds Try.pinned (OpenSpec.ofChange clockKnowsSpec)

/-- ITS FALSE NEIGHBOUR: 'it returns false'. Refute it at one input. -/
def clockKnowsWrong : ChangeSpec := { name := "clockKnows", fn := fun _ => fun
  | [d] => { results := [.lit (.bool false)], args := [d] }
  | _ => none }
def ClockKnowsWrongFalsely : Prop := clockKnowsRow.holds Try.pinned (OpenSpec.ofChange clockKnowsWrong)

/-- 'moottop.TopTotal': WHATEVER THE INPUT: true; the input reads as it did. -/
def topTotalSpec : ChangeSpec := { name := "topTotal", fn := fun _ => fun
  | [d1, d2, d3] => { results := [.lit (.bool true)], args := [d1, d2, d3] }
  | _ => none }
def topTotalRow : OpenClaim := { program := "ytkgnjkokbiefgaa", sum := "27c1170e6e16d0fe44a374caf287eaa289741d063089467202cdfe00c5eab2df", func := "mootbell/moottop.TopTotal", spec := "topTotal", unfollowed := true, recurses := true, plainKeys := false, apart := false }
def TopTotalSaid : Prop := topTotalRow.holds Try.pinned (OpenSpec.ofChange topTotalSpec)

/-- ITS FALSE NEIGHBOUR: 'it returns false'. Refute it at one input. -/
def topTotalWrong : ChangeSpec := { name := "topTotal", fn := fun _ => fun
  | [d1, d2, d3] => { results := [.lit (.bool false)], args := [d1, d2, d3] }
  | _ => none }
def TopTotalWrongFalsely : Prop := topTotalRow.holds Try.pinned (OpenSpec.ofChange topTotalWrong)

/- THE SECOND FORM. 'bulk': how many values and letters a reading holds, each counted each time it is reached (what is shared counts as often as it is met; a slice's spare places count too). A statement '..UptoSaid' is the law's where the arguments, and the package variables that the reading takes, are together of bulk at most 1048576: NARROWER than '..Said'. Prove '..Said' where nothing that the law and all that it calls make is longer than what came in: it says more and counts as full. Else prove '..UptoSaid'. A law counts once. -/
mutual
def uptoBulk {H : Type} : DataW H → Nat
  | .lit (.string bytes) => bytes.length + 1
  | .lit _ => 1
  | .nil => 1
  | .ptr d => uptoBulk d + 1
  | .slice elems spare => uptoBulkAll elems + uptoBulkAll spare + 1
  | .agg parts => uptoBulkAll parts + 1
  | .iface _ d => uptoBulk d + 1
  | .map entries => uptoBulkEntries entries + 1
  | .held _ => 1
def uptoBulkAll {H : Type} : List (DataW H) → Nat
  | [] => 0
  | d :: r => uptoBulk d + uptoBulkAll r
def uptoBulkEntries {H : Type} : List (Lit × DataW H) → Nat
  | [] => 0
  | x :: r => uptoBulkEntry x + uptoBulkEntries r
def uptoBulkEntry {H : Type} : Lit × DataW H → Nat
  | (.string bytes, d) => bytes.length + uptoBulk d + 1
  | (_, d) => uptoBulk d + 1
 end
def uptoSmall : (H : Type) → List (DataW H) → Bool := fun _ ds => decide (uptoBulkAll ds ≤ 1048576)
def OpenSpec.upto (s : _root_.Go.ChangeSpec) : _root_.Go.OpenSpec := { _root_.Go.OpenSpec.ofChange s with cond := some uptoSmall }

/-- 'mootlaw4.CauseAlone', WHERE WHAT IT READS IS OF BULK AT MOST 1048576: true; the input reads as it did. -/
def causeAloneUptoRow : OpenClaim := { program := "ytkgnjkokbiefgaa", sum := "27c1170e6e16d0fe44a374caf287eaa289741d063089467202cdfe00c5eab2df", func := "mootbell/mootlaw4.CauseAlone", spec := "causeAlone", unfollowed := true, recurses := true, plainKeys := false, apart := false, narrowed := true }
def CauseAloneUptoSaid : Prop := causeAloneUptoRow.holds Try.pinned (OpenSpec.upto causeAloneSpec)

/-- 'mootlaw3.ViewOne', WHERE WHAT IT READS IS OF BULK AT MOST 1048576: true; the input reads as it did. -/
def viewOneUptoRow : OpenClaim := { program := "ytkgnjkokbiefgaa", sum := "27c1170e6e16d0fe44a374caf287eaa289741d063089467202cdfe00c5eab2df", func := "mootbell/mootlaw3.ViewOne", spec := "viewOne", unfollowed := true, recurses := true, plainKeys := false, apart := false, narrowed := true }
def ViewOneUptoSaid : Prop := viewOneUptoRow.holds Try.pinned (OpenSpec.upto viewOneSpec)

/-- 'mootlaw4.ClockAlone', WHERE WHAT IT READS IS OF BULK AT MOST 1048576: true; the input reads as it did. -/
def clockAloneUptoRow : OpenClaim := { program := "ytkgnjkokbiefgaa", sum := "27c1170e6e16d0fe44a374caf287eaa289741d063089467202cdfe00c5eab2df", func := "mootbell/mootlaw4.ClockAlone", spec := "clockAlone", unfollowed := true, recurses := true, plainKeys := false, apart := false, narrowed := true }
def ClockAloneUptoSaid : Prop := clockAloneUptoRow.holds Try.pinned (OpenSpec.upto clockAloneSpec)

/-- 'mootlaw1.HistoryBefore', WHERE WHAT IT READS IS OF BULK AT MOST 1048576: true; the input reads as it did. -/
def historyBeforeUptoRow : OpenClaim := { program := "ytkgnjkokbiefgaa", sum := "27c1170e6e16d0fe44a374caf287eaa289741d063089467202cdfe00c5eab2df", func := "mootbell/mootlaw1.HistoryBefore", spec := "historyBefore", unfollowed := true, recurses := true, plainKeys := false, apart := false, narrowed := true }
def HistoryBeforeUptoSaid : Prop := historyBeforeUptoRow.holds Try.pinned (OpenSpec.upto historyBeforeSpec)

/-- 'moottop.TopPieces', WHERE WHAT IT READS IS OF BULK AT MOST 1048576: true; the input reads as it did. -/
def topPiecesUptoRow : OpenClaim := { program := "ytkgnjkokbiefgaa", sum := "27c1170e6e16d0fe44a374caf287eaa289741d063089467202cdfe00c5eab2df", func := "mootbell/moottop.TopPieces", spec := "topPieces", inPlace := ["internal/abi.NoEscape"], unfollowed := true, recurses := true, plainKeys := false, apart := false, narrowed := true }
def TopPiecesUptoSaid : Prop := topPiecesUptoRow.holds Try.pinned (OpenSpec.upto topPiecesSpec)

/-- 'mootlaw4.AgreeTwo', WHERE WHAT IT READS IS OF BULK AT MOST 1048576: true; the input reads as it did. -/
def agreeTwoUptoRow : OpenClaim := { program := "ytkgnjkokbiefgaa", sum := "27c1170e6e16d0fe44a374caf287eaa289741d063089467202cdfe00c5eab2df", func := "mootbell/mootlaw4.AgreeTwo", spec := "agreeTwo", plainKeys := false, apart := false, narrowed := true }
def AgreeTwoUptoSaid : Prop := agreeTwoUptoRow.holds Try.pinned (OpenSpec.upto agreeTwoSpec)

/-- 'mootlaw1.FacesNest', WHERE WHAT IT READS IS OF BULK AT MOST 1048576: true; the input reads as it did. -/
def facesNestUptoRow : OpenClaim := { program := "ytkgnjkokbiefgaa", sum := "27c1170e6e16d0fe44a374caf287eaa289741d063089467202cdfe00c5eab2df", func := "mootbell/mootlaw1.FacesNest", spec := "facesNest", unfollowed := true, recurses := true, plainKeys := false, apart := false, narrowed := true }
def FacesNestUptoSaid : Prop := facesNestUptoRow.holds Try.pinned (OpenSpec.upto facesNestSpec)

/-- 'mootlaw4.FacesTwo', WHERE WHAT IT READS IS OF BULK AT MOST 1048576: true; the input reads as it did. -/
def facesTwoUptoRow : OpenClaim := { program := "ytkgnjkokbiefgaa", sum := "27c1170e6e16d0fe44a374caf287eaa289741d063089467202cdfe00c5eab2df", func := "mootbell/mootlaw4.FacesTwo", spec := "facesTwo", unfollowed := true, recurses := true, plainKeys := false, apart := false, narrowed := true }
def FacesTwoUptoSaid : Prop := facesTwoUptoRow.holds Try.pinned (OpenSpec.upto facesTwoSpec)

/-- 'mootlaw3.FlushSame', WHERE WHAT IT READS IS OF BULK AT MOST 1048576: true; the input reads as it did. -/
def flushSameUptoRow : OpenClaim := { program := "ytkgnjkokbiefgaa", sum := "27c1170e6e16d0fe44a374caf287eaa289741d063089467202cdfe00c5eab2df", func := "mootbell/mootlaw3.FlushSame", spec := "flushSame", unfollowed := true, recurses := true, plainKeys := false, apart := false, narrowed := true }
def FlushSameUptoSaid : Prop := flushSameUptoRow.holds Try.pinned (OpenSpec.upto flushSameSpec)

/-- 'moottop.TopCut', WHERE WHAT IT READS IS OF BULK AT MOST 1048576: true; the input reads as it did. -/
def topCutUptoRow : OpenClaim := { program := "ytkgnjkokbiefgaa", sum := "27c1170e6e16d0fe44a374caf287eaa289741d063089467202cdfe00c5eab2df", func := "mootbell/moottop.TopCut", spec := "topCut", unfollowed := true, recurses := true, plainKeys := false, apart := false, narrowed := true }
def TopCutUptoSaid : Prop := topCutUptoRow.holds Try.pinned (OpenSpec.upto topCutSpec)

/-- 'moottop.TopViews', WHERE WHAT IT READS IS OF BULK AT MOST 1048576: true; the input reads as it did. -/
def topViewsUptoRow : OpenClaim := { program := "ytkgnjkokbiefgaa", sum := "27c1170e6e16d0fe44a374caf287eaa289741d063089467202cdfe00c5eab2df", func := "mootbell/moottop.TopViews", spec := "topViews", unfollowed := true, recurses := true, plainKeys := false, apart := false, narrowed := true }
def TopViewsUptoSaid : Prop := topViewsUptoRow.holds Try.pinned (OpenSpec.upto topViewsSpec)

/-- 'mootlaw1.ClockKnows', WHERE WHAT IT READS IS OF BULK AT MOST 1048576: true; the input reads as it did. -/
def clockKnowsUptoRow : OpenClaim := { program := "ytkgnjkokbiefgaa", sum := "27c1170e6e16d0fe44a374caf287eaa289741d063089467202cdfe00c5eab2df", func := "mootbell/mootlaw1.ClockKnows", spec := "clockKnows", unfollowed := true, recurses := true, plainKeys := false, apart := false, narrowed := true }
def ClockKnowsUptoSaid : Prop := clockKnowsUptoRow.holds Try.pinned (OpenSpec.upto clockKnowsSpec)

/-- 'moottop.TopTotal', WHERE WHAT IT READS IS OF BULK AT MOST 1048576: true; the input reads as it did. -/
def topTotalUptoRow : OpenClaim := { program := "ytkgnjkokbiefgaa", sum := "27c1170e6e16d0fe44a374caf287eaa289741d063089467202cdfe00c5eab2df", func := "mootbell/moottop.TopTotal", spec := "topTotal", unfollowed := true, recurses := true, plainKeys := false, apart := false, narrowed := true }
def TopTotalUptoSaid : Prop := topTotalUptoRow.holds Try.pinned (OpenSpec.upto topTotalSpec)

end Rows
end Go.Proofs.Ytkgnjkokbiefgaa
