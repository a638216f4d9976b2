/-
  NARROWER THAN 'FOR EVERY INPUT', by the rows' own cells (each row's printed sentence says how): VectorTells: laid · StablePlays: laid · FifoWhole: laid · FifoPlays: laid · AgainOld: laid · AgainPlays: laid · TokenPlays: laid · LeaderPlays: laid.
  DERIVED. THE GIVEN ROWS OF THIS SEAT. 8 by the template 'for every input the law returns true; each argument reads behind the call as it read before'; 0 by the template 'total and deterministic' (their statements: YteelldblfmhjlaaDoorTotals.lean).
  GIVEN WITH THE SEED: the statements are not yours to turn. If you find one false, say at which input.
  Laid BY PROGRAM, IN A SANDBOX (cutbox-rows.mjs): the forced cells as the released guide's own fill.sh prints them over the translation 1858b0ffaf31dfac… (all of the seat's roots in one cut). By AI agents, Wed Nov 11 2026. No macro, syntax, notation, axiom, sorry.
-/
import Derived.Test.YteelldblfmhjlaaDoorChecked
import GoSem.Claim
import GoSem.ClaimJoined
import GoSem.ClaimMapViews
import Derived.JoinedTies
import Derived.KernelRfl
namespace Go.Proofs.YteelldblfmhjlaaDoor
/- THE CELL 'sum', in the pinned program and in every row, IS THE sha256 OF THE DUMP (.gsa) THAT YteelldblfmhjlaaDoorProg.lean LOADS. Nothing in Lean hashes anything: it is a label: what it is worth is what the hold of that sum in a sandbox is worth. -/
noncomputable def Tryd.pinned : Pinned := { name := "yteelldblfmhjlaadoor", sum := "1858b0ffaf31dfac366d03e47ef996f4d6d2e7a7ed6be9efe9083b9e6be72225", checked := Tryd.checked }
namespace Rows
def none {H : Type} : Left H := { results := [], args := [] }

/- WHAT THE LISTED PACKAGE-LEVEL VARIABLES READ AS WHEN THE CALL BEGINS. Each datum BY PROGRAM (the guide's laid-datum.mjs) off the statement by which the dump's own 'gosem.cut.vars' lays the variable. In a bare row this is a premise. The card (YteelldblfmhjlaaDoorCards.lean) ties it to the program's text. -/
def laid_errors_errorType {H : Type} : DataW H := .iface "internal/reflectlite.rtype" (.agg [.ptr (.lit (.string [101, 114, 114, 111, 114]))])

/-- 'mootlaw1.VectorTells': WHATEVER THE INPUT: true; the input reads as it did. -/
def vectorTellsSpec : ChangeSpec := { name := "vectorTells", fn := fun _ => fun
  | [d1, d2, d3] => { results := [.lit (.bool true)], args := [d1, d2, d3] }
  | _ => none }
def vectorTellsRow : OpenClaim := { program := "yteelldblfmhjlaadoor", sum := "1858b0ffaf31dfac366d03e47ef996f4d6d2e7a7ed6be9efe9083b9e6be72225", func := "mootbell/mootlaw1.VectorTells", spec := "vectorTells", inPlace := ["internal/reflectlite.ValueOf", "(internal/reflectlite.Value).Type", "(internal/reflectlite.Value).IsNil", "internal/reflectlite.TypeOf", "(internal/reflectlite.Value).Elem", "(internal/reflectlite.Value).Set"], unfollowed := true, recurses := true, named := ["errors.errorType"], plainKeys := false, apart := false, laid := [("errors.errorType", laid_errors_errorType)] }
def VectorTellsSaid : Prop := vectorTellsRow.holds Tryd.pinned (OpenSpec.ofChange vectorTellsSpec)

/-- ITS FALSE NEIGHBOUR: 'it returns false'. Refute it at one input. -/
def vectorTellsWrong : ChangeSpec := { name := "vectorTells", fn := fun _ => fun
  | [d1, d2, d3] => { results := [.lit (.bool false)], args := [d1, d2, d3] }
  | _ => none }
def VectorTellsWrongFalsely : Prop := vectorTellsRow.holds Tryd.pinned (OpenSpec.ofChange vectorTellsWrong)

/-- 'mootlaw2.StablePlays': WHATEVER THE INPUT: true; the input reads as it did. -/
def stablePlaysSpec : ChangeSpec := { name := "stablePlays", fn := fun _ => fun
  | [d1, d2, d3, d4] => { results := [.lit (.bool true)], args := [d1, d2, d3, d4] }
  | _ => none }
def stablePlaysRow : OpenClaim := { program := "yteelldblfmhjlaadoor", sum := "1858b0ffaf31dfac366d03e47ef996f4d6d2e7a7ed6be9efe9083b9e6be72225", func := "mootbell/mootlaw2.StablePlays", spec := "stablePlays", inPlace := ["internal/reflectlite.ValueOf", "(internal/reflectlite.Value).Type", "(internal/reflectlite.Value).IsNil", "internal/reflectlite.TypeOf", "(internal/reflectlite.Value).Elem", "(internal/reflectlite.Value).Set"], unfollowed := true, recurses := true, named := ["errors.errorType"], plainKeys := false, apart := false, laid := [("errors.errorType", laid_errors_errorType)] }
def StablePlaysSaid : Prop := stablePlaysRow.holds Tryd.pinned (OpenSpec.ofChange stablePlaysSpec)

/-- ITS FALSE NEIGHBOUR: 'it returns false'. Refute it at one input. -/
def stablePlaysWrong : ChangeSpec := { name := "stablePlays", fn := fun _ => fun
  | [d1, d2, d3, d4] => { results := [.lit (.bool false)], args := [d1, d2, d3, d4] }
  | _ => none }
def StablePlaysWrongFalsely : Prop := stablePlaysRow.holds Tryd.pinned (OpenSpec.ofChange stablePlaysWrong)

/-- 'mootlaw1.FifoWhole': WHATEVER THE INPUT: true; the input reads as it did. -/
def fifoWholeSpec : ChangeSpec := { name := "fifoWhole", fn := fun _ => fun
  | [d1, d2, d3] => { results := [.lit (.bool true)], args := [d1, d2, d3] }
  | _ => none }
def fifoWholeRow : OpenClaim := { program := "yteelldblfmhjlaadoor", sum := "1858b0ffaf31dfac366d03e47ef996f4d6d2e7a7ed6be9efe9083b9e6be72225", func := "mootbell/mootlaw1.FifoWhole", spec := "fifoWhole", inPlace := ["internal/reflectlite.ValueOf", "(internal/reflectlite.Value).Type", "(internal/reflectlite.Value).IsNil", "internal/reflectlite.TypeOf", "(internal/reflectlite.Value).Elem", "(internal/reflectlite.Value).Set"], unfollowed := true, recurses := true, named := ["errors.errorType"], plainKeys := false, apart := false, laid := [("errors.errorType", laid_errors_errorType)] }
def FifoWholeSaid : Prop := fifoWholeRow.holds Tryd.pinned (OpenSpec.ofChange fifoWholeSpec)

/-- ITS FALSE NEIGHBOUR: 'it returns false'. Refute it at one input. -/
def fifoWholeWrong : ChangeSpec := { name := "fifoWhole", fn := fun _ => fun
  | [d1, d2, d3] => { results := [.lit (.bool false)], args := [d1, d2, d3] }
  | _ => none }
def FifoWholeWrongFalsely : Prop := fifoWholeRow.holds Tryd.pinned (OpenSpec.ofChange fifoWholeWrong)

/-- 'mootlaw1.FifoPlays': WHATEVER THE INPUT: true; the input reads as it did. -/
def fifoPlaysSpec : ChangeSpec := { name := "fifoPlays", fn := fun _ => fun
  | [d] => { results := [.lit (.bool true)], args := [d] }
  | _ => none }
def fifoPlaysRow : OpenClaim := { program := "yteelldblfmhjlaadoor", sum := "1858b0ffaf31dfac366d03e47ef996f4d6d2e7a7ed6be9efe9083b9e6be72225", func := "mootbell/mootlaw1.FifoPlays", spec := "fifoPlays", inPlace := ["internal/reflectlite.ValueOf", "(internal/reflectlite.Value).Type", "(internal/reflectlite.Value).IsNil", "internal/reflectlite.TypeOf", "(internal/reflectlite.Value).Elem", "(internal/reflectlite.Value).Set"], unfollowed := true, recurses := true, named := ["errors.errorType"], plainKeys := false, apart := false, laid := [("errors.errorType", laid_errors_errorType)] }
def FifoPlaysSaid : Prop := fifoPlaysRow.holds Tryd.pinned (OpenSpec.ofChange fifoPlaysSpec)

/-- ITS FALSE NEIGHBOUR: 'it returns false'. Refute it at one input. -/
def fifoPlaysWrong : ChangeSpec := { name := "fifoPlays", fn := fun _ => fun
  | [d] => { results := [.lit (.bool false)], args := [d] }
  | _ => none }
def FifoPlaysWrongFalsely : Prop := fifoPlaysRow.holds Tryd.pinned (OpenSpec.ofChange fifoPlaysWrong)

/-- 'mootlaw4.AgainOld': WHATEVER THE INPUT: true; the input reads as it did. -/
def againOldSpec : ChangeSpec := { name := "againOld", fn := fun _ => fun
  | [d1, d2] => { results := [.lit (.bool true)], args := [d1, d2] }
  | _ => none }
def againOldRow : OpenClaim := { program := "yteelldblfmhjlaadoor", sum := "1858b0ffaf31dfac366d03e47ef996f4d6d2e7a7ed6be9efe9083b9e6be72225", func := "mootbell/mootlaw4.AgainOld", spec := "againOld", inPlace := ["internal/reflectlite.ValueOf", "(internal/reflectlite.Value).Type", "(internal/reflectlite.Value).IsNil", "internal/reflectlite.TypeOf", "(internal/reflectlite.Value).Elem", "(internal/reflectlite.Value).Set"], unfollowed := true, recurses := true, named := ["errors.errorType"], plainKeys := false, apart := false, laid := [("errors.errorType", laid_errors_errorType)] }
def AgainOldSaid : Prop := againOldRow.holds Tryd.pinned (OpenSpec.ofChange againOldSpec)

/-- ITS FALSE NEIGHBOUR: 'it returns false'. Refute it at one input. -/
def againOldWrong : ChangeSpec := { name := "againOld", fn := fun _ => fun
  | [d1, d2] => { results := [.lit (.bool false)], args := [d1, d2] }
  | _ => none }
def AgainOldWrongFalsely : Prop := againOldRow.holds Tryd.pinned (OpenSpec.ofChange againOldWrong)

/-- 'mootlaw2.AgainPlays': WHATEVER THE INPUT: true; the input reads as it did. -/
def againPlaysSpec : ChangeSpec := { name := "againPlays", fn := fun _ => fun
  | [d] => { results := [.lit (.bool true)], args := [d] }
  | _ => none }
def againPlaysRow : OpenClaim := { program := "yteelldblfmhjlaadoor", sum := "1858b0ffaf31dfac366d03e47ef996f4d6d2e7a7ed6be9efe9083b9e6be72225", func := "mootbell/mootlaw2.AgainPlays", spec := "againPlays", inPlace := ["internal/reflectlite.ValueOf", "(internal/reflectlite.Value).Type", "(internal/reflectlite.Value).IsNil", "internal/reflectlite.TypeOf", "(internal/reflectlite.Value).Elem", "(internal/reflectlite.Value).Set"], unfollowed := true, recurses := true, named := ["errors.errorType"], plainKeys := false, apart := false, laid := [("errors.errorType", laid_errors_errorType)] }
def AgainPlaysSaid : Prop := againPlaysRow.holds Tryd.pinned (OpenSpec.ofChange againPlaysSpec)

/-- ITS FALSE NEIGHBOUR: 'it returns false'. Refute it at one input. -/
def againPlaysWrong : ChangeSpec := { name := "againPlays", fn := fun _ => fun
  | [d] => { results := [.lit (.bool false)], args := [d] }
  | _ => none }
def AgainPlaysWrongFalsely : Prop := againPlaysRow.holds Tryd.pinned (OpenSpec.ofChange againPlaysWrong)

/-- 'mootlaw2.TokenPlays': WHATEVER THE INPUT: true; the input reads as it did. -/
def tokenPlaysSpec : ChangeSpec := { name := "tokenPlays", fn := fun _ => fun
  | [d1, d2, d3] => { results := [.lit (.bool true)], args := [d1, d2, d3] }
  | _ => none }
def tokenPlaysRow : OpenClaim := { program := "yteelldblfmhjlaadoor", sum := "1858b0ffaf31dfac366d03e47ef996f4d6d2e7a7ed6be9efe9083b9e6be72225", func := "mootbell/mootlaw2.TokenPlays", spec := "tokenPlays", inPlace := ["internal/reflectlite.ValueOf", "(internal/reflectlite.Value).Type", "(internal/reflectlite.Value).IsNil", "internal/reflectlite.TypeOf", "(internal/reflectlite.Value).Elem", "(internal/reflectlite.Value).Set"], unfollowed := true, recurses := true, named := ["errors.errorType"], plainKeys := false, apart := false, laid := [("errors.errorType", laid_errors_errorType)] }
def TokenPlaysSaid : Prop := tokenPlaysRow.holds Tryd.pinned (OpenSpec.ofChange tokenPlaysSpec)

/-- ITS FALSE NEIGHBOUR: 'it returns false'. Refute it at one input. -/
def tokenPlaysWrong : ChangeSpec := { name := "tokenPlays", fn := fun _ => fun
  | [d1, d2, d3] => { results := [.lit (.bool false)], args := [d1, d2, d3] }
  | _ => none }
def TokenPlaysWrongFalsely : Prop := tokenPlaysRow.holds Tryd.pinned (OpenSpec.ofChange tokenPlaysWrong)

/-- 'mootlaw2.LeaderPlays': WHATEVER THE INPUT: true; the input reads as it did. -/
def leaderPlaysSpec : ChangeSpec := { name := "leaderPlays", fn := fun _ => fun
  | [d1, d2] => { results := [.lit (.bool true)], args := [d1, d2] }
  | _ => none }
def leaderPlaysRow : OpenClaim := { program := "yteelldblfmhjlaadoor", sum := "1858b0ffaf31dfac366d03e47ef996f4d6d2e7a7ed6be9efe9083b9e6be72225", func := "mootbell/mootlaw2.LeaderPlays", spec := "leaderPlays", inPlace := ["internal/reflectlite.ValueOf", "(internal/reflectlite.Value).Type", "(internal/reflectlite.Value).IsNil", "internal/reflectlite.TypeOf", "(internal/reflectlite.Value).Elem", "(internal/reflectlite.Value).Set"], unfollowed := true, recurses := true, named := ["errors.errorType"], plainKeys := false, apart := false, laid := [("errors.errorType", laid_errors_errorType)] }
def LeaderPlaysSaid : Prop := leaderPlaysRow.holds Tryd.pinned (OpenSpec.ofChange leaderPlaysSpec)

/-- ITS FALSE NEIGHBOUR: 'it returns false'. Refute it at one input. -/
def leaderPlaysWrong : ChangeSpec := { name := "leaderPlays", fn := fun _ => fun
  | [d1, d2] => { results := [.lit (.bool false)], args := [d1, d2] }
  | _ => none }
def LeaderPlaysWrongFalsely : Prop := leaderPlaysRow.holds Tryd.pinned (OpenSpec.ofChange leaderPlaysWrong)

/- THE SECOND FORM. 'bulk': how many values and letters a reading holds, each counted each time it is reached (what is shared counts as often as it is met; a slice's spare places count too). A statement '..UptoSaid' is the law's where the arguments, and the package variables that the reading takes, are together of bulk at most 1048576: NARROWER than '..Said'. Prove '..Said' where nothing that the law and all that it calls make is longer than what came in: it says more and counts as full. Else prove '..UptoSaid'. A law counts once. -/
mutual
def uptoBulk {H : Type} : DataW H → Nat
  | .lit (.string bytes) => bytes.length + 1
  | .lit _ => 1
  | .nil => 1
  | .ptr d => uptoBulk d + 1
  | .slice elems spare => uptoBulkAll elems + uptoBulkAll spare + 1
  | .agg parts => uptoBulkAll parts + 1
  | .iface _ d => uptoBulk d + 1
  | .map entries => uptoBulkEntries entries + 1
  | .held _ => 1
def uptoBulkAll {H : Type} : List (DataW H) → Nat
  | [] => 0
  | d :: r => uptoBulk d + uptoBulkAll r
def uptoBulkEntries {H : Type} : List (Lit × DataW H) → Nat
  | [] => 0
  | x :: r => uptoBulkEntry x + uptoBulkEntries r
def uptoBulkEntry {H : Type} : Lit × DataW H → Nat
  | (.string bytes, d) => bytes.length + uptoBulk d + 1
  | (_, d) => uptoBulk d + 1
 end
def uptoSmall : (H : Type) → List (DataW H) → Bool := fun _ ds => decide (uptoBulkAll ds ≤ 1048576)
def OpenSpec.upto (s : _root_.Go.ChangeSpec) : _root_.Go.OpenSpec := { _root_.Go.OpenSpec.ofChange s with cond := some uptoSmall }

/-- 'mootlaw1.VectorTells', WHERE WHAT IT READS IS OF BULK AT MOST 1048576: true; the input reads as it did. -/
def vectorTellsUptoRow : OpenClaim := { program := "yteelldblfmhjlaadoor", sum := "1858b0ffaf31dfac366d03e47ef996f4d6d2e7a7ed6be9efe9083b9e6be72225", func := "mootbell/mootlaw1.VectorTells", spec := "vectorTells", inPlace := ["internal/reflectlite.ValueOf", "(internal/reflectlite.Value).Type", "(internal/reflectlite.Value).IsNil", "internal/reflectlite.TypeOf", "(internal/reflectlite.Value).Elem", "(internal/reflectlite.Value).Set"], unfollowed := true, recurses := true, named := ["errors.errorType"], plainKeys := false, apart := false, laid := [("errors.errorType", laid_errors_errorType)], narrowed := true }
def VectorTellsUptoSaid : Prop := vectorTellsUptoRow.holds Tryd.pinned (OpenSpec.upto vectorTellsSpec)

/-- 'mootlaw2.StablePlays', WHERE WHAT IT READS IS OF BULK AT MOST 1048576: true; the input reads as it did. -/
def stablePlaysUptoRow : OpenClaim := { program := "yteelldblfmhjlaadoor", sum := "1858b0ffaf31dfac366d03e47ef996f4d6d2e7a7ed6be9efe9083b9e6be72225", func := "mootbell/mootlaw2.StablePlays", spec := "stablePlays", inPlace := ["internal/reflectlite.ValueOf", "(internal/reflectlite.Value).Type", "(internal/reflectlite.Value).IsNil", "internal/reflectlite.TypeOf", "(internal/reflectlite.Value).Elem", "(internal/reflectlite.Value).Set"], unfollowed := true, recurses := true, named := ["errors.errorType"], plainKeys := false, apart := false, laid := [("errors.errorType", laid_errors_errorType)], narrowed := true }
def StablePlaysUptoSaid : Prop := stablePlaysUptoRow.holds Tryd.pinned (OpenSpec.upto stablePlaysSpec)

/-- 'mootlaw1.FifoWhole', WHERE WHAT IT READS IS OF BULK AT MOST 1048576: true; the input reads as it did. -/
def fifoWholeUptoRow : OpenClaim := { program := "yteelldblfmhjlaadoor", sum := "1858b0ffaf31dfac366d03e47ef996f4d6d2e7a7ed6be9efe9083b9e6be72225", func := "mootbell/mootlaw1.FifoWhole", spec := "fifoWhole", inPlace := ["internal/reflectlite.ValueOf", "(internal/reflectlite.Value).Type", "(internal/reflectlite.Value).IsNil", "internal/reflectlite.TypeOf", "(internal/reflectlite.Value).Elem", "(internal/reflectlite.Value).Set"], unfollowed := true, recurses := true, named := ["errors.errorType"], plainKeys := false, apart := false, laid := [("errors.errorType", laid_errors_errorType)], narrowed := true }
def FifoWholeUptoSaid : Prop := fifoWholeUptoRow.holds Tryd.pinned (OpenSpec.upto fifoWholeSpec)

/-- 'mootlaw1.FifoPlays', WHERE WHAT IT READS IS OF BULK AT MOST 1048576: true; the input reads as it did. -/
def fifoPlaysUptoRow : OpenClaim := { program := "yteelldblfmhjlaadoor", sum := "1858b0ffaf31dfac366d03e47ef996f4d6d2e7a7ed6be9efe9083b9e6be72225", func := "mootbell/mootlaw1.FifoPlays", spec := "fifoPlays", inPlace := ["internal/reflectlite.ValueOf", "(internal/reflectlite.Value).Type", "(internal/reflectlite.Value).IsNil", "internal/reflectlite.TypeOf", "(internal/reflectlite.Value).Elem", "(internal/reflectlite.Value).Set"], unfollowed := true, recurses := true, named := ["errors.errorType"], plainKeys := false, apart := false, laid := [("errors.errorType", laid_errors_errorType)], narrowed := true }
def FifoPlaysUptoSaid : Prop := fifoPlaysUptoRow.holds Tryd.pinned (OpenSpec.upto fifoPlaysSpec)

/-- 'mootlaw4.AgainOld', WHERE WHAT IT READS IS OF BULK AT MOST 1048576: true; the input reads as it did. -/
def againOldUptoRow : OpenClaim := { program := "yteelldblfmhjlaadoor", sum := "1858b0ffaf31dfac366d03e47ef996f4d6d2e7a7ed6be9efe9083b9e6be72225", func := "mootbell/mootlaw4.AgainOld", spec := "againOld", inPlace := ["internal/reflectlite.ValueOf", "(internal/reflectlite.Value).Type", "(internal/reflectlite.Value).IsNil", "internal/reflectlite.TypeOf", "(internal/reflectlite.Value).Elem", "(internal/reflectlite.Value).Set"], unfollowed := true, recurses := true, named := ["errors.errorType"], plainKeys := false, apart := false, laid := [("errors.errorType", laid_errors_errorType)], narrowed := true }
def AgainOldUptoSaid : Prop := againOldUptoRow.holds Tryd.pinned (OpenSpec.upto againOldSpec)

/-- 'mootlaw2.AgainPlays', WHERE WHAT IT READS IS OF BULK AT MOST 1048576: true; the input reads as it did. -/
def againPlaysUptoRow : OpenClaim := { program := "yteelldblfmhjlaadoor", sum := "1858b0ffaf31dfac366d03e47ef996f4d6d2e7a7ed6be9efe9083b9e6be72225", func := "mootbell/mootlaw2.AgainPlays", spec := "againPlays", inPlace := ["internal/reflectlite.ValueOf", "(internal/reflectlite.Value).Type", "(internal/reflectlite.Value).IsNil", "internal/reflectlite.TypeOf", "(internal/reflectlite.Value).Elem", "(internal/reflectlite.Value).Set"], unfollowed := true, recurses := true, named := ["errors.errorType"], plainKeys := false, apart := false, laid := [("errors.errorType", laid_errors_errorType)], narrowed := true }
def AgainPlaysUptoSaid : Prop := againPlaysUptoRow.holds Tryd.pinned (OpenSpec.upto againPlaysSpec)

/-- 'mootlaw2.TokenPlays', WHERE WHAT IT READS IS OF BULK AT MOST 1048576: true; the input reads as it did. -/
def tokenPlaysUptoRow : OpenClaim := { program := "yteelldblfmhjlaadoor", sum := "1858b0ffaf31dfac366d03e47ef996f4d6d2e7a7ed6be9efe9083b9e6be72225", func := "mootbell/mootlaw2.TokenPlays", spec := "tokenPlays", inPlace := ["internal/reflectlite.ValueOf", "(internal/reflectlite.Value).Type", "(internal/reflectlite.Value).IsNil", "internal/reflectlite.TypeOf", "(internal/reflectlite.Value).Elem", "(internal/reflectlite.Value).Set"], unfollowed := true, recurses := true, named := ["errors.errorType"], plainKeys := false, apart := false, laid := [("errors.errorType", laid_errors_errorType)], narrowed := true }
def TokenPlaysUptoSaid : Prop := tokenPlaysUptoRow.holds Tryd.pinned (OpenSpec.upto tokenPlaysSpec)

/-- 'mootlaw2.LeaderPlays', WHERE WHAT IT READS IS OF BULK AT MOST 1048576: true; the input reads as it did. -/
def leaderPlaysUptoRow : OpenClaim := { program := "yteelldblfmhjlaadoor", sum := "1858b0ffaf31dfac366d03e47ef996f4d6d2e7a7ed6be9efe9083b9e6be72225", func := "mootbell/mootlaw2.LeaderPlays", spec := "leaderPlays", inPlace := ["internal/reflectlite.ValueOf", "(internal/reflectlite.Value).Type", "(internal/reflectlite.Value).IsNil", "internal/reflectlite.TypeOf", "(internal/reflectlite.Value).Elem", "(internal/reflectlite.Value).Set"], unfollowed := true, recurses := true, named := ["errors.errorType"], plainKeys := false, apart := false, laid := [("errors.errorType", laid_errors_errorType)], narrowed := true }
def LeaderPlaysUptoSaid : Prop := leaderPlaysUptoRow.holds Tryd.pinned (OpenSpec.upto leaderPlaysSpec)

end Rows
end Go.Proofs.YteelldblfmhjlaaDoor
