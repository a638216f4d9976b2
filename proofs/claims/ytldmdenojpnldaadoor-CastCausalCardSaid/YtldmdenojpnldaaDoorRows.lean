/-
  NARROWER THAN 'FOR EVERY INPUT', by the rows' own cells (each row's printed sentence says how): NetFull: laid · NetKeeps: laid · NetPlays: laid · CauseWaits: laid · CausePlays: laid · CastAll: laid · CastPlays: laid · CastCausal: laid · AgreeOne: laid · AgreePlays: laid.
  DERIVED. THE GIVEN ROWS OF THIS SEAT. 10 by the template 'for every input the law returns true; each argument reads behind the call as it read before'; 0 by the template 'total and deterministic' (their statements: YtldmdenojpnldaaDoorTotals.lean).
  GIVEN WITH THE SEED: the statements are not yours to turn. If you find one false, say at which input.
  Laid BY PROGRAM, IN A SANDBOX (cutbox-rows.mjs): the forced cells as the released guide's own fill.sh prints them over the translation 58942d646a59da17… (all of the seat's roots in one cut). By AI agents, Wed Nov 11 2026. No macro, syntax, notation, axiom, sorry.
-/
import Derived.Test.YtldmdenojpnldaaDoorChecked
import GoSem.Claim
import GoSem.ClaimJoined
import GoSem.ClaimMapViews
import Derived.JoinedTies
import Derived.KernelRfl
namespace Go.Proofs.YtldmdenojpnldaaDoor
/- THE CELL 'sum', in the pinned program and in every row, IS THE sha256 OF THE DUMP (.gsa) THAT YtldmdenojpnldaaDoorProg.lean LOADS. Nothing in Lean hashes anything: it is a label: what it is worth is what the hold of that sum in a sandbox is worth. -/
noncomputable def Tryd.pinned : Pinned := { name := "ytldmdenojpnldaadoor", sum := "58942d646a59da17023c7a2b4e24b6218bf4f500c2d6bc0e023baf54edd0d9dc", checked := Tryd.checked }
namespace Rows
def none {H : Type} : Left H := { results := [], args := [] }

/- WHAT THE LISTED PACKAGE-LEVEL VARIABLES READ AS WHEN THE CALL BEGINS. Each datum BY PROGRAM (the guide's laid-datum.mjs) off the statement by which the dump's own 'gosem.cut.vars' lays the variable. In a bare row this is a premise. The card (YtldmdenojpnldaaDoorCards.lean) ties it to the program's text. -/
def laid_errors_errorType {H : Type} : DataW H := .iface "internal/reflectlite.rtype" (.agg [.ptr (.lit (.string [101, 114, 114, 111, 114]))])

/-- 'mootlaw4.NetFull': WHATEVER THE INPUT: true; the input reads as it did. -/
def netFullSpec : ChangeSpec := { name := "netFull", fn := fun _ => fun
  | [d1, d2] => { results := [.lit (.bool true)], args := [d1, d2] }
  | _ => none }
def netFullRow : OpenClaim := { program := "ytldmdenojpnldaadoor", sum := "58942d646a59da17023c7a2b4e24b6218bf4f500c2d6bc0e023baf54edd0d9dc", func := "mootbell/mootlaw4.NetFull", spec := "netFull", inPlace := ["internal/reflectlite.ValueOf", "(internal/reflectlite.Value).Type", "(internal/reflectlite.Value).IsNil", "internal/reflectlite.TypeOf", "(internal/reflectlite.Value).Elem", "(internal/reflectlite.Value).Set"], unfollowed := true, recurses := true, named := ["errors.errorType"], plainKeys := false, apart := false, laid := [("errors.errorType", laid_errors_errorType)] }
def NetFullSaid : Prop := netFullRow.holds Tryd.pinned (OpenSpec.ofChange netFullSpec)

/-- ITS FALSE NEIGHBOUR: 'it returns false'. Refute it at one input. -/
def netFullWrong : ChangeSpec := { name := "netFull", fn := fun _ => fun
  | [d1, d2] => { results := [.lit (.bool false)], args := [d1, d2] }
  | _ => none }
def NetFullWrongFalsely : Prop := netFullRow.holds Tryd.pinned (OpenSpec.ofChange netFullWrong)

/-- 'mootlaw1.NetKeeps': WHATEVER THE INPUT: true; the input reads as it did. -/
def netKeepsSpec : ChangeSpec := { name := "netKeeps", fn := fun _ => fun
  | [d1, d2] => { results := [.lit (.bool true)], args := [d1, d2] }
  | _ => none }
def netKeepsRow : OpenClaim := { program := "ytldmdenojpnldaadoor", sum := "58942d646a59da17023c7a2b4e24b6218bf4f500c2d6bc0e023baf54edd0d9dc", func := "mootbell/mootlaw1.NetKeeps", spec := "netKeeps", inPlace := ["internal/reflectlite.ValueOf", "(internal/reflectlite.Value).Type", "(internal/reflectlite.Value).IsNil", "internal/reflectlite.TypeOf", "(internal/reflectlite.Value).Elem", "(internal/reflectlite.Value).Set"], unfollowed := true, recurses := true, named := ["errors.errorType"], plainKeys := false, apart := false, laid := [("errors.errorType", laid_errors_errorType)] }
def NetKeepsSaid : Prop := netKeepsRow.holds Tryd.pinned (OpenSpec.ofChange netKeepsSpec)

/-- ITS FALSE NEIGHBOUR: 'it returns false'. Refute it at one input. -/
def netKeepsWrong : ChangeSpec := { name := "netKeeps", fn := fun _ => fun
  | [d1, d2] => { results := [.lit (.bool false)], args := [d1, d2] }
  | _ => none }
def NetKeepsWrongFalsely : Prop := netKeepsRow.holds Tryd.pinned (OpenSpec.ofChange netKeepsWrong)

/-- 'mootlaw1.NetPlays': WHATEVER THE INPUT: true; the input reads as it did. -/
def netPlaysSpec : ChangeSpec := { name := "netPlays", fn := fun _ => fun
  | [d] => { results := [.lit (.bool true)], args := [d] }
  | _ => none }
def netPlaysRow : OpenClaim := { program := "ytldmdenojpnldaadoor", sum := "58942d646a59da17023c7a2b4e24b6218bf4f500c2d6bc0e023baf54edd0d9dc", func := "mootbell/mootlaw1.NetPlays", spec := "netPlays", inPlace := ["internal/reflectlite.ValueOf", "(internal/reflectlite.Value).Type", "(internal/reflectlite.Value).IsNil", "internal/reflectlite.TypeOf", "(internal/reflectlite.Value).Elem", "(internal/reflectlite.Value).Set"], unfollowed := true, recurses := true, named := ["errors.errorType"], plainKeys := false, apart := false, laid := [("errors.errorType", laid_errors_errorType)] }
def NetPlaysSaid : Prop := netPlaysRow.holds Tryd.pinned (OpenSpec.ofChange netPlaysSpec)

/-- ITS FALSE NEIGHBOUR: 'it returns false'. Refute it at one input. -/
def netPlaysWrong : ChangeSpec := { name := "netPlays", fn := fun _ => fun
  | [d] => { results := [.lit (.bool false)], args := [d] }
  | _ => none }
def NetPlaysWrongFalsely : Prop := netPlaysRow.holds Tryd.pinned (OpenSpec.ofChange netPlaysWrong)

/-- 'mootlaw1.CauseWaits': WHATEVER THE INPUT: true; the input reads as it did. -/
def causeWaitsSpec : ChangeSpec := { name := "causeWaits", fn := fun _ => fun
  | [d1, d2, d3, d4, d5] => { results := [.lit (.bool true)], args := [d1, d2, d3, d4, d5] }
  | _ => none }
def causeWaitsRow : OpenClaim := { program := "ytldmdenojpnldaadoor", sum := "58942d646a59da17023c7a2b4e24b6218bf4f500c2d6bc0e023baf54edd0d9dc", func := "mootbell/mootlaw1.CauseWaits", spec := "causeWaits", inPlace := ["internal/reflectlite.ValueOf", "(internal/reflectlite.Value).Type", "(internal/reflectlite.Value).IsNil", "internal/reflectlite.TypeOf", "(internal/reflectlite.Value).Elem", "(internal/reflectlite.Value).Set"], unfollowed := true, recurses := true, named := ["errors.errorType"], plainKeys := false, apart := false, laid := [("errors.errorType", laid_errors_errorType)] }
def CauseWaitsSaid : Prop := causeWaitsRow.holds Tryd.pinned (OpenSpec.ofChange causeWaitsSpec)

/-- ITS FALSE NEIGHBOUR: 'it returns false'. Refute it at one input. -/
def causeWaitsWrong : ChangeSpec := { name := "causeWaits", fn := fun _ => fun
  | [d1, d2, d3, d4, d5] => { results := [.lit (.bool false)], args := [d1, d2, d3, d4, d5] }
  | _ => none }
def CauseWaitsWrongFalsely : Prop := causeWaitsRow.holds Tryd.pinned (OpenSpec.ofChange causeWaitsWrong)

/-- 'mootlaw1.CausePlays': WHATEVER THE INPUT: true; the input reads as it did. -/
def causePlaysSpec : ChangeSpec := { name := "causePlays", fn := fun _ => fun
  | [d1, d2, d3] => { results := [.lit (.bool true)], args := [d1, d2, d3] }
  | _ => none }
def causePlaysRow : OpenClaim := { program := "ytldmdenojpnldaadoor", sum := "58942d646a59da17023c7a2b4e24b6218bf4f500c2d6bc0e023baf54edd0d9dc", func := "mootbell/mootlaw1.CausePlays", spec := "causePlays", inPlace := ["internal/reflectlite.ValueOf", "(internal/reflectlite.Value).Type", "(internal/reflectlite.Value).IsNil", "internal/reflectlite.TypeOf", "(internal/reflectlite.Value).Elem", "(internal/reflectlite.Value).Set"], unfollowed := true, recurses := true, named := ["errors.errorType"], plainKeys := false, apart := false, laid := [("errors.errorType", laid_errors_errorType)] }
def CausePlaysSaid : Prop := causePlaysRow.holds Tryd.pinned (OpenSpec.ofChange causePlaysSpec)

/-- ITS FALSE NEIGHBOUR: 'it returns false'. Refute it at one input. -/
def causePlaysWrong : ChangeSpec := { name := "causePlays", fn := fun _ => fun
  | [d1, d2, d3] => { results := [.lit (.bool false)], args := [d1, d2, d3] }
  | _ => none }
def CausePlaysWrongFalsely : Prop := causePlaysRow.holds Tryd.pinned (OpenSpec.ofChange causePlaysWrong)

/-- 'mootlaw4.CastAll': WHATEVER THE INPUT: true; the input reads as it did. -/
def castAllSpec : ChangeSpec := { name := "castAll", fn := fun _ => fun
  | [d1, d2, d3] => { results := [.lit (.bool true)], args := [d1, d2, d3] }
  | _ => none }
def castAllRow : OpenClaim := { program := "ytldmdenojpnldaadoor", sum := "58942d646a59da17023c7a2b4e24b6218bf4f500c2d6bc0e023baf54edd0d9dc", func := "mootbell/mootlaw4.CastAll", spec := "castAll", inPlace := ["internal/reflectlite.ValueOf", "(internal/reflectlite.Value).Type", "(internal/reflectlite.Value).IsNil", "internal/reflectlite.TypeOf", "(internal/reflectlite.Value).Elem", "(internal/reflectlite.Value).Set"], unfollowed := true, recurses := true, named := ["errors.errorType"], plainKeys := false, apart := false, laid := [("errors.errorType", laid_errors_errorType)] }
def CastAllSaid : Prop := castAllRow.holds Tryd.pinned (OpenSpec.ofChange castAllSpec)

/-- ITS FALSE NEIGHBOUR: 'it returns false'. Refute it at one input. -/
def castAllWrong : ChangeSpec := { name := "castAll", fn := fun _ => fun
  | [d1, d2, d3] => { results := [.lit (.bool false)], args := [d1, d2, d3] }
  | _ => none }
def CastAllWrongFalsely : Prop := castAllRow.holds Tryd.pinned (OpenSpec.ofChange castAllWrong)

/-- 'mootlaw1.CastPlays': WHATEVER THE INPUT: true; the input reads as it did. -/
def castPlaysSpec : ChangeSpec := { name := "castPlays", fn := fun _ => fun
  | [d1, d2] => { results := [.lit (.bool true)], args := [d1, d2] }
  | _ => none }
def castPlaysRow : OpenClaim := { program := "ytldmdenojpnldaadoor", sum := "58942d646a59da17023c7a2b4e24b6218bf4f500c2d6bc0e023baf54edd0d9dc", func := "mootbell/mootlaw1.CastPlays", spec := "castPlays", inPlace := ["internal/reflectlite.ValueOf", "(internal/reflectlite.Value).Type", "(internal/reflectlite.Value).IsNil", "internal/reflectlite.TypeOf", "(internal/reflectlite.Value).Elem", "(internal/reflectlite.Value).Set"], unfollowed := true, recurses := true, named := ["errors.errorType"], plainKeys := false, apart := false, laid := [("errors.errorType", laid_errors_errorType)] }
def CastPlaysSaid : Prop := castPlaysRow.holds Tryd.pinned (OpenSpec.ofChange castPlaysSpec)

/-- ITS FALSE NEIGHBOUR: 'it returns false'. Refute it at one input. -/
def castPlaysWrong : ChangeSpec := { name := "castPlays", fn := fun _ => fun
  | [d1, d2] => { results := [.lit (.bool false)], args := [d1, d2] }
  | _ => none }
def CastPlaysWrongFalsely : Prop := castPlaysRow.holds Tryd.pinned (OpenSpec.ofChange castPlaysWrong)

/-- 'mootlaw1.CastCausal': WHATEVER THE INPUT: true; the input reads as it did. -/
def castCausalSpec : ChangeSpec := { name := "castCausal", fn := fun _ => fun
  | [d1, d2, d3] => { results := [.lit (.bool true)], args := [d1, d2, d3] }
  | _ => none }
def castCausalRow : OpenClaim := { program := "ytldmdenojpnldaadoor", sum := "58942d646a59da17023c7a2b4e24b6218bf4f500c2d6bc0e023baf54edd0d9dc", func := "mootbell/mootlaw1.CastCausal", spec := "castCausal", inPlace := ["internal/reflectlite.ValueOf", "(internal/reflectlite.Value).Type", "(internal/reflectlite.Value).IsNil", "internal/reflectlite.TypeOf", "(internal/reflectlite.Value).Elem", "(internal/reflectlite.Value).Set"], unfollowed := true, recurses := true, named := ["errors.errorType"], plainKeys := false, apart := false, laid := [("errors.errorType", laid_errors_errorType)] }
def CastCausalSaid : Prop := castCausalRow.holds Tryd.pinned (OpenSpec.ofChange castCausalSpec)

/-- ITS FALSE NEIGHBOUR: 'it returns false'. Refute it at one input. -/
def castCausalWrong : ChangeSpec := { name := "castCausal", fn := fun _ => fun
  | [d1, d2, d3] => { results := [.lit (.bool false)], args := [d1, d2, d3] }
  | _ => none }
def CastCausalWrongFalsely : Prop := castCausalRow.holds Tryd.pinned (OpenSpec.ofChange castCausalWrong)

/-- 'mootlaw2.AgreeOne': WHATEVER THE INPUT: true; the input reads as it did. -/
def agreeOneSpec : ChangeSpec := { name := "agreeOne", fn := fun _ => fun
  | [d1, d2] => { results := [.lit (.bool true)], args := [d1, d2] }
  | _ => none }
def agreeOneRow : OpenClaim := { program := "ytldmdenojpnldaadoor", sum := "58942d646a59da17023c7a2b4e24b6218bf4f500c2d6bc0e023baf54edd0d9dc", func := "mootbell/mootlaw2.AgreeOne", spec := "agreeOne", inPlace := ["internal/reflectlite.ValueOf", "(internal/reflectlite.Value).Type", "(internal/reflectlite.Value).IsNil", "internal/reflectlite.TypeOf", "(internal/reflectlite.Value).Elem", "(internal/reflectlite.Value).Set"], unfollowed := true, recurses := true, named := ["errors.errorType"], plainKeys := false, apart := false, laid := [("errors.errorType", laid_errors_errorType)] }
def AgreeOneSaid : Prop := agreeOneRow.holds Tryd.pinned (OpenSpec.ofChange agreeOneSpec)

/-- ITS FALSE NEIGHBOUR: 'it returns false'. Refute it at one input. -/
def agreeOneWrong : ChangeSpec := { name := "agreeOne", fn := fun _ => fun
  | [d1, d2] => { results := [.lit (.bool false)], args := [d1, d2] }
  | _ => none }
def AgreeOneWrongFalsely : Prop := agreeOneRow.holds Tryd.pinned (OpenSpec.ofChange agreeOneWrong)

/-- 'mootlaw2.AgreePlays': WHATEVER THE INPUT: true; the input reads as it did. -/
def agreePlaysSpec : ChangeSpec := { name := "agreePlays", fn := fun _ => fun
  | [d1, d2] => { results := [.lit (.bool true)], args := [d1, d2] }
  | _ => none }
def agreePlaysRow : OpenClaim := { program := "ytldmdenojpnldaadoor", sum := "58942d646a59da17023c7a2b4e24b6218bf4f500c2d6bc0e023baf54edd0d9dc", func := "mootbell/mootlaw2.AgreePlays", spec := "agreePlays", inPlace := ["internal/reflectlite.ValueOf", "(internal/reflectlite.Value).Type", "(internal/reflectlite.Value).IsNil", "internal/reflectlite.TypeOf", "(internal/reflectlite.Value).Elem", "(internal/reflectlite.Value).Set"], unfollowed := true, recurses := true, named := ["errors.errorType"], plainKeys := false, apart := false, laid := [("errors.errorType", laid_errors_errorType)] }
def AgreePlaysSaid : Prop := agreePlaysRow.holds Tryd.pinned (OpenSpec.ofChange agreePlaysSpec)

/-- ITS FALSE NEIGHBOUR: 'it returns false'. Refute it at one input. -/
def agreePlaysWrong : ChangeSpec := { name := "agreePlays", fn := fun _ => fun
  | [d1, d2] => { results := [.lit (.bool false)], args := [d1, d2] }
  | _ => none }
def AgreePlaysWrongFalsely : Prop := agreePlaysRow.holds Tryd.pinned (OpenSpec.ofChange agreePlaysWrong)

/- THE SECOND FORM. 'bulk': how many values and letters a reading holds, each counted each time it is reached (what is shared counts as often as it is met; a slice's spare places count too). A statement '..UptoSaid' is the law's where the arguments, and the package variables that the reading takes, are together of bulk at most 1048576: NARROWER than '..Said'. Prove '..Said' where nothing that the law and all that it calls make is longer than what came in: it says more and counts as full. Else prove '..UptoSaid'. A law counts once. -/
mutual
def uptoBulk {H : Type} : DataW H → Nat
  | .lit (.string bytes) => bytes.length + 1
  | .lit _ => 1
  | .nil => 1
  | .ptr d => uptoBulk d + 1
  | .slice elems spare => uptoBulkAll elems + uptoBulkAll spare + 1
  | .agg parts => uptoBulkAll parts + 1
  | .iface _ d => uptoBulk d + 1
  | .map entries => uptoBulkEntries entries + 1
  | .held _ => 1
def uptoBulkAll {H : Type} : List (DataW H) → Nat
  | [] => 0
  | d :: r => uptoBulk d + uptoBulkAll r
def uptoBulkEntries {H : Type} : List (Lit × DataW H) → Nat
  | [] => 0
  | x :: r => uptoBulkEntry x + uptoBulkEntries r
def uptoBulkEntry {H : Type} : Lit × DataW H → Nat
  | (.string bytes, d) => bytes.length + uptoBulk d + 1
  | (_, d) => uptoBulk d + 1
 end
def uptoSmall : (H : Type) → List (DataW H) → Bool := fun _ ds => decide (uptoBulkAll ds ≤ 1048576)
def OpenSpec.upto (s : _root_.Go.ChangeSpec) : _root_.Go.OpenSpec := { _root_.Go.OpenSpec.ofChange s with cond := some uptoSmall }

/-- 'mootlaw4.NetFull', WHERE WHAT IT READS IS OF BULK AT MOST 1048576: true; the input reads as it did. -/
def netFullUptoRow : OpenClaim := { program := "ytldmdenojpnldaadoor", sum := "58942d646a59da17023c7a2b4e24b6218bf4f500c2d6bc0e023baf54edd0d9dc", func := "mootbell/mootlaw4.NetFull", spec := "netFull", inPlace := ["internal/reflectlite.ValueOf", "(internal/reflectlite.Value).Type", "(internal/reflectlite.Value).IsNil", "internal/reflectlite.TypeOf", "(internal/reflectlite.Value).Elem", "(internal/reflectlite.Value).Set"], unfollowed := true, recurses := true, named := ["errors.errorType"], plainKeys := false, apart := false, laid := [("errors.errorType", laid_errors_errorType)], narrowed := true }
def NetFullUptoSaid : Prop := netFullUptoRow.holds Tryd.pinned (OpenSpec.upto netFullSpec)

/-- 'mootlaw1.NetKeeps', WHERE WHAT IT READS IS OF BULK AT MOST 1048576: true; the input reads as it did. -/
def netKeepsUptoRow : OpenClaim := { program := "ytldmdenojpnldaadoor", sum := "58942d646a59da17023c7a2b4e24b6218bf4f500c2d6bc0e023baf54edd0d9dc", func := "mootbell/mootlaw1.NetKeeps", spec := "netKeeps", inPlace := ["internal/reflectlite.ValueOf", "(internal/reflectlite.Value).Type", "(internal/reflectlite.Value).IsNil", "internal/reflectlite.TypeOf", "(internal/reflectlite.Value).Elem", "(internal/reflectlite.Value).Set"], unfollowed := true, recurses := true, named := ["errors.errorType"], plainKeys := false, apart := false, laid := [("errors.errorType", laid_errors_errorType)], narrowed := true }
def NetKeepsUptoSaid : Prop := netKeepsUptoRow.holds Tryd.pinned (OpenSpec.upto netKeepsSpec)

/-- 'mootlaw1.NetPlays', WHERE WHAT IT READS IS OF BULK AT MOST 1048576: true; the input reads as it did. -/
def netPlaysUptoRow : OpenClaim := { program := "ytldmdenojpnldaadoor", sum := "58942d646a59da17023c7a2b4e24b6218bf4f500c2d6bc0e023baf54edd0d9dc", func := "mootbell/mootlaw1.NetPlays", spec := "netPlays", inPlace := ["internal/reflectlite.ValueOf", "(internal/reflectlite.Value).Type", "(internal/reflectlite.Value).IsNil", "internal/reflectlite.TypeOf", "(internal/reflectlite.Value).Elem", "(internal/reflectlite.Value).Set"], unfollowed := true, recurses := true, named := ["errors.errorType"], plainKeys := false, apart := false, laid := [("errors.errorType", laid_errors_errorType)], narrowed := true }
def NetPlaysUptoSaid : Prop := netPlaysUptoRow.holds Tryd.pinned (OpenSpec.upto netPlaysSpec)

/-- 'mootlaw1.CauseWaits', WHERE WHAT IT READS IS OF BULK AT MOST 1048576: true; the input reads as it did. -/
def causeWaitsUptoRow : OpenClaim := { program := "ytldmdenojpnldaadoor", sum := "58942d646a59da17023c7a2b4e24b6218bf4f500c2d6bc0e023baf54edd0d9dc", func := "mootbell/mootlaw1.CauseWaits", spec := "causeWaits", inPlace := ["internal/reflectlite.ValueOf", "(internal/reflectlite.Value).Type", "(internal/reflectlite.Value).IsNil", "internal/reflectlite.TypeOf", "(internal/reflectlite.Value).Elem", "(internal/reflectlite.Value).Set"], unfollowed := true, recurses := true, named := ["errors.errorType"], plainKeys := false, apart := false, laid := [("errors.errorType", laid_errors_errorType)], narrowed := true }
def CauseWaitsUptoSaid : Prop := causeWaitsUptoRow.holds Tryd.pinned (OpenSpec.upto causeWaitsSpec)

/-- 'mootlaw1.CausePlays', WHERE WHAT IT READS IS OF BULK AT MOST 1048576: true; the input reads as it did. -/
def causePlaysUptoRow : OpenClaim := { program := "ytldmdenojpnldaadoor", sum := "58942d646a59da17023c7a2b4e24b6218bf4f500c2d6bc0e023baf54edd0d9dc", func := "mootbell/mootlaw1.CausePlays", spec := "causePlays", inPlace := ["internal/reflectlite.ValueOf", "(internal/reflectlite.Value).Type", "(internal/reflectlite.Value).IsNil", "internal/reflectlite.TypeOf", "(internal/reflectlite.Value).Elem", "(internal/reflectlite.Value).Set"], unfollowed := true, recurses := true, named := ["errors.errorType"], plainKeys := false, apart := false, laid := [("errors.errorType", laid_errors_errorType)], narrowed := true }
def CausePlaysUptoSaid : Prop := causePlaysUptoRow.holds Tryd.pinned (OpenSpec.upto causePlaysSpec)

/-- 'mootlaw4.CastAll', WHERE WHAT IT READS IS OF BULK AT MOST 1048576: true; the input reads as it did. -/
def castAllUptoRow : OpenClaim := { program := "ytldmdenojpnldaadoor", sum := "58942d646a59da17023c7a2b4e24b6218bf4f500c2d6bc0e023baf54edd0d9dc", func := "mootbell/mootlaw4.CastAll", spec := "castAll", inPlace := ["internal/reflectlite.ValueOf", "(internal/reflectlite.Value).Type", "(internal/reflectlite.Value).IsNil", "internal/reflectlite.TypeOf", "(internal/reflectlite.Value).Elem", "(internal/reflectlite.Value).Set"], unfollowed := true, recurses := true, named := ["errors.errorType"], plainKeys := false, apart := false, laid := [("errors.errorType", laid_errors_errorType)], narrowed := true }
def CastAllUptoSaid : Prop := castAllUptoRow.holds Tryd.pinned (OpenSpec.upto castAllSpec)

/-- 'mootlaw1.CastPlays', WHERE WHAT IT READS IS OF BULK AT MOST 1048576: true; the input reads as it did. -/
def castPlaysUptoRow : OpenClaim := { program := "ytldmdenojpnldaadoor", sum := "58942d646a59da17023c7a2b4e24b6218bf4f500c2d6bc0e023baf54edd0d9dc", func := "mootbell/mootlaw1.CastPlays", spec := "castPlays", inPlace := ["internal/reflectlite.ValueOf", "(internal/reflectlite.Value).Type", "(internal/reflectlite.Value).IsNil", "internal/reflectlite.TypeOf", "(internal/reflectlite.Value).Elem", "(internal/reflectlite.Value).Set"], unfollowed := true, recurses := true, named := ["errors.errorType"], plainKeys := false, apart := false, laid := [("errors.errorType", laid_errors_errorType)], narrowed := true }
def CastPlaysUptoSaid : Prop := castPlaysUptoRow.holds Tryd.pinned (OpenSpec.upto castPlaysSpec)

/-- 'mootlaw1.CastCausal', WHERE WHAT IT READS IS OF BULK AT MOST 1048576: true; the input reads as it did. -/
def castCausalUptoRow : OpenClaim := { program := "ytldmdenojpnldaadoor", sum := "58942d646a59da17023c7a2b4e24b6218bf4f500c2d6bc0e023baf54edd0d9dc", func := "mootbell/mootlaw1.CastCausal", spec := "castCausal", inPlace := ["internal/reflectlite.ValueOf", "(internal/reflectlite.Value).Type", "(internal/reflectlite.Value).IsNil", "internal/reflectlite.TypeOf", "(internal/reflectlite.Value).Elem", "(internal/reflectlite.Value).Set"], unfollowed := true, recurses := true, named := ["errors.errorType"], plainKeys := false, apart := false, laid := [("errors.errorType", laid_errors_errorType)], narrowed := true }
def CastCausalUptoSaid : Prop := castCausalUptoRow.holds Tryd.pinned (OpenSpec.upto castCausalSpec)

/-- 'mootlaw2.AgreeOne', WHERE WHAT IT READS IS OF BULK AT MOST 1048576: true; the input reads as it did. -/
def agreeOneUptoRow : OpenClaim := { program := "ytldmdenojpnldaadoor", sum := "58942d646a59da17023c7a2b4e24b6218bf4f500c2d6bc0e023baf54edd0d9dc", func := "mootbell/mootlaw2.AgreeOne", spec := "agreeOne", inPlace := ["internal/reflectlite.ValueOf", "(internal/reflectlite.Value).Type", "(internal/reflectlite.Value).IsNil", "internal/reflectlite.TypeOf", "(internal/reflectlite.Value).Elem", "(internal/reflectlite.Value).Set"], unfollowed := true, recurses := true, named := ["errors.errorType"], plainKeys := false, apart := false, laid := [("errors.errorType", laid_errors_errorType)], narrowed := true }
def AgreeOneUptoSaid : Prop := agreeOneUptoRow.holds Tryd.pinned (OpenSpec.upto agreeOneSpec)

/-- 'mootlaw2.AgreePlays', WHERE WHAT IT READS IS OF BULK AT MOST 1048576: true; the input reads as it did. -/
def agreePlaysUptoRow : OpenClaim := { program := "ytldmdenojpnldaadoor", sum := "58942d646a59da17023c7a2b4e24b6218bf4f500c2d6bc0e023baf54edd0d9dc", func := "mootbell/mootlaw2.AgreePlays", spec := "agreePlays", inPlace := ["internal/reflectlite.ValueOf", "(internal/reflectlite.Value).Type", "(internal/reflectlite.Value).IsNil", "internal/reflectlite.TypeOf", "(internal/reflectlite.Value).Elem", "(internal/reflectlite.Value).Set"], unfollowed := true, recurses := true, named := ["errors.errorType"], plainKeys := false, apart := false, laid := [("errors.errorType", laid_errors_errorType)], narrowed := true }
def AgreePlaysUptoSaid : Prop := agreePlaysUptoRow.holds Tryd.pinned (OpenSpec.upto agreePlaysSpec)

end Rows
end Go.Proofs.YtldmdenojpnldaaDoor
