/-
  No cell of these rows narrows 'for every input' (looked for: loops, veiled, ifaces, maps, wideKeys, modest, calm, conditions, laid).
  DERIVED. THE GIVEN ROWS OF THIS SEAT. 2 by the template 'for every input the law returns true; each argument reads behind the call as it read before'; 0 by the template 'total and deterministic' (their statements: YtenlegafelgelaaTotals.lean).
  GIVEN WITH THE SEED: the statements are not yours to turn. If you find one false, say at which input.
  Laid BY PROGRAM, IN A SANDBOX (cutbox-rows.mjs): the forced cells as the released guide's own fill.sh prints them over the translation 0ecfef93a0a1b8cf… (all of the seat's roots in one cut). By AI agents, Wed Nov 11 2026. No macro, syntax, notation, axiom, sorry.
-/
import Derived.Test.YtenlegafelgelaaChecked
import GoSem.Claim
import GoSem.ClaimJoined
import GoSem.ClaimMapViews
import Derived.JoinedTies
import Derived.KernelRfl
namespace Go.Proofs.Ytenlegafelgelaa
/- THE CELL 'sum', in the pinned program and in every row, IS THE sha256 OF THE DUMP (.gsa) THAT YtenlegafelgelaaProg.lean LOADS. Nothing in Lean hashes anything: it is a label: what it is worth is what the hold of that sum in a sandbox is worth. -/
noncomputable def Try.pinned : Pinned := { name := "ytenlegafelgelaa", sum := "0ecfef93a0a1b8cf32de4d652181db5767140fe4b3e9a3fa45c2f11e2dd2aaf3", checked := Try.checked }
namespace Rows
def none {H : Type} : Left H := { results := [], args := [] }

/-- 'mootlaw1.ClockKnows': WHATEVER THE INPUT: true; the input reads as it did. -/
def clockKnowsSpec : ChangeSpec := { name := "clockKnows", fn := fun _ => fun
  | [d] => { results := [.lit (.bool true)], args := [d] }
  | _ => none }
def clockKnowsRow : OpenClaim := { program := "ytenlegafelgelaa", sum := "0ecfef93a0a1b8cf32de4d652181db5767140fe4b3e9a3fa45c2f11e2dd2aaf3", func := "mootbell/mootlaw1.ClockKnows", spec := "clockKnows", unfollowed := true, recurses := true, apart := false }
def ClockKnowsSaid : Prop := clockKnowsRow.holds Try.pinned (OpenSpec.ofChange clockKnowsSpec)

/-- ITS FALSE NEIGHBOUR: 'it returns false'. Refute it at one input. -/
def clockKnowsWrong : ChangeSpec := { name := "clockKnows", fn := fun _ => fun
  | [d] => { results := [.lit (.bool false)], args := [d] }
  | _ => none }
def ClockKnowsWrongFalsely : Prop := clockKnowsRow.holds Try.pinned (OpenSpec.ofChange clockKnowsWrong)

/-- 'moottop.TopTotal': WHATEVER THE INPUT: true; the input reads as it did. -/
def topTotalSpec : ChangeSpec := { name := "topTotal", fn := fun _ => fun
  | [d1, d2, d3] => { results := [.lit (.bool true)], args := [d1, d2, d3] }
  | _ => none }
def topTotalRow : OpenClaim := { program := "ytenlegafelgelaa", sum := "0ecfef93a0a1b8cf32de4d652181db5767140fe4b3e9a3fa45c2f11e2dd2aaf3", func := "mootbell/moottop.TopTotal", spec := "topTotal", unfollowed := true, recurses := true, apart := false }
def TopTotalSaid : Prop := topTotalRow.holds Try.pinned (OpenSpec.ofChange topTotalSpec)

/-- ITS FALSE NEIGHBOUR: 'it returns false'. Refute it at one input. -/
def topTotalWrong : ChangeSpec := { name := "topTotal", fn := fun _ => fun
  | [d1, d2, d3] => { results := [.lit (.bool false)], args := [d1, d2, d3] }
  | _ => none }
def TopTotalWrongFalsely : Prop := topTotalRow.holds Try.pinned (OpenSpec.ofChange topTotalWrong)

/- THE SECOND FORM. 'bulk': how many values and letters a reading holds, each counted each time it is reached (what is shared counts as often as it is met; a slice's spare places count too). A statement '..UptoSaid' is the law's where the arguments, and the package variables that the reading takes, are together of bulk at most 1048576: NARROWER than '..Said'. Prove '..Said' where nothing that the law and all that it calls make is longer than what came in: it says more and counts as full. Else prove '..UptoSaid'. A law counts once. -/
mutual
def uptoBulk {H : Type} : DataW H → Nat
  | .lit (.string bytes) => bytes.length + 1
  | .lit _ => 1
  | .nil => 1
  | .ptr d => uptoBulk d + 1
  | .slice elems spare => uptoBulkAll elems + uptoBulkAll spare + 1
  | .agg parts => uptoBulkAll parts + 1
  | .iface _ d => uptoBulk d + 1
  | .map entries => uptoBulkEntries entries + 1
  | .held _ => 1
def uptoBulkAll {H : Type} : List (DataW H) → Nat
  | [] => 0
  | d :: r => uptoBulk d + uptoBulkAll r
def uptoBulkEntries {H : Type} : List (Lit × DataW H) → Nat
  | [] => 0
  | x :: r => uptoBulkEntry x + uptoBulkEntries r
def uptoBulkEntry {H : Type} : Lit × DataW H → Nat
  | (.string bytes, d) => bytes.length + uptoBulk d + 1
  | (_, d) => uptoBulk d + 1
 end
def uptoSmall : (H : Type) → List (DataW H) → Bool := fun _ ds => decide (uptoBulkAll ds ≤ 1048576)
def OpenSpec.upto (s : _root_.Go.ChangeSpec) : _root_.Go.OpenSpec := { _root_.Go.OpenSpec.ofChange s with cond := some uptoSmall }

/-- 'mootlaw1.ClockKnows', WHERE WHAT IT READS IS OF BULK AT MOST 1048576: true; the input reads as it did. -/
def clockKnowsUptoRow : OpenClaim := { program := "ytenlegafelgelaa", sum := "0ecfef93a0a1b8cf32de4d652181db5767140fe4b3e9a3fa45c2f11e2dd2aaf3", func := "mootbell/mootlaw1.ClockKnows", spec := "clockKnows", unfollowed := true, recurses := true, apart := false, narrowed := true }
def ClockKnowsUptoSaid : Prop := clockKnowsUptoRow.holds Try.pinned (OpenSpec.upto clockKnowsSpec)

/-- 'moottop.TopTotal', WHERE WHAT IT READS IS OF BULK AT MOST 1048576: true; the input reads as it did. -/
def topTotalUptoRow : OpenClaim := { program := "ytenlegafelgelaa", sum := "0ecfef93a0a1b8cf32de4d652181db5767140fe4b3e9a3fa45c2f11e2dd2aaf3", func := "mootbell/moottop.TopTotal", spec := "topTotal", unfollowed := true, recurses := true, apart := false, narrowed := true }
def TopTotalUptoSaid : Prop := topTotalUptoRow.holds Try.pinned (OpenSpec.upto topTotalSpec)

end Rows
end Go.Proofs.Ytenlegafelgelaa
