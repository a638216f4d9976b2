/- Pieces of a function's text, found by their numbers. -/
import Derived.Test.YtddbjcpfgjcmnaaHeld
namespace Go.Proofs.Ytddbjcpfgjcmnaa
set_option linter.unusedVariables false
set_option linter.unusedSimpArgs false
open Go.RowKit
def findIf (t : Nat) : Code → Option Code
  | .cond (.tmp k) a b => if k = t then some (.cond (.tmp k) a b) else match findIf t a with
    | some c => some c
    | none => findIf t b
  | .seq a b => match findIf t a with
    | some c => some c
    | none => findIf t b
  | .block _ c => findIf t c
  | .loop c => findIf t c
  | .scope c => findIf t c
  | _ => none
def findBlock (t : Nat) : Code → Option Code
  | .cond _ a b => match findBlock t a with
    | some c => some c
    | none => findBlock t b
  | .seq a b => match findBlock t a with
    | some c => some c
    | none => findBlock t b
  | .block k c => if k = t then some (.block k c) else findBlock t c
  | .loop c => findBlock t c
  | .scope c => findBlock t c
  | _ => none
def findRegion (t : Nat) : Code → Option Code
  | .cond _ a b => match findRegion t a with
    | some c => some c
    | none => findRegion t b
  | .seq a b => match findRegion t a with
    | some c => some c
    | none => findRegion t b
  | .region k o d => if k = t then some (.region k o d) else none
  | .block _ c => findRegion t c
  | .loop c => findRegion t c
  | .scope c => findRegion t c
  | _ => none
end Go.Proofs.Ytddbjcpfgjcmnaa
