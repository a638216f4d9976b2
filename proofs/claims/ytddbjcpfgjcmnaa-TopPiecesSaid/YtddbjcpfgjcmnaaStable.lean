/- Contracts of package stable. -/
import Derived.Test.YtddbjcpfgjcmnaaVec2
import Derived.Deep.RegionLaw
import Derived.Deep.RegionHeld3
namespace Go.Proofs.Ytddbjcpfgjcmnaa
set_option linter.unusedVariables false
set_option linter.unusedSimpArgs false
open Go.RowKit
/-- One of so many members? -/
def inR (who : Int) (n : Nat) : Bool := decide (0 ≤ who) && decide (who < n)
theorem info_ints : (Try.prog.info? 49).map (fun i => (i.zero, i.size, i.bytes)) = some (some (.slice none 0 0), 1, 24) := by kernel_rfl
def rowP (r : Value × List Int) : HProp := IntSl r.1 r.2
def rowsOk (rows : List (List Int)) : Prop := ∀ r ∈ rows, vecErr r = 0
theorem vecErr_I64 {r : List Int} (h : vecErr r = 0) : ∀ x ∈ r, I64 x := fun x hx => by have := (vecErr0 h).2 x hx; unfold I64; omega
def toldErr (n : Nat) (who : Int) (v : List Int) : Nat := if inR who n = false then 1 else vecErr v
def toldRows (rows : List (List Int)) (who : Int) (v : List Int) : List (List Int) := if toldErr rows.length who v = 0 then rows.set who.toNat (zipMax (rows.getD who.toNat []) v) else rows
/-- The row of a member. -/
def rowOf (rows : List (List Int)) (who : Int) : List Int := if inR who rows.length then rows.getD who.toNat [] else []
def inErr (who : Int) (n : Nat) : Nat := if inR who n then 0 else 1
end Go.Proofs.Ytddbjcpfgjcmnaa
