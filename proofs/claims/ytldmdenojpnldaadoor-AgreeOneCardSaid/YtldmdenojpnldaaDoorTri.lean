/- The numbers of a step, in an array of their own. -/
import Derived.Test.YtldmdenojpnldaaDoorSet
import Derived.Test.YtldmdenojpnldaaDoorPiece
namespace Go.Proofs.YtldmdenojpnldaaDoor
set_option linter.unusedVariables false
set_option linter.unusedSimpArgs false
open Go.RowKit
def Nms (ty : TypeId) (b : Nat) (l : List Int) : HProp := blk b (.cells (l.map (Value.int .i64)).toArray ty (0, 0))
section
variable {w0 w : World} {ty : TypeId} {b : Nat} {l : List Int} {R : HProp}
theorem Own.nms_cell (h : Own w0 (Nms ty b l * R) w) (i : Nat) (hi : i < l.length) : w.cell? ⟨b, i, none⟩ = some (.int .i64 l[i]) := by
  rw [Own.cell h i]; simp [hi]
theorem Own.nms_free (h : Own w0 (Nms ty b l * R) w) (i : Nat) : w.frozen? ⟨b, i, none⟩ = false := Own.free h i none
theorem Own.nms_set (i : Nat) (x : Int) (h : Own w0 (Nms ty b l * R) w) : Own w0 (Nms ty b (l.set i x) * R) (w.setCell ⟨b, i, none⟩ (.int .i64 x)) := by
  have h1 := Own.setCell (i := i) (v := .int .i64 x) h
  refine h1.perm ?_
  unfold Nms
  rw [List.map_set]
  simp
end
def NmV (ty : TypeId) (n : Nat) (w : World) (b : Nat) (R : HProp) (wx : World) : Prop := ∃ l : List Int, l.length = n ∧ Own w (Nms ty b l * R) wx
theorem NmV.three {ty : TypeId} {w : World} {b : Nat} {R : HProp} {wx : World} (h : NmV ty 3 w b R wx) : ∃ x y z, Own w (Nms ty b [x, y, z] * R) wx := by
  obtain ⟨l, h3, ho⟩ := h
  match l, h3 with
  | [x, y, z], _ => exact ⟨x, y, z, ho⟩
theorem NmV.four {ty : TypeId} {w : World} {b : Nat} {R : HProp} {wx : World} (h : NmV ty 4 w b R wx) : ∃ x y z u, Own w (Nms ty b [x, y, z, u] * R) wx := by
  obtain ⟨l, h3, ho⟩ := h
  match l, h3 with
  | [x, y, z, u], _ => exact ⟨x, y, z, u, ho⟩
end Go.Proofs.YtldmdenojpnldaaDoor
