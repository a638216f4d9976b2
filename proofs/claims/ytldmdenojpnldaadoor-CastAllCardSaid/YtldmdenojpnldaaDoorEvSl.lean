/- Owned slices of events. -/
import Derived.Test.YtldmdenojpnldaaDoorHist
namespace Go.Proofs.YtldmdenojpnldaaDoor
set_option linter.unusedVariables false
set_option linter.unusedSimpArgs false
open Go.RowKit
theorem info_ev : (Tryd.prog.info? 102).map (fun i => (i.zero, i.size, i.bytes)) = some (some (.agg #[.int .i64 0, .int .i64 0, .int .i64 0]), 3, 24) := by kernel_rfl
def EvSl (v : Value) (l : List Ev) : HProp := Sl 102 3 v l.length (l.flatMap evCells)
theorem EvSl_reads {w0 : World} {R : HProp} {v : Value} {l : List Ev} (hg : ∀ e ∈ l, goodEv e) : ReadsE w0 (EvSl v l * R) v l := fun _ ho => ⟨Own.rd ho, hg⟩
theorem ev_one (l : List Ev) : ∀ u ∈ l.flatMap evCells, u.oneCell' = true := by
  intro u hu
  obtain ⟨e, _, hu⟩ := List.mem_flatMap.1 hu
  simp [evCells] at hu
  rcases hu with rfl | rfl | rfl <;> rfl
theorem Own.evs_nil {w0 w : World} {R : HProp} (h : Own w0 R w) : Own w0 (EvSl (.slice none 0 0) [] * R) w := h.sl_nil _ _
theorem Own.evs_snoc {w0 w : World} {v : Value} {l l2 : List Ev} {R : HProp} (h : Own w0 (Sl 102 3 v (l.length + l2.length) (l.flatMap evCells ++ l2.flatMap evCells) * R) w) : Own w0 (EvSl v (l ++ l2) * R) w :=
  h.perm (by unfold EvSl; rw [List.length_append, List.flatMap_append])
end Go.Proofs.YtldmdenojpnldaaDoor
