/- How arguments that hold structs read, continued: slices of views. -/
import Derived.Test.YtdeeephdojflpaaDoorArgs2
namespace Go.Proofs.YtdeeephdojflpaaDoor
set_option linter.unusedVariables false
set_option linter.unusedSimpArgs false
open Go.ChangeShapes Go.WideShapes Go.ChangeAt Go.RowKit Go.Deep
open Go.ChangeMaps (open_string shut_string)
variable {H : Type} {enc : TypeId × Value → H} {w : World} {b0 : Nat} {d : DataW H} {p : List MemPlace} {v : Value}
def vwCells3 (x : Int × Value × List Int) : List Value := [.int .i64 x.1, x.2.1]
set_option maxRecDepth 100000 in
theorem trod_view (n : Nat) (cs : List Value) (x : DataW H × List MemPlace) (h : DataW.trod enc Tryd.prog w 0 (fun _ => true) true n 68 cs = some x) : ∃ l : Int × Value × List Int, cs = vwCells3 l ∧ I64 l.1 ∧ Ints w l.2.1 l.2.2 := by
  obtain ⟨xs, n, _, _, hl, hxl, hf⟩ := DataW.trod_struct Tryd.underlying68 h
  have hl2 : cs.length = 2 := by rw [hl]; kernel_rfl
  have hx2 : xs.length = 2 := by rw [hxl]; rfl
  match cs, hl2, xs, hx2 with
  | [a, b], _, [x0, x1], _ =>
    have g0 : DataW.trod enc Tryd.prog w 0 (fun _ => true) true n 3 ((([a, b] : List Value).drop 0).take (Tryd.prog.cellsOf 3)) = some x0 := hf 0 _ rfl
    have g1 : DataW.trod enc Tryd.prog w 0 (fun _ => true) true n 43 ((([a, b] : List Value).drop 1).take (Tryd.prog.cellsOf 43)) = some x1 := hf 1 _ rfl
    rw [cells_int] at g0
    rw [show Tryd.prog.cellsOf 43 = 1 by kernel_rfl] at g1
    obtain ⟨n0, e0, _, w0⟩ := DataW.trod_int Tryd.underlying3 g0
    obtain ⟨v', l, e1, hr⟩ := trod_ints g1
    simp at e0 e1
    subst e0 e1
    exact ⟨(n0, _, l), rfl, I64_of_wf w0, hr⟩
set_option maxRecDepth 100000 in
theorem arg_views (hv : Value.okWide Tryd.prog w .any b0 72 v) (h : DataW.Trod enc Tryd.prog w 0 (fun _ => true) true 72 v d p) : ∃ l : List (Int × Value × List Int), Rd w v l.length (l.flatMap vwCells3) ∧ ∀ x ∈ l, I64 x.1 ∧ Ints w x.2.1 x.2.2 := by
  obtain ⟨ad, n, c, rfl⟩ := okWide_slice Tryd.underlying72 hv
  obtain ⟨fuel, hf⟩ := h
  obtain ⟨v', l, he, hr⟩ := trod_recs vwCells3 2 (fun _ => rfl) (by omega) (fun l => I64 l.1 ∧ Ints w l.2.1 l.2.2) Tryd.underlying72 (by kernel_rfl) trod_view hf
  simp [Value.cells] at he
  exact ⟨l, he ▸ hr⟩
end Go.Proofs.YtdeeephdojflpaaDoor
