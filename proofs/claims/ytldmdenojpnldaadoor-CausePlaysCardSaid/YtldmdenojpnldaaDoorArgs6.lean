/- How arguments read, as plain facts: slices of words that were said. -/
import Derived.Test.YtldmdenojpnldaaDoorArgs2
import Derived.Test.YtldmdenojpnldaaDoorCause3
namespace Go.Proofs.YtldmdenojpnldaaDoor
set_option linter.unusedVariables false
set_option linter.unusedSimpArgs false
open Go.ChangeShapes Go.WideShapes Go.ChangeAt Go.RowKit Go.Deep
open Go.ChangeMaps (open_string shut_string)
variable {H : Type} {enc : TypeId × Value → H} {w : World} {b0 : Nat} {d : DataW H} {p : List MemPlace} {v : Value}
def goodSd (w : World) (r : SdR) : Prop := I64 r.2.who ∧ I64 r.2.word ∧ Ints w r.1 r.2.clk
def Sds (w : World) (v : Value) (l : List SdR) : Prop := Rd w v l.length (l.flatMap sdCells) ∧ ∀ r ∈ l, goodSd w r
set_option maxRecDepth 100000 in
theorem trod_sd (n : Nat) (cs : List Value) (x : DataW H × List MemPlace) (h : DataW.trod enc Tryd.prog w 0 (fun _ => true) true n 56 cs = some x) : ∃ e : SdR, cs = sdCells e ∧ goodSd w e := by
  obtain ⟨xs, n, _, _, hl, hxl, hf⟩ := DataW.trod_struct Tryd.underlying56 h
  have hl3 : cs.length = 3 := by rw [hl]; kernel_rfl
  have hx3 : xs.length = 3 := by rw [hxl]; rfl
  match cs, hl3, xs, hx3 with
  | [a, b, c], _, [x0, x1, x2], _ =>
    have g0 : DataW.trod enc Tryd.prog w 0 (fun _ => true) true n 3 ((([a, b, c] : List Value).drop 0).take (Tryd.prog.cellsOf 3)) = some x0 := hf 0 _ rfl
    have g1 : DataW.trod enc Tryd.prog w 0 (fun _ => true) true n 3 ((([a, b, c] : List Value).drop 1).take (Tryd.prog.cellsOf 3)) = some x1 := hf 1 _ rfl
    have g2 : DataW.trod enc Tryd.prog w 0 (fun _ => true) true n 36 ((([a, b, c] : List Value).drop 2).take (Tryd.prog.cellsOf 36)) = some x2 := hf 2 _ rfl
    rw [cells_int] at g0 g1
    rw [show Tryd.prog.cellsOf 36 = 1 by kernel_rfl] at g2
    obtain ⟨n0, e0, _, w0⟩ := DataW.trod_int Tryd.underlying3 g0
    obtain ⟨n1, e1, _, w1⟩ := DataW.trod_int Tryd.underlying3 g1
    obtain ⟨v', l, e2, hr⟩ := trod_ints g2
    simp at e0 e1 e2
    subst e0 e1 e2
    exact ⟨(_, ⟨n0, n1, l⟩), rfl, I64_of_wf w0, I64_of_wf w1, hr⟩
set_option maxRecDepth 100000 in
theorem arg_saids (hv : Value.okWide Tryd.prog w .any b0 65 v) (h : DataW.Trod enc Tryd.prog w 0 (fun _ => true) true 65 v d p) : ∃ l, Sds w v l := by
  obtain ⟨ad, n, c, rfl⟩ := okWide_slice Tryd.underlying65 hv
  obtain ⟨fuel, hf⟩ := h
  obtain ⟨v', l, he, hr⟩ := trod_recs sdCells 3 (fun _ => rfl) (by omega) (goodSd w) Tryd.underlying65 (by kernel_rfl) trod_sd hf
  simp [Value.cells] at he
  exact ⟨l, he ▸ hr⟩
end Go.Proofs.YtldmdenojpnldaaDoor
