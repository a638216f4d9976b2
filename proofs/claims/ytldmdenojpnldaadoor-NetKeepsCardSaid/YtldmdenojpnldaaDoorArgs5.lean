/- How arguments read: packets. -/
import Derived.Test.YtldmdenojpnldaaDoorHist
namespace Go.Proofs.YtldmdenojpnldaaDoor
set_option linter.unusedVariables false
set_option linter.unusedSimpArgs false
open Go.ChangeShapes Go.WideShapes Go.ChangeAt Go.RowKit Go.Deep
open Go.ChangeMaps (open_string shut_string)
variable {H : Type} {enc : TypeId × Value → H} {w : World} {b0 : Nat} {d : DataW H} {p : List MemPlace} {v : Value}
set_option maxRecDepth 100000 in
theorem trod_pk (n : Nat) (cs : List Value) (x : DataW H × List MemPlace) (h : DataW.trod enc Tryd.prog w 0 (fun _ => true) true n 23 cs = some x) : ∃ e : Ev, cs = evCells e ∧ goodEv e := by
  obtain ⟨xs, n, _, _, hl, hxl, hf⟩ := DataW.trod_struct Tryd.underlying23 h
  have hl3 : cs.length = 3 := by rw [hl]; kernel_rfl
  have hx3 : xs.length = 3 := by rw [hxl]; rfl
  match cs, hl3, xs, hx3 with
  | [a, b, c], _, [x0, x1, x2], _ =>
    have g0 : DataW.trod enc Tryd.prog w 0 (fun _ => true) true n 3 ((([a, b, c] : List Value).drop 0).take (Tryd.prog.cellsOf 3)) = some x0 := hf 0 _ rfl
    have g1 : DataW.trod enc Tryd.prog w 0 (fun _ => true) true n 3 ((([a, b, c] : List Value).drop 1).take (Tryd.prog.cellsOf 3)) = some x1 := hf 1 _ rfl
    have g2 : DataW.trod enc Tryd.prog w 0 (fun _ => true) true n 3 ((([a, b, c] : List Value).drop 2).take (Tryd.prog.cellsOf 3)) = some x2 := hf 2 _ rfl
    rw [cells_int] at g0 g1 g2
    obtain ⟨n0, e0, _, w0⟩ := DataW.trod_int Tryd.underlying3 g0
    obtain ⟨n1, e1, _, w1⟩ := DataW.trod_int Tryd.underlying3 g1
    obtain ⟨n2, e2, _, w2⟩ := DataW.trod_int Tryd.underlying3 g2
    simp at e0 e1 e2
    subst e0 e1 e2
    exact ⟨(n0, n1, n2), rfl, I64_of_wf w0, I64_of_wf w1, I64_of_wf w2⟩
set_option maxRecDepth 100000 in
theorem arg_packets (hv : Value.okWide Tryd.prog w .any b0 26 v) (h : DataW.Trod enc Tryd.prog w 0 (fun _ => true) true 26 v d p) : ∃ l, Evs w v l := by
  obtain ⟨ad, n, c, rfl⟩ := okWide_slice Tryd.underlying26 hv
  obtain ⟨fuel, hf⟩ := h
  obtain ⟨v', l, he, hr⟩ := trod_recs evCells 3 (fun _ => rfl) (by omega) goodEv Tryd.underlying26 (by kernel_rfl) trod_pk hf
  simp [Value.cells] at he
  exact ⟨l, he ▸ hr⟩
set_option maxRecDepth 100000 in
theorem arg_packet (hv : Value.okWide Tryd.prog w .any b0 23 v) (h : DataW.Trod enc Tryd.prog w 0 (fun _ => true) true 23 v d p) : ∃ x : Ev, v = evV x ∧ goodEv x := by
  obtain ⟨cs, rfl, hsz⟩ := okWide_struct Tryd.underlying23 hv
  obtain ⟨fuel, hf⟩ := h
  obtain ⟨xs, n, _, _, hl, hxl, hf⟩ := DataW.trod_struct Tryd.underlying23 hf
  have hl2 : cs.toList.length = 3 := by simp; rw [hsz]; kernel_rfl
  have hx2 : xs.length = 3 := by rw [hxl]; rfl
  obtain ⟨cs⟩ := cs
  match cs, hl2, xs, hx2 with
  | [a, b, c], _, [x0, x1, x2], _ =>
    have g0 : DataW.trod enc Tryd.prog w 0 (fun _ => true) true n 3 ((([a, b, c] : List Value).drop 0).take (Tryd.prog.cellsOf 3)) = some x0 := hf 0 _ rfl
    have g1 : DataW.trod enc Tryd.prog w 0 (fun _ => true) true n 3 ((([a, b, c] : List Value).drop 1).take (Tryd.prog.cellsOf 3)) = some x1 := hf 1 _ rfl
    have g2 : DataW.trod enc Tryd.prog w 0 (fun _ => true) true n 3 ((([a, b, c] : List Value).drop 2).take (Tryd.prog.cellsOf 3)) = some x2 := hf 2 _ rfl
    rw [cells_int] at g0 g1 g2
    obtain ⟨n0, e0, _, w0⟩ := DataW.trod_int Tryd.underlying3 g0
    obtain ⟨n1, e1, _, w1⟩ := DataW.trod_int Tryd.underlying3 g1
    obtain ⟨n2, e2, _, w2⟩ := DataW.trod_int Tryd.underlying3 g2
    simp [Value.cells] at e0 e1 e2
    subst e0 e1 e2
    exact ⟨(n0, n1, n2), rfl, I64_of_wf w0, I64_of_wf w1, I64_of_wf w2⟩
end Go.Proofs.YtldmdenojpnldaaDoor
