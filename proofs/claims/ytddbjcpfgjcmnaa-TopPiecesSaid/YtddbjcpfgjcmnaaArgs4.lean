/- How arguments read, as plain facts: a byte, a word that was said, slices of pieces. -/
import Derived.Test.YtddbjcpfgjcmnaaArgs2
import Derived.Test.YtddbjcpfgjcmnaaPieces
namespace Go.Proofs.Ytddbjcpfgjcmnaa
set_option linter.unusedVariables false
set_option linter.unusedSimpArgs false
open Go.ChangeShapes Go.WideShapes Go.ChangeAt Go.RowKit Go.Deep
open Go.ChangeMaps (open_string shut_string)
variable {H : Type} {enc : TypeId × Value → H} {w : World} {b0 : Nat} {d : DataW H} {p : List MemPlace} {v : Value}
def goodPc (p : Pc) : Prop := I64 p.at' ∧ I64 p.of ∧ p.text.size ≤ maxLen
def Pcs (w : World) (v : Value) (l : List Pc) : Prop := Rd w v l.length (l.flatMap pcCells) ∧ ∀ e ∈ l, goodPc e
set_option maxRecDepth 100000 in
theorem arg_byte (hv : Value.okWide Try.prog w .any b0 5 v) (h : DataW.Trod enc Try.prog w 0 (fun _ => true) true 5 v d p) : ∃ a : Int, v = .int .u8 a ∧ (0 ≤ a ∧ a ≤ 255) := by
  obtain ⟨n, e, _, _, hw⟩ := open_int Try.underlying5 hv h
  refine ⟨n, e, ?_⟩
  simp [Lit.wf, IntKind.min, IntKind.max, IntKind.signed, IntKind.bits] at hw
  omega
set_option maxRecDepth 100000 in
theorem trod_pc (n : Nat) (cs : List Value) (x : DataW H × List MemPlace) (h : DataW.trod enc Try.prog w 0 (fun _ => true) true n 28 cs = some x) : ∃ e : Pc, cs = pcCells e ∧ goodPc e := by
  obtain ⟨xs, n, _, _, hl, hxl, hf⟩ := DataW.trod_struct Try.underlying28 h
  have hl3 : cs.length = 3 := by rw [hl]; kernel_rfl
  have hx3 : xs.length = 3 := by rw [hxl]; rfl
  match cs, hl3, xs, hx3 with
  | [a, b, c], _, [x0, x1, x2], _ =>
    have g0 : DataW.trod enc Try.prog w 0 (fun _ => true) true n 3 ((([a, b, c] : List Value).drop 0).take (Try.prog.cellsOf 3)) = some x0 := hf 0 _ rfl
    have g1 : DataW.trod enc Try.prog w 0 (fun _ => true) true n 3 ((([a, b, c] : List Value).drop 1).take (Try.prog.cellsOf 3)) = some x1 := hf 1 _ rfl
    have g2 : DataW.trod enc Try.prog w 0 (fun _ => true) true n 9 ((([a, b, c] : List Value).drop 2).take (Try.prog.cellsOf 9)) = some x2 := hf 2 _ rfl
    rw [cells_int] at g0 g1
    rw [show Try.prog.cellsOf 9 = 1 by kernel_rfl] at g2
    obtain ⟨n0, e0, _, w0⟩ := DataW.trod_int Try.underlying3 g0
    obtain ⟨n1, e1, _, w1⟩ := DataW.trod_int Try.underlying3 g1
    obtain ⟨s2, e2, _, w2⟩ := DataW.trod_string Try.underlying9 g2
    simp at e0 e1 e2
    subst e0 e1 e2
    exact ⟨⟨n0, n1, s2⟩, rfl, I64_of_wf w0, I64_of_wf w1, w2⟩
set_option maxRecDepth 100000 in
theorem arg_pieces (hv : Value.okWide Try.prog w .any b0 22 v) (h : DataW.Trod enc Try.prog w 0 (fun _ => true) true 22 v d p) : ∃ l, Pcs w v l := by
  obtain ⟨ad, n, c, rfl⟩ := okWide_slice Try.underlying22 hv
  obtain ⟨fuel, hf⟩ := h
  obtain ⟨v', l, he, hr⟩ := trod_recs pcCells 3 (fun _ => rfl) (by omega) goodPc Try.underlying22 (by kernel_rfl) trod_pc hf
  simp [Value.cells] at he
  exact ⟨l, he ▸ hr⟩
end Go.Proofs.Ytddbjcpfgjcmnaa
