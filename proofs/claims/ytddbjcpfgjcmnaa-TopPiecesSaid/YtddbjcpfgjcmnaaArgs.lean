/- How the arguments of a law read, as plain facts on the world in which the call begins. -/
import Derived.Test.YtddbjcpfgjcmnaaBase
import Derived.Test.YtddbjcpfgjcmnaaProg
import Derived.ProofKit
import Derived.OpenShut
import Derived.ShutString
import Derived.ChangeOld
import Derived.Deep.Slices
import Derived.SizedLaws
import Derived.KernelRfl
namespace Go.Proofs.Ytddbjcpfgjcmnaa
set_option linter.unusedVariables false
set_option linter.unusedSimpArgs false
open Go.ChangeShapes Go.WideShapes Go.ChangeAt Go.RowKit Go.Deep
open Go.ChangeMaps (open_string shut_string)
variable {H : Type} {enc : TypeId × Value → H} {w : World} {b0 : Nat} {d : DataW H} {p : List MemPlace} {v : Value}
set_option maxRecDepth 100000 in
theorem arg_int (hv : Value.okWide Try.prog w .any b0 3 v) (h : DataW.Trod enc Try.prog w 0 (fun _ => true) true 3 v d p) : ∃ a : Int, v = .int .i64 a ∧ I64 a := by
  obtain ⟨n, e, _, _, hw⟩ := open_int Try.underlying3 hv h
  exact ⟨n, e, I64_of_wf hw⟩
set_option maxRecDepth 100000 in
theorem arg_bool (hv : Value.okWide Try.prog w .any b0 4 v) (h : DataW.Trod enc Try.prog w 0 (fun _ => true) true 4 v d p) : ∃ a : Bool, v = .bool a := by
  obtain ⟨n, e, _⟩ := open_bool Try.underlying4 hv h
  exact ⟨n, e⟩
set_option maxRecDepth 100000 in
theorem arg_string (hv : Value.okWide Try.prog w .any b0 9 v) (h : DataW.Trod enc Try.prog w 0 (fun _ => true) true 9 v d p) : ∃ a : ByteArray, v = .string a ∧ a.size ≤ maxLen := by
  obtain ⟨n, e, _, _, hw⟩ := open_string Try.underlying9 hv h
  exact ⟨n, e, hw⟩
theorem cells_int : Try.prog.cellsOf 3 = 1 := by kernel_rfl
/-- A slice of ints, off its cells' reading. -/
theorem trod_ints {fuel : Nat} {cs : List Value} {x : DataW H × List MemPlace} (h : DataW.trod enc Try.prog w 0 (fun _ => true) true fuel 49 cs = some x) : ∃ v l, cs = [v] ∧ Ints w v l := by
  rcases open_ints Try.underlying49 Try.underlying3 cells_int h with ⟨rfl, _⟩ | ⟨a, len, cap, zs, rfl, _, hl, hm, hz, _, hc, hw⟩
  · exact ⟨_, [], rfl, Ints_nil _⟩
  · have hz' : zs.length = cap := by simpa using hz
    refine ⟨_, zs.take len, rfl, ⟨some a, cap, by simp; omega, by simp; omega, hm, by simp, fun i u hi => ⟨a, rfl, ?_⟩⟩, fun y hy => I64_of_wf (hw y (List.mem_of_mem_take hy))⟩
    rw [List.getElem?_map, Option.map_eq_some_iff] at hi
    obtain ⟨y, hy, rfl⟩ := hi
    rw [List.getElem?_take] at hy
    split at hy
    · rename_i hlt
      rw [hc i (by omega), List.getD, hy]; rfl
    · cases hy
set_option maxRecDepth 100000 in
theorem arg_ints (hv : Value.okWide Try.prog w .any b0 49 v) (h : DataW.Trod enc Try.prog w 0 (fun _ => true) true 49 v d p) : ∃ l, Ints w v l := by
  obtain ⟨ad, n, c, rfl⟩ := okWide_slice Try.underlying49 hv
  obtain ⟨fuel, hf⟩ := h
  obtain ⟨v', l, he, hr⟩ := trod_ints hf
  simp [Value.cells] at he
  exact ⟨l, he ▸ hr⟩
end Go.Proofs.Ytddbjcpfgjcmnaa
