/- How the arguments of a law read, as plain facts on the world in which the call begins. -/
import Derived.Test.YtpgonkecicmanaaDoorMAgreePlays0
import Derived.Test.YtpgonkecicmanaaDoorProg
import Derived.ProofKit
import Derived.OpenShut
import Derived.ShutString
import Derived.ChangeOld
import Derived.Deep.Slices
import Derived.SizedLaws
import Derived.KernelRfl
import Derived.Test.YtpgonkecicmanaaDoorRows
namespace Go.Proofs.YtpgonkecicmanaaDoor
set_option linter.unusedVariables false
set_option linter.unusedSimpArgs false
open Go.ChangeShapes Go.WideShapes Go.ChangeAt Go.RowKit Go.Deep
open Go.ChangeMaps (open_string shut_string)
variable {H : Type} {enc : TypeId × Value → H} {w : World} {b0 : Nat} {d : DataW H} {p : List MemPlace} {v : Value}
set_option maxRecDepth 100000 in
theorem arg_int (hv : Value.okWide Tryd.prog w .any b0 3 v) (h : DataW.Trod enc Tryd.prog w 0 (fun _ => true) true 3 v d p) : ∃ a : Int, v = .int .i64 a ∧ I64 a := by
  obtain ⟨n, e, _, _, hw⟩ := open_int Tryd.underlying3 hv h
  exact ⟨n, e, I64_of_wf hw⟩
set_option maxRecDepth 100000 in
theorem arg_bool (hv : Value.okWide Tryd.prog w .any b0 4 v) (h : DataW.Trod enc Tryd.prog w 0 (fun _ => true) true 4 v d p) : ∃ a : Bool, v = .bool a := by
  obtain ⟨n, e, _⟩ := open_bool Tryd.underlying4 hv h
  exact ⟨n, e⟩
set_option maxRecDepth 100000 in
theorem arg_string (hv : Value.okWide Tryd.prog w .any b0 9 v) (h : DataW.Trod enc Tryd.prog w 0 (fun _ => true) true 9 v d p) : ∃ a : ByteArray, v = .string a ∧ a.size ≤ maxLen := by
  obtain ⟨n, e, _, _, hw⟩ := open_string Tryd.underlying9 hv h
  exact ⟨n, e, hw⟩
theorem cells_int : Tryd.prog.cellsOf 3 = 1 := by kernel_rfl
/-- A slice of ints, off its cells' reading. -/
theorem trod_ints {fuel : Nat} {cs : List Value} {x : DataW H × List MemPlace} (h : DataW.trod enc Tryd.prog w 0 (fun _ => true) true fuel 38 cs = some x) : ∃ v l, cs = [v] ∧ Ints w v l := by
  rcases open_ints Tryd.underlying38 Tryd.underlying3 cells_int h with ⟨rfl, _⟩ | ⟨a, len, cap, zs, rfl, _, hl, hm, hz, _, hc, hw⟩
  · exact ⟨_, [], rfl, Ints_nil _⟩
  · have hz' : zs.length = cap := by simpa using hz
    refine ⟨_, zs.take len, rfl, ⟨some a, cap, by simp; omega, by simp; omega, hm, by simp, fun i u hi => ⟨a, rfl, ?_⟩⟩, fun y hy => I64_of_wf (hw y (List.mem_of_mem_take hy))⟩
    rw [List.getElem?_map, Option.map_eq_some_iff] at hi
    obtain ⟨y, hy, rfl⟩ := hi
    rw [List.getElem?_take] at hy
    split at hy
    · rename_i hlt
      rw [hc i (by omega), List.getD, hy]; rfl
    · cases hy
set_option maxRecDepth 100000 in
theorem arg_ints (hv : Value.okWide Tryd.prog w .any b0 38 v) (h : DataW.Trod enc Tryd.prog w 0 (fun _ => true) true 38 v d p) : ∃ l, Ints w v l := by
  obtain ⟨ad, n, c, rfl⟩ := okWide_slice Tryd.underlying38 hv
  obtain ⟨fuel, hf⟩ := h
  obtain ⟨v', l, he, hr⟩ := trod_ints hf
  simp [Value.cells] at he
  exact ⟨l, he ▸ hr⟩
theorem cells_ints : Tryd.prog.cellsOf 38 = 1 := by kernel_rfl
set_option maxRecDepth 100000 in
theorem arg_rows (hv : Value.okWide Tryd.prog w .any b0 22 v) (h : DataW.Trod enc Tryd.prog w 0 (fun _ => true) true 22 v d p) : ∃ ll, Rows2 w v ll := by
  obtain ⟨ad, n, c, rfl⟩ := okWide_slice Tryd.underlying22 hv
  obtain ⟨fuel, hf⟩ := h
  rcases open_slice1 Tryd.underlying22 cells_ints hf with ⟨he, _⟩ | ⟨a, len, cap, m, k, V, D, Pl, he, _, hl, hm, hmm, _, hx⟩
  · simp [Value.cells] at he
    obtain ⟨rfl, rfl, rfl⟩ := he
    exact ⟨[], Rows2_nil _⟩
  · simp [Value.cells] at he
    obtain ⟨rfl, rfl, rfl⟩ := he
    simp only [if_true] at hmm
    exact Rows2_mk hl hm (fun i hi => (hx i (by omega)).1) (fun i hi => by
      obtain ⟨v', l, he, hr⟩ := trod_ints (hx i (by omega)).2
      simp at he
      exact ⟨l, he ▸ hr⟩)
end Go.Proofs.YtpgonkecicmanaaDoor
/- Closed facts on the program as a whole, each asked once for all statements of the seat. -/
namespace Go.Proofs.YtpgonkecicmanaaDoor.facts
set_option linter.unusedVariables false
set_option linter.unusedSimpArgs false
open Go.ChangeShapes Go.WideShapes Go.ChangeAt
theorem words_step (w r : List Char) (h : w.all (fun c => c != Char.ofNat 32) = true) : wordsSigns (w ++ Char.ofNat 32 :: r) = w :: wordsSigns r := by
  induction w with
  | nil => rfl
  | cons c w ih =>
    simp only [List.all_cons, Bool.and_eq_true, bne_iff_ne, ne_eq] at h
    rw [List.cons_append]
    have e : wordsSigns (c :: (w ++ Char.ofNat 32 :: r)) = match wordsSigns (w ++ Char.ofNat 32 :: r) with | x :: xs => (c :: x) :: xs | [] => [[c]] := by
      conv => lhs; unfold wordsSigns
      split
      · rename_i h1; cases h1
      · rename_i h1; injection h1 with h2 _; exact absurd h2 h.1
      · rename_i h1; injection h1 with h2 h3; subst h2 h3; rfl
    rw [e, ih (by simpa using h.2)]
theorem make_of (P : Program) (c : List Char) (rest : List (List Char)) (h : behindMainWord (wordsSigns P.initOrder.toList) = c :: rest) : P.make =
  if c == "gc".toList || c == "spec".toList then some .whole else if c == "cut".toList || (c == "finals".toList && rest.head? == some "cut".toList) then some .cut else if c == "carried".toList then some .carried else if P.headLifts.isEmpty then none else some (.lifted P.headLifts) := by
  unfold Program.make
  rw [h]
theorem mayEnter_of (P : Program) (c : List Char) (rest : List (List Char)) (h : behindMainWord (wordsSigns P.initOrder.toList) = c :: rest) : P.mayEnter = (
    ((c == "gc".toList || c == "spec".toList) && (rest.isEmpty || rest.head? == some "stop".toList)) ||
    (c == "carried".toList && rest.take 2 == ["gc".toList, "cut".toList] && !P.laysLater && !P.bearsReflect) ||
    ((stripLifts liftWords (c :: rest)).2.head? == some "cut".toList &&
      ((stripLifts liftWords (c :: rest)).1.contains "finals" || !P.laysLater) && ((stripLifts liftWords (c :: rest)).1.contains "reflectrows" || !P.bearsReflect) &&
      ((stripLifts liftWords (c :: rest)).1.contains "reflectrows" || !(stripLifts liftWords (c :: rest)).1.contains "leanrows") &&
      P.doorFits (stripLifts liftWords (c :: rest)).1)) := by
  unfold Program.mayEnter
  rw [h]
def hw0 : List Char := [Char.ofNat 104, Char.ofNat 97, Char.ofNat 114, Char.ofNat 110, Char.ofNat 101, Char.ofNat 115, Char.ofNat 115]
def hw1 : List Char := [Char.ofNat 100, Char.ofNat 98, Char.ofNat 98, Char.ofNat 48, Char.ofNat 98, Char.ofNat 54, Char.ofNat 102, Char.ofNat 54, Char.ofNat 48, Char.ofNat 53, Char.ofNat 97, Char.ofNat 51, Char.ofNat 49, Char.ofNat 57, Char.ofNat 102, Char.ofNat 48, Char.ofNat 56, Char.ofNat 97, Char.ofNat 50, Char.ofNat 53, Char.ofNat 57, Char.ofNat 52, Char.ofNat 101, Char.ofNat 52, Char.ofNat 57, Char.ofNat 99, Char.ofNat 53, Char.ofNat 55, Char.ofNat 56, Char.ofNat 102, Char.ofNat 50, Char.ofNat 98, Char.ofNat 99, Char.ofNat 56, Char.ofNat 57, Char.ofNat 49, Char.ofNat 53, Char.ofNat 57, Char.ofNat 56, Char.ofNat 55, Char.ofNat 101, Char.ofNat 51, Char.ofNat 51, Char.ofNat 102, Char.ofNat 98, Char.ofNat 97, Char.ofNat 56, Char.ofNat 52, Char.ofNat 49, Char.ofNat 55, Char.ofNat 52, Char.ofNat 53, Char.ofNat 48, Char.ofNat 53, Char.ofNat 48, Char.ofNat 55, Char.ofNat 101, Char.ofNat 50, Char.ofNat 51, Char.ofNat 101, Char.ofNat 55, Char.ofNat 102, Char.ofNat 52, Char.ofNat 53]
def hw2 : List Char := [Char.ofNat 99, Char.ofNat 117, Char.ofNat 116]
def hrest : List Char := [Char.ofNat 97, Char.ofNat 116, Char.ofNat 32, Char.ofNat 109, Char.ofNat 111, Char.ofNat 111, Char.ofNat 116, Char.ofNat 98, Char.ofNat 101, Char.ofNat 108, Char.ofNat 108, Char.ofNat 47, Char.ofNat 109, Char.ofNat 111, Char.ofNat 111, Char.ofNat 116, Char.ofNat 108, Char.ofNat 97, Char.ofNat 119, Char.ofNat 50, Char.ofNat 46, Char.ofNat 65, Char.ofNat 103, Char.ofNat 114, Char.ofNat 101, Char.ofNat 101, Char.ofNat 80, Char.ofNat 108, Char.ofNat 97, Char.ofNat 121, Char.ofNat 115, Char.ofNat 32, Char.ofNat 109, Char.ofNat 111, Char.ofNat 111, Char.ofNat 116, Char.ofNat 98, Char.ofNat 101, Char.ofNat 108, Char.ofNat 108, Char.ofNat 47, Char.ofNat 109, Char.ofNat 111, Char.ofNat 111, Char.ofNat 116, Char.ofNat 108, Char.ofNat 97, Char.ofNat 119, Char.ofNat 51, Char.ofNat 46, Char.ofNat 80, Char.ofNat 105, Char.ofNat 99, Char.ofNat 116, Char.ofNat 117, Char.ofNat 114, Char.ofNat 101, Char.ofNat 80, Char.ofNat 108, Char.ofNat 97, Char.ofNat 121, Char.ofNat 115, Char.ofNat 32, Char.ofNat 109, Char.ofNat 111, Char.ofNat 111, Char.ofNat 116, Char.ofNat 98, Char.ofNat 101, Char.ofNat 108, Char.ofNat 108, Char.ofNat 47, Char.ofNat 109, Char.ofNat 111, Char.ofNat 111, Char.ofNat 116, Char.ofNat 108, Char.ofNat 97, Char.ofNat 119, Char.ofNat 51, Char.ofNat 46, Char.ofNat 70, Char.ofNat 108, Char.ofNat 117, Char.ofNat 115, Char.ofNat 104, Char.ofNat 80, Char.ofNat 108, Char.ofNat 97, Char.ofNat 121, Char.ofNat 115, Char.ofNat 32, Char.ofNat 109, Char.ofNat 111, Char.ofNat 111, Char.ofNat 116, Char.ofNat 98, Char.ofNat 101, Char.ofNat 108, Char.ofNat 108, Char.ofNat 47, Char.ofNat 109, Char.ofNat 111, Char.ofNat 111, Char.ofNat 116, Char.ofNat 108, Char.ofNat 97, Char.ofNat 119, Char.ofNat 49, Char.ofNat 46, Char.ofNat 67, Char.ofNat 108, Char.ofNat 111, Char.ofNat 99, Char.ofNat 107, Char.ofNat 84, Char.ofNat 101, Char.ofNat 108, Char.ofNat 108, Char.ofNat 115, Char.ofNat 32, Char.ofNat 109, Char.ofNat 111, Char.ofNat 111, Char.ofNat 116, Char.ofNat 98, Char.ofNat 101, Char.ofNat 108, Char.ofNat 108, Char.ofNat 47, Char.ofNat 109, Char.ofNat 111, Char.ofNat 111, Char.ofNat 116, Char.ofNat 108, Char.ofNat 97, Char.ofNat 119, Char.ofNat 52, Char.ofNat 46, Char.ofNat 76, Char.ofNat 111, Char.ofNat 103, Char.ofNat 82, Char.ofNat 101, Char.ofNat 102, Char.ofNat 117, Char.ofNat 115, Char.ofNat 101, Char.ofNat 115, Char.ofNat 32, Char.ofNat 109, Char.ofNat 111, Char.ofNat 111, Char.ofNat 116, Char.ofNat 98, Char.ofNat 101, Char.ofNat 108, Char.ofNat 108, Char.ofNat 47, Char.ofNat 109, Char.ofNat 111, Char.ofNat 111, Char.ofNat 116, Char.ofNat 108, Char.ofNat 97, Char.ofNat 119, Char.ofNat 51, Char.ofNat 46, Char.ofNat 76, Char.ofNat 111, Char.ofNat 103, Char.ofNat 83, Char.ofNat 116, Char.ofNat 111, Char.ofNat 112, Char.ofNat 115, Char.ofNat 32, Char.ofNat 109, Char.ofNat 111, Char.ofNat 111, Char.ofNat 116, Char.ofNat 98, Char.ofNat 101, Char.ofNat 108, Char.ofNat 108, Char.ofNat 47, Char.ofNat 109, Char.ofNat 111, Char.ofNat 111, Char.ofNat 116, Char.ofNat 108, Char.ofNat 97, Char.ofNat 119, Char.ofNat 51, Char.ofNat 46, Char.ofNat 76, Char.ofNat 111, Char.ofNat 103, Char.ofNat 75, Char.ofNat 101, Char.ofNat 101, Char.ofNat 112, Char.ofNat 115]
set_option maxRecDepth 100000 in
theorem init_lit : Tryd.prog.initOrder = String.ofList [Char.ofNat 104, Char.ofNat 97, Char.ofNat 114, Char.ofNat 110, Char.ofNat 101, Char.ofNat 115, Char.ofNat 115, Char.ofNat 32, Char.ofNat 100, Char.ofNat 98, Char.ofNat 98, Char.ofNat 48, Char.ofNat 98, Char.ofNat 54, Char.ofNat 102, Char.ofNat 54, Char.ofNat 48, Char.ofNat 53, Char.ofNat 97, Char.ofNat 51, Char.ofNat 49, Char.ofNat 57, Char.ofNat 102, Char.ofNat 48, Char.ofNat 56, Char.ofNat 97, Char.ofNat 50, Char.ofNat 53, Char.ofNat 57, Char.ofNat 52, Char.ofNat 101, Char.ofNat 52, Char.ofNat 57, Char.ofNat 99, Char.ofNat 53, Char.ofNat 55, Char.ofNat 56, Char.ofNat 102, Char.ofNat 50, Char.ofNat 98, Char.ofNat 99, Char.ofNat 56, Char.ofNat 57, Char.ofNat 49, Char.ofNat 53, Char.ofNat 57, Char.ofNat 56, Char.ofNat 55, Char.ofNat 101, Char.ofNat 51, Char.ofNat 51, Char.ofNat 102, Char.ofNat 98, Char.ofNat 97, Char.ofNat 56, Char.ofNat 52, Char.ofNat 49, Char.ofNat 55, Char.ofNat 52, Char.ofNat 53, Char.ofNat 48, Char.ofNat 53, Char.ofNat 48, Char.ofNat 55, Char.ofNat 101, Char.ofNat 50, Char.ofNat 51, Char.ofNat 101, Char.ofNat 55, Char.ofNat 102, Char.ofNat 52, Char.ofNat 53, Char.ofNat 32, Char.ofNat 99, Char.ofNat 117, Char.ofNat 116, Char.ofNat 32, Char.ofNat 97, Char.ofNat 116, Char.ofNat 32, Char.ofNat 109, Char.ofNat 111, Char.ofNat 111, Char.ofNat 116, Char.ofNat 98, Char.ofNat 101, Char.ofNat 108, Char.ofNat 108, Char.ofNat 47, Char.ofNat 109, Char.ofNat 111, Char.ofNat 111, Char.ofNat 116, Char.ofNat 108, Char.ofNat 97, Char.ofNat 119, Char.ofNat 50, Char.ofNat 46, Char.ofNat 65, Char.ofNat 103, Char.ofNat 114, Char.ofNat 101, Char.ofNat 101, Char.ofNat 80, Char.ofNat 108, Char.ofNat 97, Char.ofNat 121, Char.ofNat 115, Char.ofNat 32, Char.ofNat 109, Char.ofNat 111, Char.ofNat 111, Char.ofNat 116, Char.ofNat 98, Char.ofNat 101, Char.ofNat 108, Char.ofNat 108, Char.ofNat 47, Char.ofNat 109, Char.ofNat 111, Char.ofNat 111, Char.ofNat 116, Char.ofNat 108, Char.ofNat 97, Char.ofNat 119, Char.ofNat 51, Char.ofNat 46, Char.ofNat 80, Char.ofNat 105, Char.ofNat 99, Char.ofNat 116, Char.ofNat 117, Char.ofNat 114, Char.ofNat 101, Char.ofNat 80, Char.ofNat 108, Char.ofNat 97, Char.ofNat 121, Char.ofNat 115, Char.ofNat 32, Char.ofNat 109, Char.ofNat 111, Char.ofNat 111, Char.ofNat 116, Char.ofNat 98, Char.ofNat 101, Char.ofNat 108, Char.ofNat 108, Char.ofNat 47, Char.ofNat 109, Char.ofNat 111, Char.ofNat 111, Char.ofNat 116, Char.ofNat 108, Char.ofNat 97, Char.ofNat 119, Char.ofNat 51, Char.ofNat 46, Char.ofNat 70, Char.ofNat 108, Char.ofNat 117, Char.ofNat 115, Char.ofNat 104, Char.ofNat 80, Char.ofNat 108, Char.ofNat 97, Char.ofNat 121, Char.ofNat 115, Char.ofNat 32, Char.ofNat 109, Char.ofNat 111, Char.ofNat 111, Char.ofNat 116, Char.ofNat 98, Char.ofNat 101, Char.ofNat 108, Char.ofNat 108, Char.ofNat 47, Char.ofNat 109, Char.ofNat 111, Char.ofNat 111, Char.ofNat 116, Char.ofNat 108, Char.ofNat 97, Char.ofNat 119, Char.ofNat 49, Char.ofNat 46, Char.ofNat 67, Char.ofNat 108, Char.ofNat 111, Char.ofNat 99, Char.ofNat 107, Char.ofNat 84, Char.ofNat 101, Char.ofNat 108, Char.ofNat 108, Char.ofNat 115, Char.ofNat 32, Char.ofNat 109, Char.ofNat 111, Char.ofNat 111, Char.ofNat 116, Char.ofNat 98, Char.ofNat 101, Char.ofNat 108, Char.ofNat 108, Char.ofNat 47, Char.ofNat 109, Char.ofNat 111, Char.ofNat 111, Char.ofNat 116, Char.ofNat 108, Char.ofNat 97, Char.ofNat 119, Char.ofNat 52, Char.ofNat 46, Char.ofNat 76, Char.ofNat 111, Char.ofNat 103, Char.ofNat 82, Char.ofNat 101, Char.ofNat 102, Char.ofNat 117, Char.ofNat 115, Char.ofNat 101, Char.ofNat 115, Char.ofNat 32, Char.ofNat 109, Char.ofNat 111, Char.ofNat 111, Char.ofNat 116, Char.ofNat 98, Char.ofNat 101, Char.ofNat 108, Char.ofNat 108, Char.ofNat 47, Char.ofNat 109, Char.ofNat 111, Char.ofNat 111, Char.ofNat 116, Char.ofNat 108, Char.ofNat 97, Char.ofNat 119, Char.ofNat 51, Char.ofNat 46, Char.ofNat 76, Char.ofNat 111, Char.ofNat 103, Char.ofNat 83, Char.ofNat 116, Char.ofNat 111, Char.ofNat 112, Char.ofNat 115, Char.ofNat 32, Char.ofNat 109, Char.ofNat 111, Char.ofNat 111, Char.ofNat 116, Char.ofNat 98, Char.ofNat 101, Char.ofNat 108, Char.ofNat 108, Char.ofNat 47, Char.ofNat 109, Char.ofNat 111, Char.ofNat 111, Char.ofNat 116, Char.ofNat 108, Char.ofNat 97, Char.ofNat 119, Char.ofNat 51, Char.ofNat 46, Char.ofNat 76, Char.ofNat 111, Char.ofNat 103, Char.ofNat 75, Char.ofNat 101, Char.ofNat 101, Char.ofNat 112, Char.ofNat 115] := by kernel_rfl
set_option maxRecDepth 100000 in
theorem init_chars : Tryd.prog.initOrder.toList = [Char.ofNat 104, Char.ofNat 97, Char.ofNat 114, Char.ofNat 110, Char.ofNat 101, Char.ofNat 115, Char.ofNat 115, Char.ofNat 32, Char.ofNat 100, Char.ofNat 98, Char.ofNat 98, Char.ofNat 48, Char.ofNat 98, Char.ofNat 54, Char.ofNat 102, Char.ofNat 54, Char.ofNat 48, Char.ofNat 53, Char.ofNat 97, Char.ofNat 51, Char.ofNat 49, Char.ofNat 57, Char.ofNat 102, Char.ofNat 48, Char.ofNat 56, Char.ofNat 97, Char.ofNat 50, Char.ofNat 53, Char.ofNat 57, Char.ofNat 52, Char.ofNat 101, Char.ofNat 52, Char.ofNat 57, Char.ofNat 99, Char.ofNat 53, Char.ofNat 55, Char.ofNat 56, Char.ofNat 102, Char.ofNat 50, Char.ofNat 98, Char.ofNat 99, Char.ofNat 56, Char.ofNat 57, Char.ofNat 49, Char.ofNat 53, Char.ofNat 57, Char.ofNat 56, Char.ofNat 55, Char.ofNat 101, Char.ofNat 51, Char.ofNat 51, Char.ofNat 102, Char.ofNat 98, Char.ofNat 97, Char.ofNat 56, Char.ofNat 52, Char.ofNat 49, Char.ofNat 55, Char.ofNat 52, Char.ofNat 53, Char.ofNat 48, Char.ofNat 53, Char.ofNat 48, Char.ofNat 55, Char.ofNat 101, Char.ofNat 50, Char.ofNat 51, Char.ofNat 101, Char.ofNat 55, Char.ofNat 102, Char.ofNat 52, Char.ofNat 53, Char.ofNat 32, Char.ofNat 99, Char.ofNat 117, Char.ofNat 116, Char.ofNat 32, Char.ofNat 97, Char.ofNat 116, Char.ofNat 32, Char.ofNat 109, Char.ofNat 111, Char.ofNat 111, Char.ofNat 116, Char.ofNat 98, Char.ofNat 101, Char.ofNat 108, Char.ofNat 108, Char.ofNat 47, Char.ofNat 109, Char.ofNat 111, Char.ofNat 111, Char.ofNat 116, Char.ofNat 108, Char.ofNat 97, Char.ofNat 119, Char.ofNat 50, Char.ofNat 46, Char.ofNat 65, Char.ofNat 103, Char.ofNat 114, Char.ofNat 101, Char.ofNat 101, Char.ofNat 80, Char.ofNat 108, Char.ofNat 97, Char.ofNat 121, Char.ofNat 115, Char.ofNat 32, Char.ofNat 109, Char.ofNat 111, Char.ofNat 111, Char.ofNat 116, Char.ofNat 98, Char.ofNat 101, Char.ofNat 108, Char.ofNat 108, Char.ofNat 47, Char.ofNat 109, Char.ofNat 111, Char.ofNat 111, Char.ofNat 116, Char.ofNat 108, Char.ofNat 97, Char.ofNat 119, Char.ofNat 51, Char.ofNat 46, Char.ofNat 80, Char.ofNat 105, Char.ofNat 99, Char.ofNat 116, Char.ofNat 117, Char.ofNat 114, Char.ofNat 101, Char.ofNat 80, Char.ofNat 108, Char.ofNat 97, Char.ofNat 121, Char.ofNat 115, Char.ofNat 32, Char.ofNat 109, Char.ofNat 111, Char.ofNat 111, Char.ofNat 116, Char.ofNat 98, Char.ofNat 101, Char.ofNat 108, Char.ofNat 108, Char.ofNat 47, Char.ofNat 109, Char.ofNat 111, Char.ofNat 111, Char.ofNat 116, Char.ofNat 108, Char.ofNat 97, Char.ofNat 119, Char.ofNat 51, Char.ofNat 46, Char.ofNat 70, Char.ofNat 108, Char.ofNat 117, Char.ofNat 115, Char.ofNat 104, Char.ofNat 80, Char.ofNat 108, Char.ofNat 97, Char.ofNat 121, Char.ofNat 115, Char.ofNat 32, Char.ofNat 109, Char.ofNat 111, Char.ofNat 111, Char.ofNat 116, Char.ofNat 98, Char.ofNat 101, Char.ofNat 108, Char.ofNat 108, Char.ofNat 47, Char.ofNat 109, Char.ofNat 111, Char.ofNat 111, Char.ofNat 116, Char.ofNat 108, Char.ofNat 97, Char.ofNat 119, Char.ofNat 49, Char.ofNat 46, Char.ofNat 67, Char.ofNat 108, Char.ofNat 111, Char.ofNat 99, Char.ofNat 107, Char.ofNat 84, Char.ofNat 101, Char.ofNat 108, Char.ofNat 108, Char.ofNat 115, Char.ofNat 32, Char.ofNat 109, Char.ofNat 111, Char.ofNat 111, Char.ofNat 116, Char.ofNat 98, Char.ofNat 101, Char.ofNat 108, Char.ofNat 108, Char.ofNat 47, Char.ofNat 109, Char.ofNat 111, Char.ofNat 111, Char.ofNat 116, Char.ofNat 108, Char.ofNat 97, Char.ofNat 119, Char.ofNat 52, Char.ofNat 46, Char.ofNat 76, Char.ofNat 111, Char.ofNat 103, Char.ofNat 82, Char.ofNat 101, Char.ofNat 102, Char.ofNat 117, Char.ofNat 115, Char.ofNat 101, Char.ofNat 115, Char.ofNat 32, Char.ofNat 109, Char.ofNat 111, Char.ofNat 111, Char.ofNat 116, Char.ofNat 98, Char.ofNat 101, Char.ofNat 108, Char.ofNat 108, Char.ofNat 47, Char.ofNat 109, Char.ofNat 111, Char.ofNat 111, Char.ofNat 116, Char.ofNat 108, Char.ofNat 97, Char.ofNat 119, Char.ofNat 51, Char.ofNat 46, Char.ofNat 76, Char.ofNat 111, Char.ofNat 103, Char.ofNat 83, Char.ofNat 116, Char.ofNat 111, Char.ofNat 112, Char.ofNat 115, Char.ofNat 32, Char.ofNat 109, Char.ofNat 111, Char.ofNat 111, Char.ofNat 116, Char.ofNat 98, Char.ofNat 101, Char.ofNat 108, Char.ofNat 108, Char.ofNat 47, Char.ofNat 109, Char.ofNat 111, Char.ofNat 111, Char.ofNat 116, Char.ofNat 108, Char.ofNat 97, Char.ofNat 119, Char.ofNat 51, Char.ofNat 46, Char.ofNat 76, Char.ofNat 111, Char.ofNat 103, Char.ofNat 75, Char.ofNat 101, Char.ofNat 101, Char.ofNat 112, Char.ofNat 115] := by rw [init_lit, String.toList_ofList]
set_option maxRecDepth 100000 in
theorem init_split : [Char.ofNat 104, Char.ofNat 97, Char.ofNat 114, Char.ofNat 110, Char.ofNat 101, Char.ofNat 115, Char.ofNat 115, Char.ofNat 32, Char.ofNat 100, Char.ofNat 98, Char.ofNat 98, Char.ofNat 48, Char.ofNat 98, Char.ofNat 54, Char.ofNat 102, Char.ofNat 54, Char.ofNat 48, Char.ofNat 53, Char.ofNat 97, Char.ofNat 51, Char.ofNat 49, Char.ofNat 57, Char.ofNat 102, Char.ofNat 48, Char.ofNat 56, Char.ofNat 97, Char.ofNat 50, Char.ofNat 53, Char.ofNat 57, Char.ofNat 52, Char.ofNat 101, Char.ofNat 52, Char.ofNat 57, Char.ofNat 99, Char.ofNat 53, Char.ofNat 55, Char.ofNat 56, Char.ofNat 102, Char.ofNat 50, Char.ofNat 98, Char.ofNat 99, Char.ofNat 56, Char.ofNat 57, Char.ofNat 49, Char.ofNat 53, Char.ofNat 57, Char.ofNat 56, Char.ofNat 55, Char.ofNat 101, Char.ofNat 51, Char.ofNat 51, Char.ofNat 102, Char.ofNat 98, Char.ofNat 97, Char.ofNat 56, Char.ofNat 52, Char.ofNat 49, Char.ofNat 55, Char.ofNat 52, Char.ofNat 53, Char.ofNat 48, Char.ofNat 53, Char.ofNat 48, Char.ofNat 55, Char.ofNat 101, Char.ofNat 50, Char.ofNat 51, Char.ofNat 101, Char.ofNat 55, Char.ofNat 102, Char.ofNat 52, Char.ofNat 53, Char.ofNat 32, Char.ofNat 99, Char.ofNat 117, Char.ofNat 116, Char.ofNat 32, Char.ofNat 97, Char.ofNat 116, Char.ofNat 32, Char.ofNat 109, Char.ofNat 111, Char.ofNat 111, Char.ofNat 116, Char.ofNat 98, Char.ofNat 101, Char.ofNat 108, Char.ofNat 108, Char.ofNat 47, Char.ofNat 109, Char.ofNat 111, Char.ofNat 111, Char.ofNat 116, Char.ofNat 108, Char.ofNat 97, Char.ofNat 119, Char.ofNat 50, Char.ofNat 46, Char.ofNat 65, Char.ofNat 103, Char.ofNat 114, Char.ofNat 101, Char.ofNat 101, Char.ofNat 80, Char.ofNat 108, Char.ofNat 97, Char.ofNat 121, Char.ofNat 115, Char.ofNat 32, Char.ofNat 109, Char.ofNat 111, Char.ofNat 111, Char.ofNat 116, Char.ofNat 98, Char.ofNat 101, Char.ofNat 108, Char.ofNat 108, Char.ofNat 47, Char.ofNat 109, Char.ofNat 111, Char.ofNat 111, Char.ofNat 116, Char.ofNat 108, Char.ofNat 97, Char.ofNat 119, Char.ofNat 51, Char.ofNat 46, Char.ofNat 80, Char.ofNat 105, Char.ofNat 99, Char.ofNat 116, Char.ofNat 117, Char.ofNat 114, Char.ofNat 101, Char.ofNat 80, Char.ofNat 108, Char.ofNat 97, Char.ofNat 121, Char.ofNat 115, Char.ofNat 32, Char.ofNat 109, Char.ofNat 111, Char.ofNat 111, Char.ofNat 116, Char.ofNat 98, Char.ofNat 101, Char.ofNat 108, Char.ofNat 108, Char.ofNat 47, Char.ofNat 109, Char.ofNat 111, Char.ofNat 111, Char.ofNat 116, Char.ofNat 108, Char.ofNat 97, Char.ofNat 119, Char.ofNat 51, Char.ofNat 46, Char.ofNat 70, Char.ofNat 108, Char.ofNat 117, Char.ofNat 115, Char.ofNat 104, Char.ofNat 80, Char.ofNat 108, Char.ofNat 97, Char.ofNat 121, Char.ofNat 115, Char.ofNat 32, Char.ofNat 109, Char.ofNat 111, Char.ofNat 111, Char.ofNat 116, Char.ofNat 98, Char.ofNat 101, Char.ofNat 108, Char.ofNat 108, Char.ofNat 47, Char.ofNat 109, Char.ofNat 111, Char.ofNat 111, Char.ofNat 116, Char.ofNat 108, Char.ofNat 97, Char.ofNat 119, Char.ofNat 49, Char.ofNat 46, Char.ofNat 67, Char.ofNat 108, Char.ofNat 111, Char.ofNat 99, Char.ofNat 107, Char.ofNat 84, Char.ofNat 101, Char.ofNat 108, Char.ofNat 108, Char.ofNat 115, Char.ofNat 32, Char.ofNat 109, Char.ofNat 111, Char.ofNat 111, Char.ofNat 116, Char.ofNat 98, Char.ofNat 101, Char.ofNat 108, Char.ofNat 108, Char.ofNat 47, Char.ofNat 109, Char.ofNat 111, Char.ofNat 111, Char.ofNat 116, Char.ofNat 108, Char.ofNat 97, Char.ofNat 119, Char.ofNat 52, Char.ofNat 46, Char.ofNat 76, Char.ofNat 111, Char.ofNat 103, Char.ofNat 82, Char.ofNat 101, Char.ofNat 102, Char.ofNat 117, Char.ofNat 115, Char.ofNat 101, Char.ofNat 115, Char.ofNat 32, Char.ofNat 109, Char.ofNat 111, Char.ofNat 111, Char.ofNat 116, Char.ofNat 98, Char.ofNat 101, Char.ofNat 108, Char.ofNat 108, Char.ofNat 47, Char.ofNat 109, Char.ofNat 111, Char.ofNat 111, Char.ofNat 116, Char.ofNat 108, Char.ofNat 97, Char.ofNat 119, Char.ofNat 51, Char.ofNat 46, Char.ofNat 76, Char.ofNat 111, Char.ofNat 103, Char.ofNat 83, Char.ofNat 116, Char.ofNat 111, Char.ofNat 112, Char.ofNat 115, Char.ofNat 32, Char.ofNat 109, Char.ofNat 111, Char.ofNat 111, Char.ofNat 116, Char.ofNat 98, Char.ofNat 101, Char.ofNat 108, Char.ofNat 108, Char.ofNat 47, Char.ofNat 109, Char.ofNat 111, Char.ofNat 111, Char.ofNat 116, Char.ofNat 108, Char.ofNat 97, Char.ofNat 119, Char.ofNat 51, Char.ofNat 46, Char.ofNat 76, Char.ofNat 111, Char.ofNat 103, Char.ofNat 75, Char.ofNat 101, Char.ofNat 101, Char.ofNat 112, Char.ofNat 115] = hw0 ++ Char.ofNat 32 :: (hw1 ++ Char.ofNat 32 :: (hw2 ++ Char.ofNat 32 :: hrest)) := by kernel_rfl
theorem init_words : wordsSigns Tryd.prog.initOrder.toList = hw0 :: hw1 :: hw2 :: wordsSigns hrest := by
  rw [init_chars.trans init_split]
  rw [words_step hw0 _ (by kernel_rfl)]
  rw [words_step hw1 _ (by kernel_rfl)]
  rw [words_step hw2 _ (by kernel_rfl)]
theorem behind (rs : List (List Char)) : behindMainWord (hw0 :: hw1 :: hw2 :: rs) = hw2 :: rs := by kernel_rfl
theorem strip (rs : List (List Char)) : stripLifts liftWords (hw2 :: rs) = ([], hw2 :: rs) := by kernel_rfl
theorem laysLater : Tryd.prog.laysLater = false := by kernel_rfl
theorem bearsReflect : Tryd.prog.bearsReflect = false := by kernel_rfl
theorem doorFits : Tryd.prog.doorFits [] = true := by kernel_rfl
theorem headLifts : Tryd.prog.headLifts = [] := by
  unfold Program.headLifts; rw [init_words, behind, strip]; generalize wordsSigns hrest = rs; kernel_rfl
theorem mayEnter : Tryd.prog.mayEnter = true := by
  rw [mayEnter_of Tryd.prog _ _ (by rw [init_words, behind]), strip, laysLater, bearsReflect, doorFits]; generalize wordsSigns hrest = rs; kernel_rfl
theorem lifts_eq : Tryd.prog.liftsFinal = false := by
  unfold Program.liftsFinal; rw [init_words, behind, headLifts]; generalize wordsSigns hrest = rs; kernel_rfl
theorem make_eq : (Tryd.prog.make == some .cut) = true := by
  rw [make_of Tryd.prog _ _ (by rw [init_words, behind]), headLifts]; generalize wordsSigns hrest = rs; kernel_rfl
theorem laidOut : laidOutB Tryd.prog = true := by kernel_rfl
theorem mapsRowed : mapsRowed Tryd.prog = true := by kernel_rfl
theorem stops : (Tryd.prog.stops == []) = true := by kernel_rfl
theorem stopKnobs : (Tryd.prog.stopKnobs == []) = true := by kernel_rfl
theorem stopsHeard : Tryd.prog.stopsHeard = true := by kernel_rfl
theorem own : ownKnob Tryd.prog.godebug = none := by kernel_rfl
theorem and_mk {a b : Bool} (ha : a = true) (hb : b = true) : (a && b) = true := by rw [ha, hb]; rfl
end Go.Proofs.YtpgonkecicmanaaDoor.facts
