/- Closed facts on the program as a whole, each asked once for all statements of the seat. -/
import Derived.Test.YtddbjcpfgjcmnaaRows
import Derived.ProofKit
import Derived.KernelRfl
namespace Go.Proofs.Ytddbjcpfgjcmnaa.facts
set_option linter.unusedVariables false
set_option linter.unusedSimpArgs false
open Go.ChangeShapes Go.WideShapes Go.ChangeAt
theorem words_step (w r : List Char) (h : w.all (fun c => c != Char.ofNat 32) = true) : wordsSigns (w ++ Char.ofNat 32 :: r) = w :: wordsSigns r := by
  induction w with
  | nil => rfl
  | cons c w ih =>
    simp only [List.all_cons, Bool.and_eq_true, bne_iff_ne, ne_eq] at h
    rw [List.cons_append]
    have e : wordsSigns (c :: (w ++ Char.ofNat 32 :: r)) = match wordsSigns (w ++ Char.ofNat 32 :: r) with | x :: xs => (c :: x) :: xs | [] => [[c]] := by
      conv => lhs; unfold wordsSigns
      split
      · rename_i h1; cases h1
      · rename_i h1; injection h1 with h2 _; exact absurd h2 h.1
      · rename_i h1; injection h1 with h2 h3; subst h2 h3; rfl
    rw [e, ih (by simpa using h.2)]
theorem make_of (P : Program) (c : List Char) (rest : List (List Char)) (h : behindMainWord (wordsSigns P.initOrder.toList) = c :: rest) : P.make =
  if c == "gc".toList || c == "spec".toList then some .whole else if c == "cut".toList || (c == "finals".toList && rest.head? == some "cut".toList) then some .cut else if c == "carried".toList then some .carried else if P.headLifts.isEmpty then none else some (.lifted P.headLifts) := by
  unfold Program.make
  rw [h]
theorem mayEnter_of (P : Program) (c : List Char) (rest : List (List Char)) (h : behindMainWord (wordsSigns P.initOrder.toList) = c :: rest) : P.mayEnter = (
    ((c == "gc".toList || c == "spec".toList) && (rest.isEmpty || rest.head? == some "stop".toList)) ||
    (c == "carried".toList && rest.take 2 == ["gc".toList, "cut".toList] && !P.laysLater && !P.bearsReflect) ||
    ((stripLifts liftWords (c :: rest)).2.head? == some "cut".toList &&
      ((stripLifts liftWords (c :: rest)).1.contains "finals" || !P.laysLater) && ((stripLifts liftWords (c :: rest)).1.contains "reflectrows" || !P.bearsReflect) &&
      ((stripLifts liftWords (c :: rest)).1.contains "reflectrows" || !(stripLifts liftWords (c :: rest)).1.contains "leanrows") &&
      P.doorFits (stripLifts liftWords (c :: rest)).1)) := by
  unfold Program.mayEnter
  rw [h]
def hw0 : List Char := [Char.ofNat 104, Char.ofNat 97, Char.ofNat 114, Char.ofNat 110, Char.ofNat 101, Char.ofNat 115, Char.ofNat 115]
def hw1 : List Char := [Char.ofNat 53, Char.ofNat 53, Char.ofNat 52, Char.ofNat 49, Char.ofNat 98, Char.ofNat 51, Char.ofNat 48, Char.ofNat 53, Char.ofNat 57, Char.ofNat 97, Char.ofNat 57, Char.ofNat 57, Char.ofNat 99, Char.ofNat 54, Char.ofNat 99, Char.ofNat 50, Char.ofNat 98, Char.ofNat 48, Char.ofNat 52, Char.ofNat 49, Char.ofNat 56, Char.ofNat 53, Char.ofNat 98, Char.ofNat 56, Char.ofNat 100, Char.ofNat 52, Char.ofNat 51, Char.ofNat 51, Char.ofNat 48, Char.ofNat 50, Char.ofNat 51, Char.ofNat 51, Char.ofNat 48, Char.ofNat 102, Char.ofNat 50, Char.ofNat 101, Char.ofNat 48, Char.ofNat 97, Char.ofNat 52, Char.ofNat 48, Char.ofNat 98, Char.ofNat 54, Char.ofNat 50, Char.ofNat 99, Char.ofNat 48, Char.ofNat 52, Char.ofNat 102, Char.ofNat 54, Char.ofNat 102, Char.ofNat 54, Char.ofNat 102, Char.ofNat 101, Char.ofNat 97, Char.ofNat 52, Char.ofNat 99, Char.ofNat 98, Char.ofNat 48, Char.ofNat 99, Char.ofNat 98, Char.ofNat 99, Char.ofNat 50, Char.ofNat 57, Char.ofNat 48, Char.ofNat 99]
def hw2 : List Char := [Char.ofNat 99, Char.ofNat 117, Char.ofNat 116]
def hrest : List Char := [Char.ofNat 97, Char.ofNat 116, Char.ofNat 32, Char.ofNat 109, Char.ofNat 111, Char.ofNat 111, Char.ofNat 116, Char.ofNat 98, Char.ofNat 101, Char.ofNat 108, Char.ofNat 108, Char.ofNat 47, Char.ofNat 109, Char.ofNat 111, Char.ofNat 111, Char.ofNat 116, Char.ofNat 108, Char.ofNat 97, Char.ofNat 119, Char.ofNat 52, Char.ofNat 46, Char.ofNat 80, Char.ofNat 105, Char.ofNat 101, Char.ofNat 99, Char.ofNat 101, Char.ofNat 115, Char.ofNat 70, Char.ofNat 101, Char.ofNat 119, Char.ofNat 32, Char.ofNat 109, Char.ofNat 111, Char.ofNat 111, Char.ofNat 116, Char.ofNat 98, Char.ofNat 101, Char.ofNat 108, Char.ofNat 108, Char.ofNat 47, Char.ofNat 109, Char.ofNat 111, Char.ofNat 111, Char.ofNat 116, Char.ofNat 116, Char.ofNat 111, Char.ofNat 112, Char.ofNat 46, Char.ofNat 84, Char.ofNat 111, Char.ofNat 112, Char.ofNat 80, Char.ofNat 105, Char.ofNat 101, Char.ofNat 99, Char.ofNat 101, Char.ofNat 115]
set_option maxRecDepth 100000 in
theorem init_lit : Try.prog.initOrder = String.ofList [Char.ofNat 104, Char.ofNat 97, Char.ofNat 114, Char.ofNat 110, Char.ofNat 101, Char.ofNat 115, Char.ofNat 115, Char.ofNat 32, Char.ofNat 53, Char.ofNat 53, Char.ofNat 52, Char.ofNat 49, Char.ofNat 98, Char.ofNat 51, Char.ofNat 48, Char.ofNat 53, Char.ofNat 57, Char.ofNat 97, Char.ofNat 57, Char.ofNat 57, Char.ofNat 99, Char.ofNat 54, Char.ofNat 99, Char.ofNat 50, Char.ofNat 98, Char.ofNat 48, Char.ofNat 52, Char.ofNat 49, Char.ofNat 56, Char.ofNat 53, Char.ofNat 98, Char.ofNat 56, Char.ofNat 100, Char.ofNat 52, Char.ofNat 51, Char.ofNat 51, Char.ofNat 48, Char.ofNat 50, Char.ofNat 51, Char.ofNat 51, Char.ofNat 48, Char.ofNat 102, Char.ofNat 50, Char.ofNat 101, Char.ofNat 48, Char.ofNat 97, Char.ofNat 52, Char.ofNat 48, Char.ofNat 98, Char.ofNat 54, Char.ofNat 50, Char.ofNat 99, Char.ofNat 48, Char.ofNat 52, Char.ofNat 102, Char.ofNat 54, Char.ofNat 102, Char.ofNat 54, Char.ofNat 102, Char.ofNat 101, Char.ofNat 97, Char.ofNat 52, Char.ofNat 99, Char.ofNat 98, Char.ofNat 48, Char.ofNat 99, Char.ofNat 98, Char.ofNat 99, Char.ofNat 50, Char.ofNat 57, Char.ofNat 48, Char.ofNat 99, Char.ofNat 32, Char.ofNat 99, Char.ofNat 117, Char.ofNat 116, Char.ofNat 32, Char.ofNat 97, Char.ofNat 116, Char.ofNat 32, Char.ofNat 109, Char.ofNat 111, Char.ofNat 111, Char.ofNat 116, Char.ofNat 98, Char.ofNat 101, Char.ofNat 108, Char.ofNat 108, Char.ofNat 47, Char.ofNat 109, Char.ofNat 111, Char.ofNat 111, Char.ofNat 116, Char.ofNat 108, Char.ofNat 97, Char.ofNat 119, Char.ofNat 52, Char.ofNat 46, Char.ofNat 80, Char.ofNat 105, Char.ofNat 101, Char.ofNat 99, Char.ofNat 101, Char.ofNat 115, Char.ofNat 70, Char.ofNat 101, Char.ofNat 119, Char.ofNat 32, Char.ofNat 109, Char.ofNat 111, Char.ofNat 111, Char.ofNat 116, Char.ofNat 98, Char.ofNat 101, Char.ofNat 108, Char.ofNat 108, Char.ofNat 47, Char.ofNat 109, Char.ofNat 111, Char.ofNat 111, Char.ofNat 116, Char.ofNat 116, Char.ofNat 111, Char.ofNat 112, Char.ofNat 46, Char.ofNat 84, Char.ofNat 111, Char.ofNat 112, Char.ofNat 80, Char.ofNat 105, Char.ofNat 101, Char.ofNat 99, Char.ofNat 101, Char.ofNat 115] := by kernel_rfl
set_option maxRecDepth 100000 in
theorem init_chars : Try.prog.initOrder.toList = [Char.ofNat 104, Char.ofNat 97, Char.ofNat 114, Char.ofNat 110, Char.ofNat 101, Char.ofNat 115, Char.ofNat 115, Char.ofNat 32, Char.ofNat 53, Char.ofNat 53, Char.ofNat 52, Char.ofNat 49, Char.ofNat 98, Char.ofNat 51, Char.ofNat 48, Char.ofNat 53, Char.ofNat 57, Char.ofNat 97, Char.ofNat 57, Char.ofNat 57, Char.ofNat 99, Char.ofNat 54, Char.ofNat 99, Char.ofNat 50, Char.ofNat 98, Char.ofNat 48, Char.ofNat 52, Char.ofNat 49, Char.ofNat 56, Char.ofNat 53, Char.ofNat 98, Char.ofNat 56, Char.ofNat 100, Char.ofNat 52, Char.ofNat 51, Char.ofNat 51, Char.ofNat 48, Char.ofNat 50, Char.ofNat 51, Char.ofNat 51, Char.ofNat 48, Char.ofNat 102, Char.ofNat 50, Char.ofNat 101, Char.ofNat 48, Char.ofNat 97, Char.ofNat 52, Char.ofNat 48, Char.ofNat 98, Char.ofNat 54, Char.ofNat 50, Char.ofNat 99, Char.ofNat 48, Char.ofNat 52, Char.ofNat 102, Char.ofNat 54, Char.ofNat 102, Char.ofNat 54, Char.ofNat 102, Char.ofNat 101, Char.ofNat 97, Char.ofNat 52, Char.ofNat 99, Char.ofNat 98, Char.ofNat 48, Char.ofNat 99, Char.ofNat 98, Char.ofNat 99, Char.ofNat 50, Char.ofNat 57, Char.ofNat 48, Char.ofNat 99, Char.ofNat 32, Char.ofNat 99, Char.ofNat 117, Char.ofNat 116, Char.ofNat 32, Char.ofNat 97, Char.ofNat 116, Char.ofNat 32, Char.ofNat 109, Char.ofNat 111, Char.ofNat 111, Char.ofNat 116, Char.ofNat 98, Char.ofNat 101, Char.ofNat 108, Char.ofNat 108, Char.ofNat 47, Char.ofNat 109, Char.ofNat 111, Char.ofNat 111, Char.ofNat 116, Char.ofNat 108, Char.ofNat 97, Char.ofNat 119, Char.ofNat 52, Char.ofNat 46, Char.ofNat 80, Char.ofNat 105, Char.ofNat 101, Char.ofNat 99, Char.ofNat 101, Char.ofNat 115, Char.ofNat 70, Char.ofNat 101, Char.ofNat 119, Char.ofNat 32, Char.ofNat 109, Char.ofNat 111, Char.ofNat 111, Char.ofNat 116, Char.ofNat 98, Char.ofNat 101, Char.ofNat 108, Char.ofNat 108, Char.ofNat 47, Char.ofNat 109, Char.ofNat 111, Char.ofNat 111, Char.ofNat 116, Char.ofNat 116, Char.ofNat 111, Char.ofNat 112, Char.ofNat 46, Char.ofNat 84, Char.ofNat 111, Char.ofNat 112, Char.ofNat 80, Char.ofNat 105, Char.ofNat 101, Char.ofNat 99, Char.ofNat 101, Char.ofNat 115] := by rw [init_lit, String.toList_ofList]
set_option maxRecDepth 100000 in
theorem init_split : [Char.ofNat 104, Char.ofNat 97, Char.ofNat 114, Char.ofNat 110, Char.ofNat 101, Char.ofNat 115, Char.ofNat 115, Char.ofNat 32, Char.ofNat 53, Char.ofNat 53, Char.ofNat 52, Char.ofNat 49, Char.ofNat 98, Char.ofNat 51, Char.ofNat 48, Char.ofNat 53, Char.ofNat 57, Char.ofNat 97, Char.ofNat 57, Char.ofNat 57, Char.ofNat 99, Char.ofNat 54, Char.ofNat 99, Char.ofNat 50, Char.ofNat 98, Char.ofNat 48, Char.ofNat 52, Char.ofNat 49, Char.ofNat 56, Char.ofNat 53, Char.ofNat 98, Char.ofNat 56, Char.ofNat 100, Char.ofNat 52, Char.ofNat 51, Char.ofNat 51, Char.ofNat 48, Char.ofNat 50, Char.ofNat 51, Char.ofNat 51, Char.ofNat 48, Char.ofNat 102, Char.ofNat 50, Char.ofNat 101, Char.ofNat 48, Char.ofNat 97, Char.ofNat 52, Char.ofNat 48, Char.ofNat 98, Char.ofNat 54, Char.ofNat 50, Char.ofNat 99, Char.ofNat 48, Char.ofNat 52, Char.ofNat 102, Char.ofNat 54, Char.ofNat 102, Char.ofNat 54, Char.ofNat 102, Char.ofNat 101, Char.ofNat 97, Char.ofNat 52, Char.ofNat 99, Char.ofNat 98, Char.ofNat 48, Char.ofNat 99, Char.ofNat 98, Char.ofNat 99, Char.ofNat 50, Char.ofNat 57, Char.ofNat 48, Char.ofNat 99, Char.ofNat 32, Char.ofNat 99, Char.ofNat 117, Char.ofNat 116, Char.ofNat 32, Char.ofNat 97, Char.ofNat 116, Char.ofNat 32, Char.ofNat 109, Char.ofNat 111, Char.ofNat 111, Char.ofNat 116, Char.ofNat 98, Char.ofNat 101, Char.ofNat 108, Char.ofNat 108, Char.ofNat 47, Char.ofNat 109, Char.ofNat 111, Char.ofNat 111, Char.ofNat 116, Char.ofNat 108, Char.ofNat 97, Char.ofNat 119, Char.ofNat 52, Char.ofNat 46, Char.ofNat 80, Char.ofNat 105, Char.ofNat 101, Char.ofNat 99, Char.ofNat 101, Char.ofNat 115, Char.ofNat 70, Char.ofNat 101, Char.ofNat 119, Char.ofNat 32, Char.ofNat 109, Char.ofNat 111, Char.ofNat 111, Char.ofNat 116, Char.ofNat 98, Char.ofNat 101, Char.ofNat 108, Char.ofNat 108, Char.ofNat 47, Char.ofNat 109, Char.ofNat 111, Char.ofNat 111, Char.ofNat 116, Char.ofNat 116, Char.ofNat 111, Char.ofNat 112, Char.ofNat 46, Char.ofNat 84, Char.ofNat 111, Char.ofNat 112, Char.ofNat 80, Char.ofNat 105, Char.ofNat 101, Char.ofNat 99, Char.ofNat 101, Char.ofNat 115] = hw0 ++ Char.ofNat 32 :: (hw1 ++ Char.ofNat 32 :: (hw2 ++ Char.ofNat 32 :: hrest)) := by kernel_rfl
theorem init_words : wordsSigns Try.prog.initOrder.toList = hw0 :: hw1 :: hw2 :: wordsSigns hrest := by
  rw [init_chars.trans init_split]
  rw [words_step hw0 _ (by kernel_rfl)]
  rw [words_step hw1 _ (by kernel_rfl)]
  rw [words_step hw2 _ (by kernel_rfl)]
theorem behind (rs : List (List Char)) : behindMainWord (hw0 :: hw1 :: hw2 :: rs) = hw2 :: rs := by kernel_rfl
theorem strip (rs : List (List Char)) : stripLifts liftWords (hw2 :: rs) = ([], hw2 :: rs) := by kernel_rfl
theorem laysLater : Try.prog.laysLater = false := by kernel_rfl
theorem bearsReflect : Try.prog.bearsReflect = false := by kernel_rfl
theorem doorFits : Try.prog.doorFits [] = true := by kernel_rfl
theorem headLifts : Try.prog.headLifts = [] := by
  unfold Program.headLifts; rw [init_words, behind, strip]; generalize wordsSigns hrest = rs; kernel_rfl
theorem mayEnter : Try.prog.mayEnter = true := by
  rw [mayEnter_of Try.prog _ _ (by rw [init_words, behind]), strip, laysLater, bearsReflect, doorFits]; generalize wordsSigns hrest = rs; kernel_rfl
theorem lifts_eq : Try.prog.liftsFinal = false := by
  unfold Program.liftsFinal; rw [init_words, behind, headLifts]; generalize wordsSigns hrest = rs; kernel_rfl
theorem make_eq : (Try.prog.make == some .cut) = true := by
  rw [make_of Try.prog _ _ (by rw [init_words, behind]), headLifts]; generalize wordsSigns hrest = rs; kernel_rfl
theorem laidOut : laidOutB Try.prog = true := by kernel_rfl
theorem mapsRowed : mapsRowed Try.prog = true := by kernel_rfl
theorem stops : (Try.prog.stops == []) = true := by kernel_rfl
theorem stopKnobs : (Try.prog.stopKnobs == []) = true := by kernel_rfl
theorem stopsHeard : Try.prog.stopsHeard = true := by kernel_rfl
theorem own : ownKnob Try.prog.godebug = none := by kernel_rfl
theorem and_mk {a b : Bool} (ha : a = true) (hb : b = true) : (a && b) = true := by rw [ha, hb]; rfl
end Go.Proofs.Ytddbjcpfgjcmnaa.facts
