/- Plain law of FacesTwo. -/
import Derived.Test.YtkgnjkokbiefgaaFaces5
namespace Go.Proofs.Ytkgnjkokbiefgaa
set_option linter.unusedVariables false
set_option linter.unusedSimpArgs false
open Go.RowKit
def twoH (a b : Int) (alike : Bool) : List Ev := [(0, 2, a), (1, 2, b), (2, 3, a), (2, 3, b)] ++ (if alike then [(3, 3, a), (3, 3, b)] else [(3, 3, b), (3, 3, a)])
def twoOk (a b : Int) (alike : Bool) : Bool := decide (a = b) || (decide ((histR (twoH a b alike)).2 = 0) && (facesF (twoH a b alike) && (facesC (twoH a b alike) && ((facesT (twoH a b alike) == alike) && (heardL (twoH a b alike) 2 == [a, b])))))
theorem two_all : ((List.range 30).all fun a => (List.range 30).all fun b => twoOk (a + 1 : Nat) (b + 1 : Nat) true && twoOk (a + 1 : Nat) (b + 1 : Nat) false) = true := by decide +kernel
theorem two_ok {a b : Int} (ha1 : 1 ≤ a) (ha2 : a ≤ 30) (hb1 : 1 ≤ b) (hb2 : b ≤ 30) (hab : a ≠ b) (alike : Bool) :
    (histR (twoH a b alike)).2 = 0 ∧ facesF (twoH a b alike) = true ∧ facesC (twoH a b alike) = true ∧ facesT (twoH a b alike) = alike ∧ heardL (twoH a b alike) 2 = [a, b] := by
  have h := two_all
  rw [List.all_eq_true] at h
  have h1 := h (a.toNat - 1) (List.mem_range.2 (by omega))
  rw [List.all_eq_true] at h1
  have h2 := h1 (b.toNat - 1) (List.mem_range.2 (by omega))
  rw [show ((a.toNat - 1 + 1 : Nat) : Int) = a by omega, show ((b.toNat - 1 + 1 : Nat) : Int) = b by omega, Bool.and_eq_true] at h2
  have h3 : twoOk a b alike = true := by cases alike; exact h2.2; exact h2.1
  unfold twoOk at h3
  simp only [Bool.or_eq_true, Bool.and_eq_true, decide_eq_true_eq, beq_iff_eq] at h3
  rcases h3 with h3 | h3
  · exact absurd h3 hab
  · exact h3
end Go.Proofs.Ytkgnjkokbiefgaa
