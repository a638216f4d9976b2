/- Contracts of package vector, the second part; the comparison of lists. -/
import Derived.Test.YtddbjcpfgjcmnaaVec
namespace Go.Proofs.Ytddbjcpfgjcmnaa
set_option linter.unusedVariables false
set_option linter.unusedSimpArgs false
open Go.RowKit
def joinOf (a b : List Int) : List Int := if bothErr a b = 0 then zipMax a b else []
/-- One number of a list is another. -/
def stepErr (v : List Int) (who : Int) : Nat := if vecErr v ≠ 0 then vecErr v else if isMember who = false then 1 else if v.getD who.toNat 0 = 1000000 then 4 else 0
def stepOf (v : List Int) (who : Int) : List Int := if stepErr v who = 0 then v.set who.toNat (v.getD who.toNat 0 + 1) else []
/-- A list that was written out. -/
theorem Ints_lit {w : World} {b n : Nat} {t : TypeId} {cs : Array Value} {l : List Int} (hb : b = w.heap.size) (hcs : cs.toList = l.map (Value.int .i64)) (hn : n = l.length) (hI : ∀ x ∈ l, I64 x) (hm : l.length ≤ 100000) :
    Ints (w.alloc (.cells cs t)) (.slice (some ⟨b, 0, none⟩) n n) l := by
  subst hb; subst hn
  refine ⟨?_, hI⟩
  have := Rd_alloc (w := w) (t := t) (cs := cs) (n := l.length) (by unfold maxLen; omega)
  rw [hcs] at this; exact this
theorem bothErr_swap {a b : List Int} (h : bothErr a b = 0) : bothErr b a = 0 := by
  have := bothErr0 h; simp [bothErr, this.1, this.2]
theorem bothErr_self {a b : List Int} (h : bothErr a b = 0) : bothErr a a = 0 := by
  have := bothErr0 h; simp [bothErr, this.1]
theorem leq_refl : ∀ a : List Int, leq a a = true
  | [] => rfl
  | x :: r => by simp [leq, leq_refl r]
theorem leq_antisymm {a b : List Int} (hl : a.length = b.length) (h1 : leq a b = true) (h2 : leq b a = true) : a = b :=
  List.ext_getElem hl fun i h h' => Int.le_antisymm ((leq_iff a b hl).1 h1 i h h') ((leq_iff b a hl.symm).1 h2 i h' h)
theorem Below_drewN {B : Nat} {a w : World} (h : Below B a w) (n : Nat) : Below B a (w.drewN n) := ⟨h.os, h.tape, h.output, h.size, h.block⟩
theorem Own.drewN {w0 w : World} {P : HProp} (h : Own w0 P w) (n : Nat) : Own w0 P (w.drewN n) := h.same rfl rfl rfl rfl
theorem Own.int_shape {w0 w : World} {v : Value} {l : List Int} {R : HProp} (h : Own w0 (IntSl v l * R) w) : ∃ ad cap, v = .slice ad l.length cap := by
  obtain ⟨ad, cap, h1, _⟩ := Own.rd h
  exact ⟨ad, cap, h1⟩
end Go.Proofs.Ytddbjcpfgjcmnaa
