/- Slices of pieces that are read; rows of pieces, plainly. -/
import Derived.Test.YtddbjcpfgjcmnaaArgs4
import Derived.Test.YtddbjcpfgjcmnaaJoiner
import Derived.Test.YtddbjcpfgjcmnaaWireP
namespace Go.Proofs.Ytddbjcpfgjcmnaa
set_option linter.unusedVariables false
set_option linter.unusedSimpArgs false
open Go.RowKit
def ReadsP (w0 : World) (R : HProp) (v : Value) (l : List Pc) : Prop := ∀ w, Own w0 R w → Pcs w v l
theorem Pcs.later {w0 w : World} {P : HProp} {v : Value} {l : List Pc} (h : Pcs w0 v l) (ho : Own w0 P w) : Pcs w v l := ⟨h.1.later ho, h.2⟩
theorem Pcs.reads {w0 : World} {R : HProp} {v : Value} {l : List Pc} (h : Pcs w0 v l) : ReadsP w0 R v l := fun _ ho => h.later ho
theorem ReadsP.more {w0 : World} {P R : HProp} {v : Value} {l : List Pc} (h : ReadsP w0 R v l) : ReadsP w0 (P * R) v l := fun _ ho => h _ ho.drop
theorem Pcs.shape {w : World} {v : Value} {l : List Pc} (h : Pcs w v l) : ∃ ad cap, v = .slice ad l.length cap ∧ l.length ≤ cap ∧ cap ≤ 9223372036854775807 := by
  obtain ⟨ad, cap, rfl, h1, h2, _⟩ := h.1
  exact ⟨ad, cap, rfl, h1, h2⟩
def pcAt (l : List Pc) (k : Nat) : Pc := l.getD k ⟨0, 0, ⟨#[]⟩⟩
theorem pcAt_get {l : List Pc} {k : Nat} (h : k < l.length) : pcAt l k = l[k] := by unfold pcAt; rw [List.getD_eq_getElem?_getD, List.getElem?_eq_getElem h]; rfl
theorem ReadsP.at {w0 : World} {R : HProp} {ad : Option Addr} {n cap : Nat} {l : List Pc} (h : ReadsP w0 R (.slice ad n cap) l) {w : World} (ho : Own w0 R w) (k : Nat) (hk : k < l.length) :
    ∃ (a : Addr) (eb eo : Nat) (es : Option Nat), ad = some a ∧ a.add (k * 3) = ⟨eb, eo, es⟩ ∧ (∀ w, Own w0 R w → w.cell? ⟨eb, eo, es⟩ = some (.int .i64 (pcAt l k).at') ∧ w.cell? ⟨eb, eo + 1, none⟩ = some (.int .i64 (pcAt l k).of) ∧ w.cell? ⟨eb, eo + 2, none⟩ = some (.string (pcAt l k).text)) ∧ goodPc (pcAt l k) := by
  rw [pcAt_get hk]
  have key : ∀ w, Own w0 R w → ∃ a : Addr, ad = some a ∧ w.cell? (a.add (k * 3)) = some (.int .i64 l[k].at') ∧ w.cell? (a.add (k * 3 + 1)) = some (.int .i64 l[k].of) ∧ w.cell? (a.add (k * 3 + 2)) = some (.string l[k].text) := by
    intro w ho
    obtain ⟨ad', cap', e, h1, h2, _, hc⟩ := (h w ho).1
    cases e
    obtain ⟨a, ha, c0⟩ := hc (k * 3) _ (pc_get l k 0 hk (by omega))
    obtain ⟨a', ha', c1⟩ := hc (k * 3 + 1) _ (pc_get l k 1 hk (by omega))
    obtain ⟨a'', ha'', c2⟩ := hc (k * 3 + 2) _ (pc_get l k 2 hk (by omega))
    rw [ha] at ha' ha''; cases ha'; cases ha''
    exact ⟨a, ha, c0, c1, c2⟩
  have hadd : ∀ (a : Addr) j, 0 < j → a.add (k * 3 + j) = ⟨(a.add (k * 3)).block, (a.add (k * 3)).off + j, none⟩ := by
    intro a j hj
    unfold Addr.add
    rw [if_neg (by omega)]
    split
    · rename_i h0; simp [h0]
    · simp [Nat.add_assoc]
  obtain ⟨a, ha, _⟩ := key w ho
  refine ⟨a, (a.add (k * 3)).block, (a.add (k * 3)).off, (a.add (k * 3)).spot, ha, rfl, fun w ho => ?_, (h w ho).2 _ (List.getElem_mem hk)⟩
  obtain ⟨a', ha', c0, c1, c2⟩ := key w ho
  rw [ha] at ha'; cases ha'
  rw [hadd a 1 (by omega)] at c1
  rw [hadd a 2 (by omega)] at c2
  exact ⟨c0, c1, c2⟩
/-! ### Rows of bytes -/
def pcHd (p : Pc) : ByteArray := ⟨#[byt p.at', byt p.of, byt p.text.size]⟩
def rowTo (l : List Pc) : ByteArray := l.foldl (fun s p => s ++ (pcHd p ++ p.text)) ⟨#[]⟩
def rowOk (l : List Pc) : Bool := l.all pcRight
def rowErr (l : List Pc) : Nat := if 60 < l.length then 4 else if rowOk l = false then 1 else 0
def rowS (l : List Pc) : ByteArray := if rowErr l = 0 then rowTo l else ⟨#[]⟩
theorem rowTo_next {l : List Pc} {k : Nat} (h : k < l.length) : rowTo (l.take (k + 1)) = rowTo (l.take k) ++ (pcHd l[k] ++ l[k].text) := by
  unfold rowTo
  rw [List.take_succ_eq_append_getElem h, List.foldl_append]; rfl
theorem rowOk_next {l : List Pc} {k : Nat} (h : k < l.length) : rowOk (l.take (k + 1)) = (rowOk (l.take k) && pcRight l[k]) := by
  unfold rowOk
  rw [List.take_succ_eq_append_getElem h, List.all_append]; simp
theorem rowOk_bad {l : List Pc} {k : Nat} (h : k < l.length) (hb : pcRight l[k] = false) : rowOk l = false := by
  unfold rowOk
  rw [List.all_eq_false]
  exact ⟨l[k], List.getElem_mem h, by rw [hb]; simp⟩
theorem rowTo_size (l : List Pc) : rowOk l = true → (rowTo l).size ≤ 15 * l.length := by
  have go : ∀ k, k ≤ l.length → rowOk (l.take k) = true → (rowTo (l.take k)).size ≤ 15 * k := by
    intro k
    induction k with
    | zero => intro _ _; show (0 : Nat) ≤ _; omega
    | succ k ih =>
      intro hk ho
      rw [rowOk_next (by omega), Bool.and_eq_true] at ho
      have h1 := ih (by omega) ho.1
      rw [rowTo_next (by omega), ByteArray.size_append, ByteArray.size_append]
      have h2 : (pcHd (l[k]'(by omega))).size = 3 := rfl
      have h3 : (l[k]'(by omega)).text.size ≤ 12 := by
        have := ho.2
        unfold pcRight at this
        simp at this
        omega
      omega
  intro h
  have := go l.length (Nat.le_refl _) (by rw [List.take_length]; exact h)
  rw [List.take_length] at this
  exact this
theorem pcRight_bd {p : Pc} (h : pcRight p = true) : (1 ≤ p.of ∧ p.of ≤ 60) ∧ (0 ≤ p.at' ∧ p.at' < p.of) ∧ p.text.size ≤ 12 := by
  unfold pcRight at h
  simp at h
  omega
end Go.Proofs.Ytddbjcpfgjcmnaa
