/- TokenRound: once around it is back. -/
import Derived.Test.YteelldblfmhjlaaDoorToken2
namespace Go.Proofs.YteelldblfmhjlaaDoor
set_option linter.unusedVariables false
set_option linter.unusedSimpArgs false
open Go.RowKit
def tokAt (n most i : Nat) : Tok := ⟨most, i % n, List.replicate n [], [], 0⟩
theorem tokAt_row (n most i : Nat) : tokRow (tokAt n most i) = [] := by
  unfold tokRow tokAt
  simp only [List.getD_eq_getElem?_getD, List.getElem?_replicate]
  split <;> rfl
theorem tokAt_pass (n most i : Nat) (hn : 2 ≤ n) : tokPass (tokAt n most i) = tokAt n most (i + 1) := by
  have hr := tokAt_row n most i
  have hN : tokN (tokAt n most i) = 0 := by unfold tokN; rw [hr]; simp
  unfold tokPass
  rw [hN, hr]
  unfold tokAt
  simp [Nat.add_mod]
theorem tokAt_out (n most i : Nat) : passOut (tokAt n most i) = [] := by
  have hN : tokN (tokAt n most i) = 0 := by unfold tokN; rw [tokAt_row]; simp
  unfold passOut
  rw [hN]; rfl
theorem tokAt_fit (n most i : Nat) (h1 : 2 ≤ n) (h2 : n ≤ 5) (h3 : 1 ≤ most) (h4 : most ≤ 10) : tokFit (tokAt n most i) := by
  have h5 : i % n < n := Nat.mod_lt _ (by omega)
  refine ⟨by simp [tokAt]; omega, by simpa [tokAt] using h5, ⟨h3, h4⟩, fun l hl => ?_, by simp [tokAt]⟩
  simp [tokAt] at hl
  rw [hl.2]; simp
theorem tokNew_at (n most : Nat) : tokNew n most = tokAt n most 0 := by simp [tokNew, tokAt]
/-- The holder's cell. -/
theorem Own.tok_holder {w0 w : World} {p : Nat} {t : Tok} {R : HProp} (h : Own w0 (TokP p t * R) w) : w.cell? ⟨p, 1, none⟩ = some (.int .i64 t.holder) := by
  obtain ⟨rb, off, cap, mb, rs, he, ho⟩ := h.tok_open
  exact ho.tok_facts.2.1
def tokLast (n most : Nat) : Tok := ⟨most, 0, (List.replicate n []).set 0 [5], [5], 0⟩
theorem tokLast_is (n most k : Nat) (h0 : k % n = 0) (he : tokErr (tokAt n most k) 0 5 = 0) : tokSay (tokAt n most k) 0 5 = tokLast n most := by
  unfold tokSay
  rw [if_pos he]
  unfold tokAt tokLast
  simp only [h0]
  cases n with
  | zero => simp
  | succ n => simp [List.replicate_succ]
theorem tokLast_row (n most : Nat) (hn : 2 ≤ n) : tokRow (tokLast n most) = [5] := by
  unfold tokRow tokLast
  cases n with
  | zero => omega
  | succ n => simp [List.replicate_succ]
theorem tokLast_out (n most : Nat) (hn : 2 ≤ n) (hm : 1 ≤ most) : (passOut (tokLast n most)).length = 1 := by
  unfold passOut
  rw [List.length_map, List.length_range]
  unfold tokN
  rw [tokLast_row n most hn]
  show min 1 most = 1
  omega
theorem tokLast_fit (n most : Nat) (h1 : 2 ≤ n) (h2 : n ≤ 5) (h3 : 1 ≤ most) (h4 : most ≤ 10) : tokFit (tokLast n most) := by
  refine ⟨by simp [tokLast]; omega, by simp [tokLast]; omega, ⟨h3, h4⟩, fun l hl => ?_, by simp [tokLast]⟩
  have := List.mem_or_eq_of_mem_set hl
  rcases this with h | rfl
  · simp at h; rw [h.2]; simp
  · simp
theorem tok_errV1 : errV 1 = .iface 99 (.int .i64 1) := rfl
theorem tokBad_cases {n most : Int} (h : tokBad n most = true) : n < 2 ∨ (¬ n < 2 ∧ 5 < n) ∨ (¬ n < 2 ∧ ¬ 5 < n ∧ most < 1) ∨ (¬ n < 2 ∧ ¬ 5 < n ∧ ¬ most < 1 ∧ 10 < most) := by
  simp [tokBad, isGroup] at h; omega
end Go.Proofs.YteelldblfmhjlaaDoor
