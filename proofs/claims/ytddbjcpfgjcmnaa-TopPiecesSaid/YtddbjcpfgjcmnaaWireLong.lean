/- WireLong: a word has eighteen bytes, whatever it knew; without its first byte it is none. -/
import Derived.Test.YtddbjcpfgjcmnaaWire3
import Derived.Test.YtddbjcpfgjcmnaaTold
namespace Go.Proofs.Ytddbjcpfgjcmnaa
set_option linter.unusedVariables false
set_option linter.unusedSimpArgs false
open Go.RowKit
theorem wl_err {who word n : Int} (h : saidErr who word [n, n, 0, n, 1] ≠ 0) : who < 0 ∨ (¬ who < 0 ∧ 4 < who) ∨ (¬ who < 0 ∧ ¬ 4 < who ∧ word < 1) ∨ (¬ who < 0 ∧ ¬ 4 < who ∧ ¬ word < 1 ∧ 30 < word) ∨ (¬ who < 0 ∧ ¬ 4 < who ∧ ¬ word < 1 ∧ ¬ 30 < word ∧ n < 0) ∨ (¬ who < 0 ∧ ¬ 4 < who ∧ ¬ word < 1 ∧ ¬ 30 < word ∧ ¬ n < 0 ∧ 1000000 < n) := by
  apply Classical.byContradiction
  intro hc
  apply h
  have h1 : isMember who = true := by simp [isMember]; omega
  have h2 : isWord word = true := by simp [isWord]; omega
  have h3 : isCount n = true := by simp [isCount]; omega
  unfold saidErr vecErr
  simp [h1, h2, h3, isCount]
  try omega
theorem packS_size {who word : Int} {l : List Int} (h : saidErr who word l = 0) : (packS who word l).size = 18 ∧ (packS who word l).data.toList = packB who word l := by
  obtain ⟨_, _, hv⟩ := saidErr0 h
  have h5 := (vecErr0 hv).1
  unfold packS
  rw [if_pos h]
  refine ⟨?_, by simp⟩
  show ((packB who word l).toArray).size = 18
  rw [List.size_toArray, packB_len h5]
end Go.Proofs.Ytddbjcpfgjcmnaa
