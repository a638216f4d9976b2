/- Plain law of HistoryBefore: a beginning of a right history is a cut that could have been. -/
import Derived.Test.YtddbjcpfgjcmnaaHistP
namespace Go.Proofs.Ytddbjcpfgjcmnaa
set_option linter.unusedVariables false
set_option linter.unusedSimpArgs false
open Go.RowKit
theorem evErr0 {ahead : List Ev} {e : Ev} (h : evErr ahead e = 0) : rightB e = true := by
  unfold evErr at h
  by_cases hr : rightB e = false
  · rw [if_pos hr] at h; cases h
  · simpa using hr
theorem rightB_who {e : Ev} (h : rightB e = true) : 0 ≤ e.1 ∧ e.1 < 5 := by
  unfold rightB at h
  simp only [Bool.and_eq_true, isMember, decide_eq_true_eq] at h
  exact h.1
theorem evAt_get {h : List Ev} {k : Nat} (hk : k < h.length) : evAt h k = h[k] := by
  unfold evAt; rw [List.getD_eq_getElem?_getD, List.getElem?_eq_getElem hk]; rfl
theorem RightH.who {h : List Ev} (hr : RightH h) {k : Nat} (hk : k < h.length) : 0 ≤ (evAt h k).1 ∧ (evAt h k).1 < 5 := by
  rw [evAt_get hk]; exact rightB_who (evErr0 (hr.2 k hk))
/-- What the law counts: how many of the first n events each member has. -/
def counts (h : List Ev) (n : Nat) : List Int := (List.range 5).map fun m : Nat => ((cnt h (m : Int) n : Nat) : Int)
theorem counts_len (h : List Ev) (n : Nat) : (counts h n).length = 5 := by simp [counts]
theorem counts_get (h : List Ev) (n m : Nat) (hm : m < 5) : (counts h n).getD m 0 = (cnt h (m : Int) n : Nat) := by
  unfold counts
  rw [List.getD_eq_getElem?_getD, List.getElem?_map, List.getElem?_range hm]; rfl
theorem counts_zero (h : List Ev) : counts h 0 = [0, 0, 0, 0, 0] := by simp [counts, cnt_zero, List.range_succ]
theorem counts_step (h : List Ev) (hr : RightH h) (n : Nat) (hn : n < h.length) : counts h (n + 1) = (counts h n).set (evAt h n).1.toNat ((cnt h (evAt h n).1 n : Nat) + 1) := by
  have hw := hr.who hn
  apply List.ext_getElem
  · simp [counts]
  intro m h1 h2
  have hm : m < 5 := by simpa [counts] using h1
  rw [List.getElem_set]
  simp only [counts, List.getElem_map, List.getElem_range]
  rw [cnt_succ h m n hn, evAt_get hn]
  rw [evAt_get hn] at hw
  by_cases he : h[n].1 = (m : Int)
  · rw [if_pos he, if_pos (by omega), he]; simp
  · rw [if_neg he, if_neg (by omega)]; simp
theorem taken_counts (h : List Ev) (hr : RightH h) (n k : Nat) (hk : k < h.length) (hn : n < h.length) : takenB h (counts h (n + 1)) k = decide (k ≤ n) := by
  have hw := hr.who hk
  have hm : (evAt h k).1.toNat < 5 := by omega
  unfold takenB
  rw [counts_get h _ _ hm, show (((evAt h k).1.toNat : Nat) : Int) = (evAt h k).1 from by omega, decide_eq_decide]
  constructor
  · intro h1
    refine Nat.le_of_not_lt fun h2 => ?_
    have := cnt_mono h (evAt h k).1 (show n + 1 ≤ k by omega)
    omega
  · intro h1
    have h2 := cnt_mono h (evAt h k).1 (show k + 1 ≤ n + 1 by omega)
    rw [cnt_succ h _ k hk, evAt_get hk, if_pos rfl] at h2
    rw [evAt_get hk]; omega
theorem cut_counts (h : List Ev) (hr : RightH h) (n : Nat) (hn : n < h.length) : cutErr h (counts h (n + 1)) = 0 ∧ cutB h (counts h (n + 1)) = true := by
  constructor
  · unfold cutErr
    rw [if_neg (by simpa using (histR_ok h).2 hr), if_neg (by simp [counts_len]), if_neg]
    intro hh
    obtain ⟨i, hi, hb⟩ := List.any_eq_true.1 hh
    have hi := List.mem_range.1 hi
    unfold cutBadAt at hb
    rw [counts_get h _ _ hi] at hb
    simp only [Bool.or_eq_true, decide_eq_true_eq] at hb
    have := cnt_mono h (i : Int) (show n + 1 ≤ h.length by omega)
    omega
  · unfold cutB
    rw [decide_eq_true_eq]
    intro k hk h1 i hi _
    rw [taken_counts h hr n k hk hn, decide_eq_true_eq] at h1
    rw [taken_counts h hr n i (by omega) hn, decide_eq_true_eq]
    omega
end Go.Proofs.Ytddbjcpfgjcmnaa
