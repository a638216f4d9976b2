/- Plain law of ViewOne: two majorities of one view meet; a Next of a view chains with it. -/
import Derived.Test.YtdeeephdojflpaaDoorView6
namespace Go.Proofs.YtdeeephdojflpaaDoor
set_option linter.unusedVariables false
set_option linter.unusedSimpArgs false
open Go.RowKit
theorem filt_apart (B C : List Int) (hd : ∀ x, x ∈ B → x ∉ C) : ∀ l : List Int, (keepB B l).length + (keepB C l).length ≤ l.length
  | [] => by simp [keepB]
  | x :: r => by
    have ih := filt_apart B C hd r
    unfold keepB at *
    by_cases h1 : x ∈ B
    · have h2 : x ∉ C := hd x h1
      simp [List.filter_cons, h1, h2]; omega
    · by_cases h2 : x ∈ C
      · simp [List.filter_cons, h1, h2]; omega
      · simp [List.filter_cons, h1, h2]; omega
theorem keepB_meet {A B C : List Int} (h1 : mostB A B = true) (h2 : mostB A C = true) : keepB C B ≠ [] := by
  intro h0
  have hd : ∀ x, x ∈ B → x ∉ C := by
    intro x hx hc
    have : x ∈ keepB C B := by unfold keepB; simp [hx, hc]
    rw [h0] at this; cases this
  have := filt_apart B C hd A
  unfold mostB at h1 h2
  simp only [decide_eq_true_eq] at h1 h2
  omega
theorem keepB_most {A B : List Int} (h1 : mostB A B = true) : keepB B A ≠ [] := by
  intro h0
  unfold mostB at h1
  simp only [h0, List.length_nil, decide_eq_true_eq] at h1
  omega
theorem nextErr0 {n : Int} {A B : List Int} (h : nextErr n A B = 0) : viewErr n A = 0 ∧ viewErr (n + 1) B = 0 ∧ mostB A B = true := by
  unfold nextErr at h
  split at h
  · rename_i h1; exact absurd h h1
  rename_i h1
  split at h
  · cases h
  rename_i h2
  split at h
  · rename_i h3; exact absurd h h3
  rename_i h3
  split at h
  · cases h
  rename_i h4
  have he : viewErr n A = 0 := by simpa using h1
  have hn := (viewErr0 he).1
  refine ⟨he, ?_, by simpa using h4⟩
  unfold viewErr
  rw [if_neg]
  · simpa using h3
  · simp [isCount]; omega
theorem chain_two {n : Int} {va vb : Value} {A B : List Int} (h : nextErr n A B = 0) : chainR [(n, va, A), (n + 1, vb, B)] = (0, 0) := by
  obtain ⟨h1, h2, h3⟩ := nextErr0 h
  unfold chainR
  rw [if_neg (by simp), chainGo_none, if_neg (by simpa using h1), chainGo_some, if_neg (by simpa using h2), if_neg (by simp), if_neg (by simp [h3])]
  rfl
theorem Own.lits {w0 w : World} {b : Nat} {R : HProp} (l : List Int) (k : Nat) (hk : l.length = k) (hm : k ≤ 1000) (h : Own w0 (blk b (.cells (l.map (Value.int .i64)).toArray 3 (0, 0)) * R) w) : Own w0 (IntSl (.slice (some ⟨b, 0, none⟩) k k) l * R) w := by
  unfold IntSl
  rw [hk]
  exact Own.sl_mk (Nat.le_refl _) (by unfold maxLen; omega) (by simp [hk]) (by simp [hk]) (fun i hi => by simp) h
theorem Own.two_views {w0 w : World} {b : Nat} {n m : Int} {va vb : Value} {A B : List Int} {R : HProp} (h : Own w0 R w) (hA : Reads w0 R va A) (hB : Reads w0 R vb B) :
    ReadsV w0 (blk b (.cells #[.int .i64 n, va, .int .i64 m, vb] 68 (0, 0)) * R) (.slice (some ⟨b, 0, none⟩) 2 2) [(n, va, A), (m, vb, B)] := by
  refine ⟨fun w ho => ?_, ?_⟩
  · have hh := ho.blk_at.1
    refine Rd_one (cs := [.int .i64 n, va, .int .i64 m, vb]) (fun i u hu => ?_) (by decide) (by unfold maxLen; decide)
    rw [cell_of_heap hh]
    simpa using hu
  · intro x hx
    simp only [List.mem_cons, List.not_mem_nil, or_false] at hx
    rcases hx with rfl | rfl
    · exact hA.more
    · exact hB.more
end Go.Proofs.YtdeeephdojflpaaDoor
