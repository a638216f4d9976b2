/- Plain law of ClockAlone: of a member that thinks so often numbers and vectors count. -/
import Derived.Test.YtkgnjkokbiefgaaClockP
namespace Go.Proofs.Ytkgnjkokbiefgaa
set_option linter.unusedVariables false
set_option linter.unusedSimpArgs false
open Go.RowKit
def thinks (q n : Nat) : List Ev := List.replicate n ((q : Int), 1, 0)
theorem thinks_at {q n k : Nat} (hk : k < n) : evAt (thinks q n) k = ((q : Int), 1, 0) := by
  unfold evAt thinks
  simp [List.getD_eq_getElem?_getD, List.getElem?_replicate, hk]
theorem thinks_right {q n : Nat} (hq : q < 5) (hn : n ≤ 60) : RightH (thinks q n) := by
  refine ⟨by simp [thinks]; exact hn, fun k hk => ?_⟩
  have hkn : k < n := by simpa [thinks] using hk
  rw [← evAt_get hk, thinks_at hkn]
  unfold evErr
  rw [if_neg (by simp [rightB, isMember]; omega), if_neg (by simp), if_neg (by simp), if_neg (by simp)]
theorem thinks_nums {q n : Nat} (hq : q < 5) : ∀ k, k ≤ n → (∀ i, i < k → (numState (thinks q n) k).1[i]? = some ((i : Int) + 1)) ∧ (numState (thinks q n) k).2.getD q 0 = (k : Int)
  | 0, _ => by
    refine ⟨fun i h => by omega, ?_⟩
    match q, hq with
    | 0, _ => rfl
    | 1, _ => rfl
    | 2, _ => rfl
    | 3, _ => rfl
    | 4, _ => rfl
  | k + 1, hk => by
    obtain ⟨h1, h2⟩ := thinks_nums (n := n) hq k (by omega)
    obtain ⟨hl1, hl2⟩ := numState_len (thinks q n) k
    have hx : numNext (thinks q n) k (numState (thinks q n) k) = (k : Int) + 1 := by
      unfold numNext
      rw [thinks_at (q := q) (n := n) (k := k) (by omega)]
      simp only [Int.toNat_natCast]
      rw [if_neg (by simp), h2]
    simp only [numState, hx, thinks_at (show k < n by omega), Int.toNat_natCast]
    refine ⟨fun i hi => ?_, ?_⟩
    · by_cases hik : i < k
      · rw [List.getElem?_append_left (by rw [hl1]; exact hik)]; exact h1 i hik
      · have : i = k := by omega
        subst this
        rw [List.getElem?_append_right (by rw [hl1]; exact Nat.le_refl _), hl1]; simp
    · rw [List.getD_eq_getElem?_getD, List.getElem?_set, if_pos rfl, if_pos (by omega)]
      simp
theorem thinks_vecs {q n : Nat} (hq : q < 5) : ∀ k, k ≤ n → (∀ i, i < k → ∃ v, (vecState (thinks q n) k).1[i]? = some v ∧ v.length = 5 ∧ v.getD q 0 = (i : Int) + 1) ∧
    (k = 0 ∧ (vecState (thinks q n) k).2.getD q [] = [] ∨ ((vecState (thinks q n) k).2.getD q []).length = 5 ∧ ((vecState (thinks q n) k).2.getD q []).getD q 0 = (k : Int))
  | 0, _ => by
    refine ⟨fun i h => by omega, .inl ⟨rfl, ?_⟩⟩
    match q, hq with
    | 0, _ => rfl
    | 1, _ => rfl
    | 2, _ => rfl
    | 3, _ => rfl
    | 4, _ => rfl
  | k + 1, hk => by
    obtain ⟨h1, h2⟩ := thinks_vecs (n := n) hq k (by omega)
    obtain ⟨hl1, hl2⟩ := vecState_len (thinks q n) k
    have h0 : (vec0 (vecState (thinks q n) k) q).length = 5 ∧ (vec0 (vecState (thinks q n) k) q).getD q 0 = (k : Int) := by
      unfold vec0
      rcases h2 with ⟨rfl, h3⟩ | ⟨h3, h4⟩
      · rw [if_pos h3]
        refine ⟨rfl, ?_⟩
        match q, hq with
        | 0, _ => rfl
        | 1, _ => rfl
        | 2, _ => rfl
        | 3, _ => rfl
        | 4, _ => rfl
      · rw [if_neg (by intro h5; rw [h5] at h3; cases h3)]
        exact ⟨h3, h4⟩
    have hv1 : vec1 (thinks q n) k (vecState (thinks q n) k) = vec0 (vecState (thinks q n) k) q := by
      unfold vec1
      rw [thinks_at (q := q) (n := n) (k := k) (by omega)]
      simp only [Int.toNat_natCast]
      rw [if_neg (by simp)]
    obtain ⟨V, hV⟩ : ∃ V, V = vecNext (thinks q n) k (vecState (thinks q n) k) := ⟨_, rfl⟩
    have hVx : V.length = 5 ∧ V.getD q 0 = (k : Int) + 1 := by
      rw [hV]
      unfold vecNext
      rw [hv1, thinks_at (q := q) (n := n) (k := k) (by omega)]
      simp only [Int.toNat_natCast]
      rw [h0.2]
      refine ⟨by rw [List.length_set]; exact h0.1, ?_⟩
      rw [List.getD_eq_getElem?_getD, List.getElem?_set, if_pos rfl, if_pos (by omega)]; rfl
    simp only [vecState, ← hV, thinks_at (show k < n by omega), Int.toNat_natCast]
    refine ⟨fun i hi => ?_, .inr ?_⟩
    · by_cases hik : i < k
      · rw [List.getElem?_append_left (by rw [hl1]; exact hik)]; exact h1 i hik
      · have : i = k := by omega
        subst this
        rw [List.getElem?_append_right (by rw [hl1]; exact Nat.le_refl _), hl1]
        exact ⟨V, by simp, hVx.1, hVx.2⟩
    · rw [show ((vecState (thinks q n) k).2.set q V).getD q [] = V from by rw [List.getD_eq_getElem?_getD, List.getElem?_set, if_pos rfl, if_pos (by omega)]; rfl]
      exact ⟨hVx.1, by rw [hVx.2]; omega⟩
end Go.Proofs.Ytkgnjkokbiefgaa
