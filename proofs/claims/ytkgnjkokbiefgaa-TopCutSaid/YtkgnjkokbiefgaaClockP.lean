/- Package clock, plainly: numbers and vectors of a history. -/
import Derived.Test.YtkgnjkokbiefgaaHistoryBeforeP
import Derived.Test.YtkgnjkokbiefgaaStable2
namespace Go.Proofs.Ytkgnjkokbiefgaa
set_option linter.unusedVariables false
set_option linter.unusedSimpArgs false
open Go.RowKit
theorem evAt_take {h : List Ev} {k i : Nat} (hi : i < k) : evAt (h.take k) i = evAt h i := by
  unfold evAt
  simp only [List.getD_eq_getElem?_getD, List.getElem?_take]
  rw [if_pos hi]
/-- Of a word that is heard it is known where it was said. -/
theorem RightH.said {h : List Ev} (hr : RightH h) {k : Nat} (hk : k < h.length) (hw : (evAt h k).2.1 = 3) :
    ∃ i : Nat, i < k ∧ saidAt (h.take k) (evAt h k).2.2 = (i : Int) ∧ (evAt h i).2.1 = 2 ∧ (evAt h i).2.2 = (evAt h k).2.2 ∧ (evAt h i).1 ≠ (evAt h k).1 ∧ (∀ j, j < i → saysB (evAt h k).2.2 (evAt h j) = false) ∧ evAt h k ∉ h.take k := by
  have he := hr.2 k hk
  rw [← evAt_get hk] at he
  obtain ⟨e, hee⟩ : ∃ e, e = evAt h k := ⟨_, rfl⟩
  rw [← hee] at he hw ⊢
  unfold evErr at he
  split at he
  · cases he
  split at he
  · cases he
  rename_i h2
  split at he
  · cases he
  rename_i h3
  split at he
  · cases he
  rename_i h4
  have hlen : (h.take k).length = k := by simp; omega
  rcases whereI_cases (saysB e.2.2) (h.take k) with ⟨h1, _⟩ | ⟨i, hi, h1, h5, h6⟩
  · exact absurd ⟨hw, by show saidAt (h.take k) e.2.2 < 0; unfold saidAt; omega⟩ h3
  · have hik : i < k := by omega
    have hs : saidAt (h.take k) e.2.2 = (i : Int) := h1
    rw [hs] at h4
    have hev : (h.take k)[i] = evAt h i := by rw [← evAt_take hik, evAt_get hi]
    rw [hev] at h5
    unfold saysB at h5
    simp only [Bool.and_eq_true, decide_eq_true_eq] at h5
    refine ⟨i, hik, hs, h5.1, h5.2, fun hh => h4 ⟨hw, ?_⟩, fun j hj => ?_, fun hin => h2 (.inr ⟨hw, hin⟩)⟩
    · rw [Int.toNat_natCast, evAt_take hik]; exact hh
    · have := h6 j hj
      rw [show (h.take k)[j]'(by omega) = evAt h j by rw [← evAt_take (show j < k by omega), evAt_get (by omega)]] at this
      exact this
def numNext (h : List Ev) (k : Nat) (s : List Int × List Int) : Int :=
  (if (evAt h k).2.1 = 3 then max (s.2.getD (evAt h k).1.toNat 0) (s.1.getD (saidAt (h.take k) (evAt h k).2.2).toNat 0) else s.2.getD (evAt h k).1.toNat 0) + 1
def numState (h : List Ev) : Nat → List Int × List Int
  | 0 => ([], [0, 0, 0, 0, 0])
  | k + 1 => ((numState h k).1 ++ [numNext h k (numState h k)], (numState h k).2.set (evAt h k).1.toNat (numNext h k (numState h k)))
def numsR (h : List Ev) : List Int := (numState h h.length).1
theorem numState_len (h : List Ev) : ∀ k, (numState h k).1.length = k ∧ (numState h k).2.length = 5
  | 0 => ⟨rfl, rfl⟩
  | k + 1 => by
    have := numState_len h k
    simp [numState, this]
theorem getD_bound {l : List Int} {a b : Int} (h : ∀ x ∈ l, a ≤ x ∧ x ≤ b) (ha : a ≤ 0) (hb : 0 ≤ b) (i : Nat) : a ≤ l.getD i 0 ∧ l.getD i 0 ≤ b := by
  rw [List.getD_eq_getElem?_getD]
  by_cases hi : i < l.length
  · rw [List.getElem?_eq_getElem hi]; exact h _ (List.getElem_mem hi)
  · rw [List.getElem?_eq_none (by omega)]; exact ⟨ha, hb⟩
theorem numState_bound (h : List Ev) : ∀ k, (∀ x ∈ (numState h k).1, 0 ≤ x ∧ x ≤ (k : Int)) ∧ (∀ x ∈ (numState h k).2, 0 ≤ x ∧ x ≤ (k : Int))
  | 0 => by simp [numState]
  | k + 1 => by
    obtain ⟨h1, h2⟩ := numState_bound h k
    have hn : 0 ≤ numNext h k (numState h k) ∧ numNext h k (numState h k) ≤ ((k + 1 : Nat) : Int) := by
      have a := getD_bound h2 (Int.le_refl 0) (Int.natCast_nonneg k) (evAt h k).1.toNat
      have b := getD_bound h1 (Int.le_refl 0) (Int.natCast_nonneg k) (saidAt (h.take k) (evAt h k).2.2).toNat
      unfold numNext
      split
      · rw [Int.max_def]; split <;> omega
      · omega
    simp only [numState]
    refine ⟨fun x hx => ?_, fun x hx => ?_⟩
    · rcases List.mem_append.1 hx with hx | hx
      · have := h1 x hx; omega
      · rw [List.mem_singleton.1 hx]; exact hn
    · rcases List.mem_or_eq_of_mem_set hx with hx | hx
      · have := h2 x hx; omega
      · rw [hx]; exact hn
def vec0 (s : List (List Int) × List (List Int)) (w : Nat) : List Int := if s.2.getD w [] = [] then zero5 else s.2.getD w []
def vec1 (h : List Ev) (k : Nat) (s : List (List Int) × List (List Int)) : List Int :=
  if (evAt h k).2.1 = 3 then zipMax (vec0 s (evAt h k).1.toNat) (s.1.getD (saidAt (h.take k) (evAt h k).2.2).toNat []) else vec0 s (evAt h k).1.toNat
def vecNext (h : List Ev) (k : Nat) (s : List (List Int) × List (List Int)) : List Int :=
  (vec1 h k s).set (evAt h k).1.toNat ((vec1 h k s).getD (evAt h k).1.toNat 0 + 1)
def vecState (h : List Ev) : Nat → List (List Int) × List (List Int)
  | 0 => ([], [[], [], [], [], []])
  | k + 1 => ((vecState h k).1 ++ [vecNext h k (vecState h k)], (vecState h k).2.set (evAt h k).1.toNat (vecNext h k (vecState h k)))
def vecsR (h : List Ev) : List (List Int) := (vecState h h.length).1
theorem vecState_len (h : List Ev) : ∀ k, (vecState h k).1.length = k ∧ (vecState h k).2.length = 5
  | 0 => ⟨rfl, rfl⟩
  | k + 1 => by
    have := vecState_len h k
    simp [vecState, this]
/-- A vector of a history of k events. -/
def vecIn (k : Nat) (v : List Int) : Prop := v.length = 5 ∧ ∀ x ∈ v, 0 ≤ x ∧ x ≤ (k : Int)
theorem vecIn.up {k : Nat} {v : List Int} (h : vecIn k v) : vecIn (k + 1) v := ⟨h.1, fun x hx => by have := h.2 x hx; omega⟩
theorem zipMax_in {k : Nat} {a b : List Int} (ha : vecIn k a) (hb : vecIn k b) : vecIn k (zipMax a b) := by
  have hl := zipMax_len a b (by rw [ha.1, hb.1])
  refine ⟨by rw [hl, ha.1], fun x hx => ?_⟩
  obtain ⟨i, hi, rfl⟩ := List.getElem_of_mem hx
  rw [zipMax_get a b i (by omega) (by rw [hb.1, ← ha.1]; omega)]
  have h1 := ha.2 _ (List.getElem_mem (show i < a.length by omega))
  have h2 := hb.2 _ (List.getElem_mem (show i < b.length by rw [hb.1, ← ha.1]; omega))
  rw [Int.max_def]; split <;> omega
theorem zero5_in (k : Nat) : vecIn k zero5 := ⟨rfl, fun x hx => by simp [zero5] at hx; subst hx; omega⟩
theorem vec_getD {k : Nat} {l : List (List Int)} (h : ∀ v ∈ l, v = [] ∨ vecIn k v) (i : Nat) : l.getD i [] = [] ∨ vecIn k (l.getD i []) := by
  rw [List.getD_eq_getElem?_getD]
  by_cases hi : i < l.length
  · rw [List.getElem?_eq_getElem hi]; exact h _ (List.getElem_mem hi)
  · rw [List.getElem?_eq_none (by omega)]; exact .inl rfl
theorem vec0_in {k : Nat} {s : List (List Int) × List (List Int)} (h : ∀ v ∈ s.2, v = [] ∨ vecIn k v) (w : Nat) : vecIn k (vec0 s w) := by
  unfold vec0
  split
  · exact zero5_in k
  · rename_i h1
    rcases vec_getD h w with h2 | h2
    · exact absurd h2 h1
    · exact h2
theorem vec1_in {h : List Ev} (hr : RightH h) {k : Nat} (hk : k < h.length) {s : List (List Int) × List (List Int)} (hl : s.1.length = k) (h1 : ∀ v ∈ s.1, vecIn k v) (h2 : ∀ v ∈ s.2, v = [] ∨ vecIn k v) : vecIn k (vec1 h k s) := by
  unfold vec1
  split
  · rename_i hw
    obtain ⟨i, hi, hs, _⟩ := hr.said hk hw
    rw [hs, Int.toNat_natCast]
    refine zipMax_in (vec0_in h2 _) ?_
    rw [List.getD_eq_getElem?_getD, List.getElem?_eq_getElem (by omega)]
    exact h1 _ (List.getElem_mem _)
  · exact vec0_in h2 _
theorem vecNext_in {h : List Ev} (hr : RightH h) {k : Nat} (hk : k < h.length) {s : List (List Int) × List (List Int)} (hl : s.1.length = k) (h1 : ∀ v ∈ s.1, vecIn k v) (h2 : ∀ v ∈ s.2, v = [] ∨ vecIn k v) : vecIn (k + 1) (vecNext h k s) := by
  have hv := vec1_in hr hk hl h1 h2
  unfold vecNext
  refine ⟨by rw [List.length_set]; exact hv.1, fun x hx => ?_⟩
  have hb := getD_bound hv.2 (Int.le_refl 0) (Int.natCast_nonneg k) (evAt h k).1.toNat
  rcases List.mem_or_eq_of_mem_set hx with hx | hx
  · have := hv.2 x hx; omega
  · rw [hx]; omega
theorem vecState_in {h : List Ev} (hr : RightH h) : ∀ k, k ≤ h.length → (∀ v ∈ (vecState h k).1, vecIn k v) ∧ (∀ v ∈ (vecState h k).2, v = [] ∨ vecIn k v)
  | 0, _ => ⟨fun v hv => by simp [vecState] at hv, fun v hv => by simp [vecState] at hv; exact .inl hv⟩
  | k + 1, hk => by
    obtain ⟨h1, h2⟩ := vecState_in hr k (by omega)
    have hn := vecNext_in hr (show k < h.length by omega) (vecState_len h k).1 h1 h2
    simp only [vecState]
    refine ⟨fun v hv => ?_, fun v hv => ?_⟩
    · rcases List.mem_append.1 hv with hv | hv
      · exact (h1 v hv).up
      · rw [List.mem_singleton.1 hv]; exact hn
    · rcases List.mem_or_eq_of_mem_set hv with hv | hv
      · rcases h2 v hv with h3 | h3
        · exact .inl h3
        · exact .inr h3.up
      · rw [hv]; exact .inr hn
end Go.Proofs.Ytkgnjkokbiefgaa
