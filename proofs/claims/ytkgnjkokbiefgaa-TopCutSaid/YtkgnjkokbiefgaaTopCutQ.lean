/- TopCut in plain: the greatest of the taken vectors says whether a cut could have been. -/
import Derived.Test.YtkgnjkokbiefgaaVecCount
import Derived.Test.YtkgnjkokbiefgaaStable4
import Derived.Test.YtkgnjkokbiefgaaVec2
namespace Go.Proofs.Ytkgnjkokbiefgaa
set_option linter.unusedVariables false
set_option linter.unusedSimpArgs false
open Go.RowKit
/-- The walk has looked at event e: of an earlier member, or of member m ahead of i. -/
def seen (h : List Ev) (m i e : Nat) : Prop := (evAt h e).1 < (m : Int) ∨ ((evAt h e).1 = (m : Int) ∧ e < i)
structure TInv (h : List Ev) (many : List Int) (m i : Nat) (J : List Int) (rows : List (List Int)) : Prop where
  vj : vecErr J = 0
  ok : rowsOk rows
  len : rows.length = 5
  below : ∀ r, r < 5 → ∀ q, q < 5 → (rows.getD r []).getD q 0 ≤ J.getD q 0
  iff : (∀ q, q < 5 → J.getD q 0 ≤ many.getD q 0) ↔ ∀ e, e < h.length → seen h m i e → takenB h many e = true → ∀ q, q < 5 → ((vcN h e q : Nat) : Int) ≤ many.getD q 0
/-- The vector of event i. -/
def vecAt (h : List Ev) (i : Nat) : List Int := (vecState h h.length).1.getD i []
theorem vecAt_in {h : List Ev} (hr : RightH h) {i : Nat} (hi : i < h.length) : vecIn h.length (vecAt h i) := by
  have h1 := (vecState_in hr h.length (Nat.le_refl _)).1
  have h2 := (vecState_len h h.length).1
  refine h1 _ ?_
  unfold vecAt
  rw [List.getD_eq_getElem?_getD, List.getElem?_eq_getElem (by rw [h2]; exact hi)]
  exact List.getElem_mem _
theorem vecAt_ok {h : List Ev} (hr : RightH h) {i : Nat} (hi : i < h.length) : vecErr (vecAt h i) = 0 := by
  have h1 := vecAt_in hr hi
  have := hr.1
  exact vecErr_mk h1.1 fun x hx => by have := h1.2 x hx; omega
theorem vecAt_get {h : List Ev} (hr : RightH h) {i : Nat} (hi : i < h.length) {q : Nat} (hq : q < 5) : (vecAt h i).getD q 0 = ((vcN h i q : Nat) : Int) := (vec_count hr h.length (Nat.le_refl _)).1 i hi q hq
theorem cutErr0 {h : List Ev} {many : List Int} (hc : cutErr h many = 0) : RightH h ∧ many.length = 5 ∧ ∀ m, m < 5 → 0 ≤ many.getD m 0 ∧ many.getD m 0 ≤ 60 := by
  unfold cutErr at hc
  split at hc
  · rename_i h1; exact absurd hc h1
  rename_i h1
  have hr : RightH h := (histR_ok h).1 (by simpa using h1)
  split at hc
  · cases hc
  rename_i h2
  split at hc
  · cases hc
  rename_i h3
  refine ⟨hr, by simpa using h2, fun m hm5 => ?_⟩
  have h4 : cutBadAt h many m = false := by
    cases hb : cutBadAt h many m
    · rfl
    · exact absurd (List.any_eq_true.2 ⟨m, List.mem_range.2 hm5, hb⟩) h3
  unfold cutBadAt at h4
  simp only [Bool.or_eq_false_iff, decide_eq_false_iff_not] at h4
  have := cnt_le h (m : Int) h.length
  have := hr.1
  omega
theorem TInv.start {h : List Ev} {many : List Int} (hr : RightH h) (hc : cutErr h many = 0) : TInv h many 0 0 zero5 (List.replicate 5 zero5) where
  vj := vecErr_zero5
  ok := rowsOk_zero 5
  len := by simp
  below := fun r hr q hq => by
    rw [List.getD_eq_getElem?_getD (l := List.replicate 5 zero5), List.getElem?_replicate, if_pos hr]; exact Int.le_refl _
  iff := by
    constructor
    · intro _ e he hs
      have := hr.who he
      unfold seen at hs; omega
    · intro _ q hq
      rw [zero5_getD hq]; exact ((cutErr0 hc).2.2 q hq).1
theorem seen_step {h : List Ev} {m i e : Nat} : seen h m (i + 1) e ↔ seen h m i e ∨ ((evAt h i).1 = (m : Int) ∧ e = i) := by
  unfold seen
  constructor
  · rintro (h1 | ⟨h1, h2⟩)
    · exact .inl (.inl h1)
    · by_cases he : e = i
      · subst he; exact .inr ⟨h1, rfl⟩
      · exact .inl (.inr ⟨h1, by omega⟩)
  · rintro ((h1 | ⟨h1, h2⟩) | ⟨h1, rfl⟩)
    · exact .inl h1
    · exact .inr ⟨h1, by omega⟩
    · exact .inr ⟨h1, by omega⟩
theorem TInv.skip {h : List Ev} {many : List Int} {m i : Nat} {J : List Int} {rows : List (List Int)} (t : TInv h many m i J rows) (hs : (evAt h i).1 ≠ (m : Int) ∨ takenB h many i = false) : TInv h many m (i + 1) J rows where
  vj := t.vj
  ok := t.ok
  len := t.len
  below := t.below
  iff := by
    rw [t.iff]
    constructor
    · intro h1 e he h2 h3
      rcases seen_step.1 h2 with h2 | ⟨h2, rfl⟩
      · exact h1 e he h2 h3
      · rcases hs with hs | hs
        · exact absurd h2 hs
        · rw [hs] at h3; cases h3
    · intro h1 e he h2 h3
      exact h1 e he (seen_step.2 (.inl h2)) h3
theorem TInv.next {h : List Ev} {many : List Int} {m : Nat} {J : List Int} {rows : List (List Int)} (t : TInv h many m h.length J rows) : TInv h many (m + 1) 0 J rows where
  vj := t.vj
  ok := t.ok
  len := t.len
  below := t.below
  iff := by
    rw [t.iff]
    have key : ∀ e, e < h.length → (seen h m h.length e ↔ seen h (m + 1) 0 e) := by
      intro e he; unfold seen; constructor <;> (intro h1; omega)
    constructor
    · intro h1 e he h2 h3; exact h1 e he ((key e he).2 h2) h3
    · intro h1 e he h2 h3; exact h1 e he ((key e he).1 h2) h3
theorem TInv.take {h : List Ev} {many : List Int} {m i : Nat} {J : List Int} {rows : List (List Int)} (t : TInv h many m i J rows) (hr : RightH h) (hi : i < h.length) (hm : m < 5) (hw : (evAt h i).1 = (m : Int)) (ht : takenB h many i = true) :
    bothErr J (vecAt h i) = 0 ∧ toldErr rows.length (m : Int) (vecAt h i) = 0 ∧ TInv h many m (i + 1) (zipMax J (vecAt h i)) (toldRows rows (m : Int) (vecAt h i)) := by
  have hV := vecAt_ok hr hi
  have hJ5 := (vecErr0 t.vj).1
  have hV5 := (vecErr0 hV).1
  have hte : toldErr rows.length (m : Int) (vecAt h i) = 0 := by
    unfold toldErr
    rw [if_neg (by simp [inR, t.len]; omega)]; exact hV
  refine ⟨by unfold bothErr; rw [if_pos t.vj]; exact hV, hte, ?_⟩
  have hg := toldRows_get (by rw [t.len]; exact hm) hte
  refine ⟨vecErr_zipMax t.vj hV, toldRows_ok t.ok _ _, by rw [toldRows_len, t.len], ?_, ?_⟩
  · intro r hr5 q hq
    rw [zipMax_getD hJ5 hV5 hq, hg]
    have hb := t.below r hr5 q hq
    have hl := t.len
    by_cases hrm : r = m
    · subst hrm
      rw [show (rows.set r (zipMax (rows.getD r []) (vecAt h i))).getD r [] = zipMax (rows.getD r []) (vecAt h i) from by
        rw [List.getD_eq_getElem?_getD, List.getElem?_set, if_pos rfl, if_pos (by omega)]; rfl]
      have hrow : (rows.getD r []).length = 5 := by
        rw [List.getD_eq_getElem?_getD, List.getElem?_eq_getElem (by omega)]
        exact rowsOk_len t.ok _ (List.getElem_mem _)
      rw [zipMax_getD hrow hV5 hq]
      rw [Int.max_def, Int.max_def]; split <;> split <;> omega
    · rw [show (rows.set m (zipMax (rows.getD m []) (vecAt h i))).getD r [] = rows.getD r [] from by
        rw [List.getD_eq_getElem?_getD, List.getElem?_set, if_neg (fun e => hrm e.symm), ← List.getD_eq_getElem?_getD]]
      rw [Int.max_def]; split <;> omega
  · have hsplit : (∀ q, q < 5 → (zipMax J (vecAt h i)).getD q 0 ≤ many.getD q 0) ↔ (∀ q, q < 5 → J.getD q 0 ≤ many.getD q 0) ∧ ∀ q, q < 5 → ((vcN h i q : Nat) : Int) ≤ many.getD q 0 := by
      constructor
      · intro h1
        constructor
        · intro q hq
          have h2 := h1 q hq
          rw [zipMax_getD hJ5 hV5 hq, Int.max_def] at h2
          split at h2 <;> omega
        · intro q hq
          have h2 := h1 q hq
          rw [zipMax_getD hJ5 hV5 hq, vecAt_get hr hi hq, Int.max_def] at h2
          split at h2 <;> omega
      · rintro ⟨h1, h3⟩ q hq
        have h2 := h1 q hq
        have h4 := h3 q hq
        rw [zipMax_getD hJ5 hV5 hq, vecAt_get hr hi hq, Int.max_def]
        split <;> omega
    rw [hsplit, t.iff]
    constructor
    · rintro ⟨h1, h5⟩ e he h2 h3
      rcases seen_step.1 h2 with h2 | ⟨h2, rfl⟩
      · exact h1 e he h2 h3
      · exact h5
    · intro h1
      exact ⟨fun e he h2 h3 => h1 e he (seen_step.2 (.inl h2)) h3, h1 i hi (seen_step.2 (.inr ⟨hw, rfl⟩)) ht⟩
theorem getD_at {l : List Int} {k : Nat} (hk : k < l.length) : l.getD k 0 = l[k] := by
  rw [List.getD_eq_getElem?_getD, List.getElem?_eq_getElem hk]; rfl
theorem TInv.done {h : List Ev} {many : List Int} {J : List Int} {rows : List (List Int)} (t : TInv h many 5 0 J rows) (hc : cutErr h many = 0) :
    (bothErr J many = 0 ∧ leq J many = cutB h many) ∧ vecErr (leastOf rows) = 0 ∧ bothErr (leastOf rows) J = 0 ∧ leq (leastOf rows) J = true := by
  obtain ⟨hr, hm5, hmb⟩ := cutErr0 hc
  have hJ5 := (vecErr0 t.vj).1
  have hne : 0 < rows.length := by rw [t.len]; omega
  have hmv : vecErr many = 0 := vecErr_mk hm5 fun x hx => by
    obtain ⟨k, hk, rfl⟩ := List.getElem_of_mem hx
    have := hmb k (by omega)
    rw [getD_at hk] at this
    omega
  have hl := vecErr_least t.ok hne
  have hl5 := (vecErr0 hl).1
  refine ⟨⟨by unfold bothErr; rw [if_pos t.vj]; exact hmv, ?_⟩, hl, by unfold bothErr; rw [if_pos hl]; exact t.vj, ?_⟩
  · have h1 : leq J many = true ↔ cutB h many = true := by
      rw [leq_iff J many (by omega), cut_iff hr hm5 hc]
      have h2 : (∀ i (h : i < J.length) (h' : i < many.length), J[i] ≤ many[i]) ↔ ∀ q, q < 5 → J.getD q 0 ≤ many.getD q 0 := by
        constructor
        · intro h q hq
          rw [getD_at (by omega), getD_at (by omega)]; exact h q (by omega) (by omega)
        · intro h q h1 h2
          have := h q (by omega)
          rw [getD_at h1, getD_at h2] at this
          exact this
      rw [h2, t.iff]
      constructor
      · intro h3 e he h4
        refine h3 e he (.inl ?_) h4
        have := hr.who he; omega
      · intro h3 e he _ h4; exact h3 e he h4
    cases h3 : leq J many <;> cases h4 : cutB h many <;> simp_all
  · refine leq_of_get (by omega) fun q h1 h2 => ?_
    have hq : q < 5 := by omega
    have h3 := leastOf_le t.ok rows[0] (List.getElem_mem hne) q h1 (by rw [rowsOk_len t.ok _ (List.getElem_mem hne)]; exact hq)
    have h4 := t.below 0 (by omega) q hq
    rw [show rows.getD 0 [] = rows[0] from by rw [List.getD_eq_getElem?_getD, List.getElem?_eq_getElem hne]; rfl] at h4
    rw [getD_at (by rw [rowsOk_len t.ok _ (List.getElem_mem hne)]; exact hq), getD_at h2] at h4
    omega
end Go.Proofs.Ytkgnjkokbiefgaa
