/- The least of rows, in plain lists. -/
import Derived.Test.YtkgnjkokbiefgaaStable3
namespace Go.Proofs.Ytkgnjkokbiefgaa
set_option linter.unusedVariables false
set_option linter.unusedSimpArgs false
theorem foldl_get (l : List (List Int)) : ∀ (a : List Int) (k : Nat) (ha : a.length = 5) (hl : ∀ r ∈ l, r.length = 5) (hk : k < (l.foldl zipMin a).length) (hk' : k < a.length),
    ((l.foldl zipMin a)[k] = a[k] ∨ ∃ r, ∃ h : r ∈ l, (l.foldl zipMin a)[k] = r[k]'(by rw [hl r h]; omega)) ∧ (l.foldl zipMin a)[k] ≤ a[k] ∧ ∀ r (h : r ∈ l), (l.foldl zipMin a)[k] ≤ r[k]'(by rw [hl r h]; omega) := by
  induction l with
  | nil => intro a k ha hl hk hk'; exact ⟨.inl rfl, Int.le_refl _, fun r h => by cases h⟩
  | cons x l ih =>
    intro a k ha hl hk hk'
    have hx := hl x (by simp)
    have hz : (zipMin a x).length = 5 := by rw [zipMin_len _ _ (by omega)]; exact ha
    have hg := zipMin_get a x k hk' (by omega) (by omega)
    obtain ⟨h1, h2, h3⟩ := ih (zipMin a x) k hz (fun r hr => hl r (by simp [hr])) hk (by omega)
    have h1 : ((x :: l).foldl zipMin a)[k] = (zipMin a x)[k] ∨ ∃ r, ∃ h : r ∈ l, ((x :: l).foldl zipMin a)[k] = r[k]'(by rw [hl r (by simp [h])]; omega) := h1
    have h2 : ((x :: l).foldl zipMin a)[k] ≤ (zipMin a x)[k] := h2
    have h3 : ∀ r (h : r ∈ l), ((x :: l).foldl zipMin a)[k] ≤ r[k]'(by rw [hl r (by simp [h])]; omega) := h3
    generalize ((x :: l).foldl zipMin a)[k] = y at h1 h2 h3 ⊢
    have hA : (zipMin a x)[k]'(by omega) ≤ a[k] := by rw [hg]; exact Int.min_le_left _ _
    have hX : (zipMin a x)[k]'(by omega) ≤ x[k]'(by omega) := by rw [hg]; exact Int.min_le_right _ _
    refine ⟨?_, Int.le_trans h2 hA, fun r hr => ?_⟩
    · rcases h1 with h1 | ⟨r, hr, h1⟩
      · rw [hg, Int.min_def] at h1
        split at h1
        · exact .inl h1
        · exact .inr ⟨x, by simp, h1⟩
      · exact .inr ⟨r, by simp [hr], h1⟩
    · rcases List.mem_cons.1 hr with rfl | hr'
      · exact Int.le_trans h2 hX
      · exact h3 r hr'
theorem rowsOk_len {rows : List (List Int)} (h : rowsOk rows) : ∀ r ∈ rows, r.length = 5 := fun r hr => (vecErr0 (h r hr)).1
theorem leastOf_len {rows : List (List Int)} (h : rowsOk rows) (hne : 0 < rows.length) : (leastOf rows).length = 5 := by
  unfold leastOf
  refine foldl_len _ _ ?_ (rowsOk_len h)
  cases rows with
  | nil => simp at hne
  | cons x r => exact rowsOk_len h x (by simp)
theorem leastOf_le {rows : List (List Int)} (h : rowsOk rows) (r : List Int) (hr : r ∈ rows) (k : Nat) (hk : k < (leastOf rows).length) (hk' : k < r.length) : (leastOf rows)[k] ≤ r[k] := by
  cases rows with
  | nil => cases hr
  | cons x l => exact (foldl_get (x :: l) x k (rowsOk_len h x (by simp)) (rowsOk_len h) hk (by rw [rowsOk_len h x (by simp)]; have := rowsOk_len h r hr; omega)).2.2 r hr
theorem leastOf_is {rows : List (List Int)} (h : rowsOk rows) (hne : 0 < rows.length) (k : Nat) (hk : k < (leastOf rows).length) : ∃ r ∈ rows, ∃ hk' : k < r.length, (leastOf rows)[k] = r[k] := by
  cases rows with
  | nil => simp at hne
  | cons x l =>
    have h5 := leastOf_len h (by simp)
    have hx := rowsOk_len h x (by simp)
    rcases (foldl_get (x :: l) x k hx (rowsOk_len h) hk (by omega)).1 with h1 | ⟨r, hr, h1⟩
    · exact ⟨x, by simp, by omega, h1⟩
    · exact ⟨r, hr, by rw [rowsOk_len h r hr]; omega, h1⟩
theorem vecErr_mk {l : List Int} (h5 : l.length = 5) (h : ∀ x ∈ l, 0 ≤ x ∧ x ≤ 1000000) : vecErr l = 0 := by
  unfold vecErr
  rw [if_neg (by omega), if_neg]
  simp only [List.any_eq_true, not_exists, not_and, isCount, Bool.not_eq_true', Bool.not_eq_false, Bool.and_eq_true, decide_eq_true_eq]
  exact h
theorem vecErr_get {l : List Int} (h5 : l.length = 5) (h : ∀ k (hk : k < l.length), 0 ≤ l[k] ∧ l[k] ≤ 1000000) : vecErr l = 0 :=
  vecErr_mk h5 fun x hx => by obtain ⟨k, hk, rfl⟩ := List.getElem_of_mem hx; exact h k hk
theorem vecErr_at {l : List Int} (h : vecErr l = 0) (k : Nat) (hk : k < l.length) : 0 ≤ l[k] ∧ l[k] ≤ 1000000 := (vecErr0 h).2 _ (List.getElem_mem hk)
theorem vecErr_zipMax {a b : List Int} (ha : vecErr a = 0) (hb : vecErr b = 0) : vecErr (zipMax a b) = 0 := by
  have h1 := (vecErr0 ha).1; have h2 := (vecErr0 hb).1
  have hl := zipMax_len a b (by omega)
  refine vecErr_get (by omega) fun k hk => ?_
  rw [zipMax_get a b k (by omega) (by omega)]
  have h3 := vecErr_at ha k (by omega); have h4 := vecErr_at hb k (by omega)
  rw [Int.max_def]; split <;> omega
theorem vecErr_least {rows : List (List Int)} (h : rowsOk rows) (hne : 0 < rows.length) : vecErr (leastOf rows) = 0 := by
  refine vecErr_get (leastOf_len h hne) fun k hk => ?_
  obtain ⟨r, hr, hk', e⟩ := leastOf_is h hne k hk
  rw [e]; exact vecErr_at (h r hr) k hk'
theorem toldRows_len (rows : List (List Int)) (who : Int) (v : List Int) : (toldRows rows who v).length = rows.length := by
  unfold toldRows; split <;> simp
theorem toldRows_ok {rows : List (List Int)} (h : rowsOk rows) (who : Int) (v : List Int) : rowsOk (toldRows rows who v) := by
  unfold toldRows
  split
  · rename_i ht
    have hv : vecErr v = 0 ∧ inR who rows.length = true := by
      unfold toldErr at ht
      split at ht
      · cases ht
      · rename_i h1; exact ⟨ht, by simpa using h1⟩
    have hw : 0 ≤ who ∧ who < rows.length := by simpa [inR] using hv.2
    intro r hr
    rcases List.mem_or_eq_of_mem_set hr with hr | rfl
    · exact h r hr
    · have hlt : who.toNat < rows.length := by omega
      rw [show rows.getD who.toNat [] = rows[who.toNat] from by simp [hlt]]
      exact vecErr_zipMax (h _ (List.getElem_mem hlt)) hv.1
  · exact h
theorem rowsOk_zero (n : Nat) : rowsOk (List.replicate n zero5) := fun r hr => by rw [List.eq_of_mem_replicate hr]; exact vecErr_zero5
theorem zipMax_zero {v : List Int} (h : vecErr v = 0) : zipMax zero5 v = v := by
  have h5 := (vecErr0 h).1
  have hl := zipMax_len zero5 v (by rw [h5]; rfl)
  refine List.ext_getElem (by rw [hl, h5]; rfl) fun k h1 h2 => ?_
  have h3 := vecErr_at h k h2
  have hz : k < zero5.length := by rw [hl] at h1; exact h1
  rw [zipMax_get zero5 v k hz h2]
  have h0 : zero5[k] = 0 := by
    have : ∀ x ∈ zero5, x = 0 := by decide
    exact this _ (List.getElem_mem hz)
  rw [h0, Int.max_def]; split <;> omega
end Go.Proofs.Ytkgnjkokbiefgaa
