/- Plain law of FacesNest: what is causal is fifo; with one hearing less at the end it is no worse; where only one speaks fifo is causal. -/
import Derived.Test.YtkgnjkokbiefgaaFaces5
namespace Go.Proofs.Ytkgnjkokbiefgaa
set_option linter.unusedVariables false
set_option linter.unusedSimpArgs false
open Go.RowKit
theorem bef_take {h : List Ev} {m : Nat} (hm : m ≤ h.length) : ∀ k, k < m → ∀ i, bef (h.take m) k i = bef h k i := by
  intro k
  induction k using Nat.strongRecOn with
  | _ k ih =>
    intro hk i
    have hl : (h.take m).length = m := by simp; omega
    rw [Bool.eq_iff_iff, bef_iff _ _ _ (by omega), bef_iff _ _ _ (by omega)]
    constructor
    · rintro ⟨j, h1, h2, h3⟩
      rw [evAt_take (by omega), evAt_take (by omega)] at h2
      rw [ih j h1 (by omega)] at h3
      exact ⟨j, h1, h2, h3⟩
    · rintro ⟨j, h1, h2, h3⟩
      refine ⟨j, h1, ?_, ?_⟩
      · rw [evAt_take (by omega), evAt_take (by omega)]; exact h2
      · rw [ih j h1 (by omega)]; exact h3
theorem heardL_split (h : List Ev) (m : Nat) (who : Int) : heardL h who = heardL (h.take m) who ++ heardL (h.drop m) who := by
  unfold heardL
  rw [← List.map_append, ← List.filter_append, List.take_append_drop]
theorem whereIs_eq (p : Int → Bool) : ∀ l : List Int, whereIs p l = whereI p l
  | [] => rfl
  | x :: r => by
    unfold whereIs whereI
    rw [whereIs_eq p r]
theorem idx_cases (l : List Int) (x : Int) : (idxI l x = -1 ∧ x ∉ l) ∨ ∃ (k : Nat) (hk : k < l.length), idxI l x = k ∧ l[k] = x ∧ ∀ j (h : j < k), l[j]'(by omega) ≠ x := by
  unfold idxI
  rw [whereIs_eq]
  rcases whereI_cases (fun n => decide (n = x)) l with ⟨h1, h2⟩ | ⟨k, hk, h1, h2, h3⟩
  · exact .inl ⟨h1, fun hx => by simpa using h2 x hx⟩
  · exact .inr ⟨k, hk, h1, by simpa using h2, fun j hj => by simpa using h3 j hj⟩
theorem idx_mk {l : List Int} {x : Int} {k : Nat} (hk : k < l.length) (h1 : l[k] = x) (h2 : ∀ j (h : j < k), l[j]'(by omega) ≠ x) : idxI l x = k := by
  unfold idxI
  rw [whereIs_eq]
  exact whereI_hit _ l k hk (fun j hj => by simpa using h2 j hj) (by simpa using h1)
theorem idx_app {l r : List Int} {x : Int} {k : Nat} (hk : k < l.length) (h : idxI (l ++ r) x = k) : idxI l x = k := by
  rcases idx_cases (l ++ r) x with ⟨h1, _⟩ | ⟨j, hj, h1, h2, h3⟩
  · omega
  · have : j = k := by omega
    subst this
    refine idx_mk hk ?_ (fun i hi => ?_)
    · rw [List.getElem_append_left hk] at h2; exact h2
    · have := h3 i hi
      rw [List.getElem_append_left (by omega)] at this; exact this
theorem idx_mem {l r : List Int} {x : Int} (hx : x ∈ l) : ∃ k : Nat, k < l.length ∧ idxI (l ++ r) x = k ∧ idxI l x = k := by
  rcases idx_cases l x with ⟨_, h2⟩ | ⟨k, hk, h1, h2, h3⟩
  · exact absurd hx h2
  · refine ⟨k, hk, idx_mk (by simp; omega) (by rw [List.getElem_append_left hk]; exact h2) (fun j hj => by rw [List.getElem_append_left (by omega)]; exact h3 j hj), h1⟩
theorem hasAhead_take {h : List Ev} {m : Nat} {f s who : Int} (hs : s ∈ heardL (h.take m) who) (ha : hasAhead h f s who = true) : hasAhead (h.take m) f s who = true := by
  unfold hasAhead at ha ⊢
  rw [heardL_split h m who] at ha
  simp only [Bool.and_eq_true, decide_eq_true_eq] at ha ⊢
  obtain ⟨k, hk, h1, h2⟩ := idx_mem (r := heardL (h.drop m) who) hs
  rw [h1] at ha
  obtain ⟨i, hi⟩ : ∃ i : Nat, idxI (heardL (h.take m) who ++ heardL (h.drop m) who) f = i := ⟨_, (Int.toNat_of_nonneg ha.1).symm⟩
  rw [hi] at ha
  have h3 := idx_app (by omega) hi
  rw [h2, h3]
  omega
theorem aheadB_take {h : List Ev} {m : Nat} {f s : Int} (ha : aheadB h f s = true) : aheadB (h.take m) f s = true := by
  unfold aheadB at ha ⊢
  rw [List.all_eq_true] at ha ⊢
  intro e he
  have h1 := ha e (List.mem_of_mem_take he)
  cases hb : hearsB s e
  · simp
  · rw [hb] at h1
    simp only [Bool.not_true, Bool.false_or] at h1 ⊢
    unfold hearsB at hb
    simp only [Bool.and_eq_true, decide_eq_true_eq] at hb
    refine hasAhead_take ?_ h1
    unfold heardL
    exact List.mem_map.2 ⟨e, List.mem_filter.2 ⟨he, by unfold heardB; simp [hb.1]⟩, hb.2⟩
theorem skipB_take {h : List Ev} {m k i : Nat} (hm : m ≤ h.length) (hk : k < m) (hi : i < k) (hs : skipB h k i = true) : skipB (h.take m) k i = true := by
  unfold skipB at hs ⊢
  rw [evAt_take hk, evAt_take (show i < m by omega), bef_take hm k hk]
  simp only [Bool.or_eq_true] at hs ⊢
  rcases hs with hs | hs | hs | hs
  · exact .inl hs
  · exact .inr (.inl hs)
  · exact .inr (.inr (.inl hs))
  · exact .inr (.inr (.inr (aheadB_take hs)))
theorem causal_take {h : List Ev} {m : Nat} (hm : m ≤ h.length) (hc : causalB h = true) : causalB (h.take m) = true := by
  unfold causalB at hc ⊢
  rw [upTo_iff] at hc ⊢
  intro k hk
  have hk' : k < m := by simp at hk; omega
  have h1 := hc k (by omega)
  rw [upTo_iff] at h1 ⊢
  exact fun i hi => skipB_take hm hk' hi (h1 i hi)
theorem fifo_take {h : List Ev} {m : Nat} (hm : m ≤ h.length) (hc : fifoB h = true) : fifoB (h.take m) = true := by
  unfold fifoB at hc ⊢
  rw [upTo_iff] at hc ⊢
  intro k hk
  have hk' : k < m := by simp at hk; omega
  have h1 := hc k (by omega)
  rw [upTo_iff] at h1 ⊢
  intro i hi
  have h2 := h1 i hi
  unfold fifoOk at h2 ⊢
  rw [evAt_take hk', evAt_take (show i < m by omega)]
  simp only [Bool.or_eq_true] at h2 ⊢
  rcases h2 with h2 | h2
  · exact .inl (skipB_take hm hk' hi h2)
  · exact .inr h2
theorem causal_fifo {h : List Ev} (hc : causalB h = true) : fifoB h = true := by
  unfold causalB at hc
  unfold fifoB
  rw [upTo_iff] at hc ⊢
  intro k hk
  have h1 := hc k hk
  rw [upTo_iff] at h1 ⊢
  exact fun i hi => by unfold fifoOk; rw [h1 i hi]; rfl
def aloneAt (h : List Ev) (i k : Nat) : Bool := !(decide ((evAt h i).2.1 = 2) && (decide ((evAt h k).2.1 = 2) && decide ((evAt h i).1 ≠ (evAt h k).1)))
def aloneB (h : List Ev) : Bool := upTo (fun i => upTo (aloneAt h i) i) h.length
theorem alone_fifo {h : List Ev} (ha : aloneB h = true) (hf : fifoB h = true) : causalB h = true := by
  unfold aloneB at ha
  unfold fifoB at hf
  unfold causalB
  rw [upTo_iff] at ha hf ⊢
  intro k hk
  have h1 := ha k hk
  have h2 := hf k hk
  rw [upTo_iff] at h1 h2 ⊢
  intro i hi
  have h3 := h1 i hi
  have h4 := h2 i hi
  unfold fifoOk at h4
  simp only [Bool.or_eq_true] at h4
  rcases h4 with h4 | h4
  · exact h4
  · unfold skipB
    unfold aloneAt at h3
    by_cases b1 : (evAt h k).2.1 = 2
    · by_cases b2 : (evAt h i).2.1 = 2
      · exfalso
        simp only [b1, b2, decide_true, Bool.true_and, Bool.not_eq_true', decide_eq_false_iff_not, ne_eq, Decidable.not_not] at h3
        simp only [decide_eq_true_eq] at h4
        exact h4 h3.symm
      · simp [b2]
    · simp [b1]
/-- A right history's beginning is right. -/
theorem RightH.front {h : List Ev} (hr : RightH h) (m : Nat) (hm : m ≤ h.length) : RightH (h.take m) := by
  refine ⟨by simp; have := hr.1; omega, fun k hk => ?_⟩
  have hk' : k < m := by simp at hk; omega
  have h1 := hr.2 k (by omega)
  rw [List.take_take, Nat.min_eq_left (by omega), List.getElem_take]
  exact h1
/-- Words are said once. -/
theorem RightH.once {h : List Ev} (hr : RightH h) {i j : Nat} (hi : i < h.length) (hj : j < h.length) (h1 : (evAt h i).2.1 = 2) (h2 : (evAt h j).2.1 = 2) (h3 : (evAt h i).2.2 = (evAt h j).2.2) : i = j := by
  have key : ∀ {i j : Nat}, i < j → j < h.length → (evAt h i).2.1 = 2 → (evAt h j).2.1 = 2 → (evAt h i).2.2 = (evAt h j).2.2 → False := by
    intro i j hij hj h1 h2 h3
    have he := hr.2 j hj
    rw [← evAt_get hj] at he
    have hs : 0 ≤ saidAt (h.take j) (evAt h j).2.2 := by
      unfold saidAt
      rw [whereI_any]
      refine List.any_eq_true.2 ⟨evAt h i, ?_, by unfold saysB; simp [h1, h3]⟩
      rw [← evAt_take hij, evAt_get (by simp; omega)]
      exact List.getElem_mem _
    unfold evErr at he
    split at he
    · cases he
    split at he
    · cases he
    rename_i h5
    exact h5 (.inl ⟨h2, hs⟩)
  rcases Nat.lt_trichotomy i j with h | h | h
  · exact (key h hj h1 h2 h3).elim
  · exact h
  · exact (key h hi h2 h1 h3.symm).elim
/-- Nobody has a word twice. -/
theorem RightH.fresh {h : List Ev} (hr : RightH h) {m : Nat} (hm : m < h.length) (hw : (evAt h m).2.1 ≠ 1) : (evAt h m).2.2 ∉ heardL (h.take m) (evAt h m).1 := by
  intro hin
  obtain ⟨e, he, hee⟩ := List.mem_map.1 hin
  obtain ⟨he1, he2⟩ := List.mem_filter.1 he
  obtain ⟨i, hi, rfl⟩ := List.getElem_of_mem he1
  have him : i < m := by simp at hi; omega
  rw [show (h.take m)[i] = evAt h i by rw [← evAt_take him, evAt_get hi]] at he2 hee
  unfold heardB at he2
  simp only [Bool.and_eq_true, decide_eq_true_eq, Bool.not_eq_true', decide_eq_false_iff_not] at he2
  have hright := hr.2 m hm
  rw [← evAt_get hm] at hright
  have hwhat := evErr0 hright
  have hwhi := evErr0 (show evErr (h.take i) (evAt h i) = 0 by have := hr.2 i (by omega); rw [← evAt_get (by omega)] at this; exact this)
  have hm2 : (evAt h m).2.1 = 2 ∨ (evAt h m).2.1 = 3 := by rcases rightB_what hwhat with h1 | h1 | h1; exact absurd h1 hw; exact .inl h1; exact .inr h1
  have hi2 : (evAt h i).2.1 = 2 ∨ (evAt h i).2.1 = 3 := by rcases rightB_what hwhi with h1 | h1 | h1; exact absurd h1 he2.2; exact .inl h1; exact .inr h1
  rcases hm2 with hm2 | hm2
  · -- said at m: nobody said it ahead, so nobody heard it
    rcases hi2 with hi2 | hi2
    · have := hr.once (by omega) hm hi2 hm2 hee; omega
    · obtain ⟨j, hj, _, h5, h6, _⟩ := hr.said (show i < h.length by omega) hi2
      have := hr.once (show j < h.length by omega) hm h5 hm2 (by rw [h6, hee])
      omega
  · obtain ⟨j, hj, _, h5, h6, h7, _, h8⟩ := hr.said hm hm2
    rcases hi2 with hi2 | hi2
    · have := hr.once (show i < h.length by omega) (show j < h.length by omega) hi2 h5 (by rw [hee, h6])
      subst this
      exact h7 he2.1
    · refine h8 ?_
      have : evAt h i = evAt h m := by
        refine Prod.ext he2.1 (Prod.ext ?_ hee)
        rw [hi2, hm2]
      rw [← this, ← evAt_take him, evAt_get hi]
      exact List.getElem_mem _
theorem filter_congr_mem {A : List Int} {p q : Int → Bool} (h : ∀ x ∈ A, p x = q x) : A.filter p = A.filter q := List.filter_congr h
/-- With the last word of one taken away two are still alike. -/
theorem alike_drop {A B : List Int} {w : Int} (hw : w ∉ A) (h : alikeB (A ++ [w]) B = true) : alikeB A B = true := by
  unfold alikeB at h ⊢
  rw [beq_iff_eq] at h ⊢
  unfold keepB at h ⊢
  by_cases hb : w ∈ B
  · rw [List.filter_append] at h
    have h1 : ([w].filter fun x => decide (x ∈ B)) = [w] := by simp [hb]
    rw [h1] at h
    have h2 := congrArg (List.filter fun x => decide (x ≠ w)) h
    rw [List.filter_append, List.filter_filter, List.filter_filter] at h2
    have h3 : ([w].filter fun x => decide (x ≠ w)) = [] := by simp
    rw [h3, List.append_nil] at h2
    rw [filter_congr_mem (A := A) (q := fun x => decide (x ∈ B)) (fun x hx => by
      have : x ≠ w := fun e => hw (e ▸ hx)
      simp [this])] at h2
    rw [h2]
    refine filter_congr_mem fun x _ => ?_
    by_cases e : x = w
    · subst e; simp [hw]
    · simp [e]
  · rw [List.filter_append] at h
    have h1 : ([w].filter fun x => decide (x ∈ B)) = [] := by simp [hb]
    rw [h1, List.append_nil] at h
    rw [h]
    refine filter_congr_mem fun x hx => ?_
    have : x ≠ w := fun e => hb (e ▸ hx)
    simp [this]
theorem alike_comm {A B : List Int} : alikeB A B = alikeB B A := by
  unfold alikeB
  rw [Bool.eq_iff_iff, beq_iff_eq, beq_iff_eq]
  exact ⟨fun h => h.symm, fun h => h.symm⟩
theorem total_take {h : List Ev} (hr : RightH h) {m : Nat} (hm : m + 1 = h.length) (ht : totalB h = true) : totalB (h.take m) = true := by
  unfold totalB at ht ⊢
  rw [upTo_iff] at ht ⊢
  intro a ha
  have h1 := ht a ha
  unfold totRow at h1 ⊢
  rw [upTo_iff] at h1 ⊢
  intro b hb
  have h2 := h1 b hb
  unfold alikeAt at h2 ⊢
  have hst := fun who => heardL_step h who m (by omega)
  have hall : h.take (m + 1) = h := List.take_of_length_le (by omega)
  rw [hall] at hst
  rw [hst, hst] at h2
  by_cases e1 : heardB (a : Int) (evAt h m) = true
  · have e2 : ¬ heardB (b : Int) (evAt h m) = true := by
      intro e2
      unfold heardB at e1 e2
      simp only [Bool.and_eq_true, decide_eq_true_eq] at e1 e2
      omega
    rw [if_pos e1, if_neg e2] at h2
    unfold heardB at e1
    simp only [Bool.and_eq_true, decide_eq_true_eq, Bool.not_eq_true', decide_eq_false_iff_not] at e1
    refine alike_drop ?_ h2
    rw [← e1.1]
    exact hr.fresh (by omega) e1.2
  · rw [if_neg e1] at h2
    by_cases e2 : heardB (b : Int) (evAt h m) = true
    · rw [if_pos e2, alike_comm] at h2
      unfold heardB at e2
      simp only [Bool.and_eq_true, decide_eq_true_eq, Bool.not_eq_true', decide_eq_false_iff_not] at e2
      rw [alike_comm]
      refine alike_drop ?_ h2
      rw [← e2.1]
      exact hr.fresh (by omega) e2.2
    · rw [if_neg e2] at h2; exact h2
end Go.Proofs.Ytkgnjkokbiefgaa
