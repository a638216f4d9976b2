/- Plain laws of a leader: what each has heard is a beginning; when all have come all heard all. -/
import Derived.Test.YteelldblfmhjlaaDoorLeader2
namespace Go.Proofs.YteelldblfmhjlaaDoor
set_option linter.unusedVariables false
set_option linter.unusedSimpArgs false
open Go.RowKit
/-- What holds of a leader of n members. -/
structure LdInv (n : Nat) (l : Ld) : Prop where
  fit : ldFit l
  len : l.mem.length = n
  nodup : l.words.Nodup
  had : ∀ m ∈ l.mem, (∀ i : Nat, i < m.2 → (i : Int) ∈ m.1) ∧ ((m.2 : Nat) : Int) ∉ m.1
theorem LdInv.le {n : Nat} {l : Ld} (h : LdInv n l) : l.words.length ≤ 30 := distinct_le 30 _ h.nodup (fun x hx => h.fit.2.1 x hx)
theorem ldInv_new (n : Nat) : LdInv n (ldNew n) where
  fit := ⟨by simp [ldNew], by simp [ldNew], fun m hm => by simp [ldNew] at hm; rw [hm.2]; simp [ldNew]⟩
  len := by simp [ldNew]
  nodup := by simp [ldNew]
  had := fun m hm => by simp [ldNew] at hm; rw [hm.2]; simp
theorem isWord_iff {x : Int} : isWord x = true ↔ 1 ≤ x ∧ x ≤ 30 := by simp [isWord]
theorem ldInv_say {n : Nat} {l : Ld} (h : LdInv n l) (w : Int) : LdInv n (ldSay l w) := by
  unfold ldSay
  by_cases he : ldSayErr l w = 0
  · rw [if_pos he]
    have h1 : isWord w = true ∧ w ∉ l.words := by
      unfold ldSayErr at he
      cases hw : isWord w
      · simp [hw] at he
      · refine ⟨rfl, fun hm => ?_⟩
        simp [hw, hm] at he
    have h2 := isWord_iff.1 h1.1
    have h30 := h.le
    refine ⟨⟨by simp; omega, fun x hx => ?_, fun m hm => ?_⟩, h.len, ?_, h.had⟩
    · rcases List.mem_append.1 hx with hx | hx
      · exact h.fit.2.1 x hx
      · simp at hx; subst hx; exact h2
    · have := h.fit.2.2 m hm
      refine ⟨by simp; omega, fun x hx => ?_⟩
      have := this.2 x hx
      simp; omega
    · rw [List.nodup_append]
      exact ⟨h.nodup, by simp, fun a ha b hb e => h1.2 (by simp at hb; subst hb; exact e ▸ ha)⟩
  · rw [if_neg he]; exact h
theorem adv_spec (C : List Int) (L : Nat) (hC : ∀ x ∈ C, x < (L : Int)) : ∀ k h, h + k = L → (∀ i : Nat, h ≤ i → i < ldAdv C k h → (i : Int) ∈ C) ∧ ((ldAdv C k h : Nat) : Int) ∉ C
  | 0, h, e => ⟨fun i h1 h2 => by unfold ldAdv at h2; omega, fun hm => by unfold ldAdv at hm; have := hC _ hm; omega⟩
  | k + 1, h, e => by
    unfold ldAdv
    by_cases hm : (h : Int) ∈ C
    · rw [if_pos hm]
      have ih := adv_spec C L hC k (h + 1) (by omega)
      refine ⟨fun i h1 h2 => ?_, ih.2⟩
      by_cases e2 : i = h
      · rw [e2]; exact hm
      · exact ih.1 i (by omega) h2
    · rw [if_neg hm]
      exact ⟨fun i h1 h2 => by omega, hm⟩
theorem ldGet_mem {l : Ld} {who : Int} (h : inR who l.mem.length = true) : ldGet l who ∈ l.mem := by
  have hw : 0 ≤ who ∧ who < l.mem.length := by simpa [inR] using h
  unfold ldGet
  have hk : who.toNat < l.mem.length := by omega
  rw [List.getD_eq_getElem?_getD, List.getElem?_eq_getElem hk]
  exact List.getElem_mem hk
theorem ldErr0 {l : Ld} {who a : Int} (h : ldErr l who a = 0) : inR who l.mem.length = true ∧ 0 ≤ a ∧ a < l.words.length := by
  unfold ldErr at h
  split at h
  · cases h
  rename_i h1
  split at h
  · cases h
  split at h
  · cases h
  exact ⟨by simpa using h1, by omega, by omega⟩
theorem ldTake_words (l : Ld) (who a : Int) : (ldTake l who a).words = l.words := by
  unfold ldTake; split <;> rfl
theorem ldTake_len (l : Ld) (who a : Int) : (ldTake l who a).mem.length = l.mem.length := by
  unfold ldTake; split <;> simp
theorem ldInv_take {n : Nat} {l : Ld} (h : LdInv n l) (who a : Int) : LdInv n (ldTake l who a) := by
  unfold ldTake
  by_cases he : ldErr l who a = 0
  · rw [if_pos he]
    obtain ⟨h1, h2, h3⟩ := ldErr0 he
    have hg := ldGet_mem h1
    have hf := h.fit.2.2 _ hg
    have hh := h.had _ hg
    have hC : ∀ x ∈ setPut (ldGet l who).1 a, 0 ≤ x ∧ x < (l.words.length : Int) := fun x hx => by
      rcases mem_setPut.1 hx with hx | rfl
      · exact hf.2 x hx
      · omega
    have hle := ldAdv_le (setPut (ldGet l who).1 a) l.words.length (fun x hx => (hC x hx).2) (l.words.length - (ldGet l who).2) (ldGet l who).2 hf.1
    have hs := adv_spec (setPut (ldGet l who).1 a) l.words.length (fun x hx => (hC x hx).2) (l.words.length - (ldGet l who).2) (ldGet l who).2 (by omega)
    refine ⟨⟨h.fit.1, h.fit.2.1, fun m hm => ?_⟩, by simp [h.len], h.nodup, fun m hm => ?_⟩
    · rcases List.mem_or_eq_of_mem_set hm with hm | rfl
      · exact h.fit.2.2 m hm
      · exact ⟨hle.2, hC⟩
    · rcases List.mem_or_eq_of_mem_set hm with hm | rfl
      · exact h.had m hm
      · refine ⟨fun i hi => ?_, hs.2⟩
        by_cases e : i < (ldGet l who).2
        · exact mem_setPut.2 (.inl (hh.1 i e))
        · exact hs.1 i (by omega) hi
  · rw [if_neg he]; exact h
theorem begins_take (l : List Int) (k : Nat) : begins (l.take k) l = true := by
  have e : l.take k = l.take (l.take k).length := by
    rw [List.length_take]
    by_cases h : k ≤ l.length
    · rw [Nat.min_eq_left h]
    · rw [Nat.min_eq_right (by omega), List.take_of_length_le (by omega), List.take_length]
  have h1 : (l.take k).length ≤ l.length := by rw [List.length_take]; omega
  unfold begins
  rw [decide_eq_true h1, Bool.true_and]
  exact beq_iff_eq.2 e
/-- All of these places come to a member. -/
def takeAll (l : Ld) (who : Int) (xs : List Int) : Ld := xs.foldl (fun l x => ldTake l who x) l
theorem takeAll_snoc (l : Ld) (who : Int) (xs : List Int) (x : Int) : takeAll l who (xs ++ [x]) = ldTake (takeAll l who xs) who x := by simp [takeAll]
theorem takeAll_words (l : Ld) (who : Int) (xs : List Int) : (takeAll l who xs).words = l.words := by
  induction xs generalizing l with
  | nil => rfl
  | cons x r ih => show (takeAll (ldTake l who x) who r).words = _; rw [ih, ldTake_words]
theorem ldInv_takeAll {n : Nat} {l : Ld} (h : LdInv n l) (who : Int) (xs : List Int) : LdInv n (takeAll l who xs) := by
  induction xs generalizing l with
  | nil => exact h
  | cons x r ih => exact ih (ldInv_take h who x)
theorem ldErr_in {l : Ld} {who a : Int} (h1 : inR who l.mem.length = true) (h2 : 0 ≤ a) (h3 : a < l.words.length) : ldErr l who a = 0 := by
  unfold ldErr
  rw [h1, if_neg (by decide), if_neg (by omega), if_neg (by omega)]
theorem ldTake_come {l : Ld} {who a : Int} (he : ldErr l who a = 0) : ∀ x, x ∈ (ldGet (ldTake l who a) who).1 ↔ x ∈ (ldGet l who).1 ∨ x = a := by
  intro x
  have h1 := (ldErr0 he).1
  have hw : 0 ≤ who ∧ who < l.mem.length := by simpa [inR] using h1
  have : ldGet (ldTake l who a) who = (setPut (ldGet l who).1 a, ldFar l who a) := by
    unfold ldTake
    rw [if_pos he]
    have hk : who.toNat < l.mem.length := by omega
    simp [ldGet, hk]
  rw [this]
  exact mem_setPut
theorem takeAll_come {n : Nat} {l : Ld} (h : LdInv n l) {who : Int} (h1 : inR who n = true) : ∀ (xs : List Int), (∀ x ∈ xs, 0 ≤ x ∧ x < l.words.length) → ∀ x, x ∈ (ldGet (takeAll l who xs) who).1 ↔ x ∈ (ldGet l who).1 ∨ x ∈ xs := by
  intro xs
  induction xs generalizing l with
  | nil => intro _ x; simp [takeAll]
  | cons y r ih =>
    intro hx x
    have he : ldErr l who y = 0 := ldErr_in (by rw [h.len]; exact h1) (hx y (by simp)).1 (hx y (by simp)).2
    have := ih (ldInv_take h who y) (fun z hz => by rw [ldTake_words]; exact hx z (by simp [hz])) x
    show x ∈ (ldGet (takeAll (ldTake l who y) who r) who).1 ↔ _
    rw [this, ldTake_come he x]
    simp only [List.mem_cons]
    constructor
    · rintro ((h | h) | h)
      · exact .inl h
      · exact .inr (.inl h)
      · exact .inr (.inr h)
    · rintro (h | h | h)
      · exact .inl (.inl h)
      · exact .inl (.inr h)
      · exact .inr h
theorem ldLacks_mem {l : Ld} {who : Int} (h : inR who l.mem.length = true) (x : Int) : x ∈ ldLacks l who ↔ (0 ≤ x ∧ x < l.words.length) ∧ x ∉ (ldGet l who).1 := by
  unfold ldLacks
  rw [if_pos h]
  simp only [List.mem_filter, List.mem_map, List.mem_range, decide_eq_true_eq]
  constructor
  · rintro ⟨⟨i, hi, rfl⟩, h2⟩; exact ⟨by omega, h2⟩
  · rintro ⟨h1, h2⟩; exact ⟨⟨x.toNat, by omega, by omega⟩, h2⟩
theorem ldLacks_len {n : Nat} {l : Ld} (h : LdInv n l) (who : Int) : (ldLacks l who).length ≤ 30 := by
  unfold ldLacks
  split
  · refine Nat.le_trans (List.length_filter_le _ _) ?_
    have := h.le
    simpa using this
  · simp
/-- When what lacked has come, all is heard. -/
theorem takeAll_heard {n : Nat} {l : Ld} (h : LdInv n l) {who : Int} (h1 : inR who n = true) : ldHeard (takeAll l who (ldLacks l who)) who = l.words := by
  have hin : inR who l.mem.length = true := by rw [h.len]; exact h1
  have h2 := ldInv_takeAll h who (ldLacks l who)
  have hin2 : inR who (takeAll l who (ldLacks l who)).mem.length = true := by rw [h2.len]; exact h1
  have hc := takeAll_come h h1 (ldLacks l who) (fun x hx => ((ldLacks_mem hin x).1 hx).1)
  have hg := ldGet_mem hin2
  have hh := (h2.had _ hg).2
  have hf := (h2.fit.2.2 _ hg).1
  rw [takeAll_words] at hf
  have hL : (ldGet (takeAll l who (ldLacks l who)) who).2 = l.words.length := by
    rcases Nat.lt_or_ge (ldGet (takeAll l who (ldLacks l who)) who).2 l.words.length with hlt | hge
    · exfalso
      apply hh
      rw [hc]
      by_cases e : (((ldGet (takeAll l who (ldLacks l who)) who).2 : Nat) : Int) ∈ (ldGet l who).1
      · exact .inl e
      · exact .inr ((ldLacks_mem hin _).2 ⟨by omega, e⟩)
    · omega
  unfold ldHeard
  rw [if_pos hin2, hL, takeAll_words]
  simp
theorem ldHeard_begins (l : Ld) (who : Int) : begins (ldHeard l who) l.words = true := by
  unfold ldHeard
  split
  · exact begins_take _ _
  · simp [begins]
end Go.Proofs.YteelldblfmhjlaaDoor
