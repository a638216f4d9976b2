/- The vectors of a right history count who is ahead. -/
import Derived.Test.YtkgnjkokbiefgaaTopCutP
import Derived.Test.YtkgnjkokbiefgaaFacesNestP
namespace Go.Proofs.Ytkgnjkokbiefgaa
set_option linter.unusedVariables false
set_option linter.unusedSimpArgs false
open Go.RowKit
def cntF (p : Nat → Bool) (n : Nat) : Nat := ((List.range n).filter p).length
theorem cntF_succ (p : Nat → Bool) (n : Nat) : cntF p (n + 1) = cntF p n + if p n = true then 1 else 0 := by
  unfold cntF
  rw [List.range_succ, List.filter_append, List.length_append]
  congr 1
  cases hb : p n <;> simp [hb]
theorem cntF_sub {p q : Nat → Bool} (h : ∀ x, p x = true → q x = true) : ∀ n, cntF p n ≤ cntF q n
  | 0 => Nat.le_refl _
  | n + 1 => by
    have := cntF_sub h n
    rw [cntF_succ, cntF_succ]
    split
    · rename_i h1; rw [if_pos (h n h1)]; omega
    · omega
theorem cntF_add {p q : Nat → Bool} {k : Nat} {b : Bool} (h : ∀ x, q x = true ↔ p x = true ∨ (x = k ∧ b = true)) (hk : p k = false) : ∀ n, cntF q n = cntF p n + if k < n ∧ b = true then 1 else 0
  | 0 => by simp [cntF]
  | n + 1 => by
    have ih := cntF_add h hk n
    rw [cntF_succ, cntF_succ, ih]
    by_cases e : n = k
    · subst e
      rw [if_neg (by omega), if_neg (show ¬ p n = true by rw [hk]; simp)]
      by_cases hb : b = true
      · rw [if_pos ((h n).2 (.inr ⟨rfl, hb⟩)), if_pos ⟨by omega, hb⟩]
      · rw [if_neg (fun hh => by rcases (h n).1 hh with h1 | h1; rw [hk] at h1; cases h1; exact hb h1.2), if_neg (fun hh => hb hh.2)]
    · have hpq : q n = true ↔ p n = true := by
        rw [h n]
        exact ⟨fun hh => by rcases hh with h1 | h1; exact h1; exact absurd h1.1 e, .inl⟩
      by_cases hp : p n = true
      · rw [if_pos (hpq.2 hp), if_pos hp]
        by_cases hc : k < n ∧ b = true
        · rw [if_pos hc, if_pos ⟨by omega, hc.2⟩]
        · rw [if_neg hc, if_neg (fun hh => hc ⟨by omega, hh.2⟩)]
      · rw [if_neg (fun hh => hp (hpq.1 hh)), if_neg hp]
        by_cases hc : k < n ∧ b = true
        · rw [if_pos hc, if_pos ⟨by omega, hc.2⟩]
        · rw [if_neg hc, if_neg (fun hh => hc ⟨by omega, hh.2⟩)]
theorem cntF_union {p q r : Nat → Bool} {k n : Nat} {b : Bool} (h : ∀ x, r x = true ↔ (p x = true ∨ q x = true) ∨ (x = k ∧ b = true)) (hp : p k = false) (hq : q k = false) (hn : (∀ x, p x = true → q x = true) ∨ (∀ x, q x = true → p x = true)) (hk : k < n) :
    cntF r n = max (cntF p n) (cntF q n) + if b = true then 1 else 0 := by
  rcases hn with hn | hn
  · have h1 := cntF_add (p := q) (q := r) (k := k) (b := b) (fun x => by rw [h x]; exact ⟨fun hh => by rcases hh with (h2 | h2) | h2; exact .inl (hn x h2); exact .inl h2; exact .inr h2, fun hh => by rcases hh with h2 | h2; exact .inl (.inr h2); exact .inr h2⟩) hq n
    have h2 := cntF_sub hn n
    rw [h1, Nat.max_eq_right h2]
    by_cases hb : b = true
    · rw [if_pos hb, if_pos ⟨hk, hb⟩]
    · rw [if_neg hb, if_neg (fun hh => hb hh.2)]
  · have h1 := cntF_add (p := p) (q := r) (k := k) (b := b) (fun x => by rw [h x]; exact ⟨fun hh => by rcases hh with (h2 | h2) | h2; exact .inl h2; exact .inl (hn x h2); exact .inr h2, fun hh => by rcases hh with h2 | h2; exact .inl (.inl h2); exact .inr h2⟩) hp n
    have h2 := cntF_sub hn n
    rw [h1, Nat.max_eq_left h2]
    by_cases hb : b = true
    · rw [if_pos hb, if_pos ⟨hk, hb⟩]
    · rw [if_neg hb, if_neg (fun hh => hb hh.2)]
theorem vcN_cnt (h : List Ev) (k m : Nat) : vcN h k m = cntF (inPast h k (m : Int)) h.length := rfl
theorem inPast_self {h : List Ev} {i k : Nat} {m : Int} (hik : i < k) : inPast h i m k = false := by
  cases hb : inPast h i m k
  · rfl
  · have := inPast_lt hb; omega
theorem inPast_nested {h : List Ev} {i j : Nat} {m : Int} (hi : i < h.length) (hj : j < h.length) : (∀ x, inPast h i m x = true → inPast h j m x = true) ∨ (∀ x, inPast h j m x = true → inPast h i m x = true) := by
  by_cases hh : ∀ x, inPast h i m x = true → inPast h j m x = true
  · exact .inl hh
  · right
    have ⟨x, hx⟩ : ∃ x, ¬ (inPast h i m x = true → inPast h j m x = true) := Classical.not_forall.1 hh
    have hx1 : inPast h i m x = true := Classical.byContradiction fun hc => hx fun h2 => absurd h2 hc
    have hx2 : ¬ inPast h j m x = true := fun h2 => hx fun _ => h2
    have hxm : (evAt h x).1 = m := by unfold inPast at hx1; simp only [Bool.and_eq_true, decide_eq_true_eq] at hx1; exact hx1.1
    intro y hy
    have hym : (evAt h y).1 = m := by unfold inPast at hy; simp only [Bool.and_eq_true, decide_eq_true_eq] at hy; exact hy.1
    by_cases hxy : x ≤ y
    · exact absurd (inPast_down hj hy hxy hxm) hx2
    · exact inPast_down hi hx1 (by omega) hym
/-- Is x event j or ahead of it? -/
def pst (h : List Ev) (j x : Nat) : Prop := x = j ∨ bef h j x = true
theorem inPast_pst {h : List Ev} {k : Nat} {m : Int} {x : Nat} : inPast h k m x = true ↔ (evAt h x).1 = m ∧ pst h k x := by
  unfold inPast pst
  simp only [Bool.and_eq_true, Bool.or_eq_true, decide_eq_true_eq]
/-- What is ahead of an event: what its member had, and what it heard of. -/
theorem bef_split {h : List Ev} (hr : RightH h) {k : Nat} (hk : k < h.length) (x : Nat) :
    bef h k x = true ↔ (∃ j, j < k ∧ (evAt h j).1 = (evAt h k).1 ∧ pst h j x) ∨ ((evAt h k).2.1 = 3 ∧ pst h (saidAt (h.take k) (evAt h k).2.2).toNat x) := by
  rw [bef_iff h k x hk]
  constructor
  · rintro ⟨j, h1, h2, h3⟩
    unfold directB at h2
    simp only [Bool.or_eq_true, Bool.and_eq_true, decide_eq_true_eq] at h2
    have h3' : pst h j x := by rcases h3 with h3 | h3; exact .inl h3.symm; exact .inr h3
    rcases h2 with h2 | ⟨h2, h4, h5⟩
    · exact .inl ⟨j, h1, h2, h3'⟩
    · obtain ⟨i, hi, hs, h6, h7, _⟩ := hr.said hk h2
      have hij : i = j := hr.once (by omega) (by omega) h6 h4 (by rw [h7, h5])
      subst hij
      exact .inr ⟨h2, by rw [hs]; simpa using h3'⟩
  · rintro (⟨j, h1, h2, h3⟩ | ⟨h2, h3⟩)
    · exact ⟨j, h1, by unfold directB; simp [h2], by rcases h3 with h3 | h3; exact .inl h3.symm; exact .inr h3⟩
    · obtain ⟨i, hi, hs, h6, h7, _⟩ := hr.said hk h2
      rw [hs, Int.toNat_natCast] at h3
      exact ⟨i, hi, by unfold directB; simp [h2, h6, h7], by rcases h3 with h3 | h3; exact .inl h3.symm; exact .inr h3⟩
theorem zipMax_getD {a b : List Int} (ha : a.length = 5) (hb : b.length = 5) {m : Nat} (hm : m < 5) : (zipMax a b).getD m 0 = max (a.getD m 0) (b.getD m 0) := by
  have hl := zipMax_len a b (by rw [ha, hb])
  simp only [List.getD_eq_getElem?_getD]
  rw [List.getElem?_eq_getElem (by omega), List.getElem?_eq_getElem (by omega), List.getElem?_eq_getElem (by omega)]
  exact zipMax_get a b m (by omega) (by omega) (by omega)
theorem zero5_getD {m : Nat} (hm : m < 5) : zero5.getD m 0 = 0 := by
  match m, hm with
  | 0, _ => rfl
  | 1, _ => rfl
  | 2, _ => rfl
  | 3, _ => rfl
  | 4, _ => rfl
theorem cntF_none (n : Nat) : cntF (fun _ => false) n = 0 := by unfold cntF; simp
theorem vec_count {h : List Ev} (hr : RightH h) : ∀ k, k ≤ h.length → (∀ i, i < k → ∀ m, m < 5 → ((vecState h k).1.getD i []).getD m 0 = ((vcN h i m : Nat) : Int)) ∧
    (∀ w, w < 5 → ((∀ j, j < k → (evAt h j).1 ≠ ((w : Nat) : Int)) ∧ (vecState h k).2.getD w [] = []) ∨ ∃ j, j < k ∧ (evAt h j).1 = ((w : Nat) : Int) ∧ (∀ i, j < i → i < k → (evAt h i).1 ≠ ((w : Nat) : Int)) ∧ (vecState h k).2.getD w [] = (vecState h k).1.getD j [])
  | 0, _ => ⟨fun i hi => by omega, fun w hw => .inl ⟨fun j hj => by omega, by
      match w, hw with
      | 0, _ => rfl
      | 1, _ => rfl
      | 2, _ => rfl
      | 3, _ => rfl
      | 4, _ => rfl⟩⟩
  | k + 1, hk => by
    obtain ⟨ih1, ih2⟩ := vec_count hr k (by omega)
    have hkl : k < h.length := by omega
    obtain ⟨hl1, hl2⟩ := vecState_len h k
    obtain ⟨hi1, hi2⟩ := vecState_in hr k (by omega)
    have hv0 := vec0_in hi2 (evAt h k).1.toNat
    have hv1 := vec1_in hr hkl hl1 hi1 hi2
    have hwho := hr.who hkl
    obtain ⟨w, hw⟩ : ∃ w : Nat, (evAt h k).1 = (w : Int) := ⟨(evAt h k).1.toNat, by omega⟩
    have hw5 : w < 5 := by omega
    have hwt : (evAt h k).1.toNat = w := by omega
    rw [hwt] at hv0
    -- the own past
    obtain ⟨A, hA1, hA2, hA3, hA4⟩ : ∃ A : Nat → Nat → Bool, (∀ m, m < 5 → (vec0 (vecState h k) w).getD m 0 = ((cntF (A m) h.length : Nat) : Int)) ∧ (∀ m x, A m x = true ↔ (evAt h x).1 = (m : Int) ∧ ∃ j, j < k ∧ (evAt h j).1 = (evAt h k).1 ∧ pst h j x) ∧ (∀ m, A m k = false) ∧ (∀ m, (∀ x, A m x = false) ∨ ∃ j, j < k ∧ A m = inPast h j (m : Int)) := by
      rcases ih2 w hw5 with ⟨h1, h2⟩ | ⟨j, h1, h2, h3, h4⟩
      · refine ⟨fun _ _ => false, fun m hm => ?_, fun m x => ?_, fun _ => rfl, fun _ => .inl fun _ => rfl⟩
        · unfold vec0; rw [if_pos h2, zero5_getD hm, cntF_none]; rfl
        · constructor
          · intro hh; cases hh
          · rintro ⟨_, j, hj, hj2, _⟩; exact absurd (hj2.trans hw) (h1 j hj)
      · refine ⟨fun m => inPast h j (m : Int), fun m hm => ?_, fun m x => ?_, fun m => inPast_self h1, fun m => .inr ⟨j, h1, rfl⟩⟩
        · have hne : (vecState h k).1.getD j [] ≠ [] := by
            intro hh
            have := hi1 ((vecState h k).1.getD j []) (by rw [List.getD_eq_getElem?_getD, List.getElem?_eq_getElem (by omega)]; exact List.getElem_mem _)
            rw [hh] at this
            have := this.1
            cases this
          unfold vec0
          rw [if_neg (by rw [h4]; exact hne), h4, ih1 j h1 m hm, vcN_cnt]
        · rw [inPast_pst]
          constructor
          · rintro ⟨a, b⟩; exact ⟨a, j, h1, h2.trans hw.symm, b⟩
          · rintro ⟨a, i, b1, b2, b3⟩
            refine ⟨a, ?_⟩
            have hij : i ≤ j := Nat.le_of_not_lt fun hc => h3 i hc b1 (b2.trans hw)
            by_cases e : i = j
            · subst e; exact b3
            · have hd : bef h j i = true := (bef_iff h j i (by omega)).2 ⟨i, by omega, by unfold directB; simp [h2, b2, hw], .inl rfl⟩
              rcases b3 with b3 | b3
              · subst b3; exact .inr hd
              · exact .inr (bef_trans h j i x hd b3)
    -- what was heard of
    obtain ⟨B, hB1, hB2, hB3, hB4⟩ : ∃ B : Nat → Nat → Bool, (∀ m, m < 5 → (vec1 h k (vecState h k)).getD m 0 = ((max (cntF (A m) h.length) (cntF (B m) h.length) : Nat) : Int)) ∧ (∀ m x, B m x = true ↔ (evAt h x).1 = (m : Int) ∧ (evAt h k).2.1 = 3 ∧ pst h (saidAt (h.take k) (evAt h k).2.2).toNat x) ∧ (∀ m, B m k = false) ∧ (∀ m, (∀ x, B m x = false) ∨ ∃ j, j < k ∧ B m = inPast h j (m : Int)) := by
      by_cases h3 : (evAt h k).2.1 = 3
      · obtain ⟨i, hik, hs, _⟩ := hr.said hkl h3
        refine ⟨fun m => inPast h i (m : Int), fun m hm => ?_, fun m x => ?_, fun m => inPast_self hik, fun m => .inr ⟨i, hik, rfl⟩⟩
        · show _ = ((max (cntF (A m) h.length) (cntF (inPast h i (m : Int)) h.length) : Nat) : Int)
          unfold vec1
          rw [if_pos h3, hwt, hs, Int.toNat_natCast, zipMax_getD hv0.1 (hi1 _ (by rw [List.getD_eq_getElem?_getD, List.getElem?_eq_getElem (by omega)]; exact List.getElem_mem _)).1 hm, hA1 m hm, ih1 i hik m hm, vcN_cnt, Int.max_def, Nat.max_def]
          split <;> split <;> omega
        · rw [inPast_pst, hs, Int.toNat_natCast]
          exact ⟨fun ⟨a, b⟩ => ⟨a, h3, b⟩, fun ⟨a, _, b⟩ => ⟨a, b⟩⟩
      · refine ⟨fun _ _ => false, fun m hm => ?_, fun m x => ?_, fun _ => rfl, fun _ => .inl fun _ => rfl⟩
        · unfold vec1
          rw [if_neg h3, hwt, hA1 m hm, cntF_none, Nat.max_zero]
        · constructor
          · intro hh; cases hh
          · rintro ⟨_, hh, _⟩; exact absurd hh h3
    have hcount : ∀ m, m < 5 → (vecNext h k (vecState h k)).getD m 0 = ((vcN h k m : Nat) : Int) := by
      intro m hm
      have hun := cntF_union (p := A m) (q := B m) (r := inPast h k (m : Int)) (k := k) (n := h.length) (b := decide (m = w)) (fun x => by
        rw [inPast_pst, hA2, hB2]
        unfold pst
        rw [bef_split hr hkl x]
        constructor
        · rintro ⟨a, b | b | b⟩
          · subst b; exact .inr ⟨rfl, by rw [hw] at a; simp; omega⟩
          · exact .inl (.inl ⟨a, b⟩)
          · exact .inl (.inr ⟨a, b⟩)
        · rintro ((⟨a, b⟩ | ⟨a, b⟩) | ⟨a, b⟩)
          · exact ⟨a, .inr (.inl b)⟩
          · exact ⟨a, .inr (.inr b)⟩
          · subst a; exact ⟨by rw [hw]; have := of_decide_eq_true b; omega, .inl rfl⟩) (hA3 m) (hB3 m) (by
        rcases hA4 m with ha | ⟨j, hj, ha⟩
        · exact .inl (fun x hx => by rw [ha x] at hx; cases hx)
        · rcases hB4 m with hb | ⟨i, hi, hb⟩
          · exact .inr (fun x hx => by rw [hb x] at hx; cases hx)
          · rw [ha, hb]; exact inPast_nested (by omega) (by omega)) hkl
      rw [vcN_cnt, hun]
      unfold vecNext
      rw [hwt, hB1 w hw5]
      by_cases hmw : m = w
      · subst hmw
        rw [List.getD_eq_getElem?_getD, List.getElem?_set, if_pos rfl, if_pos (by rw [hv1.1]; exact hm), if_pos (by simp)]
        simp
      · rw [List.getD_eq_getElem?_getD, List.getElem?_set, if_neg (fun e => hmw e.symm), ← List.getD_eq_getElem?_getD, hB1 m hm, if_neg (by simpa using hmw)]
        simp
    have hget : ∀ i, i < k → (vecState h (k + 1)).1.getD i [] = (vecState h k).1.getD i [] := fun i hi => by
      simp only [vecState, List.getD_eq_getElem?_getD]
      rw [List.getElem?_append_left (by omega)]
    have hgetk : (vecState h (k + 1)).1.getD k [] = vecNext h k (vecState h k) := by
      simp only [vecState, List.getD_eq_getElem?_getD]
      rw [List.getElem?_append_right (by omega), hl1]; simp
    refine ⟨fun i hi m hm => ?_, fun w' hw' => ?_⟩
    · by_cases hik : i < k
      · rw [hget i hik]; exact ih1 i hik m hm
      · have : i = k := by omega
        subst this
        rw [hgetk]; exact hcount m hm
    · have hset : (vecState h (k + 1)).2.getD w' [] = if w = w' then vecNext h k (vecState h k) else (vecState h k).2.getD w' [] := by
        simp only [vecState, hwt, List.getD_eq_getElem?_getD, List.getElem?_set]
        by_cases e : w = w'
        · rw [if_pos e, if_pos (by omega), if_pos e]; rfl
        · rw [if_neg e, if_neg e]
      by_cases e : w = w'
      · subst e
        exact .inr ⟨k, by omega, hw, fun i h1 h2 => by omega, by rw [hset, if_pos rfl, hgetk]⟩
      · rw [hset, if_neg e]
        rcases ih2 w' hw' with ⟨h1, h2⟩ | ⟨j, h1, h2, h3, h4⟩
        · refine .inl ⟨fun j hj => ?_, h2⟩
          by_cases hjk : j < k
          · exact h1 j hjk
          · have : j = k := by omega
            subst this; rw [hw]; omega
        · refine .inr ⟨j, by omega, h2, fun i h5 h6 => ?_, by rw [h4, hget j h1]⟩
          by_cases hik : i < k
          · exact h3 i h5 hik
          · have : i = k := by omega
            subst this; rw [hw]; omega
end Go.Proofs.Ytkgnjkokbiefgaa
