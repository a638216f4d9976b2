/- Vectors count who is ahead (Fidge, Mattern): plain laws. -/
import Derived.Test.YtdfjbnfdknpahaaGreatDoorMRunAnswers10
import Derived.Test.YtdfjbnfdknpahaaGreatDoorMRunAnswers9
import Derived.Test.YtdfjbnfdknpahaaGreatDoorMRunAnswers12
import Derived.Test.YtdfjbnfdknpahaaGreatDoorMRunAnswers1
namespace Go.Proofs.YtdfjbnfdknpahaaGreatDoor
set_option linter.unusedVariables false
set_option linter.unusedSimpArgs false
open Go.RowKit
/-- Is event j event k, or ahead of it, and member m's? -/
def inPast (h : List Ev) (k : Nat) (m : Int) (j : Nat) : Bool := decide ((evAt h j).1 = m) && (decide (j = k) || bef h k j)
/-- How many of the first n events are. -/
def pastN (h : List Ev) (k : Nat) (m : Int) (n : Nat) : Nat := ((List.range n).filter (inPast h k m)).length
theorem pastN_zero (h : List Ev) (k : Nat) (m : Int) : pastN h k m 0 = 0 := rfl
theorem pastN_succ (h : List Ev) (k : Nat) (m : Int) (n : Nat) : pastN h k m (n + 1) = pastN h k m n + if inPast h k m n = true then 1 else 0 := by
  unfold pastN
  rw [List.range_succ, List.filter_append, List.length_append]
  congr 1
  cases hb : inPast h k m n <;> simp [hb]
theorem pastN_mono (h : List Ev) (k : Nat) (m : Int) : ∀ {a b : Nat}, a ≤ b → pastN h k m a ≤ pastN h k m b := by
  intro a b hab
  obtain ⟨d, rfl⟩ : ∃ d, b = a + d := ⟨b - a, by omega⟩
  clear hab
  induction d with
  | zero => exact Nat.le_refl _
  | succ d ih => rw [← Nat.add_assoc, pastN_succ]; split <;> omega
theorem inPast_lt {h : List Ev} {k : Nat} {m : Int} {j : Nat} (hj : inPast h k m j = true) : j ≤ k := by
  unfold inPast at hj
  simp only [Bool.and_eq_true, Bool.or_eq_true, decide_eq_true_eq] at hj
  rcases hj.2 with h1 | h1
  · omega
  · have := bef_lt h k j h1; omega
theorem pastN_stop (h : List Ev) (k : Nat) (m : Int) {n : Nat} (hn : k + 1 ≤ n) : pastN h k m n = pastN h k m (k + 1) := by
  obtain ⟨d, rfl⟩ : ∃ d, n = k + 1 + d := ⟨n - (k + 1), by omega⟩
  clear hn
  induction d with
  | zero => rfl
  | succ d ih =>
    rw [← Nat.add_assoc, pastN_succ, ih, if_neg]
    · rfl
    · intro hh; have := inPast_lt hh; omega
/-- What is ahead is closed downward among a member's events. -/
theorem inPast_down {h : List Ev} {k : Nat} {m : Int} {i j : Nat} (hk : k < h.length) (hj : inPast h k m j = true) (hij : i ≤ j) (hi : (evAt h i).1 = m) : inPast h k m i = true := by
  have hjk := inPast_lt hj
  unfold inPast at hj ⊢
  simp only [Bool.and_eq_true, Bool.or_eq_true, decide_eq_true_eq] at hj ⊢
  refine ⟨hi, ?_⟩
  by_cases e : i = j
  · subst e; exact hj.2
  · have hd : bef h j i = true := (bef_iff h j i (by omega)).2 ⟨i, by omega, by unfold directB; simp [hi, hj.1], .inl rfl⟩
    rcases hj.2 with h1 | h1
    · subst h1; exact .inr hd
    · exact .inr (bef_trans h k j i h1 hd)
theorem pastN_le_cnt (h : List Ev) (k : Nat) (m : Int) : ∀ n, n ≤ h.length → pastN h k m n ≤ cnt h m n
  | 0, _ => by simp [pastN_zero]
  | n + 1, hn => by
    have ih := pastN_le_cnt h k m n (by omega)
    rw [pastN_succ, cnt_succ h m n (by omega)]
    have : inPast h k m n = true → h[n].1 = m := fun hh => by
      unfold inPast at hh
      simp only [Bool.and_eq_true, decide_eq_true_eq] at hh
      rw [← evAt_get (by omega)]; exact hh.1
    split
    · rename_i h1; rw [if_pos (this h1)]; omega
    · omega
/-- Up to an event that is in it all of that member's are. -/
theorem pastN_full {h : List Ev} {k : Nat} {m : Int} {i : Nat} (hk : k < h.length) (hi : inPast h k m i = true) : ∀ n, n ≤ i + 1 → pastN h k m n = cnt h m n
  | 0, _ => by simp [pastN_zero, cnt_zero]
  | n + 1, hn => by
    have ih := pastN_full hk hi n (by omega)
    have hik := inPast_lt hi
    rw [pastN_succ, cnt_succ h m n (by omega), ih, ← evAt_get (by omega)]
    congr 1
    by_cases he : (evAt h n).1 = m
    · rw [if_pos he, if_pos (inPast_down hk hi (by omega) he)]
    · rw [if_neg he, if_neg]
      intro hh
      unfold inPast at hh
      simp only [Bool.and_eq_true, decide_eq_true_eq] at hh
      exact he hh.1
/-- Behind an event of a member that is not in it there is none. -/
theorem pastN_none {h : List Ev} {k : Nat} {m : Int} {i : Nat} (hk : k < h.length) (him : (evAt h i).1 = m) (hi : inPast h k m i = false) : ∀ n, i ≤ n → pastN h k m n = pastN h k m i := by
  intro n hn
  obtain ⟨d, rfl⟩ : ∃ d, n = i + d := ⟨n - i, by omega⟩
  clear hn
  induction d with
  | zero => rfl
  | succ d ih =>
    rw [← Nat.add_assoc, pastN_succ, ih, if_neg]
    · rfl
    · intro hh
      rw [inPast_down hk hh (by omega) him] at hi; cases hi
/-- An event is in the past of another one just if that has counted it. -/
theorem inPast_iff {h : List Ev} {k i : Nat} (hk : k < h.length) (hi : i < h.length) : inPast h k (evAt h i).1 i = true ↔ cnt h (evAt h i).1 (i + 1) ≤ pastN h k (evAt h i).1 h.length := by
  have hc := cnt_succ h (evAt h i).1 i hi
  rw [← evAt_get hi, if_pos rfl] at hc
  constructor
  · intro h1
    rw [← pastN_full hk h1 (i + 1) (Nat.le_refl _)]
    exact pastN_mono h k _ (by omega)
  · intro h1
    cases hb : inPast h k (evAt h i).1 i
    · exfalso
      rw [pastN_none hk rfl hb h.length (by omega)] at h1
      have := pastN_le_cnt h k (evAt h i).1 i (by omega)
      omega
    · rfl
/-- The number of member m's events in the past of an event. -/
def vcN (h : List Ev) (k m : Nat) : Nat := pastN h k (m : Int) h.length
/-- A cut could have been just if no event that it takes has counted more of a member than it takes. -/
theorem cut_iff {h : List Ev} (hr : RightH h) {many : List Int} (hm : many.length = 5) (hc : cutErr h many = 0) :
    cutB h many = true ↔ ∀ k, k < h.length → takenB h many k = true → ∀ m, m < 5 → ((vcN h k m : Nat) : Int) ≤ many.getD m 0 := by
  have hpos : ∀ m, m < 5 → 0 ≤ many.getD m 0 := by
    intro m hm5
    unfold cutErr at hc
    split at hc
    · rename_i h1; exact absurd hc h1
    split at hc
    · cases hc
    split at hc
    · cases hc
    rename_i _ _ h3
    have h4 : cutBadAt h many m = false := by
      cases hb : cutBadAt h many m
      · rfl
      · exact absurd (List.any_eq_true.2 ⟨m, List.mem_range.2 hm5, hb⟩) h3
    unfold cutBadAt at h4
    simp only [Bool.or_eq_false_iff, decide_eq_false_iff_not] at h4
    omega
  unfold cutB
  rw [decide_eq_true_eq]
  constructor
  · intro hcut k hk ht m hm5
    have hp := hpos m hm5
    -- the last one in the past of k
    have key : ∀ n, n ≤ h.length → ((pastN h k (m : Int) n : Nat) : Int) ≤ many.getD m 0 := by
      intro n
      induction n with
      | zero => intro _; rw [pastN_zero]; exact hp
      | succ n ih =>
        intro hn
        by_cases hb : inPast h k (m : Int) n = true
        · have hfull := pastN_full hk hb (n + 1) (Nat.le_refl _)
          rw [hfull]
          have hwho : (evAt h n).1 = (m : Int) := by
            unfold inPast at hb; simp only [Bool.and_eq_true, decide_eq_true_eq] at hb; exact hb.1
          have htn : takenB h many n = true := by
            unfold inPast at hb
            simp only [Bool.and_eq_true, Bool.or_eq_true, decide_eq_true_eq] at hb
            rcases hb.2 with e | e
            · subst e; exact ht
            · exact hcut k hk ht n (bef_lt h k n e) e
          unfold takenB at htn
          rw [hwho, decide_eq_true_eq, Int.toNat_natCast] at htn
          rw [cnt_succ h _ n (by omega), ← evAt_get (by omega), if_pos hwho]
          omega
        · rw [pastN_succ, if_neg hb]
          exact ih (by omega)
    exact key h.length (Nat.le_refl _)
  · intro hle k hk ht i hik hb
    have hi : i < h.length := by omega
    have hw := hr.who hi
    have h1 : inPast h k (evAt h i).1 i = true := by unfold inPast; simp [hb]
    have h2 := (inPast_iff hk hi).1 h1
    have h3 := hle k hk ht (evAt h i).1.toNat (by omega)
    unfold vcN at h3
    rw [show (((evAt h i).1.toNat : Nat) : Int) = (evAt h i).1 from by omega] at h3
    have hc := cnt_succ h (evAt h i).1 i hi
    rw [← evAt_get hi, if_pos rfl] at hc
    unfold takenB
    rw [decide_eq_true_eq]
    omega
end Go.Proofs.YtdfjbnfdknpahaaGreatDoor
/- The vectors of a right history count who is ahead. -/
namespace Go.Proofs.YtdfjbnfdknpahaaGreatDoor
set_option linter.unusedVariables false
set_option linter.unusedSimpArgs false
open Go.RowKit
def cntF (p : Nat → Bool) (n : Nat) : Nat := ((List.range n).filter p).length
theorem cntF_succ (p : Nat → Bool) (n : Nat) : cntF p (n + 1) = cntF p n + if p n = true then 1 else 0 := by
  unfold cntF
  rw [List.range_succ, List.filter_append, List.length_append]
  congr 1
  cases hb : p n <;> simp [hb]
theorem cntF_sub {p q : Nat → Bool} (h : ∀ x, p x = true → q x = true) : ∀ n, cntF p n ≤ cntF q n
  | 0 => Nat.le_refl _
  | n + 1 => by
    have := cntF_sub h n
    rw [cntF_succ, cntF_succ]
    split
    · rename_i h1; rw [if_pos (h n h1)]; omega
    · omega
theorem cntF_add {p q : Nat → Bool} {k : Nat} {b : Bool} (h : ∀ x, q x = true ↔ p x = true ∨ (x = k ∧ b = true)) (hk : p k = false) : ∀ n, cntF q n = cntF p n + if k < n ∧ b = true then 1 else 0
  | 0 => by simp [cntF]
  | n + 1 => by
    have ih := cntF_add h hk n
    rw [cntF_succ, cntF_succ, ih]
    by_cases e : n = k
    · subst e
      rw [if_neg (by omega), if_neg (show ¬ p n = true by rw [hk]; simp)]
      by_cases hb : b = true
      · rw [if_pos ((h n).2 (.inr ⟨rfl, hb⟩)), if_pos ⟨by omega, hb⟩]
      · rw [if_neg (fun hh => by rcases (h n).1 hh with h1 | h1; rw [hk] at h1; cases h1; exact hb h1.2), if_neg (fun hh => hb hh.2)]
    · have hpq : q n = true ↔ p n = true := by
        rw [h n]
        exact ⟨fun hh => by rcases hh with h1 | h1; exact h1; exact absurd h1.1 e, .inl⟩
      by_cases hp : p n = true
      · rw [if_pos (hpq.2 hp), if_pos hp]
        by_cases hc : k < n ∧ b = true
        · rw [if_pos hc, if_pos ⟨by omega, hc.2⟩]
        · rw [if_neg hc, if_neg (fun hh => hc ⟨by omega, hh.2⟩)]
      · rw [if_neg (fun hh => hp (hpq.1 hh)), if_neg hp]
        by_cases hc : k < n ∧ b = true
        · rw [if_pos hc, if_pos ⟨by omega, hc.2⟩]
        · rw [if_neg hc, if_neg (fun hh => hc ⟨by omega, hh.2⟩)]
theorem cntF_union {p q r : Nat → Bool} {k n : Nat} {b : Bool} (h : ∀ x, r x = true ↔ (p x = true ∨ q x = true) ∨ (x = k ∧ b = true)) (hp : p k = false) (hq : q k = false) (hn : (∀ x, p x = true → q x = true) ∨ (∀ x, q x = true → p x = true)) (hk : k < n) :
    cntF r n = max (cntF p n) (cntF q n) + if b = true then 1 else 0 := by
  rcases hn with hn | hn
  · have h1 := cntF_add (p := q) (q := r) (k := k) (b := b) (fun x => by rw [h x]; exact ⟨fun hh => by rcases hh with (h2 | h2) | h2; exact .inl (hn x h2); exact .inl h2; exact .inr h2, fun hh => by rcases hh with h2 | h2; exact .inl (.inr h2); exact .inr h2⟩) hq n
    have h2 := cntF_sub hn n
    rw [h1, Nat.max_eq_right h2]
    by_cases hb : b = true
    · rw [if_pos hb, if_pos ⟨hk, hb⟩]
    · rw [if_neg hb, if_neg (fun hh => hb hh.2)]
  · have h1 := cntF_add (p := p) (q := r) (k := k) (b := b) (fun x => by rw [h x]; exact ⟨fun hh => by rcases hh with (h2 | h2) | h2; exact .inl h2; exact .inl (hn x h2); exact .inr h2, fun hh => by rcases hh with h2 | h2; exact .inl (.inl h2); exact .inr h2⟩) hp n
    have h2 := cntF_sub hn n
    rw [h1, Nat.max_eq_left h2]
    by_cases hb : b = true
    · rw [if_pos hb, if_pos ⟨hk, hb⟩]
    · rw [if_neg hb, if_neg (fun hh => hb hh.2)]
theorem vcN_cnt (h : List Ev) (k m : Nat) : vcN h k m = cntF (inPast h k (m : Int)) h.length := rfl
theorem inPast_self {h : List Ev} {i k : Nat} {m : Int} (hik : i < k) : inPast h i m k = false := by
  cases hb : inPast h i m k
  · rfl
  · have := inPast_lt hb; omega
theorem inPast_nested {h : List Ev} {i j : Nat} {m : Int} (hi : i < h.length) (hj : j < h.length) : (∀ x, inPast h i m x = true → inPast h j m x = true) ∨ (∀ x, inPast h j m x = true → inPast h i m x = true) := by
  by_cases hh : ∀ x, inPast h i m x = true → inPast h j m x = true
  · exact .inl hh
  · right
    have ⟨x, hx⟩ : ∃ x, ¬ (inPast h i m x = true → inPast h j m x = true) := Classical.not_forall.1 hh
    have hx1 : inPast h i m x = true := Classical.byContradiction fun hc => hx fun h2 => absurd h2 hc
    have hx2 : ¬ inPast h j m x = true := fun h2 => hx fun _ => h2
    have hxm : (evAt h x).1 = m := by unfold inPast at hx1; simp only [Bool.and_eq_true, decide_eq_true_eq] at hx1; exact hx1.1
    intro y hy
    have hym : (evAt h y).1 = m := by unfold inPast at hy; simp only [Bool.and_eq_true, decide_eq_true_eq] at hy; exact hy.1
    by_cases hxy : x ≤ y
    · exact absurd (inPast_down hj hy hxy hxm) hx2
    · exact inPast_down hi hx1 (by omega) hym
/-- Is x event j or ahead of it? -/
def pst (h : List Ev) (j x : Nat) : Prop := x = j ∨ bef h j x = true
theorem inPast_pst {h : List Ev} {k : Nat} {m : Int} {x : Nat} : inPast h k m x = true ↔ (evAt h x).1 = m ∧ pst h k x := by
  unfold inPast pst
  simp only [Bool.and_eq_true, Bool.or_eq_true, decide_eq_true_eq]
/-- What is ahead of an event: what its member had, and what it heard of. -/
theorem bef_split {h : List Ev} (hr : RightH h) {k : Nat} (hk : k < h.length) (x : Nat) :
    bef h k x = true ↔ (∃ j, j < k ∧ (evAt h j).1 = (evAt h k).1 ∧ pst h j x) ∨ ((evAt h k).2.1 = 3 ∧ pst h (saidAt (h.take k) (evAt h k).2.2).toNat x) := by
  rw [bef_iff h k x hk]
  constructor
  · rintro ⟨j, h1, h2, h3⟩
    unfold directB at h2
    simp only [Bool.or_eq_true, Bool.and_eq_true, decide_eq_true_eq] at h2
    have h3' : pst h j x := by rcases h3 with h3 | h3; exact .inl h3.symm; exact .inr h3
    rcases h2 with h2 | ⟨h2, h4, h5⟩
    · exact .inl ⟨j, h1, h2, h3'⟩
    · obtain ⟨i, hi, hs, h6, h7, _⟩ := hr.said hk h2
      have hij : i = j := hr.once (by omega) (by omega) h6 h4 (by rw [h7, h5])
      subst hij
      exact .inr ⟨h2, by rw [hs]; simpa using h3'⟩
  · rintro (⟨j, h1, h2, h3⟩ | ⟨h2, h3⟩)
    · exact ⟨j, h1, by unfold directB; simp [h2], by rcases h3 with h3 | h3; exact .inl h3.symm; exact .inr h3⟩
    · obtain ⟨i, hi, hs, h6, h7, _⟩ := hr.said hk h2
      rw [hs, Int.toNat_natCast] at h3
      exact ⟨i, hi, by unfold directB; simp [h2, h6, h7], by rcases h3 with h3 | h3; exact .inl h3.symm; exact .inr h3⟩
theorem zipMax_getD {a b : List Int} (ha : a.length = 5) (hb : b.length = 5) {m : Nat} (hm : m < 5) : (zipMax a b).getD m 0 = max (a.getD m 0) (b.getD m 0) := by
  have hl := zipMax_len a b (by rw [ha, hb])
  simp only [List.getD_eq_getElem?_getD]
  rw [List.getElem?_eq_getElem (by omega), List.getElem?_eq_getElem (by omega), List.getElem?_eq_getElem (by omega)]
  exact zipMax_get a b m (by omega) (by omega) (by omega)
theorem zero5_getD {m : Nat} (hm : m < 5) : zero5.getD m 0 = 0 := by
  match m, hm with
  | 0, _ => rfl
  | 1, _ => rfl
  | 2, _ => rfl
  | 3, _ => rfl
  | 4, _ => rfl
theorem cntF_none (n : Nat) : cntF (fun _ => false) n = 0 := by unfold cntF; simp
theorem vec_count {h : List Ev} (hr : RightH h) : ∀ k, k ≤ h.length → (∀ i, i < k → ∀ m, m < 5 → ((vecState h k).1.getD i []).getD m 0 = ((vcN h i m : Nat) : Int)) ∧
    (∀ w, w < 5 → ((∀ j, j < k → (evAt h j).1 ≠ ((w : Nat) : Int)) ∧ (vecState h k).2.getD w [] = []) ∨ ∃ j, j < k ∧ (evAt h j).1 = ((w : Nat) : Int) ∧ (∀ i, j < i → i < k → (evAt h i).1 ≠ ((w : Nat) : Int)) ∧ (vecState h k).2.getD w [] = (vecState h k).1.getD j [])
  | 0, _ => ⟨fun i hi => by omega, fun w hw => .inl ⟨fun j hj => by omega, by
      match w, hw with
      | 0, _ => rfl
      | 1, _ => rfl
      | 2, _ => rfl
      | 3, _ => rfl
      | 4, _ => rfl⟩⟩
  | k + 1, hk => by
    obtain ⟨ih1, ih2⟩ := vec_count hr k (by omega)
    have hkl : k < h.length := by omega
    obtain ⟨hl1, hl2⟩ := vecState_len h k
    obtain ⟨hi1, hi2⟩ := vecState_in hr k (by omega)
    have hv0 := vec0_in hi2 (evAt h k).1.toNat
    have hv1 := vec1_in hr hkl hl1 hi1 hi2
    have hwho := hr.who hkl
    obtain ⟨w, hw⟩ : ∃ w : Nat, (evAt h k).1 = (w : Int) := ⟨(evAt h k).1.toNat, by omega⟩
    have hw5 : w < 5 := by omega
    have hwt : (evAt h k).1.toNat = w := by omega
    rw [hwt] at hv0
    -- the own past
    obtain ⟨A, hA1, hA2, hA3, hA4⟩ : ∃ A : Nat → Nat → Bool, (∀ m, m < 5 → (vec0 (vecState h k) w).getD m 0 = ((cntF (A m) h.length : Nat) : Int)) ∧ (∀ m x, A m x = true ↔ (evAt h x).1 = (m : Int) ∧ ∃ j, j < k ∧ (evAt h j).1 = (evAt h k).1 ∧ pst h j x) ∧ (∀ m, A m k = false) ∧ (∀ m, (∀ x, A m x = false) ∨ ∃ j, j < k ∧ A m = inPast h j (m : Int)) := by
      rcases ih2 w hw5 with ⟨h1, h2⟩ | ⟨j, h1, h2, h3, h4⟩
      · refine ⟨fun _ _ => false, fun m hm => ?_, fun m x => ?_, fun _ => rfl, fun _ => .inl fun _ => rfl⟩
        · unfold vec0; rw [if_pos h2, zero5_getD hm, cntF_none]; rfl
        · constructor
          · intro hh; cases hh
          · rintro ⟨_, j, hj, hj2, _⟩; exact absurd (hj2.trans hw) (h1 j hj)
      · refine ⟨fun m => inPast h j (m : Int), fun m hm => ?_, fun m x => ?_, fun m => inPast_self h1, fun m => .inr ⟨j, h1, rfl⟩⟩
        · have hne : (vecState h k).1.getD j [] ≠ [] := by
            intro hh
            have := hi1 ((vecState h k).1.getD j []) (by rw [List.getD_eq_getElem?_getD, List.getElem?_eq_getElem (by omega)]; exact List.getElem_mem _)
            rw [hh] at this
            have := this.1
            cases this
          unfold vec0
          rw [if_neg (by rw [h4]; exact hne), h4, ih1 j h1 m hm, vcN_cnt]
        · rw [inPast_pst]
          constructor
          · rintro ⟨a, b⟩; exact ⟨a, j, h1, h2.trans hw.symm, b⟩
          · rintro ⟨a, i, b1, b2, b3⟩
            refine ⟨a, ?_⟩
            have hij : i ≤ j := Nat.le_of_not_lt fun hc => h3 i hc b1 (b2.trans hw)
            by_cases e : i = j
            · subst e; exact b3
            · have hd : bef h j i = true := (bef_iff h j i (by omega)).2 ⟨i, by omega, by unfold directB; simp [h2, b2, hw], .inl rfl⟩
              rcases b3 with b3 | b3
              · subst b3; exact .inr hd
              · exact .inr (bef_trans h j i x hd b3)
    -- what was heard of
    obtain ⟨B, hB1, hB2, hB3, hB4⟩ : ∃ B : Nat → Nat → Bool, (∀ m, m < 5 → (vec1 h k (vecState h k)).getD m 0 = ((max (cntF (A m) h.length) (cntF (B m) h.length) : Nat) : Int)) ∧ (∀ m x, B m x = true ↔ (evAt h x).1 = (m : Int) ∧ (evAt h k).2.1 = 3 ∧ pst h (saidAt (h.take k) (evAt h k).2.2).toNat x) ∧ (∀ m, B m k = false) ∧ (∀ m, (∀ x, B m x = false) ∨ ∃ j, j < k ∧ B m = inPast h j (m : Int)) := by
      by_cases h3 : (evAt h k).2.1 = 3
      · obtain ⟨i, hik, hs, _⟩ := hr.said hkl h3
        refine ⟨fun m => inPast h i (m : Int), fun m hm => ?_, fun m x => ?_, fun m => inPast_self hik, fun m => .inr ⟨i, hik, rfl⟩⟩
        · show _ = ((max (cntF (A m) h.length) (cntF (inPast h i (m : Int)) h.length) : Nat) : Int)
          unfold vec1
          rw [if_pos h3, hwt, hs, Int.toNat_natCast, zipMax_getD hv0.1 (hi1 _ (by rw [List.getD_eq_getElem?_getD, List.getElem?_eq_getElem (by omega)]; exact List.getElem_mem _)).1 hm, hA1 m hm, ih1 i hik m hm, vcN_cnt, Int.max_def, Nat.max_def]
          split <;> split <;> omega
        · rw [inPast_pst, hs, Int.toNat_natCast]
          exact ⟨fun ⟨a, b⟩ => ⟨a, h3, b⟩, fun ⟨a, _, b⟩ => ⟨a, b⟩⟩
      · refine ⟨fun _ _ => false, fun m hm => ?_, fun m x => ?_, fun _ => rfl, fun _ => .inl fun _ => rfl⟩
        · unfold vec1
          rw [if_neg h3, hwt, hA1 m hm, cntF_none, Nat.max_zero]
        · constructor
          · intro hh; cases hh
          · rintro ⟨_, hh, _⟩; exact absurd hh h3
    have hcount : ∀ m, m < 5 → (vecNext h k (vecState h k)).getD m 0 = ((vcN h k m : Nat) : Int) := by
      intro m hm
      have hun := cntF_union (p := A m) (q := B m) (r := inPast h k (m : Int)) (k := k) (n := h.length) (b := decide (m = w)) (fun x => by
        rw [inPast_pst, hA2, hB2]
        unfold pst
        rw [bef_split hr hkl x]
        constructor
        · rintro ⟨a, b | b | b⟩
          · subst b; exact .inr ⟨rfl, by rw [hw] at a; simp; omega⟩
          · exact .inl (.inl ⟨a, b⟩)
          · exact .inl (.inr ⟨a, b⟩)
        · rintro ((⟨a, b⟩ | ⟨a, b⟩) | ⟨a, b⟩)
          · exact ⟨a, .inr (.inl b)⟩
          · exact ⟨a, .inr (.inr b)⟩
          · subst a; exact ⟨by rw [hw]; have := of_decide_eq_true b; omega, .inl rfl⟩) (hA3 m) (hB3 m) (by
        rcases hA4 m with ha | ⟨j, hj, ha⟩
        · exact .inl (fun x hx => by rw [ha x] at hx; cases hx)
        · rcases hB4 m with hb | ⟨i, hi, hb⟩
          · exact .inr (fun x hx => by rw [hb x] at hx; cases hx)
          · rw [ha, hb]; exact inPast_nested (by omega) (by omega)) hkl
      rw [vcN_cnt, hun]
      unfold vecNext
      rw [hwt, hB1 w hw5]
      by_cases hmw : m = w
      · subst hmw
        rw [List.getD_eq_getElem?_getD, List.getElem?_set, if_pos rfl, if_pos (by rw [hv1.1]; exact hm), if_pos (by simp)]
        simp
      · rw [List.getD_eq_getElem?_getD, List.getElem?_set, if_neg (fun e => hmw e.symm), ← List.getD_eq_getElem?_getD, hB1 m hm, if_neg (by simpa using hmw)]
        simp
    have hget : ∀ i, i < k → (vecState h (k + 1)).1.getD i [] = (vecState h k).1.getD i [] := fun i hi => by
      simp only [vecState, List.getD_eq_getElem?_getD]
      rw [List.getElem?_append_left (by omega)]
    have hgetk : (vecState h (k + 1)).1.getD k [] = vecNext h k (vecState h k) := by
      simp only [vecState, List.getD_eq_getElem?_getD]
      rw [List.getElem?_append_right (by omega), hl1]; simp
    refine ⟨fun i hi m hm => ?_, fun w' hw' => ?_⟩
    · by_cases hik : i < k
      · rw [hget i hik]; exact ih1 i hik m hm
      · have : i = k := by omega
        subst this
        rw [hgetk]; exact hcount m hm
    · have hset : (vecState h (k + 1)).2.getD w' [] = if w = w' then vecNext h k (vecState h k) else (vecState h k).2.getD w' [] := by
        simp only [vecState, hwt, List.getD_eq_getElem?_getD, List.getElem?_set]
        by_cases e : w = w'
        · rw [if_pos e, if_pos (by omega), if_pos e]; rfl
        · rw [if_neg e, if_neg e]
      by_cases e : w = w'
      · subst e
        exact .inr ⟨k, by omega, hw, fun i h1 h2 => by omega, by rw [hset, if_pos rfl, hgetk]⟩
      · rw [hset, if_neg e]
        rcases ih2 w' hw' with ⟨h1, h2⟩ | ⟨j, h1, h2, h3, h4⟩
        · refine .inl ⟨fun j hj => ?_, h2⟩
          by_cases hjk : j < k
          · exact h1 j hjk
          · have : j = k := by omega
            subst this; rw [hw]; omega
        · refine .inr ⟨j, by omega, h2, fun i h5 h6 => ?_, by rw [h4, hget j h1]⟩
          by_cases hik : i < k
          · exact h3 i h5 hik
          · have : i = k := by omega
            subst this; rw [hw]; omega
end Go.Proofs.YtdfjbnfdknpahaaGreatDoor
/- Contracts of package stable, the third part: the least of all. -/
namespace Go.Proofs.YtdfjbnfdknpahaaGreatDoor
set_option linter.unusedVariables false
set_option linter.unusedSimpArgs false
open Go.RowKit
def zipMin : List Int → List Int → List Int
  | a :: r, b :: s => min a b :: zipMin r s
  | _, _ => []
theorem zipMin_len : ∀ (a b : List Int), a.length = b.length → (zipMin a b).length = a.length
  | [], [], _ => rfl
  | a :: r, b :: s, h => by simp [zipMin, zipMin_len r s (by simpa using h)]
theorem zipMin_get : ∀ (a b : List Int) (i : Nat) (h1 : i < a.length) (h2 : i < b.length) (h3 : i < (zipMin a b).length), (zipMin a b)[i] = min a[i] b[i]
  | a :: r, b :: s, 0, _, _, _ => rfl
  | a :: r, b :: s, i + 1, h1, h2, h3 => by simp only [zipMin, List.getElem_cons_succ]; exact zipMin_get r s i _ _ _
def leastOf (rows : List (List Int)) : List Int := rows.foldl zipMin (rows.headD [])
theorem foldl_len (l : List (List Int)) (a : List Int) (ha : a.length = 5) (hl : ∀ r ∈ l, r.length = 5) : (l.foldl zipMin a).length = 5 := by
  induction l generalizing a with
  | nil => exact ha
  | cons r l ih =>
    exact ih _ (by rw [zipMin_len _ _ (by rw [ha, hl r (by simp)])]; exact ha) (fun x hx => hl x (by simp [hx]))
end Go.Proofs.YtdfjbnfdknpahaaGreatDoor
/- The least of rows, in plain lists. -/
namespace Go.Proofs.YtdfjbnfdknpahaaGreatDoor
set_option linter.unusedVariables false
set_option linter.unusedSimpArgs false
theorem foldl_get (l : List (List Int)) : ∀ (a : List Int) (k : Nat) (ha : a.length = 5) (hl : ∀ r ∈ l, r.length = 5) (hk : k < (l.foldl zipMin a).length) (hk' : k < a.length),
    ((l.foldl zipMin a)[k] = a[k] ∨ ∃ r, ∃ h : r ∈ l, (l.foldl zipMin a)[k] = r[k]'(by rw [hl r h]; omega)) ∧ (l.foldl zipMin a)[k] ≤ a[k] ∧ ∀ r (h : r ∈ l), (l.foldl zipMin a)[k] ≤ r[k]'(by rw [hl r h]; omega) := by
  induction l with
  | nil => intro a k ha hl hk hk'; exact ⟨.inl rfl, Int.le_refl _, fun r h => by cases h⟩
  | cons x l ih =>
    intro a k ha hl hk hk'
    have hx := hl x (by simp)
    have hz : (zipMin a x).length = 5 := by rw [zipMin_len _ _ (by omega)]; exact ha
    have hg := zipMin_get a x k hk' (by omega) (by omega)
    obtain ⟨h1, h2, h3⟩ := ih (zipMin a x) k hz (fun r hr => hl r (by simp [hr])) hk (by omega)
    have h1 : ((x :: l).foldl zipMin a)[k] = (zipMin a x)[k] ∨ ∃ r, ∃ h : r ∈ l, ((x :: l).foldl zipMin a)[k] = r[k]'(by rw [hl r (by simp [h])]; omega) := h1
    have h2 : ((x :: l).foldl zipMin a)[k] ≤ (zipMin a x)[k] := h2
    have h3 : ∀ r (h : r ∈ l), ((x :: l).foldl zipMin a)[k] ≤ r[k]'(by rw [hl r (by simp [h])]; omega) := h3
    generalize ((x :: l).foldl zipMin a)[k] = y at h1 h2 h3 ⊢
    have hA : (zipMin a x)[k]'(by omega) ≤ a[k] := by rw [hg]; exact Int.min_le_left _ _
    have hX : (zipMin a x)[k]'(by omega) ≤ x[k]'(by omega) := by rw [hg]; exact Int.min_le_right _ _
    refine ⟨?_, Int.le_trans h2 hA, fun r hr => ?_⟩
    · rcases h1 with h1 | ⟨r, hr, h1⟩
      · rw [hg, Int.min_def] at h1
        split at h1
        · exact .inl h1
        · exact .inr ⟨x, by simp, h1⟩
      · exact .inr ⟨r, by simp [hr], h1⟩
    · rcases List.mem_cons.1 hr with rfl | hr'
      · exact Int.le_trans h2 hX
      · exact h3 r hr'
theorem rowsOk_len {rows : List (List Int)} (h : rowsOk rows) : ∀ r ∈ rows, r.length = 5 := fun r hr => (vecErr0 (h r hr)).1
theorem leastOf_len {rows : List (List Int)} (h : rowsOk rows) (hne : 0 < rows.length) : (leastOf rows).length = 5 := by
  unfold leastOf
  refine foldl_len _ _ ?_ (rowsOk_len h)
  cases rows with
  | nil => simp at hne
  | cons x r => exact rowsOk_len h x (by simp)
theorem leastOf_le {rows : List (List Int)} (h : rowsOk rows) (r : List Int) (hr : r ∈ rows) (k : Nat) (hk : k < (leastOf rows).length) (hk' : k < r.length) : (leastOf rows)[k] ≤ r[k] := by
  cases rows with
  | nil => cases hr
  | cons x l => exact (foldl_get (x :: l) x k (rowsOk_len h x (by simp)) (rowsOk_len h) hk (by rw [rowsOk_len h x (by simp)]; have := rowsOk_len h r hr; omega)).2.2 r hr
theorem leastOf_is {rows : List (List Int)} (h : rowsOk rows) (hne : 0 < rows.length) (k : Nat) (hk : k < (leastOf rows).length) : ∃ r ∈ rows, ∃ hk' : k < r.length, (leastOf rows)[k] = r[k] := by
  cases rows with
  | nil => simp at hne
  | cons x l =>
    have h5 := leastOf_len h (by simp)
    have hx := rowsOk_len h x (by simp)
    rcases (foldl_get (x :: l) x k hx (rowsOk_len h) hk (by omega)).1 with h1 | ⟨r, hr, h1⟩
    · exact ⟨x, by simp, by omega, h1⟩
    · exact ⟨r, hr, by rw [rowsOk_len h r hr]; omega, h1⟩
theorem vecErr_mk {l : List Int} (h5 : l.length = 5) (h : ∀ x ∈ l, 0 ≤ x ∧ x ≤ 1000000) : vecErr l = 0 := by
  unfold vecErr
  rw [if_neg (by omega), if_neg]
  simp only [List.any_eq_true, not_exists, not_and, isCount, Bool.not_eq_true', Bool.not_eq_false, Bool.and_eq_true, decide_eq_true_eq]
  exact h
theorem vecErr_get {l : List Int} (h5 : l.length = 5) (h : ∀ k (hk : k < l.length), 0 ≤ l[k] ∧ l[k] ≤ 1000000) : vecErr l = 0 :=
  vecErr_mk h5 fun x hx => by obtain ⟨k, hk, rfl⟩ := List.getElem_of_mem hx; exact h k hk
theorem vecErr_at {l : List Int} (h : vecErr l = 0) (k : Nat) (hk : k < l.length) : 0 ≤ l[k] ∧ l[k] ≤ 1000000 := (vecErr0 h).2 _ (List.getElem_mem hk)
theorem vecErr_zipMax {a b : List Int} (ha : vecErr a = 0) (hb : vecErr b = 0) : vecErr (zipMax a b) = 0 := by
  have h1 := (vecErr0 ha).1; have h2 := (vecErr0 hb).1
  have hl := zipMax_len a b (by omega)
  refine vecErr_get (by omega) fun k hk => ?_
  rw [zipMax_get a b k (by omega) (by omega)]
  have h3 := vecErr_at ha k (by omega); have h4 := vecErr_at hb k (by omega)
  rw [Int.max_def]; split <;> omega
theorem vecErr_least {rows : List (List Int)} (h : rowsOk rows) (hne : 0 < rows.length) : vecErr (leastOf rows) = 0 := by
  refine vecErr_get (leastOf_len h hne) fun k hk => ?_
  obtain ⟨r, hr, hk', e⟩ := leastOf_is h hne k hk
  rw [e]; exact vecErr_at (h r hr) k hk'
theorem toldRows_len (rows : List (List Int)) (who : Int) (v : List Int) : (toldRows rows who v).length = rows.length := by
  unfold toldRows; split <;> simp
theorem toldRows_ok {rows : List (List Int)} (h : rowsOk rows) (who : Int) (v : List Int) : rowsOk (toldRows rows who v) := by
  unfold toldRows
  split
  · rename_i ht
    have hv : vecErr v = 0 ∧ inR who rows.length = true := by
      unfold toldErr at ht
      split at ht
      · cases ht
      · rename_i h1; exact ⟨ht, by simpa using h1⟩
    have hw : 0 ≤ who ∧ who < rows.length := by simpa [inR] using hv.2
    intro r hr
    rcases List.mem_or_eq_of_mem_set hr with hr | rfl
    · exact h r hr
    · have hlt : who.toNat < rows.length := by omega
      rw [show rows.getD who.toNat [] = rows[who.toNat] from by simp [hlt]]
      exact vecErr_zipMax (h _ (List.getElem_mem hlt)) hv.1
  · exact h
theorem rowsOk_zero (n : Nat) : rowsOk (List.replicate n zero5) := fun r hr => by rw [List.eq_of_mem_replicate hr]; exact vecErr_zero5
end Go.Proofs.YtdfjbnfdknpahaaGreatDoor
/- VectorJoins: what is joined is the least above both; a step is above, and not below. -/
namespace Go.Proofs.YtdfjbnfdknpahaaGreatDoor
set_option linter.unusedVariables false
set_option linter.unusedSimpArgs false
open Go.RowKit
end Go.Proofs.YtdfjbnfdknpahaaGreatDoor
/- Contracts of package stable: May; plain laws of what all have heard. -/
namespace Go.Proofs.YtdfjbnfdknpahaaGreatDoor
set_option linter.unusedVariables false
set_option linter.unusedSimpArgs false
open Go.RowKit
theorem leq_of_get {a b : List Int} (hl : a.length = b.length) (h : ∀ i (h1 : i < a.length) (h2 : i < b.length), a[i] ≤ b[i]) : leq a b = true := (leq_iff a b hl).2 h
theorem toldRows_get {rows : List (List Int)} {k : Nat} {v : List Int} (hk : k < rows.length) (he : toldErr rows.length (k : Int) v = 0) : toldRows rows (k : Int) v = rows.set k (zipMax (rows.getD k []) v) := by
  unfold toldRows
  rw [if_pos he]; rfl
end Go.Proofs.YtdfjbnfdknpahaaGreatDoor
/- TopCut in plain: the greatest of the taken vectors says whether a cut could have been. -/
namespace Go.Proofs.YtdfjbnfdknpahaaGreatDoor
set_option linter.unusedVariables false
set_option linter.unusedSimpArgs false
open Go.RowKit
/-- The walk has looked at event e: of an earlier member, or of member m ahead of i. -/
def seen (h : List Ev) (m i e : Nat) : Prop := (evAt h e).1 < (m : Int) ∨ ((evAt h e).1 = (m : Int) ∧ e < i)
structure TInv (h : List Ev) (many : List Int) (m i : Nat) (J : List Int) (rows : List (List Int)) : Prop where
  vj : vecErr J = 0
  ok : rowsOk rows
  len : rows.length = 5
  below : ∀ r, r < 5 → ∀ q, q < 5 → (rows.getD r []).getD q 0 ≤ J.getD q 0
  iff : (∀ q, q < 5 → J.getD q 0 ≤ many.getD q 0) ↔ ∀ e, e < h.length → seen h m i e → takenB h many e = true → ∀ q, q < 5 → ((vcN h e q : Nat) : Int) ≤ many.getD q 0
/-- The vector of event i. -/
def vecAt (h : List Ev) (i : Nat) : List Int := (vecState h h.length).1.getD i []
theorem vecAt_in {h : List Ev} (hr : RightH h) {i : Nat} (hi : i < h.length) : vecIn h.length (vecAt h i) := by
  have h1 := (vecState_in hr h.length (Nat.le_refl _)).1
  have h2 := (vecState_len h h.length).1
  refine h1 _ ?_
  unfold vecAt
  rw [List.getD_eq_getElem?_getD, List.getElem?_eq_getElem (by rw [h2]; exact hi)]
  exact List.getElem_mem _
theorem vecAt_ok {h : List Ev} (hr : RightH h) {i : Nat} (hi : i < h.length) : vecErr (vecAt h i) = 0 := by
  have h1 := vecAt_in hr hi
  have := hr.1
  exact vecErr_mk h1.1 fun x hx => by have := h1.2 x hx; omega
theorem vecAt_get {h : List Ev} (hr : RightH h) {i : Nat} (hi : i < h.length) {q : Nat} (hq : q < 5) : (vecAt h i).getD q 0 = ((vcN h i q : Nat) : Int) := (vec_count hr h.length (Nat.le_refl _)).1 i hi q hq
theorem cutErr0 {h : List Ev} {many : List Int} (hc : cutErr h many = 0) : RightH h ∧ many.length = 5 ∧ ∀ m, m < 5 → 0 ≤ many.getD m 0 ∧ many.getD m 0 ≤ 60 := by
  unfold cutErr at hc
  split at hc
  · rename_i h1; exact absurd hc h1
  rename_i h1
  have hr : RightH h := (histR_ok h).1 (by simpa using h1)
  split at hc
  · cases hc
  rename_i h2
  split at hc
  · cases hc
  rename_i h3
  refine ⟨hr, by simpa using h2, fun m hm5 => ?_⟩
  have h4 : cutBadAt h many m = false := by
    cases hb : cutBadAt h many m
    · rfl
    · exact absurd (List.any_eq_true.2 ⟨m, List.mem_range.2 hm5, hb⟩) h3
  unfold cutBadAt at h4
  simp only [Bool.or_eq_false_iff, decide_eq_false_iff_not] at h4
  have := cnt_le h (m : Int) h.length
  have := hr.1
  omega
theorem TInv.start {h : List Ev} {many : List Int} (hr : RightH h) (hc : cutErr h many = 0) : TInv h many 0 0 zero5 (List.replicate 5 zero5) where
  vj := vecErr_zero5
  ok := rowsOk_zero 5
  len := by simp
  below := fun r hr q hq => by
    rw [List.getD_eq_getElem?_getD (l := List.replicate 5 zero5), List.getElem?_replicate, if_pos hr]; exact Int.le_refl _
  iff := by
    constructor
    · intro _ e he hs
      have := hr.who he
      unfold seen at hs; omega
    · intro _ q hq
      rw [zero5_getD hq]; exact ((cutErr0 hc).2.2 q hq).1
theorem seen_step {h : List Ev} {m i e : Nat} : seen h m (i + 1) e ↔ seen h m i e ∨ ((evAt h i).1 = (m : Int) ∧ e = i) := by
  unfold seen
  constructor
  · rintro (h1 | ⟨h1, h2⟩)
    · exact .inl (.inl h1)
    · by_cases he : e = i
      · subst he; exact .inr ⟨h1, rfl⟩
      · exact .inl (.inr ⟨h1, by omega⟩)
  · rintro ((h1 | ⟨h1, h2⟩) | ⟨h1, rfl⟩)
    · exact .inl h1
    · exact .inr ⟨h1, by omega⟩
    · exact .inr ⟨h1, by omega⟩
theorem TInv.skip {h : List Ev} {many : List Int} {m i : Nat} {J : List Int} {rows : List (List Int)} (t : TInv h many m i J rows) (hs : (evAt h i).1 ≠ (m : Int) ∨ takenB h many i = false) : TInv h many m (i + 1) J rows where
  vj := t.vj
  ok := t.ok
  len := t.len
  below := t.below
  iff := by
    rw [t.iff]
    constructor
    · intro h1 e he h2 h3
      rcases seen_step.1 h2 with h2 | ⟨h2, rfl⟩
      · exact h1 e he h2 h3
      · rcases hs with hs | hs
        · exact absurd h2 hs
        · rw [hs] at h3; cases h3
    · intro h1 e he h2 h3
      exact h1 e he (seen_step.2 (.inl h2)) h3
theorem TInv.next {h : List Ev} {many : List Int} {m : Nat} {J : List Int} {rows : List (List Int)} (t : TInv h many m h.length J rows) : TInv h many (m + 1) 0 J rows where
  vj := t.vj
  ok := t.ok
  len := t.len
  below := t.below
  iff := by
    rw [t.iff]
    have key : ∀ e, e < h.length → (seen h m h.length e ↔ seen h (m + 1) 0 e) := by
      intro e he; unfold seen; constructor <;> (intro h1; omega)
    constructor
    · intro h1 e he h2 h3; exact h1 e he ((key e he).2 h2) h3
    · intro h1 e he h2 h3; exact h1 e he ((key e he).1 h2) h3
theorem TInv.take {h : List Ev} {many : List Int} {m i : Nat} {J : List Int} {rows : List (List Int)} (t : TInv h many m i J rows) (hr : RightH h) (hi : i < h.length) (hm : m < 5) (hw : (evAt h i).1 = (m : Int)) (ht : takenB h many i = true) :
    bothErr J (vecAt h i) = 0 ∧ toldErr rows.length (m : Int) (vecAt h i) = 0 ∧ TInv h many m (i + 1) (zipMax J (vecAt h i)) (toldRows rows (m : Int) (vecAt h i)) := by
  have hV := vecAt_ok hr hi
  have hJ5 := (vecErr0 t.vj).1
  have hV5 := (vecErr0 hV).1
  have hte : toldErr rows.length (m : Int) (vecAt h i) = 0 := by
    unfold toldErr
    rw [if_neg (by first | (simp [inR, t.len]; done) | (simp [inR, t.len]; omega))]; exact hV
  refine ⟨by unfold bothErr; rw [if_pos t.vj]; exact hV, hte, ?_⟩
  have hg := toldRows_get (by rw [t.len]; exact hm) hte
  refine ⟨vecErr_zipMax t.vj hV, toldRows_ok t.ok _ _, by rw [toldRows_len, t.len], ?_, ?_⟩
  · intro r hr5 q hq
    rw [zipMax_getD hJ5 hV5 hq, hg]
    have hb := t.below r hr5 q hq
    have hl := t.len
    by_cases hrm : r = m
    · subst hrm
      rw [show (rows.set r (zipMax (rows.getD r []) (vecAt h i))).getD r [] = zipMax (rows.getD r []) (vecAt h i) from by
        rw [List.getD_eq_getElem?_getD, List.getElem?_set, if_pos rfl, if_pos (by omega)]; rfl]
      have hrow : (rows.getD r []).length = 5 := by
        rw [List.getD_eq_getElem?_getD, List.getElem?_eq_getElem (by omega)]
        exact rowsOk_len t.ok _ (List.getElem_mem _)
      rw [zipMax_getD hrow hV5 hq]
      rw [Int.max_def, Int.max_def]; split <;> split <;> omega
    · rw [show (rows.set m (zipMax (rows.getD m []) (vecAt h i))).getD r [] = rows.getD r [] from by
        rw [List.getD_eq_getElem?_getD, List.getElem?_set, if_neg (fun e => hrm e.symm), ← List.getD_eq_getElem?_getD]]
      rw [Int.max_def]; split <;> omega
  · have hsplit : (∀ q, q < 5 → (zipMax J (vecAt h i)).getD q 0 ≤ many.getD q 0) ↔ (∀ q, q < 5 → J.getD q 0 ≤ many.getD q 0) ∧ ∀ q, q < 5 → ((vcN h i q : Nat) : Int) ≤ many.getD q 0 := by
      constructor
      · intro h1
        constructor
        · intro q hq
          have h2 := h1 q hq
          rw [zipMax_getD hJ5 hV5 hq, Int.max_def] at h2
          split at h2 <;> omega
        · intro q hq
          have h2 := h1 q hq
          rw [zipMax_getD hJ5 hV5 hq, vecAt_get hr hi hq, Int.max_def] at h2
          split at h2 <;> omega
      · rintro ⟨h1, h3⟩ q hq
        have h2 := h1 q hq
        have h4 := h3 q hq
        rw [zipMax_getD hJ5 hV5 hq, vecAt_get hr hi hq, Int.max_def]
        split <;> omega
    rw [hsplit, t.iff]
    constructor
    · rintro ⟨h1, h5⟩ e he h2 h3
      rcases seen_step.1 h2 with h2 | ⟨h2, rfl⟩
      · exact h1 e he h2 h3
      · exact h5
    · intro h1
      exact ⟨fun e he h2 h3 => h1 e he (seen_step.2 (.inl h2)) h3, h1 i hi (seen_step.2 (.inr ⟨hw, rfl⟩)) ht⟩
theorem getD_at {l : List Int} {k : Nat} (hk : k < l.length) : l.getD k 0 = l[k] := by
  rw [List.getD_eq_getElem?_getD, List.getElem?_eq_getElem hk]; rfl
theorem TInv.done {h : List Ev} {many : List Int} {J : List Int} {rows : List (List Int)} (t : TInv h many 5 0 J rows) (hc : cutErr h many = 0) :
    (bothErr J many = 0 ∧ leq J many = cutB h many) ∧ vecErr (leastOf rows) = 0 ∧ bothErr (leastOf rows) J = 0 ∧ leq (leastOf rows) J = true := by
  obtain ⟨hr, hm5, hmb⟩ := cutErr0 hc
  have hJ5 := (vecErr0 t.vj).1
  have hne : 0 < rows.length := by rw [t.len]; omega
  have hmv : vecErr many = 0 := vecErr_mk hm5 fun x hx => by
    obtain ⟨k, hk, rfl⟩ := List.getElem_of_mem hx
    have := hmb k (by omega)
    rw [getD_at hk] at this
    omega
  have hl := vecErr_least t.ok hne
  have hl5 := (vecErr0 hl).1
  refine ⟨⟨by unfold bothErr; rw [if_pos t.vj]; exact hmv, ?_⟩, hl, by unfold bothErr; rw [if_pos hl]; exact t.vj, ?_⟩
  · have h1 : leq J many = true ↔ cutB h many = true := by
      rw [leq_iff J many (by omega), cut_iff hr hm5 hc]
      have h2 : (∀ i (h : i < J.length) (h' : i < many.length), J[i] ≤ many[i]) ↔ ∀ q, q < 5 → J.getD q 0 ≤ many.getD q 0 := by
        constructor
        · intro h q hq
          rw [getD_at (by omega), getD_at (by omega)]; exact h q (by omega) (by omega)
        · intro h q h1 h2
          have := h q (by omega)
          rw [getD_at h1, getD_at h2] at this
          exact this
      rw [h2, t.iff]
      constructor
      · intro h3 e he h4
        refine h3 e he (.inl ?_) h4
        have := hr.who he; omega
      · intro h3 e he _ h4; exact h3 e he h4
    cases h3 : leq J many <;> cases h4 : cutB h many <;> simp_all
  · refine leq_of_get (by omega) fun q h1 h2 => ?_
    have hq : q < 5 := by omega
    have h3 := leastOf_le t.ok rows[0] (List.getElem_mem hne) q h1 (by rw [rowsOk_len t.ok _ (List.getElem_mem hne)]; exact hq)
    have h4 := t.below 0 (by omega) q hq
    rw [show rows.getD 0 [] = rows[0] from by rw [List.getD_eq_getElem?_getD, List.getElem?_eq_getElem hne]; rfl] at h4
    rw [getD_at (by rw [rowsOk_len t.ok _ (List.getElem_mem hne)]; exact hq), getD_at h2] at h4
    omega
end Go.Proofs.YtdfjbnfdknpahaaGreatDoor
