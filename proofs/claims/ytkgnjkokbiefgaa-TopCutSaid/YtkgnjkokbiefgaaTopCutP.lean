/- Vectors count who is ahead (Fidge, Mattern): plain laws. -/
import Derived.Test.YtkgnjkokbiefgaaClockP
import Derived.Test.YtkgnjkokbiefgaaHistoryBeforeP
namespace Go.Proofs.Ytkgnjkokbiefgaa
set_option linter.unusedVariables false
set_option linter.unusedSimpArgs false
open Go.RowKit
/-- Is event j event k, or ahead of it, and member m's? -/
def inPast (h : List Ev) (k : Nat) (m : Int) (j : Nat) : Bool := decide ((evAt h j).1 = m) && (decide (j = k) || bef h k j)
/-- How many of the first n events are. -/
def pastN (h : List Ev) (k : Nat) (m : Int) (n : Nat) : Nat := ((List.range n).filter (inPast h k m)).length
theorem pastN_zero (h : List Ev) (k : Nat) (m : Int) : pastN h k m 0 = 0 := rfl
theorem pastN_succ (h : List Ev) (k : Nat) (m : Int) (n : Nat) : pastN h k m (n + 1) = pastN h k m n + if inPast h k m n = true then 1 else 0 := by
  unfold pastN
  rw [List.range_succ, List.filter_append, List.length_append]
  congr 1
  cases hb : inPast h k m n <;> simp [hb]
theorem pastN_mono (h : List Ev) (k : Nat) (m : Int) : ∀ {a b : Nat}, a ≤ b → pastN h k m a ≤ pastN h k m b := by
  intro a b hab
  obtain ⟨d, rfl⟩ : ∃ d, b = a + d := ⟨b - a, by omega⟩
  clear hab
  induction d with
  | zero => exact Nat.le_refl _
  | succ d ih => rw [← Nat.add_assoc, pastN_succ]; split <;> omega
theorem inPast_lt {h : List Ev} {k : Nat} {m : Int} {j : Nat} (hj : inPast h k m j = true) : j ≤ k := by
  unfold inPast at hj
  simp only [Bool.and_eq_true, Bool.or_eq_true, decide_eq_true_eq] at hj
  rcases hj.2 with h1 | h1
  · omega
  · have := bef_lt h k j h1; omega
theorem pastN_stop (h : List Ev) (k : Nat) (m : Int) {n : Nat} (hn : k + 1 ≤ n) : pastN h k m n = pastN h k m (k + 1) := by
  obtain ⟨d, rfl⟩ : ∃ d, n = k + 1 + d := ⟨n - (k + 1), by omega⟩
  clear hn
  induction d with
  | zero => rfl
  | succ d ih =>
    rw [← Nat.add_assoc, pastN_succ, ih, if_neg]
    · rfl
    · intro hh; have := inPast_lt hh; omega
/-- What is ahead is closed downward among a member's events. -/
theorem inPast_down {h : List Ev} {k : Nat} {m : Int} {i j : Nat} (hk : k < h.length) (hj : inPast h k m j = true) (hij : i ≤ j) (hi : (evAt h i).1 = m) : inPast h k m i = true := by
  have hjk := inPast_lt hj
  unfold inPast at hj ⊢
  simp only [Bool.and_eq_true, Bool.or_eq_true, decide_eq_true_eq] at hj ⊢
  refine ⟨hi, ?_⟩
  by_cases e : i = j
  · subst e; exact hj.2
  · have hd : bef h j i = true := (bef_iff h j i (by omega)).2 ⟨i, by omega, by unfold directB; simp [hi, hj.1], .inl rfl⟩
    rcases hj.2 with h1 | h1
    · subst h1; exact .inr hd
    · exact .inr (bef_trans h k j i h1 hd)
theorem pastN_le_cnt (h : List Ev) (k : Nat) (m : Int) : ∀ n, n ≤ h.length → pastN h k m n ≤ cnt h m n
  | 0, _ => by simp [pastN_zero]
  | n + 1, hn => by
    have ih := pastN_le_cnt h k m n (by omega)
    rw [pastN_succ, cnt_succ h m n (by omega)]
    have : inPast h k m n = true → h[n].1 = m := fun hh => by
      unfold inPast at hh
      simp only [Bool.and_eq_true, decide_eq_true_eq] at hh
      rw [← evAt_get (by omega)]; exact hh.1
    split
    · rename_i h1; rw [if_pos (this h1)]; omega
    · omega
/-- Up to an event that is in it all of that member's are. -/
theorem pastN_full {h : List Ev} {k : Nat} {m : Int} {i : Nat} (hk : k < h.length) (hi : inPast h k m i = true) : ∀ n, n ≤ i + 1 → pastN h k m n = cnt h m n
  | 0, _ => by simp [pastN_zero, cnt_zero]
  | n + 1, hn => by
    have ih := pastN_full hk hi n (by omega)
    have hik := inPast_lt hi
    rw [pastN_succ, cnt_succ h m n (by omega), ih, ← evAt_get (by omega)]
    congr 1
    by_cases he : (evAt h n).1 = m
    · rw [if_pos he, if_pos (inPast_down hk hi (by omega) he)]
    · rw [if_neg he, if_neg]
      intro hh
      unfold inPast at hh
      simp only [Bool.and_eq_true, decide_eq_true_eq] at hh
      exact he hh.1
/-- Behind an event of a member that is not in it there is none. -/
theorem pastN_none {h : List Ev} {k : Nat} {m : Int} {i : Nat} (hk : k < h.length) (him : (evAt h i).1 = m) (hi : inPast h k m i = false) : ∀ n, i ≤ n → pastN h k m n = pastN h k m i := by
  intro n hn
  obtain ⟨d, rfl⟩ : ∃ d, n = i + d := ⟨n - i, by omega⟩
  clear hn
  induction d with
  | zero => rfl
  | succ d ih =>
    rw [← Nat.add_assoc, pastN_succ, ih, if_neg]
    · rfl
    · intro hh
      rw [inPast_down hk hh (by omega) him] at hi; cases hi
/-- An event is in the past of another one just if that has counted it. -/
theorem inPast_iff {h : List Ev} {k i : Nat} (hk : k < h.length) (hi : i < h.length) : inPast h k (evAt h i).1 i = true ↔ cnt h (evAt h i).1 (i + 1) ≤ pastN h k (evAt h i).1 h.length := by
  have hc := cnt_succ h (evAt h i).1 i hi
  rw [← evAt_get hi, if_pos rfl] at hc
  constructor
  · intro h1
    rw [← pastN_full hk h1 (i + 1) (Nat.le_refl _)]
    exact pastN_mono h k _ (by omega)
  · intro h1
    cases hb : inPast h k (evAt h i).1 i
    · exfalso
      rw [pastN_none hk rfl hb h.length (by omega)] at h1
      have := pastN_le_cnt h k (evAt h i).1 i (by omega)
      omega
    · rfl
/-- The number of member m's events in the past of an event. -/
def vcN (h : List Ev) (k m : Nat) : Nat := pastN h k (m : Int) h.length
theorem inPast_mono {h : List Ev} {i k : Nat} {m : Int} {j : Nat} (hb : inPast h k (evAt h i).1 i = true) (hj : inPast h i m j = true) : inPast h k m j = true := by
  unfold inPast at hb hj ⊢
  simp only [Bool.and_eq_true, Bool.or_eq_true, decide_eq_true_eq] at hb hj ⊢
  refine ⟨hj.1, ?_⟩
  rcases hb.2 with h1 | h1
  · subst h1; exact hj.2
  · rcases hj.2 with h2 | h2
    · subst h2; exact .inr h1
    · exact .inr (bef_trans h k i j h1 h2)
theorem pastN_sub {h : List Ev} {i k : Nat} {m : Int} (hs : ∀ j, inPast h i m j = true → inPast h k m j = true) : ∀ n, pastN h i m n ≤ pastN h k m n
  | 0 => Nat.le_refl _
  | n + 1 => by
    have ih := pastN_sub hs n
    rw [pastN_succ, pastN_succ]
    split
    · rename_i h1; rw [if_pos (hs n h1)]; omega
    · omega
/-- AHEAD JUST IF BELOW. -/
theorem below_iff {h : List Ev} (hr : RightH h) {i k : Nat} (hi : i < h.length) (hk : k < h.length) : (∀ m, m < 5 → vcN h i m ≤ vcN h k m) ↔ (i = k ∨ bef h k i = true) := by
  have hw := hr.who hi
  constructor
  · intro hle
    have h1 := hle (evAt h i).1.toNat (by omega)
    unfold vcN at h1
    rw [show (((evAt h i).1.toNat : Nat) : Int) = (evAt h i).1 from by omega] at h1
    have h2 : inPast h i (evAt h i).1 i = true := by unfold inPast; simp
    have h3 := (inPast_iff hi hi).1 h2
    have h4 := (inPast_iff hk hi).2 (by omega)
    unfold inPast at h4
    simp only [Bool.and_eq_true, Bool.or_eq_true, decide_eq_true_eq] at h4
    exact h4.2
  · intro hb m _
    refine pastN_sub (fun j hj => inPast_mono ?_ hj) h.length
    unfold inPast
    simp only [Bool.and_eq_true, Bool.or_eq_true, decide_eq_true_eq]
    exact ⟨trivial, hb⟩
/-- A cut could have been just if no event that it takes has counted more of a member than it takes. -/
theorem cut_iff {h : List Ev} (hr : RightH h) {many : List Int} (hm : many.length = 5) (hc : cutErr h many = 0) :
    cutB h many = true ↔ ∀ k, k < h.length → takenB h many k = true → ∀ m, m < 5 → ((vcN h k m : Nat) : Int) ≤ many.getD m 0 := by
  have hpos : ∀ m, m < 5 → 0 ≤ many.getD m 0 := by
    intro m hm5
    unfold cutErr at hc
    split at hc
    · rename_i h1; exact absurd hc h1
    split at hc
    · cases hc
    split at hc
    · cases hc
    rename_i _ _ h3
    have h4 : cutBadAt h many m = false := by
      cases hb : cutBadAt h many m
      · rfl
      · exact absurd (List.any_eq_true.2 ⟨m, List.mem_range.2 hm5, hb⟩) h3
    unfold cutBadAt at h4
    simp only [Bool.or_eq_false_iff, decide_eq_false_iff_not] at h4
    omega
  unfold cutB
  rw [decide_eq_true_eq]
  constructor
  · intro hcut k hk ht m hm5
    have hp := hpos m hm5
    -- the last one in the past of k
    have key : ∀ n, n ≤ h.length → ((pastN h k (m : Int) n : Nat) : Int) ≤ many.getD m 0 := by
      intro n
      induction n with
      | zero => intro _; rw [pastN_zero]; exact hp
      | succ n ih =>
        intro hn
        by_cases hb : inPast h k (m : Int) n = true
        · have hfull := pastN_full hk hb (n + 1) (Nat.le_refl _)
          rw [hfull]
          have hwho : (evAt h n).1 = (m : Int) := by
            unfold inPast at hb; simp only [Bool.and_eq_true, decide_eq_true_eq] at hb; exact hb.1
          have htn : takenB h many n = true := by
            unfold inPast at hb
            simp only [Bool.and_eq_true, Bool.or_eq_true, decide_eq_true_eq] at hb
            rcases hb.2 with e | e
            · subst e; exact ht
            · exact hcut k hk ht n (bef_lt h k n e) e
          unfold takenB at htn
          rw [hwho, decide_eq_true_eq, Int.toNat_natCast] at htn
          rw [cnt_succ h _ n (by omega), ← evAt_get (by omega), if_pos hwho]
          omega
        · rw [pastN_succ, if_neg hb]
          exact ih (by omega)
    exact key h.length (Nat.le_refl _)
  · intro hle k hk ht i hik hb
    have hi : i < h.length := by omega
    have hw := hr.who hi
    have h1 : inPast h k (evAt h i).1 i = true := by unfold inPast; simp [hb]
    have h2 := (inPast_iff hk hi).1 h1
    have h3 := hle k hk ht (evAt h i).1.toNat (by omega)
    unfold vcN at h3
    rw [show (((evAt h i).1.toNat : Nat) : Int) = (evAt h i).1 from by omega] at h3
    have hc := cnt_succ h (evAt h i).1 i hi
    rw [← evAt_get hi, if_pos rfl] at hc
    unfold takenB
    rw [decide_eq_true_eq]
    omega
end Go.Proofs.Ytkgnjkokbiefgaa
