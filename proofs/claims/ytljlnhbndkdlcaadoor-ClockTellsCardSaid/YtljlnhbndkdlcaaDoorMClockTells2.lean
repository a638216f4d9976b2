/- Package clock, plainly: numbers and vectors of a history. -/
import Derived.Test.YtljlnhbndkdlcaaDoorMClockTells1
namespace Go.Proofs.YtljlnhbndkdlcaaDoor
set_option linter.unusedVariables false
set_option linter.unusedSimpArgs false
open Go.RowKit
theorem evAt_take {h : List Ev} {k i : Nat} (hi : i < k) : evAt (h.take k) i = evAt h i := by
  unfold evAt
  simp only [List.getD_eq_getElem?_getD, List.getElem?_take]
  rw [if_pos hi]
/-- Of a word that is heard it is known where it was said. -/
theorem RightH.said {h : List Ev} (hr : RightH h) {k : Nat} (hk : k < h.length) (hw : (evAt h k).2.1 = 3) :
    ∃ i : Nat, i < k ∧ saidAt (h.take k) (evAt h k).2.2 = (i : Int) ∧ (evAt h i).2.1 = 2 ∧ (evAt h i).2.2 = (evAt h k).2.2 ∧ (evAt h i).1 ≠ (evAt h k).1 ∧ (∀ j, j < i → saysB (evAt h k).2.2 (evAt h j) = false) ∧ evAt h k ∉ h.take k := by
  have he := hr.2 k hk
  rw [← evAt_get hk] at he
  obtain ⟨e, hee⟩ : ∃ e, e = evAt h k := ⟨_, rfl⟩
  rw [← hee] at he hw ⊢
  unfold evErr at he
  split at he
  · cases he
  split at he
  · cases he
  rename_i h2
  split at he
  · cases he
  rename_i h3
  split at he
  · cases he
  rename_i h4
  have hlen : (h.take k).length = k := by simp; omega
  rcases whereI_cases (saysB e.2.2) (h.take k) with ⟨h1, _⟩ | ⟨i, hi, h1, h5, h6⟩
  · exact absurd ⟨hw, by show saidAt (h.take k) e.2.2 < 0; unfold saidAt; omega⟩ h3
  · have hik : i < k := by omega
    have hs : saidAt (h.take k) e.2.2 = (i : Int) := h1
    rw [hs] at h4
    have hev : (h.take k)[i] = evAt h i := by rw [← evAt_take hik, evAt_get hi]
    rw [hev] at h5
    unfold saysB at h5
    simp only [Bool.and_eq_true, decide_eq_true_eq] at h5
    refine ⟨i, hik, hs, h5.1, h5.2, fun hh => h4 ⟨hw, ?_⟩, fun j hj => ?_, fun hin => h2 (.inr ⟨hw, hin⟩)⟩
    · rw [Int.toNat_natCast, evAt_take hik]; exact hh
    · have := h6 j hj
      rw [show (h.take k)[j]'(by omega) = evAt h j by rw [← evAt_take (show j < k by omega), evAt_get (by omega)]] at this
      exact this
def numNext (h : List Ev) (k : Nat) (s : List Int × List Int) : Int :=
  (if (evAt h k).2.1 = 3 then max (s.2.getD (evAt h k).1.toNat 0) (s.1.getD (saidAt (h.take k) (evAt h k).2.2).toNat 0) else s.2.getD (evAt h k).1.toNat 0) + 1
def numState (h : List Ev) : Nat → List Int × List Int
  | 0 => ([], [0, 0, 0, 0, 0])
  | k + 1 => ((numState h k).1 ++ [numNext h k (numState h k)], (numState h k).2.set (evAt h k).1.toNat (numNext h k (numState h k)))
def numsR (h : List Ev) : List Int := (numState h h.length).1
theorem numState_len (h : List Ev) : ∀ k, (numState h k).1.length = k ∧ (numState h k).2.length = 5
  | 0 => ⟨rfl, rfl⟩
  | k + 1 => by
    have := numState_len h k
    simp [numState, this]
theorem getD_bound {l : List Int} {a b : Int} (h : ∀ x ∈ l, a ≤ x ∧ x ≤ b) (ha : a ≤ 0) (hb : 0 ≤ b) (i : Nat) : a ≤ l.getD i 0 ∧ l.getD i 0 ≤ b := by
  rw [List.getD_eq_getElem?_getD]
  by_cases hi : i < l.length
  · rw [List.getElem?_eq_getElem hi]; exact h _ (List.getElem_mem hi)
  · rw [List.getElem?_eq_none (by omega)]; exact ⟨ha, hb⟩
theorem numState_bound (h : List Ev) : ∀ k, (∀ x ∈ (numState h k).1, 0 ≤ x ∧ x ≤ (k : Int)) ∧ (∀ x ∈ (numState h k).2, 0 ≤ x ∧ x ≤ (k : Int))
  | 0 => by simp [numState]
  | k + 1 => by
    obtain ⟨h1, h2⟩ := numState_bound h k
    have hn : 0 ≤ numNext h k (numState h k) ∧ numNext h k (numState h k) ≤ ((k + 1 : Nat) : Int) := by
      have a := getD_bound h2 (Int.le_refl 0) (Int.natCast_nonneg k) (evAt h k).1.toNat
      have b := getD_bound h1 (Int.le_refl 0) (Int.natCast_nonneg k) (saidAt (h.take k) (evAt h k).2.2).toNat
      unfold numNext
      split
      · rw [Int.max_def]; split <;> omega
      · omega
    simp only [numState]
    refine ⟨fun x hx => ?_, fun x hx => ?_⟩
    · rcases List.mem_append.1 hx with hx | hx
      · have := h1 x hx; omega
      · rw [List.mem_singleton.1 hx]; exact hn
    · rcases List.mem_or_eq_of_mem_set hx with hx | hx
      · have := h2 x hx; omega
      · rw [hx]; exact hn
def vec0 (s : List (List Int) × List (List Int)) (w : Nat) : List Int := if s.2.getD w [] = [] then zero5 else s.2.getD w []
def vec1 (h : List Ev) (k : Nat) (s : List (List Int) × List (List Int)) : List Int :=
  if (evAt h k).2.1 = 3 then zipMax (vec0 s (evAt h k).1.toNat) (s.1.getD (saidAt (h.take k) (evAt h k).2.2).toNat []) else vec0 s (evAt h k).1.toNat
def vecNext (h : List Ev) (k : Nat) (s : List (List Int) × List (List Int)) : List Int :=
  (vec1 h k s).set (evAt h k).1.toNat ((vec1 h k s).getD (evAt h k).1.toNat 0 + 1)
def vecState (h : List Ev) : Nat → List (List Int) × List (List Int)
  | 0 => ([], [[], [], [], [], []])
  | k + 1 => ((vecState h k).1 ++ [vecNext h k (vecState h k)], (vecState h k).2.set (evAt h k).1.toNat (vecNext h k (vecState h k)))
def vecsR (h : List Ev) : List (List Int) := (vecState h h.length).1
theorem vecState_len (h : List Ev) : ∀ k, (vecState h k).1.length = k ∧ (vecState h k).2.length = 5
  | 0 => ⟨rfl, rfl⟩
  | k + 1 => by
    have := vecState_len h k
    simp [vecState, this]
/-- A vector of a history of k events. -/
def vecIn (k : Nat) (v : List Int) : Prop := v.length = 5 ∧ ∀ x ∈ v, 0 ≤ x ∧ x ≤ (k : Int)
theorem vecIn.up {k : Nat} {v : List Int} (h : vecIn k v) : vecIn (k + 1) v := ⟨h.1, fun x hx => by have := h.2 x hx; omega⟩
theorem zipMax_in {k : Nat} {a b : List Int} (ha : vecIn k a) (hb : vecIn k b) : vecIn k (zipMax a b) := by
  have hl := zipMax_len a b (by rw [ha.1, hb.1])
  refine ⟨by rw [hl, ha.1], fun x hx => ?_⟩
  obtain ⟨i, hi, rfl⟩ := List.getElem_of_mem hx
  rw [zipMax_get a b i (by omega) (by rw [hb.1, ← ha.1]; omega)]
  have h1 := ha.2 _ (List.getElem_mem (show i < a.length by omega))
  have h2 := hb.2 _ (List.getElem_mem (show i < b.length by rw [hb.1, ← ha.1]; omega))
  rw [Int.max_def]; split <;> omega
theorem zero5_in (k : Nat) : vecIn k zero5 := ⟨rfl, fun x hx => by simp [zero5] at hx; subst hx; omega⟩
theorem vec_getD {k : Nat} {l : List (List Int)} (h : ∀ v ∈ l, v = [] ∨ vecIn k v) (i : Nat) : l.getD i [] = [] ∨ vecIn k (l.getD i []) := by
  rw [List.getD_eq_getElem?_getD]
  by_cases hi : i < l.length
  · rw [List.getElem?_eq_getElem hi]; exact h _ (List.getElem_mem hi)
  · rw [List.getElem?_eq_none (by omega)]; exact .inl rfl
theorem vec0_in {k : Nat} {s : List (List Int) × List (List Int)} (h : ∀ v ∈ s.2, v = [] ∨ vecIn k v) (w : Nat) : vecIn k (vec0 s w) := by
  unfold vec0
  split
  · exact zero5_in k
  · rename_i h1
    rcases vec_getD h w with h2 | h2
    · exact absurd h2 h1
    · exact h2
theorem vec1_in {h : List Ev} (hr : RightH h) {k : Nat} (hk : k < h.length) {s : List (List Int) × List (List Int)} (hl : s.1.length = k) (h1 : ∀ v ∈ s.1, vecIn k v) (h2 : ∀ v ∈ s.2, v = [] ∨ vecIn k v) : vecIn k (vec1 h k s) := by
  unfold vec1
  split
  · rename_i hw
    obtain ⟨i, hi, hs, _⟩ := hr.said hk hw
    rw [hs, Int.toNat_natCast]
    refine zipMax_in (vec0_in h2 _) ?_
    rw [List.getD_eq_getElem?_getD, List.getElem?_eq_getElem (by omega)]
    exact h1 _ (List.getElem_mem _)
  · exact vec0_in h2 _
theorem vecNext_in {h : List Ev} (hr : RightH h) {k : Nat} (hk : k < h.length) {s : List (List Int) × List (List Int)} (hl : s.1.length = k) (h1 : ∀ v ∈ s.1, vecIn k v) (h2 : ∀ v ∈ s.2, v = [] ∨ vecIn k v) : vecIn (k + 1) (vecNext h k s) := by
  have hv := vec1_in hr hk hl h1 h2
  unfold vecNext
  refine ⟨by rw [List.length_set]; exact hv.1, fun x hx => ?_⟩
  have hb := getD_bound hv.2 (Int.le_refl 0) (Int.natCast_nonneg k) (evAt h k).1.toNat
  rcases List.mem_or_eq_of_mem_set hx with hx | hx
  · have := hv.2 x hx; omega
  · rw [hx]; omega
theorem vecState_in {h : List Ev} (hr : RightH h) : ∀ k, k ≤ h.length → (∀ v ∈ (vecState h k).1, vecIn k v) ∧ (∀ v ∈ (vecState h k).2, v = [] ∨ vecIn k v)
  | 0, _ => ⟨fun v hv => by simp [vecState] at hv, fun v hv => by simp [vecState] at hv; exact .inl hv⟩
  | k + 1, hk => by
    obtain ⟨h1, h2⟩ := vecState_in hr k (by omega)
    have hn := vecNext_in hr (show k < h.length by omega) (vecState_len h k).1 h1 h2
    simp only [vecState]
    refine ⟨fun v hv => ?_, fun v hv => ?_⟩
    · rcases List.mem_append.1 hv with hv | hv
      · exact (h1 v hv).up
      · rw [List.mem_singleton.1 hv]; exact hn
    · rcases List.mem_or_eq_of_mem_set hv with hv | hv
      · rcases h2 v hv with h3 | h3
        · exact .inl h3
        · exact .inr h3.up
      · rw [hv]; exact .inr hn
end Go.Proofs.YtljlnhbndkdlcaaDoor
/- Vectors count who is ahead (Fidge, Mattern): plain laws. -/
namespace Go.Proofs.YtljlnhbndkdlcaaDoor
set_option linter.unusedVariables false
set_option linter.unusedSimpArgs false
open Go.RowKit
/-- Is event j event k, or ahead of it, and member m's? -/
def inPast (h : List Ev) (k : Nat) (m : Int) (j : Nat) : Bool := decide ((evAt h j).1 = m) && (decide (j = k) || bef h k j)
/-- How many of the first n events are. -/
def pastN (h : List Ev) (k : Nat) (m : Int) (n : Nat) : Nat := ((List.range n).filter (inPast h k m)).length
theorem pastN_zero (h : List Ev) (k : Nat) (m : Int) : pastN h k m 0 = 0 := rfl
theorem pastN_succ (h : List Ev) (k : Nat) (m : Int) (n : Nat) : pastN h k m (n + 1) = pastN h k m n + if inPast h k m n = true then 1 else 0 := by
  unfold pastN
  rw [List.range_succ, List.filter_append, List.length_append]
  congr 1
  cases hb : inPast h k m n <;> simp [hb]
theorem pastN_mono (h : List Ev) (k : Nat) (m : Int) : ∀ {a b : Nat}, a ≤ b → pastN h k m a ≤ pastN h k m b := by
  intro a b hab
  obtain ⟨d, rfl⟩ : ∃ d, b = a + d := ⟨b - a, by omega⟩
  clear hab
  induction d with
  | zero => exact Nat.le_refl _
  | succ d ih => rw [← Nat.add_assoc, pastN_succ]; split <;> omega
theorem inPast_lt {h : List Ev} {k : Nat} {m : Int} {j : Nat} (hj : inPast h k m j = true) : j ≤ k := by
  unfold inPast at hj
  simp only [Bool.and_eq_true, Bool.or_eq_true, decide_eq_true_eq] at hj
  rcases hj.2 with h1 | h1
  · omega
  · have := bef_lt h k j h1; omega
theorem pastN_stop (h : List Ev) (k : Nat) (m : Int) {n : Nat} (hn : k + 1 ≤ n) : pastN h k m n = pastN h k m (k + 1) := by
  obtain ⟨d, rfl⟩ : ∃ d, n = k + 1 + d := ⟨n - (k + 1), by omega⟩
  clear hn
  induction d with
  | zero => rfl
  | succ d ih =>
    rw [← Nat.add_assoc, pastN_succ, ih, if_neg]
    · rfl
    · intro hh; have := inPast_lt hh; omega
/-- What is ahead is closed downward among a member's events. -/
theorem inPast_down {h : List Ev} {k : Nat} {m : Int} {i j : Nat} (hk : k < h.length) (hj : inPast h k m j = true) (hij : i ≤ j) (hi : (evAt h i).1 = m) : inPast h k m i = true := by
  have hjk := inPast_lt hj
  unfold inPast at hj ⊢
  simp only [Bool.and_eq_true, Bool.or_eq_true, decide_eq_true_eq] at hj ⊢
  refine ⟨hi, ?_⟩
  by_cases e : i = j
  · subst e; exact hj.2
  · have hd : bef h j i = true := (bef_iff h j i (by omega)).2 ⟨i, by omega, by unfold directB; simp [hi, hj.1], .inl rfl⟩
    rcases hj.2 with h1 | h1
    · subst h1; exact .inr hd
    · exact .inr (bef_trans h k j i h1 hd)
theorem pastN_le_cnt (h : List Ev) (k : Nat) (m : Int) : ∀ n, n ≤ h.length → pastN h k m n ≤ cnt h m n
  | 0, _ => by simp [pastN_zero]
  | n + 1, hn => by
    have ih := pastN_le_cnt h k m n (by omega)
    rw [pastN_succ, cnt_succ h m n (by omega)]
    have : inPast h k m n = true → h[n].1 = m := fun hh => by
      unfold inPast at hh
      simp only [Bool.and_eq_true, decide_eq_true_eq] at hh
      rw [← evAt_get (by omega)]; exact hh.1
    split
    · rename_i h1; rw [if_pos (this h1)]; omega
    · omega
/-- Up to an event that is in it all of that member's are. -/
theorem pastN_full {h : List Ev} {k : Nat} {m : Int} {i : Nat} (hk : k < h.length) (hi : inPast h k m i = true) : ∀ n, n ≤ i + 1 → pastN h k m n = cnt h m n
  | 0, _ => by simp [pastN_zero, cnt_zero]
  | n + 1, hn => by
    have ih := pastN_full hk hi n (by omega)
    have hik := inPast_lt hi
    rw [pastN_succ, cnt_succ h m n (by omega), ih, ← evAt_get (by omega)]
    congr 1
    by_cases he : (evAt h n).1 = m
    · rw [if_pos he, if_pos (inPast_down hk hi (by omega) he)]
    · rw [if_neg he, if_neg]
      intro hh
      unfold inPast at hh
      simp only [Bool.and_eq_true, decide_eq_true_eq] at hh
      exact he hh.1
/-- Behind an event of a member that is not in it there is none. -/
theorem pastN_none {h : List Ev} {k : Nat} {m : Int} {i : Nat} (hk : k < h.length) (him : (evAt h i).1 = m) (hi : inPast h k m i = false) : ∀ n, i ≤ n → pastN h k m n = pastN h k m i := by
  intro n hn
  obtain ⟨d, rfl⟩ : ∃ d, n = i + d := ⟨n - i, by omega⟩
  clear hn
  induction d with
  | zero => rfl
  | succ d ih =>
    rw [← Nat.add_assoc, pastN_succ, ih, if_neg]
    · rfl
    · intro hh
      rw [inPast_down hk hh (by omega) him] at hi; cases hi
/-- An event is in the past of another one just if that has counted it. -/
theorem inPast_iff {h : List Ev} {k i : Nat} (hk : k < h.length) (hi : i < h.length) : inPast h k (evAt h i).1 i = true ↔ cnt h (evAt h i).1 (i + 1) ≤ pastN h k (evAt h i).1 h.length := by
  have hc := cnt_succ h (evAt h i).1 i hi
  rw [← evAt_get hi, if_pos rfl] at hc
  constructor
  · intro h1
    rw [← pastN_full hk h1 (i + 1) (Nat.le_refl _)]
    exact pastN_mono h k _ (by omega)
  · intro h1
    cases hb : inPast h k (evAt h i).1 i
    · exfalso
      rw [pastN_none hk rfl hb h.length (by omega)] at h1
      have := pastN_le_cnt h k (evAt h i).1 i (by omega)
      omega
    · rfl
/-- The number of member m's events in the past of an event. -/
def vcN (h : List Ev) (k m : Nat) : Nat := pastN h k (m : Int) h.length
theorem inPast_mono {h : List Ev} {i k : Nat} {m : Int} {j : Nat} (hb : inPast h k (evAt h i).1 i = true) (hj : inPast h i m j = true) : inPast h k m j = true := by
  unfold inPast at hb hj ⊢
  simp only [Bool.and_eq_true, Bool.or_eq_true, decide_eq_true_eq] at hb hj ⊢
  refine ⟨hj.1, ?_⟩
  rcases hb.2 with h1 | h1
  · subst h1; exact hj.2
  · rcases hj.2 with h2 | h2
    · subst h2; exact .inr h1
    · exact .inr (bef_trans h k i j h1 h2)
theorem pastN_sub {h : List Ev} {i k : Nat} {m : Int} (hs : ∀ j, inPast h i m j = true → inPast h k m j = true) : ∀ n, pastN h i m n ≤ pastN h k m n
  | 0 => Nat.le_refl _
  | n + 1 => by
    have ih := pastN_sub hs n
    rw [pastN_succ, pastN_succ]
    split
    · rename_i h1; rw [if_pos (hs n h1)]; omega
    · omega
/-- AHEAD JUST IF BELOW. -/
theorem below_iff {h : List Ev} (hr : RightH h) {i k : Nat} (hi : i < h.length) (hk : k < h.length) : (∀ m, m < 5 → vcN h i m ≤ vcN h k m) ↔ (i = k ∨ bef h k i = true) := by
  have hw := hr.who hi
  constructor
  · intro hle
    have h1 := hle (evAt h i).1.toNat (by omega)
    unfold vcN at h1
    rw [show (((evAt h i).1.toNat : Nat) : Int) = (evAt h i).1 from by omega] at h1
    have h2 : inPast h i (evAt h i).1 i = true := by unfold inPast; simp
    have h3 := (inPast_iff hi hi).1 h2
    have h4 := (inPast_iff hk hi).2 (by omega)
    unfold inPast at h4
    simp only [Bool.and_eq_true, Bool.or_eq_true, decide_eq_true_eq] at h4
    exact h4.2
  · intro hb m _
    refine pastN_sub (fun j hj => inPast_mono ?_ hj) h.length
    unfold inPast
    simp only [Bool.and_eq_true, Bool.or_eq_true, decide_eq_true_eq]
    exact ⟨trivial, hb⟩
/-- A cut could have been just if no event that it takes has counted more of a member than it takes. -/
theorem cut_iff {h : List Ev} (hr : RightH h) {many : List Int} (hm : many.length = 5) (hc : cutErr h many = 0) :
    cutB h many = true ↔ ∀ k, k < h.length → takenB h many k = true → ∀ m, m < 5 → ((vcN h k m : Nat) : Int) ≤ many.getD m 0 := by
  have hpos : ∀ m, m < 5 → 0 ≤ many.getD m 0 := by
    intro m hm5
    unfold cutErr at hc
    split at hc
    · rename_i h1; exact absurd hc h1
    split at hc
    · cases hc
    split at hc
    · cases hc
    rename_i _ _ h3
    have h4 : cutBadAt h many m = false := by
      cases hb : cutBadAt h many m
      · rfl
      · exact absurd (List.any_eq_true.2 ⟨m, List.mem_range.2 hm5, hb⟩) h3
    unfold cutBadAt at h4
    simp only [Bool.or_eq_false_iff, decide_eq_false_iff_not] at h4
    omega
  unfold cutB
  rw [decide_eq_true_eq]
  constructor
  · intro hcut k hk ht m hm5
    have hp := hpos m hm5
    -- the last one in the past of k
    have key : ∀ n, n ≤ h.length → ((pastN h k (m : Int) n : Nat) : Int) ≤ many.getD m 0 := by
      intro n
      induction n with
      | zero => intro _; rw [pastN_zero]; exact hp
      | succ n ih =>
        intro hn
        by_cases hb : inPast h k (m : Int) n = true
        · have hfull := pastN_full hk hb (n + 1) (Nat.le_refl _)
          rw [hfull]
          have hwho : (evAt h n).1 = (m : Int) := by
            unfold inPast at hb; simp only [Bool.and_eq_true, decide_eq_true_eq] at hb; exact hb.1
          have htn : takenB h many n = true := by
            unfold inPast at hb
            simp only [Bool.and_eq_true, Bool.or_eq_true, decide_eq_true_eq] at hb
            rcases hb.2 with e | e
            · subst e; exact ht
            · exact hcut k hk ht n (bef_lt h k n e) e
          unfold takenB at htn
          rw [hwho, decide_eq_true_eq, Int.toNat_natCast] at htn
          rw [cnt_succ h _ n (by omega), ← evAt_get (by omega), if_pos hwho]
          omega
        · rw [pastN_succ, if_neg hb]
          exact ih (by omega)
    exact key h.length (Nat.le_refl _)
  · intro hle k hk ht i hik hb
    have hi : i < h.length := by omega
    have hw := hr.who hi
    have h1 : inPast h k (evAt h i).1 i = true := by unfold inPast; simp [hb]
    have h2 := (inPast_iff hk hi).1 h1
    have h3 := hle k hk ht (evAt h i).1.toNat (by omega)
    unfold vcN at h3
    rw [show (((evAt h i).1.toNat : Nat) : Int) = (evAt h i).1 from by omega] at h3
    have hc := cnt_succ h (evAt h i).1 i hi
    rw [← evAt_get hi, if_pos rfl] at hc
    unfold takenB
    rw [decide_eq_true_eq]
    omega
end Go.Proofs.YtljlnhbndkdlcaaDoor
/- Rows of records, and tables: a row of slice values each of which owns what it points to. -/
namespace Go.Proofs.YtljlnhbndkdlcaaDoor
set_option linter.unusedVariables false
set_option linter.unusedSimpArgs false
open Go.RowKit
section
variable {α : Type}
theorem cells_len (f : α → List Value) (sz : Nat) (hf : ∀ x, (f x).length = sz) (l : List α) : (l.flatMap f).length = l.length * sz := by
  induction l with
  | nil => simp
  | cons x r ih => rw [List.flatMap_cons, List.length_append, ih, hf, List.length_cons, Nat.add_mul]; omega
theorem cells_get (f : α → List Value) (sz : Nat) (hf : ∀ x, (f x).length = sz) : ∀ (l : List α) (k j : Nat) (hk : k < l.length) (_hj : j < sz), (l.flatMap f)[k * sz + j]? = (f l[k])[j]?
  | x :: r, 0, j, _, hj => by
    rw [List.flatMap_cons, List.getElem?_append_left (by rw [hf]; omega)]; simp
  | x :: r, k + 1, j, hk, hj => by
    rw [List.flatMap_cons, List.getElem?_append_right (by rw [hf, Nat.add_mul]; omega)]
    rw [show (k + 1) * sz + j - (f x).length = k * sz + j from by rw [hf, Nat.add_mul]; omega]
    exact cells_get f sz hf r k j (by simpa using hk) hj
/-- A table: rs.length slots from off on in block rb, slot i holding val rs[i]; f rs[i] owned beside it. -/
def TabO (f : α → HProp) (val : α → Value) (ty : TypeId) (rb off cap : Nat) (rs : List α) : HProp := SlAt ty 1 rb off rs.length cap (rs.map val) * starL f rs
theorem Own.tab_facts {f : α → HProp} {val : α → Value} {ty : TypeId} {w0 w : World} {rb off cap : Nat} {rs : List α} {R : HProp} (h : Own w0 (TabO f val ty rb off cap rs * R) w) :
    (∀ (i : Nat) r, rs[i]? = some r → w.cell? ⟨rb, off + i, none⟩ = some (val r)) ∧ (∀ i s, w.frozen? ⟨rb, i, s⟩ = false) ∧ rs.length ≤ cap ∧ cap ≤ maxLen := by
  have h2 : Own w0 (SlAt ty 1 rb off rs.length cap (rs.map val) * (starL f rs * R)) w := h.perm (by unfold TabO; ac_rfl)
  have h3 := h2.slAt_facts
  exact ⟨fun i r hi => h3.2.2.2.1 i _ (by simp [hi]), h3.2.2.2.2.1, h3.1, h3.2.1⟩
/-- One row out of the table, for the while; and back. -/
theorem Own.tab_take {f : α → HProp} {val : α → Value} {ty : TypeId} {w0 w : World} {rb off cap : Nat} {rs : List α} {R : HProp} (h : Own w0 (TabO f val ty rb off cap rs * R) w) {k : Nat} (hk : k < rs.length) :
    Own w0 (f rs[k] * (SlAt ty 1 rb off rs.length cap (rs.map val) * (starL f (rs.eraseIdx k) * R))) w :=
  h.perm (by unfold TabO; rw [starL_split f rs k hk]; ac_rfl)
theorem Own.tab_give {f : α → HProp} {val : α → Value} {ty : TypeId} {w0 w : World} {rb off cap : Nat} {rs : List α} {R : HProp} {k : Nat} (hk : k < rs.length)
    (h : Own w0 (f rs[k] * (SlAt ty 1 rb off rs.length cap (rs.map val) * (starL f (rs.eraseIdx k) * R))) w) : Own w0 (TabO f val ty rb off cap rs * R) w :=
  h.perm (by unfold TabO; rw [starL_split f rs k hk]; ac_rfl)
theorem Own.tab_put {f : α → HProp} {val : α → Value} {ty : TypeId} {w0 w : World} {rb off cap : Nat} {rs : List α} {R : HProp} {k : Nat} (hk : k < rs.length) {y : α}
    (h : Own w0 (f y * (SlAt ty 1 rb off rs.length cap (rs.map val) * (starL f (rs.eraseIdx k) * R))) w) : Own w0 (TabO f val ty rb off cap (rs.set k y) * R) (w.setCell ⟨rb, off + k, none⟩ (val y)) := by
  have h1 : Own w0 (SlAt ty 1 rb off rs.length cap (rs.map val) * (f y * (starL f (rs.eraseIdx k) * R))) w := h.perm (by ac_rfl)
  exact (h1.slAt_set k (val y) (by simpa using hk)).perm (by unfold TabO; rw [starL_set f rs k hk]; simp only [List.length_set, List.map_set]; ac_rfl)
theorem Own.tab_facts' {val : α → Value} {ty : TypeId} {w0 w : World} {rb off cap : Nat} {rs : List α} {Q R : HProp} (h : Own w0 (Q * (SlAt ty 1 rb off rs.length cap (rs.map val) * R)) w) :
    (∀ (i : Nat) r, rs[i]? = some r → w.cell? ⟨rb, off + i, none⟩ = some (val r)) ∧ (∀ i s, w.frozen? ⟨rb, i, s⟩ = false) ∧ rs.length ≤ cap ∧ cap ≤ maxLen := by
  have h2 : Own w0 (SlAt ty 1 rb off rs.length cap (rs.map val) * (Q * R)) w := h.perm (by ac_rfl)
  have h3 := h2.slAt_facts
  exact ⟨fun i r hi => h3.2.2.2.1 i _ (by simp [hi]), h3.2.2.2.2.1, h3.1, h3.2.1⟩
/-- n empty rows. -/
theorem starL_nils (f : α → HProp) (x : α) (hx : f x = emp) (n : Nat) : starL f (List.replicate n x) = emp := by
  induction n with
  | zero => rfl
  | succ n ih => rw [List.replicate_succ]; show f x * starL f (List.replicate n x) = emp; rw [hx, ih, emp_star]
end
/-- The front cut off. -/
theorem Own.sl_drop {w0 w : World} {ty : TypeId} {size n k : Nat} {b off cap : Nat} {xs : List Value} {R : HProp} (hk : k ≤ n) (h : Own w0 (Sl ty size (.slice (some ⟨b, off, none⟩) n cap) n xs * R) w) :
    Own w0 (Sl ty size (.slice (some ⟨b, off + k * size, none⟩) (n - k) (cap - k)) (n - k) (xs.drop (k * size)) * R) w := by
  rcases h.sl_cases with ⟨h1, _⟩ | ⟨b', off', cap', cs, h1, h2, h3, h4, h5, h6, ho⟩
  · cases h1
  · injection h1 with e1 e2 e3
    injection e1 with e1
    injection e1 with e1 e4
    subst e1; subst e4; subst e3
    have hm : k * size ≤ n * size := Nat.mul_le_mul_right _ hk
    have hm2 : n * size ≤ cap * size := Nat.mul_le_mul_right _ h2
    refine Own.sl_mk (by omega) (by omega) (by rw [List.length_drop, h4, Nat.sub_mul]) (by rw [Nat.sub_mul]; omega) (fun i hi => ?_) ho
    rw [List.length_drop] at hi
    rw [List.getElem?_drop, Nat.add_assoc]
    exact h6 (k * size + i) (by omega)
theorem Own.slAt_ne {w0 w : World} {p b : Nat} {o : Obj} {ty : TypeId} {size off n cap : Nat} {xs : List Value} {R : HProp} (h : Own w0 (blk p o * (SlAt ty size b off n cap xs * R)) w) : p ≠ b := by
  have h1 : Own w0 (SlAt ty size b off n cap xs * (blk p o * R)) w := h.perm (star_left_comm _ _ _)
  have h2 : Own w0 (hex (fun cs : Array Value => blk b (.cells cs ty (0, 0))) * (blk p o * R)) w := h1.cons fun hp hh => by
    obtain ⟨cs, hc⟩ := hh
    exact ⟨cs, hc.2.2.2.2.2⟩
  obtain ⟨cs, h3⟩ := h2.ex
  exact (h3.perm (star_left_comm _ _ _)).ne
section
variable {P : Program}
theorem wpList_slice {w : World} {ops : Array Oper} {rest : List Oper} {o : Oper} {a : Act} {Q : Exit → Act → World → Prop} (v : Value)
    (hg : o.guard = none) (t : TypeId) (x : Operand) (lo hi mx : Option Operand) (hop : o.op = Op.slice t x lo hi mx)
    (hrun : (Instr.sliceAt t (a.eval x) (lo.map a.eval) (hi.map a.eval) (mx.map a.eval)).run P w = .ok v w)
    (hK : wpList P ops Q rest (a.put o.dst v) w) : wpList P ops Q (o :: rest) a w := by
  refine wpList_plain hg fun K' hK' => ?_
  unfold Oper.wp
  simp [execOp, hop, hrun, Result.andThen]
  exact hK' _ _ hK
theorem step_slice {w : World} {ops : Array Oper} {o : Oper} {a : Act} {K : Act → World → Prop} {Q : Exit → Act → World → Prop} {E : Prop} (v : Value)
    (hg : o.guard = none) (t : TypeId) (x : Operand) (lo hi mx : Option Operand) (hop : o.op = Op.slice t x lo hi mx)
    (hrun : (Instr.sliceAt t (a.eval x) (lo.map a.eval) (hi.map a.eval) (mx.map a.eval)).run P w = .ok v w)
    (hK : K (a.put o.dst v) w) : if Region.wanted o (yielded ops a.tmps) = true then Oper.wp P o a w K Q else E := by
  have hw : Region.wanted o (yielded ops a.tmps) = true := by simp [Region.wanted, hg]
  rw [if_pos hw]
  unfold Oper.wp
  simp [execOp, hop, hrun, Result.andThen]
  exact hK
theorem wpList_min {w : World} {ops : Array Oper} {rest : List Oper} {o : Oper} {a : Act} {Q : Exit → Act → World → Prop} (m n : Int)
    (hg : o.guard = none) (x y : Operand) (t u : TypeId) (hop : o.op = Op.call { callee := Callee.builtin Builtin.min, args := #[x, y], argTypes := #[t, u] })
    (hx : a.eval x = .int .i64 m) (hy : a.eval y = .int .i64 n)
    (hK : wpList P ops Q rest (a.put o.dst (.int .i64 (min m n))) w) : wpList P ops Q (o :: rest) a w := by
  refine wpList_plain hg fun K' hK' => ?_
  have hrun : (Builtin.min_ #[t, u] o.type #[.int .i64 m, .int .i64 n]).run P w = .ok (.int .i64 (min m n)) w := by
    simp [Builtin.min_, Builtin.min2]
    split <;> omega
  unfold Oper.wp
  simp [execOp, hop, hx, hy, resolve, invoke, builtin, hrun, Result.andThen]
  exact hK' _ _ hK
end
/-- What a slice of ints is, cut at n. -/
def cutA (ad : Option Addr) (cp n : Nat) : Option Addr := if cp = n then ad else ad.map (·.add n)
def cutV (ad : Option Addr) (len cp n : Nat) : Value := .slice (cutA ad cp n) (len - n) (cp - n)
theorem cut_front {P : Program} {t e : TypeId} (ht : P.underlying t = some (.slice e)) (hs : ∀ w, (sizeOf e).run P w = .ok 1 w) {ad : Option Addr} {len cp n : Nat} (h1 : n ≤ len) (h2 : len ≤ cp) (w : World) :
    (Instr.sliceAt t (.slice ad len cp) (some (.int .i64 n)) none none).run P w = .ok (cutV ad len cp n) w := by
  simp [Instr.sliceAt, Instr.slice, Instr.sliceBounds, Instr.sliceBound, asIntOf, run_underlying ht, hs, h1, cutV, cutA, Result.andThen]
theorem cut_back {P : Program} {t e : TypeId} (ht : P.underlying t = some (.slice e)) (hs : ∀ w, (sizeOf e).run P w = .ok 1 w) {ad : Option Addr} {len cp n : Nat} (h1 : n ≤ len) (h2 : len ≤ cp) (w : World) :
    (Instr.sliceAt t (.slice ad len cp) none (some (.int .i64 n)) none).run P w = .ok (.slice ad n cp) w := by
  have h3 : n ≤ cp := by omega
  simp [Instr.sliceAt, Instr.slice, Instr.sliceBounds, Instr.sliceBound, asIntOf, run_underlying ht, hs, h3, Result.andThen]
  intro _
  cases ad <;> simp [Addr.add]
theorem Own.sl_cut {w0 w : World} {ty : TypeId} {len cp n : Nat} {ad : Option Addr} {xs : List Value} {R : HProp} (hk : n ≤ len) (h : Own w0 (Sl ty 1 (.slice ad len cp) len xs * R) w) :
    Own w0 (Sl ty 1 (cutV ad len cp n) (len - n) (xs.drop n) * R) w := by
  rcases h.sl_cases with ⟨h1, h2, h3, ho⟩ | ⟨b', off', cap', cs, h1, h2, h3, h4, h5, h6, ho⟩
  · injection h1 with e1 e2 e3
    subst e1; subst e2; subst e3; subst h3
    have : n = 0 := by omega
    subst this
    simpa [cutV, cutA] using ho.sl_nil ty 1
  · injection h1 with e1 e2 e3
    subst e1; subst e3
    unfold cutV cutA
    by_cases hc : cp = n
    · have hl : len = n := by omega
      subst hl
      rw [if_pos hc]
      have hx : xs.drop len = [] := List.drop_eq_nil_of_le (by omega)
      rw [hx]
      refine Own.sl_mk (by omega) (by omega) (by simp) ?_ (fun i hi => by simp at hi) ho
      omega
    · rw [if_neg hc]
      have := h.sl_drop hk
      rw [Nat.mul_one] at this
      rw [Option.map_some, Addr.add_lit]
      exact this
end Go.Proofs.YtljlnhbndkdlcaaDoor
