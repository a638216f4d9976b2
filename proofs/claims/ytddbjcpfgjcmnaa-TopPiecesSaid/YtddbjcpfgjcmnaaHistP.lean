/- Histories, plainly: what is right, who is ahead of whom, which cuts could have been. -/
import Derived.Test.YtddbjcpfgjcmnaaVec
namespace Go.Proofs.Ytddbjcpfgjcmnaa
set_option linter.unusedVariables false
set_option linter.unusedSimpArgs false
open Go.RowKit
abbrev Ev := Int × Int × Int
def whereI {α : Type} (p : α → Bool) : List α → Int
  | [] => -1
  | x :: r => if p x then 0 else if whereI p r < 0 then -1 else whereI p r + 1
theorem whereI_hit {α : Type} (p : α → Bool) : ∀ (l : List α) (k : Nat) (hk : k < l.length), (∀ j (h : j < k), p (l[j]'(by omega)) = false) → p l[k] = true → whereI p l = k
  | x :: r, 0, hk, _, h => by unfold whereI; rw [if_pos (by simpa using h)]; rfl
  | x :: r, k + 1, hk, h1, h2 => by
    have ih := whereI_hit p r k (by simpa using hk) (fun j h => by have := h1 (j + 1) (by omega); simpa using this) (by simpa using h2)
    unfold whereI
    rw [if_neg (by have := h1 0 (by omega); simpa using this), ih, if_neg (by omega)]
    omega
theorem whereI_miss {α : Type} (p : α → Bool) : ∀ (l : List α), (∀ j (h : j < l.length), p l[j] = false) → whereI p l = -1
  | [], _ => rfl
  | x :: r, h => by
    have ih := whereI_miss p r (fun j hj => by have := h (j + 1) (by simpa using hj); simpa using this)
    unfold whereI
    rw [if_neg (by have := h 0 (by simp); simpa using this), ih, if_pos (by omega)]
theorem whereI_cases {α : Type} (p : α → Bool) (l : List α) : (whereI p l = -1 ∧ ∀ x ∈ l, p x = false) ∨ ∃ (k : Nat) (hk : k < l.length), whereI p l = k ∧ p l[k] = true ∧ ∀ j (h : j < k), p (l[j]'(by omega)) = false := by
  induction l with
  | nil => exact .inl ⟨rfl, fun x h => by cases h⟩
  | cons x r ih =>
    by_cases hx : p x = true
    · exact .inr ⟨0, by simp, by unfold whereI; rw [if_pos hx]; rfl, by simpa using hx, fun j h => by omega⟩
    rcases ih with ⟨h1, h2⟩ | ⟨k, hk, h1, h2, h3⟩
    · refine .inl ⟨by unfold whereI; rw [if_neg hx, if_pos (by omega)], fun y hy => ?_⟩
      rcases List.mem_cons.1 hy with rfl | hy
      · simpa using hx
      · exact h2 y hy
    · refine .inr ⟨k + 1, by simpa using hk, by unfold whereI; rw [if_neg hx, if_neg (by omega)]; omega, by simpa using h2, fun j h => ?_⟩
      cases j with
      | zero => simpa using hx
      | succ j => simpa using h3 j (by omega)
theorem whereI_any {α : Type} (p : α → Bool) (l : List α) : (0 ≤ whereI p l) ↔ l.any p = true := by
  rcases whereI_cases p l with ⟨h1, h2⟩ | ⟨k, hk, h1, h2, _⟩
  · rw [h1]
    constructor
    · intro h; omega
    · intro h
      obtain ⟨x, hx, hp⟩ := List.any_eq_true.1 h
      rw [h2 x hx] at hp; cases hp
  · rw [h1]
    exact ⟨fun _ => List.any_eq_true.2 ⟨_, List.getElem_mem hk, h2⟩, fun _ => by omega⟩
def rightB (e : Ev) : Bool := isMember e.1 && (if e.2.1 = 1 then decide (e.2.2 = 0) else (decide (e.2.1 = 2) || decide (e.2.1 = 3)) && isWord e.2.2)
def saysB (wd : Int) (e : Ev) : Bool := decide (e.2.1 = 2) && decide (e.2.2 = wd)
def saidAt (h : List Ev) (wd : Int) : Int := whereI (saysB wd) h
def evAt (h : List Ev) (i : Nat) : Ev := h.getD i (0, 0, 0)
def evErr (ahead : List Ev) (e : Ev) : Nat :=
  if rightB e = false then 1
  else if (e.2.1 = 2 ∧ 0 ≤ saidAt ahead e.2.2) ∨ (e.2.1 = 3 ∧ e ∈ ahead) then 7
  else if e.2.1 = 3 ∧ saidAt ahead e.2.2 < 0 then 5
  else if e.2.1 = 3 ∧ (evAt ahead (saidAt ahead e.2.2).toNat).1 = e.1 then 3 else 0
def histGo (ahead : List Ev) : List Ev → Nat × Nat
  | [] => (0, 0)
  | e :: r => if evErr ahead e ≠ 0 then (ahead.length, evErr ahead e) else histGo (ahead ++ [e]) r
def histR (h : List Ev) : Nat × Nat := if 60 < h.length then (0, 4) else histGo [] h
/-- A history that is right. -/
def RightH (h : List Ev) : Prop := h.length ≤ 60 ∧ ∀ k (hk : k < h.length), evErr (h.take k) h[k] = 0
theorem histGo_ok : ∀ (r ahead : List Ev), (histGo ahead r).2 = 0 ↔ ∀ k (hk : k < r.length), evErr (ahead ++ r.take k) r[k] = 0
  | [], ahead => by simp [histGo]
  | e :: r, ahead => by
    unfold histGo
    by_cases he : evErr ahead e = 0
    · rw [if_neg (by simpa using he), histGo_ok r]
      constructor
      · intro h k hk
        cases k with
        | zero => simpa using he
        | succ k => have := h k (by simpa using hk); simpa using this
      · intro h k hk
        have := h (k + 1) (by simpa using hk); simpa using this
    · rw [if_pos he]
      constructor
      · intro h; exact absurd h he
      · intro h; exact absurd (by have := h 0 (by simp); simpa only [List.take_zero, List.append_nil, List.getElem_cons_zero] using this) he
theorem histR_ok (h : List Ev) : (histR h).2 = 0 ↔ RightH h := by
  unfold histR RightH
  by_cases hl : 60 < h.length
  · rw [if_pos hl]; simp; omega
  · rw [if_neg hl, histGo_ok]
    simp; intro _; omega
/-- Is an event straight ahead of another one behind it? -/
def directB (a e : Ev) : Bool := decide (a.1 = e.1) || (decide (e.2.1 = 3) && (decide (a.2.1 = 2) && decide (a.2.2 = e.2.2)))
def orRow (r s : List Bool) : List Bool := List.zipWith (fun a b => a || b) r s
/-- Row k, behind i rounds. -/
def pastRow (h : List Ev) (rows : List (List Bool)) (k : Nat) : Nat → List Bool
  | 0 => List.replicate h.length false
  | i + 1 => if directB (evAt h i) (evAt h k) then orRow ((pastRow h rows k i).set i true) (rows.getD i []) else pastRow h rows k i
def pastsR (h : List Ev) : Nat → List (List Bool)
  | 0 => []
  | k + 1 => pastsR h k ++ [pastRow h (pastsR h k) k k]
theorem pastsR_len (h : List Ev) : ∀ n, (pastsR h n).length = n
  | 0 => rfl
  | n + 1 => by simp [pastsR, pastsR_len h n]
theorem orRow_len {r s : List Bool} (h : r.length = s.length) : (orRow r s).length = r.length := by simp [orRow, h]
theorem pastRow_len (h : List Ev) (rows : List (List Bool)) (k : Nat) (hr : ∀ r ∈ rows, r.length = h.length) : ∀ i, i ≤ rows.length → (pastRow h rows k i).length = h.length
  | 0, _ => by simp [pastRow]
  | i + 1, hi => by
    have ih := pastRow_len h rows k hr i (by omega)
    have hg : (rows.getD i []).length = h.length := by
      rw [List.getD_eq_getElem?_getD, List.getElem?_eq_getElem (by omega), Option.getD_some]
      exact hr _ (List.getElem_mem _)
    unfold pastRow
    split
    · rw [orRow_len (by rw [List.length_set, ih, hg]), List.length_set, ih]
    · exact ih
theorem pastsR_row (h : List Ev) : ∀ n, ∀ r ∈ pastsR h n, r.length = h.length
  | 0, r, hr => by cases hr
  | n + 1, r, hr => by
    simp only [pastsR, List.mem_append, List.mem_singleton] at hr
    rcases hr with hr | rfl
    · exact pastsR_row h n r hr
    · exact pastRow_len h _ n (pastsR_row h n) n (by rw [pastsR_len]; omega)
theorem pastsR_get (h : List Ev) : ∀ n k, k < n → (pastsR h n).getD k [] = pastRow h (pastsR h k) k k
  | n + 1, k, hk => by
    simp only [pastsR]
    rw [List.getD_eq_getElem?_getD]
    by_cases hkn : k < n
    · rw [List.getElem?_append_left (by rw [pastsR_len]; exact hkn), ← List.getD_eq_getElem?_getD]
      exact pastsR_get h n k hkn
    · have : k = n := by omega
      subst this
      rw [List.getElem?_append_right (by rw [pastsR_len]; omega), pastsR_len]
      simp
/-- Is event j ahead of event k? -/
def bef (h : List Ev) (k j : Nat) : Bool := ((pastsR h h.length).getD k []).getD j false
theorem getD_orRow {r s : List Bool} (h : r.length = s.length) (j : Nat) : (orRow r s).getD j false = (r.getD j false || s.getD j false) := by
  simp only [orRow, List.getD_eq_getElem?_getD, List.getElem?_zipWith]
  by_cases hj : j < r.length
  · rw [List.getElem?_eq_getElem hj, List.getElem?_eq_getElem (by omega)]; rfl
  · rw [List.getElem?_eq_none (by omega), List.getElem?_eq_none (by omega)]; rfl
theorem pastRow_get (h : List Ev) (rows : List (List Bool)) (k : Nat) (hr : ∀ r ∈ rows, r.length = h.length) (j : Nat) : ∀ i, i ≤ rows.length → i ≤ h.length →
    ((pastRow h rows k i).getD j false = true ↔ ∃ m, m < i ∧ directB (evAt h m) (evAt h k) = true ∧ (m = j ∨ (rows.getD m []).getD j false = true))
  | 0, _, _ => by
    simp only [pastRow, List.getD_eq_getElem?_getD, List.getElem?_replicate]
    constructor
    · intro hh; split at hh <;> simp at hh
    · rintro ⟨m, hm, _⟩; omega
  | i + 1, hi, hi2 => by
    have ih := pastRow_get h rows k hr j i (by omega) (by omega)
    have hl := pastRow_len h rows k hr i (by omega)
    have hg : (rows.getD i []).length = h.length := by
      rw [List.getD_eq_getElem?_getD, List.getElem?_eq_getElem (by omega), Option.getD_some]
      exact hr _ (List.getElem_mem _)
    unfold pastRow
    by_cases hd : directB (evAt h i) (evAt h k) = true
    · rw [if_pos hd, getD_orRow (by rw [List.length_set, hl, hg]), Bool.or_eq_true]
      have hs : ((pastRow h rows k i).set i true).getD j false = true ↔ (i = j ∨ (pastRow h rows k i).getD j false = true) := by
        simp only [List.getD_eq_getElem?_getD, List.getElem?_set]
        by_cases hij : i = j
        · subst hij; rw [if_pos rfl, if_pos (by omega)]; simp
        · rw [if_neg hij]; simp [hij]
      rw [hs, ih]
      constructor
      · rintro ((h1 | ⟨m, h1, h2, h3⟩) | h1)
        · exact ⟨i, by omega, hd, .inl h1⟩
        · exact ⟨m, by omega, h2, h3⟩
        · exact ⟨i, by omega, hd, .inr h1⟩
      · rintro ⟨m, h1, h2, h3⟩
        by_cases hm : m = i
        · subst hm
          rcases h3 with h3 | h3
          · exact .inl (.inl h3)
          · exact .inr h3
        · exact .inl (.inr ⟨m, by omega, h2, h3⟩)
    · rw [if_neg hd, ih]
      constructor
      · rintro ⟨m, h1, h2, h3⟩; exact ⟨m, by omega, h2, h3⟩
      · rintro ⟨m, h1, h2, h3⟩
        by_cases hm : m = i
        · subst hm; exact absurd h2 hd
        · exact ⟨m, by omega, h2, h3⟩
theorem bef_iff (h : List Ev) (k j : Nat) (hk : k < h.length) : bef h k j = true ↔ ∃ m, m < k ∧ directB (evAt h m) (evAt h k) = true ∧ (m = j ∨ bef h m j = true) := by
  unfold bef
  rw [pastsR_get h _ k hk, pastRow_get h _ k (pastsR_row h k) j k (by rw [pastsR_len]; omega) (by omega)]
  constructor
  · rintro ⟨m, h1, h2, h3⟩
    refine ⟨m, h1, h2, ?_⟩
    rw [pastsR_get h k m h1] at h3
    rw [pastsR_get h _ m (by omega)]
    exact h3
  · rintro ⟨m, h1, h2, h3⟩
    refine ⟨m, h1, h2, ?_⟩
    rw [pastsR_get h k m h1]
    rw [pastsR_get h _ m (by omega)] at h3
    exact h3
theorem bef_none (h : List Ev) (k j : Nat) (hk : h.length ≤ k) : bef h k j = false := by
  unfold bef
  rw [show (pastsR h h.length).getD k [] = [] from by rw [List.getD_eq_getElem?_getD, List.getElem?_eq_none (by rw [pastsR_len]; exact hk)]; rfl]
  rfl
theorem bef_lt (h : List Ev) : ∀ k j, bef h k j = true → j < k := by
  intro k
  induction k using Nat.strongRecOn with
  | _ k ih =>
    intro j hb
    by_cases hk : k < h.length
    · obtain ⟨m, h1, _, h3⟩ := (bef_iff h k j hk).1 hb
      rcases h3 with rfl | h3
      · exact h1
      · have := ih m h1 j h3; omega
    · rw [bef_none h k j (by omega)] at hb; cases hb
theorem bef_trans (h : List Ev) : ∀ k i j, bef h k i = true → bef h i j = true → bef h k j = true := by
  intro k
  induction k using Nat.strongRecOn with
  | _ k ih =>
    intro i j h1 h2
    by_cases hk : k < h.length
    · obtain ⟨m, hm, hd, h3⟩ := (bef_iff h k i hk).1 h1
      rcases h3 with rfl | h3
      · exact (bef_iff h k j hk).2 ⟨m, hm, hd, .inr h2⟩
      · exact (bef_iff h k j hk).2 ⟨m, hm, hd, .inr (ih m hm i j h3 h2)⟩
    · rw [bef_none h k i (by omega)] at h1; cases h1
/-- How many of the first n events are of a member. -/
def cnt (h : List Ev) (m : Int) (n : Nat) : Nat := ((h.take n).filter fun e => decide (e.1 = m)).length
theorem cnt_zero (h : List Ev) (m : Int) : cnt h m 0 = 0 := by simp [cnt]
theorem cnt_succ (h : List Ev) (m : Int) (n : Nat) (hn : n < h.length) : cnt h m (n + 1) = cnt h m n + if h[n].1 = m then 1 else 0 := by
  unfold cnt
  rw [List.take_succ_eq_append_getElem hn, List.filter_append, List.length_append]
  congr 1
  by_cases he : h[n].1 = m <;> simp [he]
theorem cnt_le (h : List Ev) (m : Int) (n : Nat) : cnt h m n ≤ n := by
  unfold cnt
  exact Nat.le_trans (List.length_filter_le _ _) (by simp; omega)
theorem cnt_mono (h : List Ev) (m : Int) : ∀ {a b : Nat}, a ≤ b → cnt h m a ≤ cnt h m b := by
  intro a b hab
  unfold cnt
  have : h.take a = (h.take b).take a := by rw [List.take_take, Nat.min_eq_left hab]
  rw [this]
  exact ((List.take_sublist a _).filter _).length_le
/-- Is event k taken by a cut? -/
def takenB (h : List Ev) (many : List Int) (k : Nat) : Bool := decide (((cnt h (evAt h k).1 k : Nat) : Int) < many.getD (evAt h k).1.toNat 0)
def cutBadAt (h : List Ev) (many : List Int) (i : Nat) : Bool := decide (many.getD i 0 < 0) || decide (((cnt h (i : Int) h.length : Nat) : Int) < many.getD i 0)
def cutErr (h : List Ev) (many : List Int) : Nat :=
  if (histR h).2 ≠ 0 then (histR h).2 else if many.length ≠ 5 then 3 else if (List.range 5).any (cutBadAt h many) = true then 1 else 0
def cutB (h : List Ev) (many : List Int) : Bool := decide (∀ k, k < h.length → takenB h many k = true → ∀ i, i < k → bef h k i = true → takenB h many i = true)
end Go.Proofs.Ytddbjcpfgjcmnaa
