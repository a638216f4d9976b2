/- The vectors of a right history count who is ahead. -/
import Derived.Test.YtljlnhbndkdlcaaDoorMClockTells2
import Derived.Test.YtljlnhbndkdlcaaDoorMClockTells8
import Derived.Test.YtljlnhbndkdlcaaDoorMClockTells7
namespace Go.Proofs.YtljlnhbndkdlcaaDoor
set_option linter.unusedVariables false
set_option linter.unusedSimpArgs false
open Go.RowKit
def cntF (p : Nat → Bool) (n : Nat) : Nat := ((List.range n).filter p).length
theorem cntF_succ (p : Nat → Bool) (n : Nat) : cntF p (n + 1) = cntF p n + if p n = true then 1 else 0 := by
  unfold cntF
  rw [List.range_succ, List.filter_append, List.length_append]
  congr 1
  cases hb : p n <;> simp [hb]
theorem cntF_sub {p q : Nat → Bool} (h : ∀ x, p x = true → q x = true) : ∀ n, cntF p n ≤ cntF q n
  | 0 => Nat.le_refl _
  | n + 1 => by
    have := cntF_sub h n
    rw [cntF_succ, cntF_succ]
    split
    · rename_i h1; rw [if_pos (h n h1)]; omega
    · omega
theorem cntF_add {p q : Nat → Bool} {k : Nat} {b : Bool} (h : ∀ x, q x = true ↔ p x = true ∨ (x = k ∧ b = true)) (hk : p k = false) : ∀ n, cntF q n = cntF p n + if k < n ∧ b = true then 1 else 0
  | 0 => by simp [cntF]
  | n + 1 => by
    have ih := cntF_add h hk n
    rw [cntF_succ, cntF_succ, ih]
    by_cases e : n = k
    · subst e
      rw [if_neg (by omega), if_neg (show ¬ p n = true by rw [hk]; simp)]
      by_cases hb : b = true
      · rw [if_pos ((h n).2 (.inr ⟨rfl, hb⟩)), if_pos ⟨by omega, hb⟩]
      · rw [if_neg (fun hh => by rcases (h n).1 hh with h1 | h1; rw [hk] at h1; cases h1; exact hb h1.2), if_neg (fun hh => hb hh.2)]
    · have hpq : q n = true ↔ p n = true := by
        rw [h n]
        exact ⟨fun hh => by rcases hh with h1 | h1; exact h1; exact absurd h1.1 e, .inl⟩
      by_cases hp : p n = true
      · rw [if_pos (hpq.2 hp), if_pos hp]
        by_cases hc : k < n ∧ b = true
        · rw [if_pos hc, if_pos ⟨by omega, hc.2⟩]
        · rw [if_neg hc, if_neg (fun hh => hc ⟨by omega, hh.2⟩)]
      · rw [if_neg (fun hh => hp (hpq.1 hh)), if_neg hp]
        by_cases hc : k < n ∧ b = true
        · rw [if_pos hc, if_pos ⟨by omega, hc.2⟩]
        · rw [if_neg hc, if_neg (fun hh => hc ⟨by omega, hh.2⟩)]
theorem cntF_union {p q r : Nat → Bool} {k n : Nat} {b : Bool} (h : ∀ x, r x = true ↔ (p x = true ∨ q x = true) ∨ (x = k ∧ b = true)) (hp : p k = false) (hq : q k = false) (hn : (∀ x, p x = true → q x = true) ∨ (∀ x, q x = true → p x = true)) (hk : k < n) :
    cntF r n = max (cntF p n) (cntF q n) + if b = true then 1 else 0 := by
  rcases hn with hn | hn
  · have h1 := cntF_add (p := q) (q := r) (k := k) (b := b) (fun x => by rw [h x]; exact ⟨fun hh => by rcases hh with (h2 | h2) | h2; exact .inl (hn x h2); exact .inl h2; exact .inr h2, fun hh => by rcases hh with h2 | h2; exact .inl (.inr h2); exact .inr h2⟩) hq n
    have h2 := cntF_sub hn n
    rw [h1, Nat.max_eq_right h2]
    by_cases hb : b = true
    · rw [if_pos hb, if_pos ⟨hk, hb⟩]
    · rw [if_neg hb, if_neg (fun hh => hb hh.2)]
  · have h1 := cntF_add (p := p) (q := r) (k := k) (b := b) (fun x => by rw [h x]; exact ⟨fun hh => by rcases hh with (h2 | h2) | h2; exact .inl h2; exact .inl (hn x h2); exact .inr h2, fun hh => by rcases hh with h2 | h2; exact .inl (.inl h2); exact .inr h2⟩) hp n
    have h2 := cntF_sub hn n
    rw [h1, Nat.max_eq_left h2]
    by_cases hb : b = true
    · rw [if_pos hb, if_pos ⟨hk, hb⟩]
    · rw [if_neg hb, if_neg (fun hh => hb hh.2)]
theorem vcN_cnt (h : List Ev) (k m : Nat) : vcN h k m = cntF (inPast h k (m : Int)) h.length := rfl
theorem inPast_self {h : List Ev} {i k : Nat} {m : Int} (hik : i < k) : inPast h i m k = false := by
  cases hb : inPast h i m k
  · rfl
  · have := inPast_lt hb; omega
theorem inPast_nested {h : List Ev} {i j : Nat} {m : Int} (hi : i < h.length) (hj : j < h.length) : (∀ x, inPast h i m x = true → inPast h j m x = true) ∨ (∀ x, inPast h j m x = true → inPast h i m x = true) := by
  by_cases hh : ∀ x, inPast h i m x = true → inPast h j m x = true
  · exact .inl hh
  · right
    have ⟨x, hx⟩ : ∃ x, ¬ (inPast h i m x = true → inPast h j m x = true) := Classical.not_forall.1 hh
    have hx1 : inPast h i m x = true := Classical.byContradiction fun hc => hx fun h2 => absurd h2 hc
    have hx2 : ¬ inPast h j m x = true := fun h2 => hx fun _ => h2
    have hxm : (evAt h x).1 = m := by unfold inPast at hx1; simp only [Bool.and_eq_true, decide_eq_true_eq] at hx1; exact hx1.1
    intro y hy
    have hym : (evAt h y).1 = m := by unfold inPast at hy; simp only [Bool.and_eq_true, decide_eq_true_eq] at hy; exact hy.1
    by_cases hxy : x ≤ y
    · exact absurd (inPast_down hj hy hxy hxm) hx2
    · exact inPast_down hi hx1 (by omega) hym
/-- Is x event j or ahead of it? -/
def pst (h : List Ev) (j x : Nat) : Prop := x = j ∨ bef h j x = true
theorem inPast_pst {h : List Ev} {k : Nat} {m : Int} {x : Nat} : inPast h k m x = true ↔ (evAt h x).1 = m ∧ pst h k x := by
  unfold inPast pst
  simp only [Bool.and_eq_true, Bool.or_eq_true, decide_eq_true_eq]
/-- What is ahead of an event: what its member had, and what it heard of. -/
theorem bef_split {h : List Ev} (hr : RightH h) {k : Nat} (hk : k < h.length) (x : Nat) :
    bef h k x = true ↔ (∃ j, j < k ∧ (evAt h j).1 = (evAt h k).1 ∧ pst h j x) ∨ ((evAt h k).2.1 = 3 ∧ pst h (saidAt (h.take k) (evAt h k).2.2).toNat x) := by
  rw [bef_iff h k x hk]
  constructor
  · rintro ⟨j, h1, h2, h3⟩
    unfold directB at h2
    simp only [Bool.or_eq_true, Bool.and_eq_true, decide_eq_true_eq] at h2
    have h3' : pst h j x := by rcases h3 with h3 | h3; exact .inl h3.symm; exact .inr h3
    rcases h2 with h2 | ⟨h2, h4, h5⟩
    · exact .inl ⟨j, h1, h2, h3'⟩
    · obtain ⟨i, hi, hs, h6, h7, _⟩ := hr.said hk h2
      have hij : i = j := hr.once (by omega) (by omega) h6 h4 (by rw [h7, h5])
      subst hij
      exact .inr ⟨h2, by rw [hs]; simpa using h3'⟩
  · rintro (⟨j, h1, h2, h3⟩ | ⟨h2, h3⟩)
    · exact ⟨j, h1, by unfold directB; simp [h2], by rcases h3 with h3 | h3; exact .inl h3.symm; exact .inr h3⟩
    · obtain ⟨i, hi, hs, h6, h7, _⟩ := hr.said hk h2
      rw [hs, Int.toNat_natCast] at h3
      exact ⟨i, hi, by unfold directB; simp [h2, h6, h7], by rcases h3 with h3 | h3; exact .inl h3.symm; exact .inr h3⟩
theorem zipMax_getD {a b : List Int} (ha : a.length = 5) (hb : b.length = 5) {m : Nat} (hm : m < 5) : (zipMax a b).getD m 0 = max (a.getD m 0) (b.getD m 0) := by
  have hl := zipMax_len a b (by rw [ha, hb])
  simp only [List.getD_eq_getElem?_getD]
  rw [List.getElem?_eq_getElem (by omega), List.getElem?_eq_getElem (by omega), List.getElem?_eq_getElem (by omega)]
  exact zipMax_get a b m (by omega) (by omega) (by omega)
theorem zero5_getD {m : Nat} (hm : m < 5) : zero5.getD m 0 = 0 := by
  match m, hm with
  | 0, _ => rfl
  | 1, _ => rfl
  | 2, _ => rfl
  | 3, _ => rfl
  | 4, _ => rfl
theorem cntF_none (n : Nat) : cntF (fun _ => false) n = 0 := by unfold cntF; simp
theorem vec_count {h : List Ev} (hr : RightH h) : ∀ k, k ≤ h.length → (∀ i, i < k → ∀ m, m < 5 → ((vecState h k).1.getD i []).getD m 0 = ((vcN h i m : Nat) : Int)) ∧
    (∀ w, w < 5 → ((∀ j, j < k → (evAt h j).1 ≠ ((w : Nat) : Int)) ∧ (vecState h k).2.getD w [] = []) ∨ ∃ j, j < k ∧ (evAt h j).1 = ((w : Nat) : Int) ∧ (∀ i, j < i → i < k → (evAt h i).1 ≠ ((w : Nat) : Int)) ∧ (vecState h k).2.getD w [] = (vecState h k).1.getD j [])
  | 0, _ => ⟨fun i hi => by omega, fun w hw => .inl ⟨fun j hj => by omega, by
      match w, hw with
      | 0, _ => rfl
      | 1, _ => rfl
      | 2, _ => rfl
      | 3, _ => rfl
      | 4, _ => rfl⟩⟩
  | k + 1, hk => by
    obtain ⟨ih1, ih2⟩ := vec_count hr k (by omega)
    have hkl : k < h.length := by omega
    obtain ⟨hl1, hl2⟩ := vecState_len h k
    obtain ⟨hi1, hi2⟩ := vecState_in hr k (by omega)
    have hv0 := vec0_in hi2 (evAt h k).1.toNat
    have hv1 := vec1_in hr hkl hl1 hi1 hi2
    have hwho := hr.who hkl
    obtain ⟨w, hw⟩ : ∃ w : Nat, (evAt h k).1 = (w : Int) := ⟨(evAt h k).1.toNat, by omega⟩
    have hw5 : w < 5 := by omega
    have hwt : (evAt h k).1.toNat = w := by omega
    rw [hwt] at hv0
    -- the own past
    obtain ⟨A, hA1, hA2, hA3, hA4⟩ : ∃ A : Nat → Nat → Bool, (∀ m, m < 5 → (vec0 (vecState h k) w).getD m 0 = ((cntF (A m) h.length : Nat) : Int)) ∧ (∀ m x, A m x = true ↔ (evAt h x).1 = (m : Int) ∧ ∃ j, j < k ∧ (evAt h j).1 = (evAt h k).1 ∧ pst h j x) ∧ (∀ m, A m k = false) ∧ (∀ m, (∀ x, A m x = false) ∨ ∃ j, j < k ∧ A m = inPast h j (m : Int)) := by
      rcases ih2 w hw5 with ⟨h1, h2⟩ | ⟨j, h1, h2, h3, h4⟩
      · refine ⟨fun _ _ => false, fun m hm => ?_, fun m x => ?_, fun _ => rfl, fun _ => .inl fun _ => rfl⟩
        · unfold vec0; rw [if_pos h2, zero5_getD hm, cntF_none]; rfl
        · constructor
          · intro hh; cases hh
          · rintro ⟨_, j, hj, hj2, _⟩; exact absurd (hj2.trans hw) (h1 j hj)
      · refine ⟨fun m => inPast h j (m : Int), fun m hm => ?_, fun m x => ?_, fun m => inPast_self h1, fun m => .inr ⟨j, h1, rfl⟩⟩
        · have hne : (vecState h k).1.getD j [] ≠ [] := by
            intro hh
            have := hi1 ((vecState h k).1.getD j []) (by rw [List.getD_eq_getElem?_getD, List.getElem?_eq_getElem (by omega)]; exact List.getElem_mem _)
            rw [hh] at this
            have := this.1
            cases this
          unfold vec0
          rw [if_neg (by rw [h4]; exact hne), h4, ih1 j h1 m hm, vcN_cnt]
        · rw [inPast_pst]
          constructor
          · rintro ⟨a, b⟩; exact ⟨a, j, h1, h2.trans hw.symm, b⟩
          · rintro ⟨a, i, b1, b2, b3⟩
            refine ⟨a, ?_⟩
            have hij : i ≤ j := Nat.le_of_not_lt fun hc => h3 i hc b1 (b2.trans hw)
            by_cases e : i = j
            · subst e; exact b3
            · have hd : bef h j i = true := (bef_iff h j i (by omega)).2 ⟨i, by omega, by unfold directB; simp [h2, b2, hw], .inl rfl⟩
              rcases b3 with b3 | b3
              · subst b3; exact .inr hd
              · exact .inr (bef_trans h j i x hd b3)
    -- what was heard of
    obtain ⟨B, hB1, hB2, hB3, hB4⟩ : ∃ B : Nat → Nat → Bool, (∀ m, m < 5 → (vec1 h k (vecState h k)).getD m 0 = ((max (cntF (A m) h.length) (cntF (B m) h.length) : Nat) : Int)) ∧ (∀ m x, B m x = true ↔ (evAt h x).1 = (m : Int) ∧ (evAt h k).2.1 = 3 ∧ pst h (saidAt (h.take k) (evAt h k).2.2).toNat x) ∧ (∀ m, B m k = false) ∧ (∀ m, (∀ x, B m x = false) ∨ ∃ j, j < k ∧ B m = inPast h j (m : Int)) := by
      by_cases h3 : (evAt h k).2.1 = 3
      · obtain ⟨i, hik, hs, _⟩ := hr.said hkl h3
        refine ⟨fun m => inPast h i (m : Int), fun m hm => ?_, fun m x => ?_, fun m => inPast_self hik, fun m => .inr ⟨i, hik, rfl⟩⟩
        · show _ = ((max (cntF (A m) h.length) (cntF (inPast h i (m : Int)) h.length) : Nat) : Int)
          unfold vec1
          rw [if_pos h3, hwt, hs, Int.toNat_natCast, zipMax_getD hv0.1 (hi1 _ (by rw [List.getD_eq_getElem?_getD, List.getElem?_eq_getElem (by omega)]; exact List.getElem_mem _)).1 hm, hA1 m hm, ih1 i hik m hm, vcN_cnt, Int.max_def, Nat.max_def]
          split <;> split <;> omega
        · rw [inPast_pst, hs, Int.toNat_natCast]
          exact ⟨fun ⟨a, b⟩ => ⟨a, h3, b⟩, fun ⟨a, _, b⟩ => ⟨a, b⟩⟩
      · refine ⟨fun _ _ => false, fun m hm => ?_, fun m x => ?_, fun _ => rfl, fun _ => .inl fun _ => rfl⟩
        · unfold vec1
          rw [if_neg h3, hwt, hA1 m hm, cntF_none, Nat.max_zero]
        · constructor
          · intro hh; cases hh
          · rintro ⟨_, hh, _⟩; exact absurd hh h3
    have hcount : ∀ m, m < 5 → (vecNext h k (vecState h k)).getD m 0 = ((vcN h k m : Nat) : Int) := by
      intro m hm
      have hun := cntF_union (p := A m) (q := B m) (r := inPast h k (m : Int)) (k := k) (n := h.length) (b := decide (m = w)) (fun x => by
        rw [inPast_pst, hA2, hB2]
        unfold pst
        rw [bef_split hr hkl x]
        constructor
        · rintro ⟨a, b | b | b⟩
          · subst b; exact .inr ⟨rfl, by rw [hw] at a; simp; omega⟩
          · exact .inl (.inl ⟨a, b⟩)
          · exact .inl (.inr ⟨a, b⟩)
        · rintro ((⟨a, b⟩ | ⟨a, b⟩) | ⟨a, b⟩)
          · exact ⟨a, .inr (.inl b)⟩
          · exact ⟨a, .inr (.inr b)⟩
          · subst a; exact ⟨by rw [hw]; have := of_decide_eq_true b; omega, .inl rfl⟩) (hA3 m) (hB3 m) (by
        rcases hA4 m with ha | ⟨j, hj, ha⟩
        · exact .inl (fun x hx => by rw [ha x] at hx; cases hx)
        · rcases hB4 m with hb | ⟨i, hi, hb⟩
          · exact .inr (fun x hx => by rw [hb x] at hx; cases hx)
          · rw [ha, hb]; exact inPast_nested (by omega) (by omega)) hkl
      rw [vcN_cnt, hun]
      unfold vecNext
      rw [hwt, hB1 w hw5]
      by_cases hmw : m = w
      · subst hmw
        rw [List.getD_eq_getElem?_getD, List.getElem?_set, if_pos rfl, if_pos (by rw [hv1.1]; exact hm), if_pos (by simp)]
        simp
      · rw [List.getD_eq_getElem?_getD, List.getElem?_set, if_neg (fun e => hmw e.symm), ← List.getD_eq_getElem?_getD, hB1 m hm, if_neg (by simpa using hmw)]
        simp
    have hget : ∀ i, i < k → (vecState h (k + 1)).1.getD i [] = (vecState h k).1.getD i [] := fun i hi => by
      simp only [vecState, List.getD_eq_getElem?_getD]
      rw [List.getElem?_append_left (by omega)]
    have hgetk : (vecState h (k + 1)).1.getD k [] = vecNext h k (vecState h k) := by
      simp only [vecState, List.getD_eq_getElem?_getD]
      rw [List.getElem?_append_right (by omega), hl1]; simp
    refine ⟨fun i hi m hm => ?_, fun w' hw' => ?_⟩
    · by_cases hik : i < k
      · rw [hget i hik]; exact ih1 i hik m hm
      · have : i = k := by omega
        subst this
        rw [hgetk]; exact hcount m hm
    · have hset : (vecState h (k + 1)).2.getD w' [] = if w = w' then vecNext h k (vecState h k) else (vecState h k).2.getD w' [] := by
        simp only [vecState, hwt, List.getD_eq_getElem?_getD, List.getElem?_set]
        by_cases e : w = w'
        · rw [if_pos e, if_pos (by omega), if_pos e]; rfl
        · rw [if_neg e, if_neg e]
      by_cases e : w = w'
      · subst e
        exact .inr ⟨k, by omega, hw, fun i h1 h2 => by omega, by rw [hset, if_pos rfl, hgetk]⟩
      · rw [hset, if_neg e]
        rcases ih2 w' hw' with ⟨h1, h2⟩ | ⟨j, h1, h2, h3, h4⟩
        · refine .inl ⟨fun j hj => ?_, h2⟩
          by_cases hjk : j < k
          · exact h1 j hjk
          · have : j = k := by omega
            subst this; rw [hw]; omega
        · refine .inr ⟨j, by omega, h2, fun i h5 h6 => ?_, by rw [h4, hget j h1]⟩
          by_cases hik : i < k
          · exact h3 i h5 hik
          · have : i = k := by omega
            subst this; rw [hw]; omega
end Go.Proofs.YtljlnhbndkdlcaaDoor
/- Numbers, plainly: they rise along what is ahead; an order of all events. -/
namespace Go.Proofs.YtljlnhbndkdlcaaDoor
set_option linter.unusedVariables false
set_option linter.unusedSimpArgs false
open Go.RowKit
def nAt (h : List Ev) (i : Nat) : Int := (numsR h).getD i 0
theorem numState_pre (h : List Ev) : ∀ (d k i : Nat), i < k → (numState h (k + d)).1.getD i 0 = (numState h k).1.getD i 0
  | 0, _, _, _ => rfl
  | d + 1, k, i, hi => by
    rw [← numState_pre h d k i hi]
    show ((numState h (k + d)).1 ++ [_]).getD i 0 = _
    rw [List.getD_eq_getElem?_getD, List.getD_eq_getElem?_getD, List.getElem?_append_left (by rw [(numState_len h (k + d)).1]; omega)]
theorem nAt_state {h : List Ev} {i k : Nat} (hi : i < k) (hk : k ≤ h.length) : nAt h i = (numState h k).1.getD i 0 := by
  obtain ⟨d, hd⟩ : ∃ d, h.length = k + d := ⟨h.length - k, by omega⟩
  unfold nAt numsR
  rw [hd]
  exact numState_pre h d k i hi
theorem nAt_next {h : List Ev} {k : Nat} (hk : k < h.length) : nAt h k = numNext h k (numState h k) := by
  rw [nAt_state (Nat.lt_succ_self k) hk]
  show ((numState h k).1 ++ [_]).getD k 0 = _
  rw [List.getD_eq_getElem?_getD, List.getElem?_append_right (by rw [(numState_len h k).1]; omega), (numState_len h k).1, Nat.sub_self]; rfl
/-- What a member had last is its greatest: it rises. -/
theorem num_last {h : List Ev} (hr : RightH h) : ∀ k, k ≤ h.length → ∀ w : Nat, w < 5 →
    ((∀ j, j < k → (evAt h j).1 ≠ (w : Int)) ∧ (numState h k).2.getD w 0 = 0) ∨ ∃ j, j < k ∧ (evAt h j).1 = (w : Int) ∧ (numState h k).2.getD w 0 = nAt h j ∧ ∀ i, i < k → (evAt h i).1 = (w : Int) → nAt h i ≤ nAt h j
  | 0, _, w, hw => .inl ⟨fun j hj => by omega, by
      match w, hw with
      | 0, _ => rfl
      | 1, _ => rfl
      | 2, _ => rfl
      | 3, _ => rfl
      | 4, _ => rfl⟩
  | k + 1, hk, w, hw => by
    have ih := num_last hr k (by omega) w hw
    have hwho := hr.who (show k < h.length by omega)
    have hlen := (numState_len h k).2
    have hset : (numState h (k + 1)).2.getD w 0 = if (evAt h k).1 = (w : Int) then nAt h k else (numState h k).2.getD w 0 := by
      show ((numState h k).2.set (evAt h k).1.toNat (numNext h k (numState h k))).getD w 0 = _
      rw [List.getD_eq_getElem?_getD, List.getElem?_set]
      by_cases e : (evAt h k).1 = (w : Int)
      · rw [if_pos e, if_pos (by omega), if_pos (by omega), nAt_next (by omega)]; rfl
      · rw [if_neg e, if_neg (by omega), List.getD_eq_getElem?_getD]
    rw [hset]
    by_cases e : (evAt h k).1 = (w : Int)
    · right
      rw [if_pos e]
      refine ⟨k, by omega, e, rfl, fun i hi hiw => ?_⟩
      by_cases e2 : i = k
      · subst e2; exact Int.le_refl _
      rw [nAt_next (show k < h.length by omega)]
      have hge : (numState h k).2.getD (evAt h k).1.toNat 0 ≤ numNext h k (numState h k) := by
        unfold numNext
        split
        · rw [Int.max_def]; split <;> omega
        · omega
      rw [show (evAt h k).1.toNat = w by omega] at hge
      rcases ih with ⟨h1, _⟩ | ⟨j, _, _, h3, h4⟩
      · exact absurd hiw (h1 i (by omega))
      · have := h4 i (by omega) hiw
        rw [h3] at hge
        omega
    · rw [if_neg e]
      rcases ih with ⟨h1, h2⟩ | ⟨j, h1, h2, h3, h4⟩
      · exact .inl ⟨fun j hj => by
          by_cases e2 : j = k
          · subst e2; exact e
          · exact h1 j (by omega), h2⟩
      · exact .inr ⟨j, by omega, h2, h3, fun i hi hiw => by
          by_cases e2 : i = k
          · subst e2; exact absurd hiw e
          · exact h4 i (by omega) hiw⟩
/-- The number of an event: one more than the greatest of those straight ahead of it. -/
theorem num_direct {h : List Ev} (hr : RightH h) {m k : Nat} (hm : m < k) (hk : k < h.length) (hd : directB (evAt h m) (evAt h k) = true) : nAt h m < nAt h k := by
  have hwho := hr.who hk
  obtain ⟨w, hw⟩ : ∃ w : Nat, (evAt h k).1 = (w : Int) := ⟨(evAt h k).1.toNat, by omega⟩
  rw [nAt_next hk]
  unfold directB at hd
  simp only [Bool.or_eq_true, Bool.and_eq_true, decide_eq_true_eq] at hd
  have hwt : (evAt h k).1.toNat = w := by omega
  rcases hd with hd | ⟨h3, h2, hwd⟩
  · have hl := num_last hr k (by omega) w (by omega)
    have : nAt h m ≤ (numState h k).2.getD w 0 := by
      rcases hl with ⟨h1, _⟩ | ⟨j, _, _, h3, h4⟩
      · exact absurd (hd.trans hw) (h1 m hm)
      · rw [h3]; exact h4 m hm (hd.trans hw)
    unfold numNext
    rw [hwt]
    split
    · rw [Int.max_def]; split <;> omega
    · omega
  · obtain ⟨i, hi, hs, h6, h7, _⟩ := hr.said hk h3
    have hij : i = m := hr.once (by omega) (by omega) h6 h2 (by rw [h7, hwd])
    subst hij
    have : nAt h i = (numState h k).1.getD i 0 := nAt_state hi (by omega)
    unfold numNext
    rw [if_pos h3, hs, Int.toNat_natCast, ← this, Int.max_def]
    split <;> omega
theorem num_bef {h : List Ev} (hr : RightH h) : ∀ (k i : Nat), k < h.length → bef h k i = true → nAt h i < nAt h k := by
  intro k
  induction k using Nat.strongRecOn with
  | ind k ih =>
    intro i hk hb
    obtain ⟨m, hm, hd, h3⟩ := (bef_iff h k i hk).1 hb
    have h1 := num_direct hr hm hk hd
    rcases h3 with rfl | h3
    · exact h1
    · have := ih m hm i (by omega) h3
      omega
theorem num_same {h : List Ev} (hr : RightH h) {i k : Nat} (hi : i < h.length) (hk : k < h.length) (hn : nAt h i = nAt h k) (hw : (evAt h i).1 = (evAt h k).1) : i = k := by
  rcases Nat.lt_trichotomy i k with h1 | h1 | h1
  · have := num_direct hr h1 hk (by unfold directB; simp [hw])
    omega
  · exact h1
  · have := num_direct hr h1 hi (by unfold directB; simp [hw])
    omega
/-! ### The order -/
def ordLt (h : List Ev) (a b : Nat) : Prop := nAt h a < nAt h b ∨ (nAt h a = nAt h b ∧ (evAt h a).1 < (evAt h b).1)
theorem ordLt_irr (h : List Ev) (a : Nat) : ¬ ordLt h a a := by unfold ordLt; omega
theorem ordLt_trans {h : List Ev} {a b c : Nat} (h1 : ordLt h a b) (h2 : ordLt h b c) : ordLt h a c := by unfold ordLt at *; omega
theorem ordLt_tri {h : List Ev} (hr : RightH h) {a b : Nat} (ha : a < h.length) (hb : b < h.length) : ordLt h a b ∨ a = b ∨ ordLt h b a := by
  by_cases e : nAt h a = nAt h b ∧ (evAt h a).1 = (evAt h b).1
  · exact .inr (.inl (num_same hr ha hb e.1 e.2))
  · unfold ordLt; omega
/-- All events, sorted. -/
structure OrdL (h : List Ev) (l : List Nat) : Prop where
  perm : l.Perm (List.range h.length)
  sort : l.Pairwise (ordLt h)
theorem OrdL.eq {h : List Ev} {a b : List Nat} (ha : OrdL h a) (hb : OrdL h b) : a = b :=
  (ha.perm.trans hb.perm.symm).eq_of_pairwise (le := ordLt h) (fun _ _ _ _ h1 h2 => absurd (ordLt_trans h1 h2) (ordLt_irr h _)) ha.sort hb.sort
theorem OrdL.mem {h : List Ev} {l : List Nat} (ho : OrdL h l) {i : Nat} (hi : i < h.length) : i ∈ l := ho.perm.mem_iff.2 (List.mem_range.2 hi)
theorem OrdL.nodup {h : List Ev} {l : List Nat} (ho : OrdL h l) : l.Nodup := ho.perm.nodup_iff.2 List.nodup_range
theorem OrdL.len {h : List Ev} {l : List Nat} (ho : OrdL h l) : l.length = h.length := by rw [ho.perm.length_eq, List.length_range]
/-- What is ahead stands ahead. -/
theorem OrdL.ahead {h : List Ev} (hr : RightH h) {l : List Nat} (ho : OrdL h l) {a b : Nat} (ha : a < l.length) (hb : b < l.length) (hl : ordLt h l[a] l[b]) : a < b := by
  rcases Nat.lt_trichotomy a b with h1 | h1 | h1
  · exact h1
  · subst h1; exact absurd hl (ordLt_irr h _)
  · exact absurd (ordLt_trans hl ((List.pairwise_iff_getElem.1 ho.sort) b a hb ha h1)) (ordLt_irr h _)
end Go.Proofs.YtljlnhbndkdlcaaDoor
/- Contracts of package clock: numbers. -/
namespace Go.Proofs.YtljlnhbndkdlcaaDoor
set_option linter.unusedVariables false
set_option linter.unusedSimpArgs false
open Go.RowKit
set_option maxRecDepth 100000 in
set_option maxHeartbeats 4000000 in
theorem numbers_any {w0 w : World} {R : HProp} (v : Value) (hs : List Ev) (h : Own w0 R w) (hv : ReadsE w0 R v hs) (hr : RightH hs) :
    Calls Tryd.prog 40 #[v] w fun e w' => ∃ v', e = .returned v' ∧ Own w0 (IntSl v' (numsR hs) * R) w' := by
  obtain ⟨had, hcap, rfl, hc1, hc2⟩ := (hv _ h).shape
  obtain ⟨n, hn⟩ : ∃ n, n = hs.length := ⟨_, rfl⟩
  have hlen := hr.1
  rw [← hn] at hc1 hlen hv ⊢
  obtain ⟨lb, hb_lb⟩ : ∃ zz_, zz_ = (w).heap.size := ⟨_, rfl⟩
  obtain ⟨w1, hw_w1⟩ : ∃ zz_, zz_ = (w).alloc (.cells #[.int .i64 0, .int .i64 0, .int .i64 0, .int .i64 0, .int .i64 0] 92 (0, 0)) := ⟨_, rfl⟩
  have h_HO1 := (h).alloc (.cells #[.int .i64 0, .int .i64 0, .int .i64 0, .int .i64 0, .int .i64 0] 92 (0, 0))
  rw [← hb_lb, ← hw_w1] at h_HO1
  have HO1 := Lib.hid h_HO1
  clear h_HO1
  have HO2 : Hid (Own w0 (IntSl (.slice none 0 0) (numState hs 0).1 * (Five lb (numState hs 0).2 * R)) w1) := Lib.hid (Own.sl_nil HO1.out _ _)
  clear HO1
  have H := Lib.hid h; have HV := Lib.hid hv; have HN := Lib.hid hn; have HR := Lib.hid hr
  clear h hv hn hr
  go_enter Tryd.func40, Tryd.ntmps40
  go_upto_region 3 with fail
  rw [← hb_lb, ← hw_w1]
  clear hb_lb hw_w1
  go_wp2_with fail
  go_loopw [10, 3] (fun iv ov wr => ∃ k : Nat, k ≤ n ∧ iv = .int .i64 k ∧ Hid (Own w0 (IntSl ov (numState hs k).1 * (Five lb (numState hs k).2 * R)) wr)) (fun iv _ _ => n - (intOf iv).toNat)
  case atStart => exact ⟨0, Nat.zero_le _, rfl, HO2⟩
  case round =>
    clear HO2
    obtain ⟨k, hk, rfl, HO⟩ := hrel
    by_cases hlt : k < n
    rotate_left
    · have hkn : k = n := by omega
      have ho := HO.out
      rw [hkn] at ho
      have HF := Lib.hid ho
      clear ho
      go_wp2
      go_ret
      exact ⟨_, rfl, by unfold numsR; rw [← HN.out]; exact (HF.out.perm (star_left_comm _ _ _)).drop⟩
    have hkl : k < hs.length := by rw [← HN.out]; exact hlt
    obtain ⟨aa, pb, po, ps, rfl, hea, hcs, _⟩ := HV.out.more.more.at HO.out k hkl
    have hwho := HR.out.who hkl
    have hsd := HR.out.said hkl
    have hnx : numNext hs k (numState hs k) = numNext hs k (numState hs k) := rfl
    obtain ⟨N, hN⟩ : ∃ N, N = numNext hs k (numState hs k) - 1 := ⟨_, rfl⟩
    have hnst : numState hs (k + 1) = ((numState hs k).1 ++ [N + 1], (numState hs k).2.set (evAt hs k).1.toNat (N + 1)) := by rw [hN]; simp [numState]
    obtain ⟨hb1, hb2⟩ := numState_bound hs k
    obtain ⟨hl1, hl2⟩ := numState_len hs k
    have hNdef : N = if (evAt hs k).2.1 = 3 then max ((numState hs k).2.getD (evAt hs k).1.toNat 0) ((numState hs k).1.getD (saidAt (hs.take k) (evAt hs k).2.2).toNat 0) else (numState hs k).2.getD (evAt hs k).1.toNat 0 := by rw [hN]; unfold numNext; omega
    have hsaid := fun (w1 : World) (R' : HProp) (word : Int) (ho : Own w0 (R' * R) w1) => said_any (w0 := w0) (w := w1) (R := R' * R) word (.slice (some aa) k hcap) (hs.take k) ho (HV.out.front (by omega)).more
    obtain ⟨out, hout⟩ : ∃ out, out = (numState hs k).1 := ⟨_, rfl⟩
    obtain ⟨last, hlast⟩ : ∃ last, last = (numState hs k).2 := ⟨_, rfl⟩
    have ho := HO.out
    rw [← hout, ← hlast] at ho
    rw [← hout] at hb1 hl1
    rw [← hlast] at hb2 hl2
    rw [← hout, ← hlast] at hNdef hnst
    clear hN hnx
    obtain ⟨x, hx⟩ : ∃ x, x = evAt hs k := ⟨_, rfl⟩
    rw [← hx] at hcs hwho hsd hnst hNdef
    obtain ⟨c0, c1, c2⟩ := hcs _ HO.out
    obtain ⟨x1, x2, x3⟩ := x
    simp only at c0 c1 c2 hwho hsd hnst hNdef
    obtain ⟨q, rfl⟩ : ∃ q : Nat, x1 = (q : Int) := ⟨x1.toNat, by omega⟩
    simp only [Int.toNat_natCast] at hnst hNdef
    have hq5 : q < 5 := by omega
    obtain ⟨n0, hn0⟩ : ∃ n0, n0 = last.getD q 0 := ⟨_, rfl⟩
    have hn0b := getD_bound hb2 (Int.le_refl 0) (Int.natCast_nonneg k) q
    rw [← hn0] at hn0b hNdef
    have hn0a := hn0b.1
    have hn0c := hn0b.2
    have hlq : last[q]? = some n0 := by rw [hn0, List.getD_eq_getElem?_getD, List.getElem?_eq_getElem (by omega)]; rfl
    obtain ⟨eb, hb_eb⟩ : ∃ zz_, zz_ = (wr).heap.size := ⟨_, rfl⟩
    obtain ⟨w2, hw_w2⟩ : ∃ zz_, zz_ = (wr).alloc (.cells #[.int .i64 (q : Int), .int .i64 x2, .int .i64 x3] 28 (0, 0)) := ⟨_, rfl⟩
    have h_HO1 := (ho).alloc (.cells #[.int .i64 (q : Int), .int .i64 x2, .int .i64 x3] 28 (0, 0))
    rw [← hb_eb, ← hw_w2] at h_HO1
    have HO1 := Lib.hid h_HO1
    clear h_HO1
    have HE1 : Hid (Own w0 (EvO eb ((q : Int), x2, x3) * (IntSl u3 out * (Five lb last * R))) w2) := HO1
    have HE2 : Hid (Own w0 (Five lb last * (EvO eb ((q : Int), x2, x3) * (IntSl u3 out * R))) w2) := Lib.hid (HO1.out.perm (by unfold EvO; ac_rfl))
    clear HO1
    obtain ⟨d0, d1, d2⟩ := HE1.out.ev
    simp only at d0 d1 d2
    have e1 := HE2.out.five_cell q _ hlq
    have k0 : (0 : Int) ≤ (k : Int) := by omega
    have kn : (k : Int) ≤ (n : Int) := by omega
    have kc : (k : Int) ≤ (hcap : Int) := by omega
    have hc0 : hcap ≠ 0 := by omega
    have q0 : (0 : Int) ≤ (q : Int) := by omega
    have q5 : (q : Int) < 5 := by omega
    have HNB1 := Lib.hid hb1; have HNB2 := Lib.hid hb2
    have HCS := Lib.hid hcs; have HX := Lib.hid hx; have HWHO := Lib.hid hwho; have HOUT := Lib.hid hout; have HLAST := Lib.hid hlast; have HO := Lib.hid ho; have HN0 := Lib.hid hn0; have HN0B := Lib.hid hn0b; have HLQ := Lib.hid hlq; have HNST := Lib.hid hnst; have HNDEF := Lib.hid hNdef; have HSAID := Lib.hid hsaid; have HSD := Lib.hid hsd
    clear hcs hx hwho hout hlast ho hn0 hn0b hlq hnst hNdef hsaid hsd
    clear hb1 hb2
    go_upto_region 6 with fail
    rw [← hb_eb, ← hw_w2]
    clear hb_eb hw_w2
    clear c0 c1 c2
    go_upto_if 21 with fail
    go_cut [7] (fun nv wx => nv = .int .i64 N ∧ Own w0 (EvO eb ((q : Int), x2, x3) * (IntSl u3 out * (Five lb last * R))) wx)
    case first =>
      by_cases h3 : x2 = 3
      rotate_left
      · have t1 : (x2 == 3) = false := by simpa using h3
        have hNv : N = n0 := by rw [HNDEF.out, if_neg h3]
        subst hNv
        have H3 := Lib.hid h3
        clear h3
        go_wp2_with fail
        go_meet
        exact ⟨rfl, HE1.out⟩
      · subst h3
        obtain ⟨i, hik, hsi, _⟩ := HSD.out rfl
        have hmb := getD_bound HNB1.out (Int.le_refl 0) (Int.natCast_nonneg k) i
        have hNd := HNDEF.out
        rw [if_pos rfl, hsi, Int.toNat_natCast] at hNd
        obtain ⟨m, hm⟩ : ∃ m, m = out.getD i 0 := ⟨_, rfl⟩
        rw [← hm] at hNd hmb
        have hmg : out[i]? = some m := by rw [hm, List.getD_eq_getElem?_getD, List.getElem?_eq_getElem (by omega)]; rfl
        have i0 : (0 : Int) ≤ (i : Int) := by omega
        have ik : (i : Int) < (k : Int) := by omega
        have HSI := Lib.hid hsi; have HM := Lib.hid hm; have HND := Lib.hid hNd
        clear hsi hm hNd
        go_wp2_with fail
        refine wp_region_planX 7 [0, 1] [7, 8, 9, 10, 11] (by kernel_rfl) (by kernel_rfl) ?_
        simp only [List.range_succ, List.range_zero, List.nil_append, List.filter_cons, List.filter_nil, List.filter_append, List.contains_cons, List.contains_nil, Nat.reduceBEq, Bool.or_false, Bool.or_true, Bool.not_false, Bool.not_true, if_true, if_false, Bool.false_eq_true, ↓reduceIte, pick, List.getElem?_cons_succ, List.getElem?_cons_zero, Option.toList, List.cons_append, List.nil_append]
        repeat (refine wpPure_step ?_ rfl ?_ ?_; rotate_left; (focus (intro _; first | with_reducible rfl | (go_simp; done) | (go_simp; with_reducible rfl) | rfl)); go_simp)
        refine wpPure_nil ?_
        repeat still_step
        refine wpStill_nil ?_
        go_wp2_with fail
        refine (HSAID.out _ (EvO eb ((q : Int), 3, x3) * (IntSl u3 out * Five lb last)) x3 (HE1.out.drew.perm (by ac_rfl))).mono ?_
        rintro e w3 ⟨rfl, ho⟩
        rw [HSI.out]
        have HE3 : Hid (Own w0 (IntSl u3 out * (EvO eb ((q : Int), 3, x3) * (Five lb last * R))) w3) := Lib.hid (ho.perm (by ac_rfl))
        clear ho
        obtain ⟨ob, off, ocap, ho1, hoc1, hoc2, hcell, _⟩ := HE3.out.ints_at (by omega)
        subst ho1
        have f1 := hcell i (by omega)
        rw [show out[i]'(by omega) = m from by rw [List.getElem?_eq_getElem (by omega)] at hmg; exact Option.some.inj hmg] at f1
        have il : (i : Int) < (out.length : Int) := by omega
        have hmk : m ≤ (k : Int) := hmb.2
        have hm0 : 0 ≤ m := hmb.1
        clear hcell
        have HMG := Lib.hid hmg; have HMB := Lib.hid hmb; have HL1 := Lib.hid hl1
        clear hmg hmb hl1
        go_wp2_with fail
        all_goals
          refine NoPanic.normal ?_
          go_wp2_with fail
          go_meet
          exact ⟨congrArg (Value.int .i64) (by rw [HND.out, Int.max_def]; split <;> omega), HE3.out.perm (by ac_rfl)⟩
    case rest =>
    obtain ⟨rfl, ho⟩ := hcut
    clear HE1 HE2 d0 d1 d2 e1
    have HE1 := Lib.hid ho
    have HE2 : Hid (Own w0 (Five lb last * (EvO eb ((q : Int), x2, x3) * (IntSl u3 out * R))) wc) := Lib.hid (ho.perm (by ac_rfl))
    clear ho
    obtain ⟨d0, d1, d2⟩ := HE1.out.ev
    simp only at d0 d1 d2
    have e1 := HE2.out.five_cell q _ HLQ.out
    have e2 := HE2.out.five_free
    have hN1 : 0 ≤ N ∧ N ≤ (k : Int) := by
      have h8 := getD_bound HNB1.out (Int.le_refl 0) (Int.natCast_nonneg k) (saidAt (hs.take k) x3).toNat
      rw [HNDEF.out]
      split
      · rw [Int.max_def]; split <;> omega
      · omega
    have hN2 := hN1.1
    have hN3 := hN1.2
    have hst := HE2.out.five_set q (N + 1)
    have HST : Hid (Own w0 (Sl 3 1 u3 out.length (out.map (Value.int .i64)) * (EvO eb ((q : Int), x2, x3) * (Five lb (last.set q (N + 1)) * R))) (wc.setCell ⟨lb, q, none⟩ (.int .i64 (N + 1)))) := Lib.hid (hst.perm (by unfold IntSl; ac_rfl))
    obtain ⟨ws, hws⟩ : ∃ ws, ws = wc.setCell ⟨lb, q, none⟩ (.int .i64 (N + 1)) := ⟨_, rfl⟩
    rw [← hws] at HST
    clear hst hN1
    go_upto_region 10 with fail
    rw [← hws]
    clear hws d0 d1 d2 e1 e2
    go_wp2_with (at_builtin; refine wpList_app rfl _ _ 32 rfl 3 1 8 _ info_int Tryd.underlying32 rfl (by decide) rfl (HST.out.alloc' _) rfl (by rfl) (Rd_lit (by simp) (by unfold maxLen; omega)) (by intro u hu; simp at hu; subst hu; rfl) (by unfold maxLen; omega) (by omega) ?_; intro v' w4 hown; have HO4 : Hid (Own w0 (IntSl v' (numState hs (k + 1)).1 * (Five lb (numState hs (k + 1)).2 * R)) w4) := Lib.hid (by rw [HNST.out]; have h9 := (hown.perm (show _ = EvO eb ((q : Int), x2, x3) * (IntSl v' (out ++ [N + 1]) * (Five lb (last.set q (N + 1)) * R)) by unfold IntSl; simp; ac_rfl)).drop; exact h9); clear hown)
    go_roundw
    case rel => exact ⟨k + 1, by omega, by go_num, HO4⟩
    case measure => simp [intOf]; omega
end Go.Proofs.YtljlnhbndkdlcaaDoor
/- Contracts of package clock, continued: vectors. -/
namespace Go.Proofs.YtljlnhbndkdlcaaDoor
set_option linter.unusedVariables false
set_option linter.unusedSimpArgs false
open Go.RowKit
/-- A row of owned lists of ints: a slice of them. -/
def LSl (v : Value) (rs : List (Value × List Int)) : HProp := Sl 32 1 v rs.length (rs.map (·.1)) * starL rowP rs
/-- The same in an array of five. -/
def L5 (b : Nat) (rs : List (Value × List Int)) : HProp := blk b (.cells (rs.map (·.1)).toArray 89 (0, 0)) * starL rowP rs
theorem rows_one {rs : List (Value × List Int)} {k : Nat} {v : Value} {l : List Int} (h : rs[k]? = some (v, l)) : starL rowP rs = IntSl v l * starL rowP (rs.eraseIdx k) := by
  obtain ⟨hlt, he⟩ := List.getElem?_eq_some_iff.1 h
  rw [starL_split rowP rs k hlt, he]; rfl
theorem Own.l5_cell {w0 w : World} {b k : Nat} {rs : List (Value × List Int)} {v : Value} {l : List Int} {R : HProp} (h : Own w0 (L5 b rs * R) w) (hk : rs[k]? = some (v, l)) : w.cell? ⟨b, k, none⟩ = some v := by
  have h1 : Own w0 (blk b (.cells (rs.map (·.1)).toArray 89 (0, 0)) * (starL rowP rs * R)) w := h.perm (by unfold L5; ac_rfl)
  rw [Own.cell h1]; simp [hk]
theorem Own.l5_free {w0 w : World} {b : Nat} {rs : List (Value × List Int)} {R : HProp} (h : Own w0 (L5 b rs * R) w) : ∀ i, w.frozen? ⟨b, i, none⟩ = false := by
  have h1 : Own w0 (blk b (.cells (rs.map (·.1)).toArray 89 (0, 0)) * (starL rowP rs * R)) w := h.perm (by unfold L5; ac_rfl)
  exact fun i => Own.free h1 i none
theorem Own.l5_row {w0 w : World} {b k : Nat} {rs : List (Value × List Int)} {v : Value} {l : List Int} {R : HProp} (h : Own w0 (L5 b rs * R) w) (hk : rs[k]? = some (v, l)) (hI : ∀ x ∈ l, I64 x) : Ints w v l := by
  have h1 : Own w0 (IntSl v l * (starL rowP (rs.eraseIdx k) * (blk b (.cells (rs.map (·.1)).toArray 89 (0, 0)) * R))) w := h.perm (by unfold L5; rw [rows_one hk]; ac_rfl)
  exact ⟨Own.rd h1, hI⟩
theorem Own.l5_put {w0 w : World} {b k : Nat} {rs : List (Value × List Int)} {v : Value} {l : List Int} {R : HProp} (h : Own w0 (IntSl v l * (L5 b rs * R)) w) (hk : k < rs.length) : Own w0 (L5 b (rs.set k (v, l)) * R) (w.setCell ⟨b, k, none⟩ v) := by
  have h1 : Own w0 (rowP rs[k] * (blk b (.cells (rs.map (·.1)).toArray 89 (0, 0)) * (IntSl v l * (starL rowP (rs.eraseIdx k) * R)))) w := h.perm (by unfold L5; rw [starL_split rowP rs k hk]; ac_rfl)
  have h2 := h1.drop.setCell (i := k) (v := v)
  refine h2.perm ?_
  unfold L5
  rw [starL_set rowP rs k hk]
  show _ = blk b _ * (IntSl v l * starL rowP (rs.eraseIdx k)) * R
  rw [List.map_set, show ((rs.map (·.1)).set k (v, l).1).toArray = (rs.map (·.1)).toArray.setIfInBounds k v by simp]
  ac_rfl
theorem Own.ls_row {w0 w : World} {v rv : Value} {k : Nat} {rs : List (Value × List Int)} {l : List Int} {R : HProp} (h : Own w0 (LSl v rs * R) w) (hk : rs[k]? = some (rv, l)) (hI : ∀ x ∈ l, I64 x) :
    ∃ b off cap, v = .slice (some ⟨b, off, none⟩) rs.length cap ∧ rs.length ≤ cap ∧ cap ≤ 9223372036854775807 ∧ w.cell? ⟨b, off + k, none⟩ = some rv ∧ Ints w rv l := by
  obtain ⟨hlt, _⟩ := List.getElem?_eq_some_iff.1 hk
  have h1 : Own w0 (Sl 32 1 v rs.length (rs.map (·.1)) * (starL rowP rs * R)) w := h.perm (by unfold LSl; ac_rfl)
  obtain ⟨b, off, cap, e1, h2⟩ := h1.slAt (by simp; omega)
  have f := h2.slAt_facts
  have h3 : Own w0 (IntSl rv l * (starL rowP (rs.eraseIdx k) * (Sl 32 1 v rs.length (rs.map (·.1)) * R))) w := h.perm (by unfold LSl; rw [rows_one hk]; ac_rfl)
  exact ⟨b, off, cap, e1, f.1, f.2.1, f.2.2.2.1 k rv (by simp [hk]), Own.rd h3, hI⟩
theorem Own.ls_snoc {w0 w : World} {v x : Value} {rs : List (Value × List Int)} {l : List Int} {R : HProp} (h : Own w0 (Sl 32 1 v (rs.length + 1) (rs.map (·.1) ++ [x]) * (IntSl x l * (starL rowP rs * R))) w) : Own w0 (LSl v (rs ++ [(x, l)]) * R) w := by
  refine h.perm ?_
  unfold LSl
  rw [starL_snoc]
  show _ = Sl 32 1 v (rs ++ [(x, l)]).length ((rs ++ [(x, l)]).map (·.1)) * (IntSl x l * starL rowP rs) * R
  simp only [List.length_append, List.length_cons, List.length_nil, List.map_append, List.map_cons, List.map_nil, Nat.zero_add]
  ac_rfl
theorem LSl_nil : LSl (.slice none 0 0) [] = emp := by
  unfold LSl; rw [show starL rowP ([] : List (Value × List Int)) = emp from rfl, star_emp]; exact Sl_nil _ _
theorem L5_nil {b : Nat} : L5 b (List.replicate 5 (.slice none 0 0, [])) = blk b (.cells #[.slice none 0 0, .slice none 0 0, .slice none 0 0, .slice none 0 0, .slice none 0 0] 89 (0, 0)) := by
  unfold L5
  rw [starL_nils rowP (.slice none 0 0, []) (by unfold rowP IntSl; exact Sl_nil _ _), star_emp]
  rfl
set_option maxRecDepth 100000 in
set_option maxHeartbeats 4000000 in
theorem cloneNil_any (w : World) :
    Calls Tryd.prog 59 #[.slice none 0 0] w fun e w' => e = .returned (.slice none 0 0) ∧ w = w' := by
  have hnil := fun (w : World) => Lib.run_eql_slice_nil (P := Tryd.prog) w 32 3 none 0 0 0 0 Tryd.underlying32
  go_enter Tryd.func59, Tryd.ntmps59
  go_wp2
  go_ret
  exact ⟨rfl, rfl⟩
end Go.Proofs.YtljlnhbndkdlcaaDoor
