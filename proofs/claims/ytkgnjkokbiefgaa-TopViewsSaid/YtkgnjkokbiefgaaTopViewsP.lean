/- A group in which the first speaks, plainly: who goes on heard the same, in the same order; and views are a chain. -/
import Derived.Test.YtkgnjkokbiefgaaFlushSameP
import Derived.Test.YtkgnjkokbiefgaaView6
namespace Go.Proofs.Ytkgnjkokbiefgaa
set_option linter.unusedVariables false
set_option linter.unusedSimpArgs false
open Go.RowKit Go.Maps
theorem rowE_step (w : Int) (s : Fl) (m q : Int) : flRow (flStep w s m) (s.n, q) = if q = m ∧ w ∉ flRow s (s.n, q) then flRow s (s.n, q) ++ [w] else flRow s (s.n, q) := by
  unfold flStep flHas
  by_cases h : w ∈ flRow s (s.n, m)
  · rw [if_pos (by simpa using h)]
    by_cases e : q = m
    · subst e; rw [if_neg (by simp [h])]
    · rw [if_neg (by simp [e])]
  · rw [if_neg (by simpa using h), flRow_hear]
    by_cases e : q = m
    · subst e; rw [if_pos rfl, if_pos ⟨rfl, h⟩]
    · rw [if_neg (by intro e2; injection e2 with _ e2; exact e e2.symm), if_neg (by simp [e])]
theorem rowE_all (w q : Int) : ∀ (l : List Int) (s : Fl), flRow (flGiveAll s l w) (s.n, q) = if q ∈ l ∧ w ∉ flRow s (s.n, q) then flRow s (s.n, q) ++ [w] else flRow s (s.n, q)
  | [], s => by rw [if_neg (by simp)]; rfl
  | m :: r, s => by
    have ih := rowE_all w q r (flStep w s m)
    rw [(flLike_step w s m).1, rowE_step] at ih
    show flRow (flGiveAll (flStep w s m) r w) (s.n, q) = _
    rw [ih]
    by_cases h : w ∈ flRow s (s.n, q)
    · rw [if_neg (show ¬ (q = m ∧ w ∉ flRow s (s.n, q)) by simp [h]), if_neg (by simp [h]), if_neg (by simp [h])]
    · by_cases e : q = m
      · rw [if_pos (show q = m ∧ w ∉ flRow s (s.n, q) from ⟨e, h⟩), if_neg (by simp), if_pos ⟨by simp [e], h⟩]
      · rw [if_neg (show ¬ (q = m ∧ w ∉ flRow s (s.n, q)) by simp [e])]
        by_cases hr : q ∈ r
        · rw [if_pos ⟨hr, h⟩, if_pos ⟨by simp [hr], h⟩]
        · rw [if_neg (by simp [hr]), if_neg (by simp [hr, e])]
theorem rowE_none {K : List Int} : ∀ (ws : List Int) (s : Fl), (∀ m ∈ K, flRow s (s.n, m) = []) → flFlush s K ws = s
  | [], _, _ => rfl
  | w :: r, s, h => by
    have hw : flWord K s w = s := by
      unfold flWord
      rw [if_neg]
      simp only [List.any_eq_true, not_exists, not_and]
      intro m hm
      unfold flHas
      rw [h m hm]; simp
    show flFlush (flWord K s w) K r = s
    rw [hw]; exact rowE_none r s h
theorem rowE_flush {K : List Int} {c : Int} (hc : c ∈ K) : ∀ (ws P : List Int) (s : Fl), (P ++ ws).Nodup → flRow s (s.n, c) = P ++ ws → (∀ m ∈ K, m ≠ c → flRow s (s.n, m) = P) → ∀ m ∈ K, flRow (flFlush s K ws) (s.n, m) = P ++ ws
  | [], P, s, _, h1, h2, m, hm => by
    show flRow s (s.n, m) = _
    by_cases e : m = c
    · rw [e]; exact h1
    · rw [h2 m hm e, List.append_nil]
  | w :: r, P, s, hn, h1, h2, m, hm => by
    have hwc : w ∈ flRow s (s.n, c) := by rw [h1]; simp
    have hwP : w ∉ P := fun h => by
      have := (List.nodup_append.1 hn).2.2 w h w (by simp)
      exact this rfl
    have hw : flWord K s w = flGiveAll s K w := by
      unfold flWord
      rw [if_pos]
      simp only [List.any_eq_true]
      exact ⟨c, hc, by unfold flHas; simpa using hwc⟩
    have hl := flLike_word K s w
    show flRow (flFlush (flWord K s w) K r) (s.n, m) = _
    have ih := rowE_flush hc r (P ++ [w]) (flWord K s w) (by rw [List.append_assoc]; exact hn) (by rw [hl.1, hw, rowE_all, if_neg (by simp [hwc]), h1, List.append_assoc]; rfl) (fun q hq hqc => by
      rw [hl.1, hw, rowE_all, h2 q hq hqc, if_pos ⟨hq, hwP⟩]) m hm
    rw [hl.1, List.append_assoc] at ih
    exact ih
def tvJ (s : Fl) : Prop := flInv s ∧ viewErr s.n s.has = 0 ∧ ∃ c r, s.has = c :: r ∧ (∀ m, m ≠ c → flRow s (s.n, m) = []) ∧ flRow s (s.n, c) = s.said
theorem tvJ_new (N : Nat) (h2 : 2 ≤ N) (h5 : N ≤ 5) : tvJ (flNew N) := by
  refine ⟨flInv_new N h5, ?_, ?_⟩
  · match N, h2, h5 with
    | 2, _, _ => decide
    | 3, _, _ => decide
    | 4, _, _ => decide
    | 5, _, _ => decide
  · match N, h2 with
    | n + 1, _ =>
      refine ⟨0, (List.range' 1 n).map fun i : Nat => (i : Int), ?_, fun m _ => rfl, rfl⟩
      show upTo (n + 1) = _
      unfold upTo
      rw [List.range_eq_range', List.range'_succ]; rfl
theorem tvJ_say {s : Fl} (h : tvJ s) {c : Int} (hc : s.has.head? = some c) (w : Int) : tvJ (flSay s c w) := by
  obtain ⟨hi, hv, c', r, hh, h1, h2⟩ := h
  have : c' = c := by rw [hh] at hc; simpa using hc
  subst this
  refine ⟨flInv_say hi c' w, ?_, c', r, ?_, ?_, ?_⟩
  · unfold flSay; split <;> exact hv
  · unfold flSay; split <;> exact hh
  · intro m hm
    unfold flSay
    split
    · show flRow (flHear _ c' w) (s.n, m) = []
      rw [flRow_hear, if_neg (by intro e; injection e with _ e; exact hm e.symm)]
      exact h1 m hm
    · exact h1 m hm
  · unfold flSay
    split
    · show flRow (flHear _ c' w) (s.n, c') = s.said ++ [w]
      rw [flRow_hear, if_pos rfl]
      show flRow s (s.n, c') ++ [w] = _
      rw [h2]
    · exact h2
theorem viewErr_next {s : Fl} {B : List Int} (he : flNextErr s B = 0) (hn : 0 ≤ s.n ∧ s.n ≤ 1000000) : viewErr (s.n + 1) B = 0 := by
  obtain ⟨_, h2, h3, _⟩ := nextErr0 he
  unfold viewErr
  rw [if_neg (by simp [isCount]; omega)]
  exact h3
theorem tvJ_change {s : Fl} (h : tvJ s) {B : List Int} (he : flNextErr s B = 0) : tvJ (flChange s B) := by
  obtain ⟨hi, hv, _⟩ := h
  have hic := flInv_change hi B
  refine ⟨hic, ?_, ?_⟩
  · rw [flChange_n he, flChange_has he]; exact viewErr_next he hi.1.1
  · rw [flChange_n he, flChange_has he]
    obtain ⟨_, _, h3, _⟩ := nextErr0 he
    have hnil : ∀ m, flRow (flChange s B) (s.n + 1, m) = [] := fun m => by
      have := hic.2.2.1
      cases hr : flRow (flChange s B) (s.n + 1, m) with
      | nil => rfl
      | cons x r =>
        have h4 := this m x (by rw [flChange_n he, hr]; simp)
        unfold flChange at h4
        rw [if_pos he] at h4
        cases h4
    cases hB : B with
    | nil => rw [hB] at h3; cases h3
    | cons c r =>
      subst hB
      refine ⟨c, r, rfl, fun m _ => hnil m, ?_⟩
      rw [hnil]
      unfold flChange; rw [if_pos he]
theorem tv_same {s : Fl} (h : tvJ s) {B : List Int} (he : flNextErr s B = 0) {a b : Int} (ha : a ∈ keepB B s.has) (hb : b ∈ keepB B s.has) : flRow (flChange s B) (s.n, a) = flRow (flChange s B) (s.n, b) := by
  obtain ⟨hi, hv, c, r, hh, h1, h2⟩ := h
  rw [flRow_change s B he, flRow_change s B he]
  by_cases hc : c ∈ keepB B s.has
  · have := rowE_flush hc s.said [] s (by simpa using hi.1.2.2.1.1) (by simpa using h2) (fun m _ hm => h1 m hm)
    rw [this a ha, this b hb]
  · have hn : ∀ m ∈ keepB B s.has, flRow s (s.n, m) = [] := fun m hm => h1 m (fun e => hc (e ▸ hm))
    rw [rowE_none s.said s hn, hn a ha, hn b hb]
/-! ### A chain, one by one -/
theorem chainGo_snoc : ∀ (L : List Vw) (p : Option Vw) (i : Nat) (q x : Vw), (L.getLast? <|> p) = some q → chainGo p i L = (0, 0) → viewErr x.1 x.2.2 = 0 → x.1 = q.1 + 1 → mostB q.2.2 x.2.2 = true → chainGo p i (L ++ [x]) = (0, 0)
  | [], p, i, q, x, hq, _, h1, h2, h3 => by
    have : p = some q := by simpa using hq
    subst this
    show chainGo (some q) i [x] = _
    rw [chainGo_some, if_neg (by simpa using h1), if_neg (by simpa using h2), if_neg (by simp [h3])]
    rfl
  | y :: r, p, i, q, x, hq, h, h1, h2, h3 => by
    have hv : viewErr y.1 y.2.2 = 0 := by
      refine Classical.byContradiction fun hne => ?_
      rw [chainGo_bad p i y r hne] at h
      injection h with _ h
      exact hne h
    have hq' : (r.getLast? <|> some y) = some q := by
      cases r with
      | nil => simpa using hq
      | cons z t =>
        simp only [List.getLast?_cons_cons] at hq
        cases hz : (z :: t).getLast? with
        | none => simp at hz
        | some u => rw [hz] at hq; simpa using hq
    have hgo : chainGo (some y) (i + 1) r = (0, 0) ∧ chainGo p i (y :: r ++ [x]) = chainGo (some y) (i + 1) (r ++ [x]) := by
      cases p with
      | none =>
        rw [chainGo_none, if_neg (by simpa using hv)] at h
        exact ⟨h, by rw [List.cons_append, chainGo_none, if_neg (by simpa using hv)]⟩
      | some p =>
        rw [chainGo_some, if_neg (by simpa using hv)] at h
        by_cases e1 : y.1 ≠ p.1 + 1
        · rw [if_pos e1] at h; injection h with _ h; cases h
        rw [if_neg e1] at h
        cases e2 : mostB p.2.2 y.2.2
        · rw [if_pos e2] at h; injection h with _ h; cases h
        rw [if_neg (by rw [e2]; simp)] at h
        exact ⟨h, by rw [List.cons_append, chainGo_some, if_neg (by simpa using hv), if_neg e1, if_neg (by rw [e2]; simp)]⟩
    rw [hgo.2]
    exact chainGo_snoc r (some y) (i + 1) q x hq' hgo.1 h1 h2 h3
/-- Views one behind the other, the last of which is that of the group. -/
def tvL (L : List Vw) (s : Fl) : Prop := chainGo none 0 L = (0, 0) ∧ ∃ q, L.getLast? = some q ∧ q.1 = s.n ∧ q.2.2 = s.has
theorem tvL_new {s : Fl} (hv : viewErr s.n s.has = 0) (v : Value) : tvL [(s.n, v, s.has)] s := by
  refine ⟨?_, _, rfl, rfl, rfl⟩
  rw [chainGo_none, if_neg (by simpa using hv)]
  rfl
theorem tvL_snoc {L : List Vw} {s : Fl} (h : tvL L s) (hn : 0 ≤ s.n ∧ s.n ≤ 1000000) {B : List Int} (he : flNextErr s B = 0) (v : Value) : tvL (L ++ [(s.n + 1, v, B)]) (flChange s B) := by
  obtain ⟨h1, q, hq, e1, e2⟩ := h
  refine ⟨chainGo_snoc L none 0 q _ (by rw [hq]; rfl) h1 (viewErr_next he hn) (by rw [e1]) (by rw [e2]; exact (nextErr0 he).2.2.2), _, List.getLast?_concat, ?_, ?_⟩
  · rw [flChange_n he]
  · rw [flChange_has he]
end Go.Proofs.Ytkgnjkokbiefgaa
