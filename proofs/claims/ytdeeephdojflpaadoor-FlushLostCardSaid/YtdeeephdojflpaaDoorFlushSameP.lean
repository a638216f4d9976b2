/- A group that flushes, plainly: who goes on together heard the same. -/
import Derived.Test.YtdeeephdojflpaaDoorFlushP
namespace Go.Proofs.YtdeeephdojflpaaDoor
set_option linter.unusedVariables false
set_option linter.unusedSimpArgs false
open Go.RowKit Go.Maps
/-- What holds of a group at any time: words of a view were said in it; no word is heard in two. -/
def flInv (s : Fl) : Prop := flGood s ∧ (∀ k m, s.n < k → flRow s (k, m) = []) ∧ (∀ m, ∀ x ∈ flRow s (s.n, m), x ∈ s.said) ∧ ((∀ x ∈ s.said, x ∈ s.all) ∧ ∀ p, ∀ x ∈ flRow s p, x ∈ s.all) ∧
  (∀ x ∈ s.said, ∀ k m, k ≠ s.n → x ∉ flRow s (k, m)) ∧ ∀ k1 k2 m, k1 ≠ k2 → ∀ x ∈ flRow s (k1, m), x ∉ flRow s (k2, m)
theorem flInv_new (n : Nat) (hn : n ≤ 5) : flInv (flNew n) := by
  have hr : ∀ p, flRow (flNew n) p = [] := fun p => rfl
  refine ⟨⟨⟨Int.le_refl _, by show (0 : Int) ≤ 1000000; omega⟩, ⟨?_, ?_⟩, ⟨List.nodup_nil, fun x hx => by cases hx⟩, fun p => by rw [hr]; exact ⟨List.nodup_nil, fun x hx => by cases hx⟩⟩, fun k m _ => hr _, fun m x hx => (by rw [hr] at hx; cases hx), ⟨fun x hx => (by cases hx), fun p x hx => (by rw [hr] at hx; cases hx)⟩, fun x hx => (by cases hx), fun k1 k2 m _ x hx => (by rw [hr] at hx; cases hx)⟩
  · show (upTo n).length ≤ 5; rw [upTo_len]; exact hn
  · intro x hx
    obtain ⟨i, hi, rfl⟩ := List.mem_map.1 (show x ∈ (List.range n).map (fun i : Nat => (i : Int)) from hx)
    have := List.mem_range.1 hi
    simp [isMember]; omega
theorem flInv_hear {s : Fl} (h : flInv s) {m w : Int} (hw : w ∈ s.said) (hn : flHas s m w = false) : flInv (flHear s m w) := by
  obtain ⟨hg, h1, h2, h3, h4, h5⟩ := h
  have hww := hg.2.2.1.2 w hw
  refine ⟨flGood_hear hg hww hn, ?_, ?_, ⟨h3.1, ?_⟩, ?_, ?_⟩
  · intro k q hk
    rw [flRow_hear, if_neg (by intro e; injection e with e1 _; have : s.n < k := hk; omega)]
    exact h1 k q hk
  · intro q x hx
    rw [flRow_hear] at hx
    split at hx
    · rcases List.mem_append.1 hx with hx | hx
      · exact h2 q x hx
      · simp at hx; rw [hx]; exact hw
    · exact h2 q x hx
  · intro p x hx
    rw [flRow_hear] at hx
    split at hx
    · rcases List.mem_append.1 hx with hx | hx
      · exact h3.2 p x hx
      · simp at hx; rw [hx]; exact h3.1 w hw
    · exact h3.2 p x hx
  · intro x hx k q hk
    have hk' : k ≠ s.n := hk
    rw [flRow_hear, if_neg (by intro e; injection e with e1 _; exact hk' e1.symm)]
    exact h4 x hx k q hk
  · intro k1 k2 q hk x hx hx2
    rw [flRow_hear] at hx hx2
    by_cases e1 : (s.n, m) = (k1, q)
    · injection e1 with e1 e1'
      rw [if_neg (by intro e; injection e with e2 _; exact hk (e1.symm.trans e2))] at hx2
      rw [if_pos (by rw [e1, e1'])] at hx
      rcases List.mem_append.1 hx with hx | hx
      · exact h5 k1 k2 q hk x hx hx2
      · simp at hx
        exact h4 x (by rw [hx]; exact hw) k2 q (fun e => hk (e1.symm.trans e.symm)) hx2
    · rw [if_neg e1] at hx
      by_cases e2 : (s.n, m) = (k2, q)
      · rw [if_pos e2] at hx2
        injection e2 with e2 e2'
        rcases List.mem_append.1 hx2 with hx2 | hx2
        · exact h5 k1 k2 q hk x hx hx2
        · simp at hx2
          exact h4 x (by rw [hx2]; exact hw) k1 q (fun e => hk (e.trans e2)) hx
      · rw [if_neg e2] at hx2
        exact h5 k1 k2 q hk x hx hx2
theorem flRow_said (s : Fl) (a b : List Int) (p : Int × Int) : flRow { s with all := a, said := b } p = flRow s p := rfl
theorem flInv_said {s : Fl} (h : flInv s) {w : Int} (hww : isWord w = true) (hw : w ∉ s.all) : flInv { s with all := setPut s.all w, said := s.said ++ [w] } := by
  obtain ⟨hg, h1, h2, h3, h4, h5⟩ := h
  refine ⟨⟨hg.1, hg.2.1, ⟨?_, ?_⟩, hg.2.2.2⟩, h1, fun m x hx => List.mem_append_left _ (h2 m x hx), ⟨?_, fun p x hx => mem_setPut.2 (.inl (h3.2 p x hx))⟩, ?_, h5⟩
  · rw [List.nodup_append]
    exact ⟨hg.2.2.1.1, by simp, fun a ha b hb e => by simp at hb; subst hb; exact hw (h3.1 _ (e ▸ ha))⟩
  · intro x hx
    rcases List.mem_append.1 hx with hx | hx
    · exact hg.2.2.1.2 x hx
    · simp at hx; rw [hx]; exact hww
  · intro x hx
    rcases List.mem_append.1 hx with hx | hx
    · exact mem_setPut.2 (.inl (h3.1 x hx))
    · simp at hx; exact mem_setPut.2 (.inr hx)
  · intro x hx k m hk hx2
    rcases List.mem_append.1 hx with hx | hx
    · exact h4 x hx k m hk hx2
    · simp at hx
      exact hw (h3.2 (k, m) w (by rw [← hx]; exact hx2))
theorem flInv_say {s : Fl} (h : flInv s) (who word : Int) : flInv (flSay s who word) := by
  unfold flSay
  split
  · rename_i he
    unfold flSayErr at he
    by_cases hc : flChk s who word = 0
    · rw [if_neg (by simpa using hc)] at he
      by_cases hin : word ∈ s.all
      · rw [if_pos hin] at he; cases he
      · obtain ⟨_, hw, _⟩ := flChk0 hc
        refine flInv_hear (flInv_said h hw hin) (by simp) ?_
        unfold flHas
        rw [flRow_said]
        simp only [decide_eq_false_iff_not]
        exact fun hx => hin (h.2.2.2.1.2 _ _ hx)
    · rw [if_pos hc] at he; exact absurd he hc
  · exact h
theorem flInv_give {s : Fl} (h : flInv s) (who word : Int) : flInv (flGive s who word) := by
  unfold flGive
  split
  · rename_i he
    unfold flGiveErr at he
    by_cases hc : flChk s who word = 0
    · rw [if_neg (by simpa using hc)] at he
      by_cases h1 : word ∈ s.said
      · rw [if_neg (by simp [h1])] at he
        cases h2 : flHas s who word
        · exact flInv_hear h h1 h2
        · rw [if_pos h2] at he; cases he
      · rw [if_pos (by simp [h1])] at he; cases he
    · rw [if_pos hc] at he; exact absurd he hc
  · exact h
theorem flInv_step {s : Fl} (h : flInv s) {w : Int} (hw : w ∈ s.said) (m : Int) : flInv (flStep w s m) := by
  unfold flStep
  split
  · exact h
  · rename_i hn; exact flInv_hear h hw (by simpa using hn)
theorem flInv_all {w : Int} : ∀ (l : List Int) {s : Fl}, w ∈ s.said → flInv s → flInv (flGiveAll s l w)
  | [], _, _, h => h
  | m :: r, s, hw, h => flInv_all r (s := flStep w s m) (by rw [(flLike_step w s m).2.2.2]; exact hw) (flInv_step h hw m)
theorem flInv_word {s : Fl} (h : flInv s) {w : Int} (hw : w ∈ s.said) (stay : List Int) : flInv (flWord stay s w) := by
  unfold flWord
  split
  · exact flInv_all stay hw h
  · exact h
theorem flInv_flush {stay : List Int} : ∀ (ws : List Int) {s : Fl}, (∀ w ∈ ws, w ∈ s.said) → flInv s → flInv (flFlush s stay ws)
  | [], _, _, h => h
  | w :: r, s, hw, h => flInv_flush r (s := flWord stay s w) (fun x hx => by rw [(flLike_word stay s w).2.2.2]; exact hw x (by simp [hx])) (flInv_word h (hw w (by simp)) stay)
theorem nextErr0 {n : Int} {A B : List Int} (h : nextErr n A B = 0) : viewErr n A = 0 ∧ n ≠ 1000000 ∧ memErr B = 0 ∧ mostB A B = true := by
  unfold nextErr at h
  by_cases h1 : viewErr n A = 0
  · rw [if_neg (by simpa using h1)] at h
    by_cases h2 : n = 1000000
    · rw [if_pos h2] at h; cases h
    rw [if_neg h2] at h
    by_cases h3 : memErr B = 0
    · rw [if_neg (by simpa using h3)] at h
      cases h4 : mostB A B
      · rw [if_pos h4] at h; cases h
      · exact ⟨h1, h2, h3, rfl⟩
    · rw [if_pos h3] at h; exact absurd h h3
  · rw [if_pos h1] at h; exact absurd h h1
theorem flRow_change (s : Fl) (B : List Int) (he : flNextErr s B = 0) (p : Int × Int) : flRow (flChange s B) p = flRow (flFlush s (keepB B s.has) s.said) p := by
  unfold flChange; rw [if_pos he]; rfl
theorem flInv_change {s : Fl} (h : flInv s) (B : List Int) : flInv (flChange s B) := by
  by_cases he : flNextErr s B = 0
  rotate_left
  · unfold flChange; rw [if_neg he]; exact h
  obtain ⟨_, hn, hb, _⟩ := nextErr0 he
  have hi := flInv_flush s.said (stay := keepB B s.has) (fun _ h => h) h
  have hl := flLike_flush (keepB B s.has) s.said s
  have hr := flRow_change s B he
  have e1 : (flChange s B).n = s.n + 1 := by unfold flChange; rw [if_pos he]
  have e2 : (flChange s B).has = B := by unfold flChange; rw [if_pos he]
  have e3 : (flChange s B).said = [] := by unfold flChange; rw [if_pos he]
  have e4 : (flChange s B).all = s.all := by unfold flChange; rw [if_pos he]
  obtain ⟨hg, h1, h2, h3, h4, h5⟩ := hi
  have hg0 := h.1.1
  have hnew : ∀ m, flRow (flChange s B) (s.n + 1, m) = [] := fun m => by rw [hr]; exact h1 _ _ (by rw [hl.1]; omega)
  refine ⟨⟨by rw [e1]; omega, by rw [e2]; exact ⟨(memErr_len hb).2, memErr_members hb⟩, by rw [e3]; exact ⟨List.nodup_nil, fun x hx => by cases hx⟩, fun p => by rw [hr]; exact hg.2.2.2 p⟩, ?_, ?_, ⟨?_, ?_⟩, ?_, ?_⟩
  · intro k m hk
    rw [e1] at hk
    rw [hr]; exact h1 _ _ (by rw [hl.1]; omega)
  · intro m x hx
    rw [e1, hnew] at hx; cases hx
  · intro x hx; rw [e3] at hx; cases hx
  · intro p x hx
    rw [hr] at hx
    rw [e4, ← hl.2.2.1]; exact h3.2 p x hx
  · intro x hx; rw [e3] at hx; cases hx
  · intro k1 k2 m hk x hx hx2
    rw [hr] at hx hx2
    exact h5 k1 k2 m hk x hx hx2
/-! ### Who goes on together heard the same -/
theorem flRow_step (w : Int) (s : Fl) (m q : Int) (x : Int) : x ∈ flRow (flStep w s m) (s.n, q) ↔ x ∈ flRow s (s.n, q) ∨ (x = w ∧ q = m) := by
  unfold flStep
  by_cases h : flHas s m w = true
  · rw [if_pos h]
    have : w ∈ flRow s (s.n, m) := by unfold flHas at h; simpa using h
    constructor
    · exact .inl
    · rintro (h | ⟨rfl, rfl⟩)
      · exact h
      · exact this
  · rw [if_neg h, flRow_hear]
    by_cases e : m = q
    · subst e
      rw [if_pos rfl, List.mem_append]
      simp
    · rw [if_neg (by intro e2; injection e2 with _ e2; exact e e2)]
      constructor
      · exact .inl
      · rintro (h | ⟨_, h⟩)
        · exact h
        · exact absurd h.symm e
theorem flRow_all (w : Int) (q x : Int) : ∀ (l : List Int) (s : Fl), x ∈ flRow (flGiveAll s l w) (s.n, q) ↔ x ∈ flRow s (s.n, q) ∨ (x = w ∧ q ∈ l)
  | [], s => by simp [flGiveAll]
  | m :: r, s => by
    have ih := flRow_all w q x r (flStep w s m)
    rw [(flLike_step w s m).1] at ih
    show x ∈ flRow (flGiveAll (flStep w s m) r w) (s.n, q) ↔ _
    rw [ih, flRow_step, List.mem_cons]
    constructor
    · rintro ((h | ⟨h1, h2⟩) | ⟨h1, h2⟩)
      · exact .inl h
      · exact .inr ⟨h1, .inl h2⟩
      · exact .inr ⟨h1, .inr h2⟩
    · rintro (h | ⟨h1, h2 | h2⟩)
      · exact .inl (.inl h)
      · exact .inl (.inr ⟨h1, h2⟩)
      · exact .inr ⟨h1, h2⟩
theorem flRow_word (w q x : Int) (K : List Int) (s : Fl) : x ∈ flRow (flWord K s w) (s.n, q) ↔ x ∈ flRow s (s.n, q) ∨ (x = w ∧ q ∈ K ∧ ∃ m ∈ K, w ∈ flRow s (s.n, m)) := by
  unfold flWord
  have ha : (K.any fun m => flHas s m w) = true ↔ ∃ m ∈ K, w ∈ flRow s (s.n, m) := by simp [flHas]
  by_cases h : (K.any fun m => flHas s m w) = true
  · rw [if_pos h, flRow_all]
    have h' := ha.1 h
    simp [h']
  · rw [if_neg h]
    have h' : ¬ ∃ m ∈ K, w ∈ flRow s (s.n, m) := fun e => h (ha.2 e)
    constructor
    · exact .inl
    · rintro (h | ⟨_, _, h⟩)
      · exact h
      · exact absurd h h'
theorem flRow_flush (q x : Int) (K : List Int) : ∀ (ws : List Int) (s : Fl), x ∈ flRow (flFlush s K ws) (s.n, q) ↔ x ∈ flRow s (s.n, q) ∨ (x ∈ ws ∧ q ∈ K ∧ ∃ m ∈ K, x ∈ flRow s (s.n, m))
  | [], s => by simp [flFlush]
  | w :: r, s => by
    have ih := flRow_flush q x K r (flWord K s w)
    rw [(flLike_word K s w).1] at ih
    show x ∈ flRow (flFlush (flWord K s w) K r) (s.n, q) ↔ _
    have hex : (∃ m ∈ K, x ∈ flRow (flWord K s w) (s.n, m)) ↔ ∃ m ∈ K, x ∈ flRow s (s.n, m) := by
      constructor
      · rintro ⟨m, hm, h⟩
        rcases (flRow_word w m x K s).1 h with h | ⟨h1, _, h3⟩
        · exact ⟨m, hm, h⟩
        · rw [h1]; exact h3
      · rintro ⟨m, hm, h⟩
        exact ⟨m, hm, (flRow_word w m x K s).2 (.inl h)⟩
    rw [ih, hex, flRow_word, List.mem_cons]
    constructor
    · rintro ((h | ⟨h1, h2, h3⟩) | ⟨h1, h2, h3⟩)
      · exact .inl h
      · exact .inr ⟨.inl h1, h2, by rw [h1]; exact h3⟩
      · exact .inr ⟨.inr h1, h2, h3⟩
    · rintro (h | ⟨h1 | h1, h2, h3⟩)
      · exact .inl (.inl h)
      · exact .inl (.inr ⟨h1, h2, by rw [← h1]; exact h3⟩)
      · exact .inr ⟨h1, h2, h3⟩
/-- Behind a change those who stay heard the same words in the view that went. -/
theorem fl_same {s : Fl} (h : flInv s) {B : List Int} (he : flNextErr s B = 0) {a b : Int} (ha : a ∈ keepB B s.has) (hb : b ∈ keepB B s.has) :
    (flRow (flChange s B) (s.n, a)).length = (flRow (flChange s B) (s.n, b)).length ∧ ∀ x ∈ flRow (flChange s B) (s.n, b), x ∈ flRow (flChange s B) (s.n, a) := by
  have key : ∀ a ∈ keepB B s.has, ∀ b ∈ keepB B s.has, ∀ x ∈ flRow (flChange s B) (s.n, b), x ∈ flRow (flChange s B) (s.n, a) := by
    intro a ha b hb x hx
    rw [flRow_change s B he, flRow_flush] at hx ⊢
    rcases hx with hx | ⟨h1, _, h3⟩
    · exact .inr ⟨h.2.2.1 b x hx, ha, b, hb, hx⟩
    · exact .inr ⟨h1, ha, h3⟩
  have hn := (flInv_change h B).1.2.2.2
  refine ⟨?_, key a ha b hb⟩
  have p : (flRow (flChange s B) (s.n, a)).Perm (flRow (flChange s B) (s.n, b)) :=
    (List.perm_ext_iff_of_nodup (hn _).1 (hn _).1).2 fun x => ⟨key b hb a ha x, key a ha b hb x⟩
  exact p.length_eq
/-- Some stay. -/
theorem fl_some {s : Fl} {B : List Int} (he : flNextErr s B = 0) : 0 < (keepB B s.has).length := by
  obtain ⟨_, _, _, hm⟩ := nextErr0 he
  unfold mostB at hm
  simp at hm
  have := Int.natCast_nonneg s.has.length
  omega
theorem flChange_n {s : Fl} {B : List Int} (he : flNextErr s B = 0) : (flChange s B).n = s.n + 1 := by unfold flChange; rw [if_pos he]
theorem flChange_has {s : Fl} {B : List Int} (he : flNextErr s B = 0) : (flChange s B).has = B := by unfold flChange; rw [if_pos he]
theorem flChange_like {s : Fl} {B : List Int} (he : flNextErr s B ≠ 0) : flChange s B = s := by unfold flChange; rw [if_neg he]
/-- What a member heard in all views up to one. -/
def flRows (s : Fl) (m : Int) : Nat → List Int
  | 0 => []
  | k + 1 => flRows s m k ++ flRow s ((k : Int), m)
theorem mem_flRows {s : Fl} {m x : Int} : ∀ {k : Nat}, x ∈ flRows s m k → ∃ j, j < k ∧ x ∈ flRow s ((j : Int), m)
  | 0, h => by cases h
  | k + 1, h => by
    rcases List.mem_append.1 h with h | h
    · obtain ⟨j, hj, hx⟩ := mem_flRows h
      exact ⟨j, by omega, hx⟩
    · exact ⟨k, by omega, h⟩
theorem flRows_new {s : Fl} (h : flInv s) {m x : Int} {k j : Nat} (hj : j < (flRow s ((k : Int), m)).length) (hx : x = (flRow s ((k : Int), m))[j]) : x ∉ flRows s m k ++ (flRow s ((k : Int), m)).take j := by
  intro hm
  rcases List.mem_append.1 hm with hm | hm
  · obtain ⟨i, hi, h2⟩ := mem_flRows hm
    exact h.2.2.2.2.2 i k m (by omega) x h2 (by rw [hx]; exact List.getElem_mem _)
  · have hn := (h.1.2.2.2 ((k : Int), m)).1
    rw [List.mem_take_iff_getElem] at hm
    obtain ⟨i, hi, e⟩ := hm
    have hij : i < j := by omega
    have := (List.nodup_iff_pairwise_ne.1 hn)
    have := List.pairwise_iff_getElem.1 this i j (by omega) hj hij
    exact this (e.trans hx)
end Go.Proofs.YtdeeephdojflpaaDoor
