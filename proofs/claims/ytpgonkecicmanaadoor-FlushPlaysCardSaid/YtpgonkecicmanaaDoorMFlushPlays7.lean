/- A group that flushes, plainly: what a change of the view does. -/
import Derived.Test.YtpgonkecicmanaaDoorMFlushPlays6
import Derived.Test.YtpgonkecicmanaaDoorMFlushPlays3
namespace Go.Proofs.YtpgonkecicmanaaDoor
set_option linter.unusedVariables false
set_option linter.unusedSimpArgs false
open Go.RowKit Go.Maps
def flStep (w : Int) (s : Fl) (m : Int) : Fl := if flHas s m w = true then s else flHear s m w
def flGiveAll (s : Fl) (l : List Int) (w : Int) : Fl := l.foldl (flStep w) s
def flWord (stay : List Int) (s : Fl) (w : Int) : Fl := if (stay.any fun m => flHas s m w) = true then flGiveAll s stay w else s
def flFlush (s : Fl) (stay ws : List Int) : Fl := ws.foldl (flWord stay) s
def flNextErr (s : Fl) (B : List Int) : Nat := nextErr s.n s.has B
def flChange (s : Fl) (B : List Int) : Fl := if flNextErr s B = 0 then ⟨s.n + 1, B, s.all, [], (flFlush s (keepB B s.has) s.said).heard⟩ else s
def flGood (s : Fl) : Prop := (0 ≤ s.n ∧ s.n ≤ 1000000) ∧ (s.has.length ≤ 5 ∧ ∀ x ∈ s.has, isMember x = true) ∧ (s.said.Nodup ∧ ∀ x ∈ s.said, isWord x = true) ∧ ∀ x, (flRow s x).Nodup ∧ ∀ y ∈ flRow s x, isWord y = true
theorem words_few {l : List Int} (hn : l.Nodup) (hw : ∀ x ∈ l, isWord x = true) : l.length ≤ 30 :=
  distinct_le 30 l hn fun x hx => by have := hw x hx; simp [isWord] at this; omega
theorem flGood.ok {s : Fl} (h : flGood s) : flOk s := by
  obtain ⟨h1, h2, h3, h4⟩ := h
  refine ⟨h1, ⟨h2.1, fun x hx => member_I64 (h2.2 x hx)⟩, ⟨?_, fun x hx => isWord_I64 (h3.2 x hx)⟩, fun x => ⟨?_, fun y hy => isWord_I64 ((h4 x).2 y hy)⟩⟩
  · have := words_few h3.1 h3.2; omega
  · have := words_few (h4 x).1 (h4 x).2; omega
theorem flGood.few {s : Fl} (h : flGood s) : s.said.length ≤ 900 := by have := words_few h.2.2.1.1 h.2.2.1.2; omega
theorem flRow_hear (s : Fl) (m w : Int) (x : Int × Int) : flRow (flHear s m w) x = if (s.n, m) = x then flRow s x ++ [w] else flRow s x := by
  unfold flRow flHear
  simp only [mget_mput]
  by_cases h : (s.n, m) = x
  · subst h; rw [if_pos rfl, if_pos rfl]; rfl
  · rw [if_neg h, if_neg h]
theorem flGood_hear {s : Fl} (h : flGood s) {m w : Int} (hw : isWord w = true) (hn : flHas s m w = false) : flGood (flHear s m w) := by
  refine ⟨h.1, h.2.1, h.2.2.1, fun x => ?_⟩
  rw [flRow_hear]
  split
  · rename_i hx
    subst hx
    unfold flHas at hn
    have hn' : w ∉ flRow s (s.n, m) := by simpa using hn
    refine ⟨?_, fun y hy => ?_⟩
    · rw [List.nodup_append]
      exact ⟨(h.2.2.2 _).1, by simp, fun a ha b hb e => by simp at hb; subst hb; exact hn' (e ▸ ha)⟩
    · rcases List.mem_append.1 hy with hy | hy
      · exact (h.2.2.2 _).2 y hy
      · simp at hy; rw [hy]; exact hw
  · exact h.2.2.2 x
theorem flGood_step {s : Fl} (h : flGood s) {m w : Int} (hw : isWord w = true) : flGood (flStep w s m) := by
  unfold flStep
  split
  · exact h
  · rename_i hn; exact flGood_hear h hw (by simpa using hn)
theorem flGood_all {w : Int} (hw : isWord w = true) : ∀ (l : List Int) {s : Fl}, flGood s → flGood (flGiveAll s l w)
  | [], _, h => h
  | m :: r, s, h => flGood_all hw r (s := flStep w s m) (flGood_step h hw)
theorem flGood_word {s : Fl} (h : flGood s) {stay : List Int} {w : Int} (hw : isWord w = true) : flGood (flWord stay s w) := by
  unfold flWord
  split
  · exact flGood_all hw stay h
  · exact h
theorem flGood_flush {stay : List Int} : ∀ (ws : List Int) {s : Fl}, (∀ w ∈ ws, isWord w = true) → flGood s → flGood (flFlush s stay ws)
  | [], _, _, h => h
  | w :: r, s, hw, h => flGood_flush r (s := flWord stay s w) (fun x hx => hw x (by simp [hx])) (flGood_word h (hw w (by simp)))
/-- What a change leaves as it was. -/
def flLike (a b : Fl) : Prop := a.n = b.n ∧ a.has = b.has ∧ a.all = b.all ∧ a.said = b.said
theorem flLike_step (w : Int) (s : Fl) (m : Int) : flLike (flStep w s m) s := by
  unfold flStep; split <;> exact ⟨rfl, rfl, rfl, rfl⟩
theorem flLike.trans {a b c : Fl} (h : flLike a b) (h' : flLike b c) : flLike a c := ⟨h.1.trans h'.1, h.2.1.trans h'.2.1, h.2.2.1.trans h'.2.2.1, h.2.2.2.trans h'.2.2.2⟩
theorem flLike_all (w : Int) : ∀ (l : List Int) (s : Fl), flLike (flGiveAll s l w) s
  | [], _ => ⟨rfl, rfl, rfl, rfl⟩
  | m :: r, s => (flLike_all w r (flStep w s m)).trans (flLike_step w s m)
theorem flLike_word (stay : List Int) (s : Fl) (w : Int) : flLike (flWord stay s w) s := by
  unfold flWord; split
  · exact flLike_all w stay s
  · exact ⟨rfl, rfl, rfl, rfl⟩
theorem flLike_flush (stay : List Int) : ∀ (ws : List Int) (s : Fl), flLike (flFlush s stay ws) s
  | [], _ => ⟨rfl, rfl, rfl, rfl⟩
  | w :: r, s => (flLike_flush stay r (flWord stay s w)).trans (flLike_word stay s w)
theorem flFlush_next {stay ws : List Int} {s : Fl} {k : Nat} (hk : k < ws.length) : flFlush s stay (ws.take (k + 1)) = flWord stay (flFlush s stay (ws.take k)) ws[k] := by
  unfold flFlush; rw [List.take_add_one, List.getElem?_eq_getElem hk, Option.toList, List.foldl_append]; rfl
theorem flGiveAll_next {l : List Int} {s : Fl} {w : Int} {k : Nat} (hk : k < l.length) : flGiveAll s (l.take (k + 1)) w = flStep w (flGiveAll s (l.take k) w) l[k] := by
  unfold flGiveAll; rw [List.take_add_one, List.getElem?_eq_getElem hk, Option.toList, List.foldl_append]; rfl
theorem memErr_members {l : List Int} (h : memErr l = 0) : ∀ x ∈ l, isMember x = true := by
  have go : ∀ (l : List Int) (p : Int), memGo p l = 0 → ∀ x ∈ l, isMember x = true := by
    intro l
    induction l with
    | nil => intro _ _ x hx; cases hx
    | cons y r ih =>
      intro p hp x hx
      unfold memGo at hp
      by_cases h1 : isMember y = false
      · rw [if_pos h1] at hp; cases hp
      rw [if_neg h1] at hp
      by_cases h2 : y ≤ p
      · rw [if_pos h2] at hp; cases hp
      rw [if_neg h2] at hp
      rcases List.mem_cons.1 hx with rfl | hx
      · simpa using h1
      · exact ih _ hp x hx
  unfold memErr at h
  by_cases h0 : l = []
  · subst h0; simp at h
  rw [if_neg h0] at h
  exact go l _ h
end Go.Proofs.YtpgonkecicmanaaDoor
/- A group that flushes, plainly: who goes on together heard the same. -/
namespace Go.Proofs.YtpgonkecicmanaaDoor
set_option linter.unusedVariables false
set_option linter.unusedSimpArgs false
open Go.RowKit Go.Maps
/-- What holds of a group at any time: words of a view were said in it; no word is heard in two. -/
def flInv (s : Fl) : Prop := flGood s ∧ (∀ k m, s.n < k → flRow s (k, m) = []) ∧ (∀ m, ∀ x ∈ flRow s (s.n, m), x ∈ s.said) ∧ ((∀ x ∈ s.said, x ∈ s.all) ∧ ∀ p, ∀ x ∈ flRow s p, x ∈ s.all) ∧
  (∀ x ∈ s.said, ∀ k m, k ≠ s.n → x ∉ flRow s (k, m)) ∧ ∀ k1 k2 m, k1 ≠ k2 → ∀ x ∈ flRow s (k1, m), x ∉ flRow s (k2, m)
theorem flInv_new (n : Nat) (hn : n ≤ 5) : flInv (flNew n) := by
  have hr : ∀ p, flRow (flNew n) p = [] := fun p => rfl
  refine ⟨⟨⟨Int.le_refl _, by show (0 : Int) ≤ 1000000; omega⟩, ⟨?_, ?_⟩, ⟨List.nodup_nil, fun x hx => by cases hx⟩, fun p => by rw [hr]; exact ⟨List.nodup_nil, fun x hx => by cases hx⟩⟩, fun k m _ => hr _, fun m x hx => (by rw [hr] at hx; cases hx), ⟨fun x hx => (by cases hx), fun p x hx => (by rw [hr] at hx; cases hx)⟩, fun x hx => (by cases hx), fun k1 k2 m _ x hx => (by rw [hr] at hx; cases hx)⟩
  · show (upTo n).length ≤ 5; rw [upTo_len]; exact hn
  · intro x hx
    obtain ⟨i, hi, rfl⟩ := List.mem_map.1 (show x ∈ (List.range n).map (fun i : Nat => (i : Int)) from hx)
    have := List.mem_range.1 hi
    simp [isMember]; omega
theorem flInv_hear {s : Fl} (h : flInv s) {m w : Int} (hw : w ∈ s.said) (hn : flHas s m w = false) : flInv (flHear s m w) := by
  obtain ⟨hg, h1, h2, h3, h4, h5⟩ := h
  have hww := hg.2.2.1.2 w hw
  refine ⟨flGood_hear hg hww hn, ?_, ?_, ⟨h3.1, ?_⟩, ?_, ?_⟩
  · intro k q hk
    rw [flRow_hear, if_neg (by intro e; injection e with e1 _; have : s.n < k := hk; omega)]
    exact h1 k q hk
  · intro q x hx
    rw [flRow_hear] at hx
    split at hx
    · rcases List.mem_append.1 hx with hx | hx
      · exact h2 q x hx
      · simp at hx; rw [hx]; exact hw
    · exact h2 q x hx
  · intro p x hx
    rw [flRow_hear] at hx
    split at hx
    · rcases List.mem_append.1 hx with hx | hx
      · exact h3.2 p x hx
      · simp at hx; rw [hx]; exact h3.1 w hw
    · exact h3.2 p x hx
  · intro x hx k q hk
    have hk' : k ≠ s.n := hk
    rw [flRow_hear, if_neg (by intro e; injection e with e1 _; exact hk' e1.symm)]
    exact h4 x hx k q hk
  · intro k1 k2 q hk x hx hx2
    rw [flRow_hear] at hx hx2
    by_cases e1 : (s.n, m) = (k1, q)
    · injection e1 with e1 e1'
      rw [if_neg (by intro e; injection e with e2 _; exact hk (e1.symm.trans e2))] at hx2
      rw [if_pos (by rw [e1, e1'])] at hx
      rcases List.mem_append.1 hx with hx | hx
      · exact h5 k1 k2 q hk x hx hx2
      · simp at hx
        exact h4 x (by rw [hx]; exact hw) k2 q (fun e => hk (e1.symm.trans e.symm)) hx2
    · rw [if_neg e1] at hx
      by_cases e2 : (s.n, m) = (k2, q)
      · rw [if_pos e2] at hx2
        injection e2 with e2 e2'
        rcases List.mem_append.1 hx2 with hx2 | hx2
        · exact h5 k1 k2 q hk x hx hx2
        · simp at hx2
          exact h4 x (by rw [hx2]; exact hw) k1 q (fun e => hk (e.trans e2)) hx
      · rw [if_neg e2] at hx2
        exact h5 k1 k2 q hk x hx hx2
theorem flRow_said (s : Fl) (a b : List Int) (p : Int × Int) : flRow { s with all := a, said := b } p = flRow s p := rfl
theorem flInv_said {s : Fl} (h : flInv s) {w : Int} (hww : isWord w = true) (hw : w ∉ s.all) : flInv { s with all := setPut s.all w, said := s.said ++ [w] } := by
  obtain ⟨hg, h1, h2, h3, h4, h5⟩ := h
  refine ⟨⟨hg.1, hg.2.1, ⟨?_, ?_⟩, hg.2.2.2⟩, h1, fun m x hx => List.mem_append_left _ (h2 m x hx), ⟨?_, fun p x hx => mem_setPut.2 (.inl (h3.2 p x hx))⟩, ?_, h5⟩
  · rw [List.nodup_append]
    exact ⟨hg.2.2.1.1, by simp, fun a ha b hb e => by simp at hb; subst hb; exact hw (h3.1 _ (e ▸ ha))⟩
  · intro x hx
    rcases List.mem_append.1 hx with hx | hx
    · exact hg.2.2.1.2 x hx
    · simp at hx; rw [hx]; exact hww
  · intro x hx
    rcases List.mem_append.1 hx with hx | hx
    · exact mem_setPut.2 (.inl (h3.1 x hx))
    · simp at hx; exact mem_setPut.2 (.inr hx)
  · intro x hx k m hk hx2
    rcases List.mem_append.1 hx with hx | hx
    · exact h4 x hx k m hk hx2
    · simp at hx
      exact hw (h3.2 (k, m) w (by rw [← hx]; exact hx2))
theorem flInv_say {s : Fl} (h : flInv s) (who word : Int) : flInv (flSay s who word) := by
  unfold flSay
  split
  · rename_i he
    unfold flSayErr at he
    by_cases hc : flChk s who word = 0
    · rw [if_neg (by simpa using hc)] at he
      by_cases hin : word ∈ s.all
      · rw [if_pos hin] at he; cases he
      · obtain ⟨_, hw, _⟩ := flChk0 hc
        refine flInv_hear (flInv_said h hw hin) (by simp) ?_
        unfold flHas
        rw [flRow_said]
        simp only [decide_eq_false_iff_not]
        exact fun hx => hin (h.2.2.2.1.2 _ _ hx)
    · rw [if_pos hc] at he; exact absurd he hc
  · exact h
theorem flInv_give {s : Fl} (h : flInv s) (who word : Int) : flInv (flGive s who word) := by
  unfold flGive
  split
  · rename_i he
    unfold flGiveErr at he
    by_cases hc : flChk s who word = 0
    · rw [if_neg (by simpa using hc)] at he
      by_cases h1 : word ∈ s.said
      · rw [if_neg (by simp [h1])] at he
        cases h2 : flHas s who word
        · exact flInv_hear h h1 h2
        · rw [if_pos h2] at he; cases he
      · rw [if_pos (by simp [h1])] at he; cases he
    · rw [if_pos hc] at he; exact absurd he hc
  · exact h
theorem flInv_step {s : Fl} (h : flInv s) {w : Int} (hw : w ∈ s.said) (m : Int) : flInv (flStep w s m) := by
  unfold flStep
  split
  · exact h
  · rename_i hn; exact flInv_hear h hw (by simpa using hn)
theorem flInv_all {w : Int} : ∀ (l : List Int) {s : Fl}, w ∈ s.said → flInv s → flInv (flGiveAll s l w)
  | [], _, _, h => h
  | m :: r, s, hw, h => flInv_all r (s := flStep w s m) (by rw [(flLike_step w s m).2.2.2]; exact hw) (flInv_step h hw m)
theorem flInv_word {s : Fl} (h : flInv s) {w : Int} (hw : w ∈ s.said) (stay : List Int) : flInv (flWord stay s w) := by
  unfold flWord
  split
  · exact flInv_all stay hw h
  · exact h
theorem flInv_flush {stay : List Int} : ∀ (ws : List Int) {s : Fl}, (∀ w ∈ ws, w ∈ s.said) → flInv s → flInv (flFlush s stay ws)
  | [], _, _, h => h
  | w :: r, s, hw, h => flInv_flush r (s := flWord stay s w) (fun x hx => by rw [(flLike_word stay s w).2.2.2]; exact hw x (by simp [hx])) (flInv_word h (hw w (by simp)) stay)
theorem nextErr0 {n : Int} {A B : List Int} (h : nextErr n A B = 0) : viewErr n A = 0 ∧ n ≠ 1000000 ∧ memErr B = 0 ∧ mostB A B = true := by
  unfold nextErr at h
  by_cases h1 : viewErr n A = 0
  · rw [if_neg (by simpa using h1)] at h
    by_cases h2 : n = 1000000
    · rw [if_pos h2] at h; cases h
    rw [if_neg h2] at h
    by_cases h3 : memErr B = 0
    · rw [if_neg (by simpa using h3)] at h
      cases h4 : mostB A B
      · rw [if_pos h4] at h; cases h
      · exact ⟨h1, h2, h3, rfl⟩
    · rw [if_pos h3] at h; exact absurd h h3
  · rw [if_pos h1] at h; exact absurd h h1
theorem flRow_change (s : Fl) (B : List Int) (he : flNextErr s B = 0) (p : Int × Int) : flRow (flChange s B) p = flRow (flFlush s (keepB B s.has) s.said) p := by
  unfold flChange; rw [if_pos he]; rfl
theorem flInv_change {s : Fl} (h : flInv s) (B : List Int) : flInv (flChange s B) := by
  by_cases he : flNextErr s B = 0
  rotate_left
  · unfold flChange; rw [if_neg he]; exact h
  obtain ⟨_, hn, hb, _⟩ := nextErr0 he
  have hi := flInv_flush s.said (stay := keepB B s.has) (fun _ h => h) h
  have hl := flLike_flush (keepB B s.has) s.said s
  have hr := flRow_change s B he
  have e1 : (flChange s B).n = s.n + 1 := by unfold flChange; rw [if_pos he]
  have e2 : (flChange s B).has = B := by unfold flChange; rw [if_pos he]
  have e3 : (flChange s B).said = [] := by unfold flChange; rw [if_pos he]
  have e4 : (flChange s B).all = s.all := by unfold flChange; rw [if_pos he]
  obtain ⟨hg, h1, h2, h3, h4, h5⟩ := hi
  have hg0 := h.1.1
  have hnew : ∀ m, flRow (flChange s B) (s.n + 1, m) = [] := fun m => by rw [hr]; exact h1 _ _ (by rw [hl.1]; omega)
  refine ⟨⟨by rw [e1]; omega, by rw [e2]; exact ⟨(memErr_len hb).2, memErr_members hb⟩, by rw [e3]; exact ⟨List.nodup_nil, fun x hx => by cases hx⟩, fun p => by rw [hr]; exact hg.2.2.2 p⟩, ?_, ?_, ⟨?_, ?_⟩, ?_, ?_⟩
  · intro k m hk
    rw [e1] at hk
    rw [hr]; exact h1 _ _ (by rw [hl.1]; omega)
  · intro m x hx
    rw [e1, hnew] at hx; cases hx
  · intro x hx; rw [e3] at hx; cases hx
  · intro p x hx
    rw [hr] at hx
    rw [e4, ← hl.2.2.1]; exact h3.2 p x hx
  · intro x hx; rw [e3] at hx; cases hx
  · intro k1 k2 m hk x hx hx2
    rw [hr] at hx hx2
    exact h5 k1 k2 m hk x hx hx2
/-! ### Who goes on together heard the same -/
theorem flRow_step (w : Int) (s : Fl) (m q : Int) (x : Int) : x ∈ flRow (flStep w s m) (s.n, q) ↔ x ∈ flRow s (s.n, q) ∨ (x = w ∧ q = m) := by
  unfold flStep
  by_cases h : flHas s m w = true
  · rw [if_pos h]
    have : w ∈ flRow s (s.n, m) := by unfold flHas at h; simpa using h
    constructor
    · exact .inl
    · rintro (h | ⟨rfl, rfl⟩)
      · exact h
      · exact this
  · rw [if_neg h, flRow_hear]
    by_cases e : m = q
    · subst e
      rw [if_pos rfl, List.mem_append]
      simp
    · rw [if_neg (by intro e2; injection e2 with _ e2; exact e e2)]
      constructor
      · exact .inl
      · rintro (h | ⟨_, h⟩)
        · exact h
        · exact absurd h.symm e
theorem flRow_all (w : Int) (q x : Int) : ∀ (l : List Int) (s : Fl), x ∈ flRow (flGiveAll s l w) (s.n, q) ↔ x ∈ flRow s (s.n, q) ∨ (x = w ∧ q ∈ l)
  | [], s => by simp [flGiveAll]
  | m :: r, s => by
    have ih := flRow_all w q x r (flStep w s m)
    rw [(flLike_step w s m).1] at ih
    show x ∈ flRow (flGiveAll (flStep w s m) r w) (s.n, q) ↔ _
    rw [ih, flRow_step, List.mem_cons]
    constructor
    · rintro ((h | ⟨h1, h2⟩) | ⟨h1, h2⟩)
      · exact .inl h
      · exact .inr ⟨h1, .inl h2⟩
      · exact .inr ⟨h1, .inr h2⟩
    · rintro (h | ⟨h1, h2 | h2⟩)
      · exact .inl (.inl h)
      · exact .inl (.inr ⟨h1, h2⟩)
      · exact .inr ⟨h1, h2⟩
theorem flRow_word (w q x : Int) (K : List Int) (s : Fl) : x ∈ flRow (flWord K s w) (s.n, q) ↔ x ∈ flRow s (s.n, q) ∨ (x = w ∧ q ∈ K ∧ ∃ m ∈ K, w ∈ flRow s (s.n, m)) := by
  unfold flWord
  have ha : (K.any fun m => flHas s m w) = true ↔ ∃ m ∈ K, w ∈ flRow s (s.n, m) := by simp [flHas]
  by_cases h : (K.any fun m => flHas s m w) = true
  · rw [if_pos h, flRow_all]
    have h' := ha.1 h
    simp [h']
  · rw [if_neg h]
    have h' : ¬ ∃ m ∈ K, w ∈ flRow s (s.n, m) := fun e => h (ha.2 e)
    constructor
    · exact .inl
    · rintro (h | ⟨_, _, h⟩)
      · exact h
      · exact absurd h h'
theorem flRow_flush (q x : Int) (K : List Int) : ∀ (ws : List Int) (s : Fl), x ∈ flRow (flFlush s K ws) (s.n, q) ↔ x ∈ flRow s (s.n, q) ∨ (x ∈ ws ∧ q ∈ K ∧ ∃ m ∈ K, x ∈ flRow s (s.n, m))
  | [], s => by simp [flFlush]
  | w :: r, s => by
    have ih := flRow_flush q x K r (flWord K s w)
    rw [(flLike_word K s w).1] at ih
    show x ∈ flRow (flFlush (flWord K s w) K r) (s.n, q) ↔ _
    have hex : (∃ m ∈ K, x ∈ flRow (flWord K s w) (s.n, m)) ↔ ∃ m ∈ K, x ∈ flRow s (s.n, m) := by
      constructor
      · rintro ⟨m, hm, h⟩
        rcases (flRow_word w m x K s).1 h with h | ⟨h1, _, h3⟩
        · exact ⟨m, hm, h⟩
        · rw [h1]; exact h3
      · rintro ⟨m, hm, h⟩
        exact ⟨m, hm, (flRow_word w m x K s).2 (.inl h)⟩
    rw [ih, hex, flRow_word, List.mem_cons]
    constructor
    · rintro ((h | ⟨h1, h2, h3⟩) | ⟨h1, h2, h3⟩)
      · exact .inl h
      · exact .inr ⟨.inl h1, h2, by rw [h1]; exact h3⟩
      · exact .inr ⟨.inr h1, h2, h3⟩
    · rintro (h | ⟨h1 | h1, h2, h3⟩)
      · exact .inl (.inl h)
      · exact .inl (.inr ⟨h1, h2, by rw [← h1]; exact h3⟩)
      · exact .inr ⟨h1, h2, h3⟩
/-- Behind a change those who stay heard the same words in the view that went. -/
theorem fl_same {s : Fl} (h : flInv s) {B : List Int} (he : flNextErr s B = 0) {a b : Int} (ha : a ∈ keepB B s.has) (hb : b ∈ keepB B s.has) :
    (flRow (flChange s B) (s.n, a)).length = (flRow (flChange s B) (s.n, b)).length ∧ ∀ x ∈ flRow (flChange s B) (s.n, b), x ∈ flRow (flChange s B) (s.n, a) := by
  have key : ∀ a ∈ keepB B s.has, ∀ b ∈ keepB B s.has, ∀ x ∈ flRow (flChange s B) (s.n, b), x ∈ flRow (flChange s B) (s.n, a) := by
    intro a ha b hb x hx
    rw [flRow_change s B he, flRow_flush] at hx ⊢
    rcases hx with hx | ⟨h1, _, h3⟩
    · exact .inr ⟨h.2.2.1 b x hx, ha, b, hb, hx⟩
    · exact .inr ⟨h1, ha, h3⟩
  have hn := (flInv_change h B).1.2.2.2
  refine ⟨?_, key a ha b hb⟩
  have p : (flRow (flChange s B) (s.n, a)).Perm (flRow (flChange s B) (s.n, b)) :=
    (List.perm_ext_iff_of_nodup (hn _).1 (hn _).1).2 fun x => ⟨key b hb a ha x, key a ha b hb x⟩
  exact p.length_eq
/-- Some stay. -/
theorem fl_some {s : Fl} {B : List Int} (he : flNextErr s B = 0) : 0 < (keepB B s.has).length := by
  obtain ⟨_, _, _, hm⟩ := nextErr0 he
  unfold mostB at hm
  simp at hm
  have := Int.natCast_nonneg s.has.length
  omega
theorem flChange_n {s : Fl} {B : List Int} (he : flNextErr s B = 0) : (flChange s B).n = s.n + 1 := by unfold flChange; rw [if_pos he]
theorem flChange_has {s : Fl} {B : List Int} (he : flNextErr s B = 0) : (flChange s B).has = B := by unfold flChange; rw [if_pos he]
theorem flChange_like {s : Fl} {B : List Int} (he : flNextErr s B ≠ 0) : flChange s B = s := by unfold flChange; rw [if_neg he]
/-- What a member heard in all views up to one. -/
def flRows (s : Fl) (m : Int) : Nat → List Int
  | 0 => []
  | k + 1 => flRows s m k ++ flRow s ((k : Int), m)
theorem mem_flRows {s : Fl} {m x : Int} : ∀ {k : Nat}, x ∈ flRows s m k → ∃ j, j < k ∧ x ∈ flRow s ((j : Int), m)
  | 0, h => by cases h
  | k + 1, h => by
    rcases List.mem_append.1 h with h | h
    · obtain ⟨j, hj, hx⟩ := mem_flRows h
      exact ⟨j, by omega, hx⟩
    · exact ⟨k, by omega, h⟩
theorem flRows_new {s : Fl} (h : flInv s) {m x : Int} {k j : Nat} (hj : j < (flRow s ((k : Int), m)).length) (hx : x = (flRow s ((k : Int), m))[j]) : x ∉ flRows s m k ++ (flRow s ((k : Int), m)).take j := by
  intro hm
  rcases List.mem_append.1 hm with hm | hm
  · obtain ⟨i, hi, h2⟩ := mem_flRows hm
    exact h.2.2.2.2.2 i k m (by omega) x h2 (by rw [hx]; exact List.getElem_mem _)
  · have hn := (h.1.2.2.2 ((k : Int), m)).1
    rw [List.mem_take_iff_getElem] at hm
    obtain ⟨i, hi, e⟩ := hm
    have hij : i < j := by omega
    have := (List.nodup_iff_pairwise_ne.1 hn)
    have := List.pairwise_iff_getElem.1 this i j (by omega) hj hij
    exact this (e.trans hx)
end Go.Proofs.YtpgonkecicmanaaDoor
/- Contracts of package view: Chain. -/
namespace Go.Proofs.YtpgonkecicmanaaDoor
set_option linter.unusedVariables false
set_option linter.unusedSimpArgs false
open Go.RowKit
abbrev Vw := Int × Value × List Int
def vwCells (x : Vw) : List Value := [.int .i64 x.1, x.2.1]
def ReadsV (w0 : World) (R : HProp) (v : Value) (L : List Vw) : Prop := (∀ w, Own w0 R w → Rd w v L.length (L.flatMap vwCells)) ∧ ∀ x ∈ L, Reads w0 R x.2.1 x.2.2
/-- What Chain answers from its i-th view on, where the one before (if any) is p: the place and the error. -/
def chainGo : Option Vw → Nat → List Vw → Nat × Nat
  | _, _, [] => (0, 0)
  | p, i, x :: r => if viewErr x.1 x.2.2 ≠ 0 then (i, viewErr x.1 x.2.2) else
    match p with
    | none => chainGo (some x) (i + 1) r
    | some p => if x.1 ≠ p.1 + 1 then (i, 3) else if mostB p.2.2 x.2.2 = false then (i, 8) else chainGo (some x) (i + 1) r
theorem chainGo_none (i : Nat) (x : Vw) (r : List Vw) : chainGo none i (x :: r) = if viewErr x.1 x.2.2 ≠ 0 then (i, viewErr x.1 x.2.2) else chainGo (some x) (i + 1) r := rfl
theorem chainGo_some (p : Vw) (i : Nat) (x : Vw) (r : List Vw) : chainGo (some p) i (x :: r) = if viewErr x.1 x.2.2 ≠ 0 then (i, viewErr x.1 x.2.2) else if x.1 ≠ p.1 + 1 then (i, 3) else if mostB p.2.2 x.2.2 = false then (i, 8) else chainGo (some x) (i + 1) r := rfl
theorem chainGo_bad (p : Option Vw) (i : Nat) (x : Vw) (r : List Vw) (h : viewErr x.1 x.2.2 ≠ 0) : chainGo p i (x :: r) = (i, viewErr x.1 x.2.2) := by
  cases p
  · rw [chainGo_none, if_pos h]
  · rw [chainGo_some, if_pos h]
def chainR (L : List Vw) : Nat × Nat := if 60 < L.length then (0, 4) else chainGo none 0 L
def chainPrev (L : List Vw) (k : Nat) : Option Vw := if k = 0 then none else L[k - 1]?
theorem ReadsV.more {w0 : World} {P R : HProp} {v : Value} {L : List Vw} (h : ReadsV w0 R v L) : ReadsV w0 (P * R) v L := ⟨fun w ho => h.1 w ho.drop, fun x hx => (h.2 x hx).more⟩
theorem ReadsV.shape {w0 w : World} {R : HProp} {v : Value} {L : List Vw} (h : ReadsV w0 R v L) (ho : Own w0 R w) : ∃ ad cap, v = .slice ad L.length cap ∧ L.length ≤ cap ∧ cap ≤ 9223372036854775807 := by
  obtain ⟨ad', cap', e, h1, h2, _, hc⟩ := h.1 w ho
  exact ⟨ad', cap', e, h1, h2⟩
theorem vw_get : ∀ (l : List Vw) (k j : Nat) (hk : k < l.length) (_hj : j < 2), (l.flatMap vwCells)[k * 2 + j]? = (vwCells l[k])[j]?
  | x :: r, 0, j, hk, hj => by
    simp only [List.flatMap_cons, Nat.zero_mul, Nat.zero_add, List.getElem_cons_zero]
    rw [List.getElem?_append_left (by simpa [vwCells] using hj)]
  | x :: r, k + 1, j, hk, hj => by
    simp only [List.flatMap_cons, List.getElem_cons_succ]
    rw [List.getElem?_append_right (by simp [vwCells]; omega)]
    rw [show (k + 1) * 2 + j - (vwCells x).length = k * 2 + j from by simp [vwCells]; omega]
    exact vw_get r k j (by simpa using hk) hj
theorem ReadsV.at {w0 : World} {R : HProp} {ad : Option Addr} {n cap : Nat} {L : List Vw} (h : ReadsV w0 R (.slice ad n cap) L) {w : World} (ho : Own w0 R w) (k : Nat) (hk : k < L.length) :
    ∃ a : Addr, ad = some a ∧ (∀ w, Own w0 R w → w.cell? (a.add (k * 2)) = some (.int .i64 L[k].1) ∧ w.cell? (a.add (k * 2 + 1)) = some L[k].2.1) ∧ Reads w0 R L[k].2.1 L[k].2.2 := by
  have key : ∀ w, Own w0 R w → ∃ a : Addr, ad = some a ∧ w.cell? (a.add (k * 2)) = some (.int .i64 L[k].1) ∧ w.cell? (a.add (k * 2 + 1)) = some L[k].2.1 := by
    intro w ho
    obtain ⟨ad', cap', e, h1, h2, _, hc⟩ := h.1 w ho
    cases e
    obtain ⟨a, ha, c0⟩ := hc (k * 2) _ (vw_get L k 0 hk (by omega))
    obtain ⟨a', ha', c1⟩ := hc (k * 2 + 1) _ (vw_get L k 1 hk (by omega))
    rw [ha] at ha'; cases ha'
    exact ⟨a, ha, c0, c1⟩
  obtain ⟨a, ha, _, _⟩ := key w ho
  refine ⟨a, ha, fun w ho => ?_, h.2 _ (List.getElem_mem hk)⟩
  obtain ⟨a', ha', c⟩ := key w ho
  rw [ha] at ha'; cases ha'
  exact c
theorem ReadsV.at2 {w0 : World} {R : HProp} {ad : Option Addr} {n cap : Nat} {L : List Vw} (h : ReadsV w0 R (.slice ad n cap) L) {w : World} (ho : Own w0 R w) (k : Nat) (hk : k < L.length) :
    ∃ (a : Addr) (eb eo : Nat) (es : Option Nat), ad = some a ∧ a.add (k * 2) = ⟨eb, eo, es⟩ ∧ (∀ w, Own w0 R w → w.cell? ⟨eb, eo, es⟩ = some (.int .i64 L[k].1) ∧ w.cell? ⟨eb, eo + 1, none⟩ = some L[k].2.1) ∧ Reads w0 R L[k].2.1 L[k].2.2 := by
  obtain ⟨a, ha, hc, hr⟩ := h.at ho k hk
  refine ⟨a, (a.add (k * 2)).block, (a.add (k * 2)).off, (a.add (k * 2)).spot, ha, rfl, fun w ho => ⟨(hc w ho).1, ?_⟩, hr⟩
  have h1 := (hc w ho).2
  have : a.add (k * 2 + 1) = ⟨(a.add (k * 2)).block, (a.add (k * 2)).off + 1, none⟩ := by
    unfold Addr.add
    rw [if_neg (by omega)]
    split
    · rename_i h0; simp [h0]
    · simp [Nat.add_assoc]
  rw [this] at h1
  exact h1
end Go.Proofs.YtpgonkecicmanaaDoor
/- The reference's In: is a number in a list. -/
namespace Go.Proofs.YtpgonkecicmanaaDoor
set_option linter.unusedVariables false
set_option linter.unusedSimpArgs false
open Go.RowKit
set_option maxRecDepth 100000 in
set_option maxHeartbeats 4000000 in
theorem refIn_any (v : Value) (l : List Int) (x : Int) (w : World) (hl : Ints w v l) :
    Calls Tryd.prog 69 #[v, .int .i64 x] w fun e w' => e = .returned (.bool (decide (x ∈ l))) ∧ w = w' := by
  obtain ⟨ad, cap, rfl, hlc, hcap⟩ := hl.shape
  have HL := Lib.hid hl
  clear hl
  go_enter Tryd.func69, Tryd.ntmps69
  go_wp2_with fail
  go_loop [5] (fun i => ∃ k : Nat, k ≤ l.length ∧ i = .int .i64 k ∧ Hid (x ∉ l.take k)) (fun i => l.length - (intOf i).toNat)
  case atStart => exact ⟨0, Nat.zero_le _, rfl, Lib.hid (by simp)⟩
  case round =>
    obtain ⟨k, hk, rfl, hp⟩ := hrel
    by_cases hlt : k < l.length
    rotate_left
    · have hx : decide (x ∈ l) = false := by
        have := hp.out
        rw [List.take_of_length_le (by omega)] at this
        simpa using this
      have HX := Lib.hid hx
      clear hx
      go_wp2
      go_ret
      exact ⟨by rw [HX.out]; rfl, rfl⟩
    obtain ⟨aa, rfl, hca⟩ := HL.out.at k hlt
    by_cases he : l[k] = x
    · have t1 : (l[k] == x) = true := by rw [beq_iff_eq]; exact he
      have hx : decide (x ∈ l) = true := by rw [← he]; simp
      have HX := Lib.hid hx; have HE := Lib.hid he
      clear hx he
      go_wp2
      go_ret
      exact ⟨by rw [HX.out]; rfl, rfl⟩
    · have t1 : (l[k] == x) = false := by rw [beq_eq_false_iff_ne]; exact he
      have hn : x ∉ l.take (k + 1) := by
        rw [List.take_succ_eq_append_getElem hlt]
        intro h
        rcases List.mem_append.1 h with h | h
        · exact hp.out h
        · simp at h; exact he h.symm
      have HN := Lib.hid hn; have HE := Lib.hid he
      clear hn he
      go_wp2
      go_round
      case rel => exact ⟨k + 1, by omega, by go_num, HN⟩
      case measure => simp [intOf]; omega
end Go.Proofs.YtpgonkecicmanaaDoor
