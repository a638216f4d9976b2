/- A group that flushes, plainly: what a change of the view does. -/
import Derived.Test.YtdeeephdojflpaaDoorFlush2
namespace Go.Proofs.YtdeeephdojflpaaDoor
set_option linter.unusedVariables false
set_option linter.unusedSimpArgs false
open Go.RowKit Go.Maps
def flStep (w : Int) (s : Fl) (m : Int) : Fl := if flHas s m w = true then s else flHear s m w
def flGiveAll (s : Fl) (l : List Int) (w : Int) : Fl := l.foldl (flStep w) s
def flWord (stay : List Int) (s : Fl) (w : Int) : Fl := if (stay.any fun m => flHas s m w) = true then flGiveAll s stay w else s
def flFlush (s : Fl) (stay ws : List Int) : Fl := ws.foldl (flWord stay) s
def flNextErr (s : Fl) (B : List Int) : Nat := nextErr s.n s.has B
def flChange (s : Fl) (B : List Int) : Fl := if flNextErr s B = 0 then ⟨s.n + 1, B, s.all, [], (flFlush s (keepB B s.has) s.said).heard⟩ else s
def flGood (s : Fl) : Prop := (0 ≤ s.n ∧ s.n ≤ 1000000) ∧ (s.has.length ≤ 5 ∧ ∀ x ∈ s.has, isMember x = true) ∧ (s.said.Nodup ∧ ∀ x ∈ s.said, isWord x = true) ∧ ∀ x, (flRow s x).Nodup ∧ ∀ y ∈ flRow s x, isWord y = true
theorem words_few {l : List Int} (hn : l.Nodup) (hw : ∀ x ∈ l, isWord x = true) : l.length ≤ 30 :=
  distinct_le 30 l hn fun x hx => by have := hw x hx; simp [isWord] at this; omega
theorem flGood.ok {s : Fl} (h : flGood s) : flOk s := by
  obtain ⟨h1, h2, h3, h4⟩ := h
  refine ⟨h1, ⟨h2.1, fun x hx => member_I64 (h2.2 x hx)⟩, ⟨?_, fun x hx => isWord_I64 (h3.2 x hx)⟩, fun x => ⟨?_, fun y hy => isWord_I64 ((h4 x).2 y hy)⟩⟩
  · have := words_few h3.1 h3.2; omega
  · have := words_few (h4 x).1 (h4 x).2; omega
theorem flGood.few {s : Fl} (h : flGood s) : s.said.length ≤ 900 := by have := words_few h.2.2.1.1 h.2.2.1.2; omega
theorem flRow_hear (s : Fl) (m w : Int) (x : Int × Int) : flRow (flHear s m w) x = if (s.n, m) = x then flRow s x ++ [w] else flRow s x := by
  unfold flRow flHear
  simp only [mget_mput]
  by_cases h : (s.n, m) = x
  · subst h; rw [if_pos rfl, if_pos rfl]; rfl
  · rw [if_neg h, if_neg h]
theorem flGood_hear {s : Fl} (h : flGood s) {m w : Int} (hw : isWord w = true) (hn : flHas s m w = false) : flGood (flHear s m w) := by
  refine ⟨h.1, h.2.1, h.2.2.1, fun x => ?_⟩
  rw [flRow_hear]
  split
  · rename_i hx
    subst hx
    unfold flHas at hn
    have hn' : w ∉ flRow s (s.n, m) := by simpa using hn
    refine ⟨?_, fun y hy => ?_⟩
    · rw [List.nodup_append]
      exact ⟨(h.2.2.2 _).1, by simp, fun a ha b hb e => by simp at hb; subst hb; exact hn' (e ▸ ha)⟩
    · rcases List.mem_append.1 hy with hy | hy
      · exact (h.2.2.2 _).2 y hy
      · simp at hy; rw [hy]; exact hw
  · exact h.2.2.2 x
theorem flGood_step {s : Fl} (h : flGood s) {m w : Int} (hw : isWord w = true) : flGood (flStep w s m) := by
  unfold flStep
  split
  · exact h
  · rename_i hn; exact flGood_hear h hw (by simpa using hn)
theorem flGood_all {w : Int} (hw : isWord w = true) : ∀ (l : List Int) {s : Fl}, flGood s → flGood (flGiveAll s l w)
  | [], _, h => h
  | m :: r, s, h => flGood_all hw r (s := flStep w s m) (flGood_step h hw)
theorem flGood_word {s : Fl} (h : flGood s) {stay : List Int} {w : Int} (hw : isWord w = true) : flGood (flWord stay s w) := by
  unfold flWord
  split
  · exact flGood_all hw stay h
  · exact h
theorem flGood_flush {stay : List Int} : ∀ (ws : List Int) {s : Fl}, (∀ w ∈ ws, isWord w = true) → flGood s → flGood (flFlush s stay ws)
  | [], _, _, h => h
  | w :: r, s, hw, h => flGood_flush r (s := flWord stay s w) (fun x hx => hw x (by simp [hx])) (flGood_word h (hw w (by simp)))
/-- What a change leaves as it was. -/
def flLike (a b : Fl) : Prop := a.n = b.n ∧ a.has = b.has ∧ a.all = b.all ∧ a.said = b.said
theorem flLike_step (w : Int) (s : Fl) (m : Int) : flLike (flStep w s m) s := by
  unfold flStep; split <;> exact ⟨rfl, rfl, rfl, rfl⟩
theorem flLike.trans {a b c : Fl} (h : flLike a b) (h' : flLike b c) : flLike a c := ⟨h.1.trans h'.1, h.2.1.trans h'.2.1, h.2.2.1.trans h'.2.2.1, h.2.2.2.trans h'.2.2.2⟩
theorem flLike_all (w : Int) : ∀ (l : List Int) (s : Fl), flLike (flGiveAll s l w) s
  | [], _ => ⟨rfl, rfl, rfl, rfl⟩
  | m :: r, s => (flLike_all w r (flStep w s m)).trans (flLike_step w s m)
theorem flLike_word (stay : List Int) (s : Fl) (w : Int) : flLike (flWord stay s w) s := by
  unfold flWord; split
  · exact flLike_all w stay s
  · exact ⟨rfl, rfl, rfl, rfl⟩
theorem flLike_flush (stay : List Int) : ∀ (ws : List Int) (s : Fl), flLike (flFlush s stay ws) s
  | [], _ => ⟨rfl, rfl, rfl, rfl⟩
  | w :: r, s => (flLike_flush stay r (flWord stay s w)).trans (flLike_word stay s w)
theorem flFlush_next {stay ws : List Int} {s : Fl} {k : Nat} (hk : k < ws.length) : flFlush s stay (ws.take (k + 1)) = flWord stay (flFlush s stay (ws.take k)) ws[k] := by
  unfold flFlush; rw [List.take_add_one, List.getElem?_eq_getElem hk, Option.toList, List.foldl_append]; rfl
theorem flGiveAll_next {l : List Int} {s : Fl} {w : Int} {k : Nat} (hk : k < l.length) : flGiveAll s (l.take (k + 1)) w = flStep w (flGiveAll s (l.take k) w) l[k] := by
  unfold flGiveAll; rw [List.take_add_one, List.getElem?_eq_getElem hk, Option.toList, List.foldl_append]; rfl
theorem memErr_members {l : List Int} (h : memErr l = 0) : ∀ x ∈ l, isMember x = true := by
  have go : ∀ (l : List Int) (p : Int), memGo p l = 0 → ∀ x ∈ l, isMember x = true := by
    intro l
    induction l with
    | nil => intro _ _ x hx; cases hx
    | cons y r ih =>
      intro p hp x hx
      unfold memGo at hp
      by_cases h1 : isMember y = false
      · rw [if_pos h1] at hp; cases hp
      rw [if_neg h1] at hp
      by_cases h2 : y ≤ p
      · rw [if_pos h2] at hp; cases hp
      rw [if_neg h2] at hp
      rcases List.mem_cons.1 hx with rfl | hx
      · simpa using h1
      · exact ih _ hp x hx
  unfold memErr at h
  by_cases h0 : l = []
  · subst h0; simp at h
  rw [if_neg h0] at h
  exact go l _ h
end Go.Proofs.YtdeeephdojflpaaDoor
