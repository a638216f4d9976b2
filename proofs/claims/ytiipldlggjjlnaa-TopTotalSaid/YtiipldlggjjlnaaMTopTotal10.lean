/- Package agree, plainly: stamps and their order; a group; what holds of it whatever it is told. -/
import Derived.Test.YtiipldlggjjlnaaMTopTotal2
import Derived.Test.YtiipldlggjjlnaaMTopTotal9
namespace Go.Proofs.Ytiipldlggjjlnaa
set_option linter.unusedVariables false
set_option linter.unusedSimpArgs false
open Go.RowKit Go.Maps
abbrev St := Int × Int
def stLt (a b : St) : Prop := a.1 < b.1 ∨ (a.1 = b.1 ∧ a.2 < b.2)
def stLess (a b : St) : Bool := decide (a.1 < b.1) || (decide (a.1 = b.1) && decide (a.2 < b.2))
theorem stLess_iff {a b : St} : stLess a b = true ↔ stLt a b := by unfold stLess stLt; simp
theorem stLess_no {a b : St} : stLess a b = false ↔ ¬ stLt a b := by rw [← stLess_iff]; simp
theorem stLt_irr (a : St) : ¬ stLt a a := by unfold stLt; omega
theorem stLt_trans {a b c : St} (h1 : stLt a b) (h2 : stLt b c) : stLt a c := by unfold stLt at *; omega
theorem stLt_tri (a b : St) : stLt a b ∨ a = b ∨ stLt b a := by
  obtain ⟨x, y⟩ := a
  obtain ⟨u, v⟩ := b
  unfold stLt
  by_cases h : x = u
  · by_cases h2 : y = v
    · subst h; subst h2; exact .inr (.inl rfl)
    · rcases Int.lt_or_gt_of_ne h2 with h2 | h2
      · exact .inl (.inr ⟨h, h2⟩)
      · exact .inr (.inr (.inr ⟨h.symm, h2⟩))
  · rcases Int.lt_or_gt_of_ne h with h | h
    · exact .inl (.inl h)
    · exact .inr (.inr (.inl h))
theorem stLt_of_not {a b : St} (h : ¬ stLt a b) (hn : a ≠ b) : stLt b a := by
  rcases stLt_tri a b with h1 | h1 | h1
  · exact absurd h1 h
  · exact absurd h1 hn
  · exact h1
theorem stLt_le {a b c : St} (h1 : stLt a b) (h2 : ¬ stLt c b) : stLt a c := by
  rcases stLt_tri b c with h | h | h
  · exact stLt_trans h1 h
  · exact h ▸ h1
  · exact absurd h h2
def stMax (a b : St) : St := if stLess a b then b else a
def maxSt (l : List St) : St := l.foldl stMax (l.headD (0, 0))
theorem maxSt_fold : ∀ (l : List St) (a : St), (l.foldl stMax a = a ∨ l.foldl stMax a ∈ l) ∧ ¬ stLt (l.foldl stMax a) a ∧ ∀ s ∈ l, ¬ stLt (l.foldl stMax a) s
  | [], a => ⟨.inl rfl, stLt_irr a, by simp⟩
  | b :: r, a => by
    obtain ⟨h1, h2, h3⟩ := maxSt_fold r (stMax a b)
    rw [List.foldl_cons]
    obtain ⟨M, hM⟩ : ∃ M, M = r.foldl stMax (stMax a b) := ⟨_, rfl⟩
    rw [← hM] at h1 h2 h3 ⊢
    unfold stMax at h1 h2
    cases hl : stLess a b
    · rw [hl] at h1 h2
      simp only [Bool.false_eq_true, if_false] at h1 h2
      have hab := stLess_no.1 hl
      refine ⟨?_, h2, fun s hs => ?_⟩
      · rcases h1 with h | h
        · exact .inl h
        · exact .inr (List.mem_cons_of_mem _ h)
      · rcases List.mem_cons.1 hs with rfl | hs
        · intro hc
          rcases stLt_tri a M with h | h | h
          · exact hab (stLt_trans h hc)
          · exact hab (h ▸ hc)
          · exact h2 h
        · exact h3 s hs
    · rw [hl] at h1 h2
      simp only [if_true] at h1 h2
      have hab := stLess_iff.1 hl
      refine ⟨?_, fun hc => h2 (stLt_trans hc hab), fun s hs => ?_⟩
      · rcases h1 with h | h
        · exact .inr (h ▸ List.mem_cons_self ..)
        · exact .inr (List.mem_cons_of_mem _ h)
      · rcases List.mem_cons.1 hs with rfl | hs
        · exact h2
        · exact h3 s hs
theorem maxSt_mem {l : List St} (h : l ≠ []) : maxSt l ∈ l := by
  cases l with
  | nil => exact absurd rfl h
  | cons a r =>
    rcases (maxSt_fold (a :: r) a).1 with h1 | h1
    · unfold maxSt; rw [show (a :: r).headD (0, 0) = a from rfl, h1]; exact List.mem_cons_self ..
    · exact h1
theorem maxSt_ge {l : List St} {s : St} (h : s ∈ l) : ¬ stLt (maxSt l) s := (maxSt_fold l _).2.2 s h
/-- A waiting word: its stamp, and whether that is settled. -/
abbrev Wt := St × Bool
structure AgM where
  n : Int
  waits : List (Int × Wt)
  knew : List Int
  heard : List Int
structure Ag where
  mem : List AgM
  given : List (Int × List St)
  who : List (Int × List Int)
def gvOf (g : Ag) (w : Int) : List St := (mget g.given w).getD []
def whoOf (g : Ag) (w : Int) : List Int := (mget g.who w).getD []
def agGet (g : Ag) (k : Int) : AgM := g.mem.getD k.toNat ⟨0, [], [], []⟩
def agPick (a b : Int × Wt) : Int × Wt := if stLess b.2.1 a.2.1 then b else a
def agFirst (W : List (Int × Wt)) : Int := match W with
  | [] => 0
  | p :: r => (r.foldl agPick p).1
/-- Is the first of those that wait settled? -/
def agGo (W : List (Int × Wt)) : Bool := decide (agFirst W ≠ 0) && ((mget W (agFirst W)).getD ((0, 0), false)).2
def agHear : Nat → List (Int × Wt) → List (Int × Wt) × List Int
  | 0, W => (W, [])
  | k + 1, W => if agGo W then ((agHear k (mdel W (agFirst W))).1, agFirst W :: (agHear k (mdel W (agFirst W))).2) else (W, [])
def agSayErr (g : Ag) (w : Int) : Nat := if isWord w = false then 1 else if (mget g.given w).isSome then 7 else 0
def agSay (g : Ag) (w : Int) : Ag := if agSayErr g w = 0 then { g with given := mput g.given w [] } else g
def agChk (g : Ag) (who w : Int) : Nat := if inR who g.mem.length = false then 1 else if isWord w = false then 1 else if (mget g.given w).isSome = false then 5 else 0
def agPropErr (g : Ag) (who w : Int) : Nat := if agChk g who w ≠ 0 then agChk g who w else if who ∈ whoOf g w then 7 else 0
def agProp (g : Ag) (who w : Int) : Ag := if agPropErr g who w = 0 then
    ⟨g.mem.set who.toNat ⟨(agGet g who).n + 1, mput (agGet g who).waits w (((agGet g who).n + 1, who), false), (agGet g who).knew, (agGet g who).heard⟩,
      mput g.given w (gvOf g w ++ [((agGet g who).n + 1, who)]), mput g.who w (whoOf g w ++ [who])⟩ else g
def agPropSt (g : Ag) (who w : Int) : St := if agPropErr g who w = 0 then ((agGet g who).n + 1, who) else (0, 0)
def agSetErr (g : Ag) (who w : Int) : Nat := if agChk g who w ≠ 0 then agChk g who w else if (gvOf g w).length < g.mem.length then 6 else if w ∈ (agGet g who).knew then 7 else 0
def agSetM (g : Ag) (m : AgM) (w : Int) : AgM := ⟨max m.n (maxSt (gvOf g w)).1, mput m.waits w (maxSt (gvOf g w), true), setPut m.knew w, m.heard⟩
def agHearM (m : AgM) : AgM := ⟨m.n, (agHear m.waits.length m.waits).1, m.knew, m.heard ++ (agHear m.waits.length m.waits).2⟩
def agSet (g : Ag) (who w : Int) : Ag := if agSetErr g who w = 0 then { g with mem := g.mem.set who.toNat (agHearM (agSetM g (agGet g who) w)) } else g
def agSetOut (g : Ag) (who w : Int) : List Int := if agSetErr g who w = 0 then (agHear (agSetM g (agGet g who) w).waits.length (agSetM g (agGet g who) w).waits).2 else []
def agNew (n : Nat) : Ag := ⟨List.replicate n ⟨0, [], [], []⟩, [], []⟩
def agHeardErr (g : Ag) (who : Int) : Nat := if inR who g.mem.length then 0 else 1
def agHeard (g : Ag) (who : Int) : List Int := if inR who g.mem.length then (agGet g who).heard else []
/-! ## The first of those that wait -/
theorem mget_mem {K V : Type} [DecidableEq K] {m : List (K × V)} {x : K} {v : V} (h : mget m x = some v) : (x, v) ∈ m := by
  induction m with
  | nil => cases h
  | cons p r ih =>
    unfold mget at h
    by_cases e : p.1 = x
    · rw [if_pos e] at h; cases h; subst e; exact List.mem_cons_self ..
    · rw [if_neg e] at h; exact List.mem_cons_of_mem _ (ih h)
theorem mget_of_mem {K V : Type} [DecidableEq K] {m : List (K × V)} (hn : (m.map (·.1)).Nodup) {x : K} {v : V} (h : (x, v) ∈ m) : mget m x = some v := by
  obtain ⟨j, hj, hjx⟩ := List.getElem_of_mem h
  exact mget_at hn (j := j) (by rw [List.getElem?_eq_getElem hj, hjx])
def Least (W : List (Int × Wt)) (f : Int) : Prop := ∃ x, mget W f = some x ∧ ∀ w y, mget W w = some y → ¬ stLt y.1 x.1
def Apart (W : List (Int × Wt)) : Prop := ∀ w y w' y', mget W w = some y → mget W w' = some y' → y.1 = y'.1 → w = w'
theorem agPick_fold : ∀ (r : List (Int × Wt)) (p : Int × Wt), (r.foldl agPick p = p ∨ r.foldl agPick p ∈ r) ∧ ¬ stLt p.2.1 (r.foldl agPick p).2.1 ∧ ∀ q ∈ r, ¬ stLt q.2.1 (r.foldl agPick p).2.1
  | [], p => ⟨.inl rfl, stLt_irr _, by simp⟩
  | q :: r, p => by
    obtain ⟨h1, h2, h3⟩ := agPick_fold r (agPick p q)
    rw [List.foldl_cons]
    obtain ⟨M, hM⟩ : ∃ M, M = r.foldl agPick (agPick p q) := ⟨_, rfl⟩
    rw [← hM] at h1 h2 h3 ⊢
    unfold agPick at h1 h2
    cases hl : stLess q.2.1 p.2.1
    · rw [hl] at h1 h2
      simp only [Bool.false_eq_true, if_false] at h1 h2
      have hab := stLess_no.1 hl
      refine ⟨?_, h2, fun s hs => ?_⟩
      · rcases h1 with h | h
        · exact .inl h
        · exact .inr (List.mem_cons_of_mem _ h)
      · rcases List.mem_cons.1 hs with rfl | hs
        · intro hc
          rcases stLt_tri p.2.1 M.2.1 with h | h | h
          · exact h2 h
          · exact hab (h ▸ hc)
          · exact hab (stLt_trans hc h)
        · exact h3 s hs
    · rw [hl] at h1 h2
      simp only [if_true] at h1 h2
      have hab := stLess_iff.1 hl
      refine ⟨?_, fun hc => h2 (stLt_trans hab hc), fun s hs => ?_⟩
      · rcases h1 with h | h
        · exact .inr (h ▸ List.mem_cons_self ..)
        · exact .inr (List.mem_cons_of_mem _ h)
      · rcases List.mem_cons.1 hs with rfl | hs
        · exact h2
        · exact h3 s hs
theorem agFirst_least {W : List (Int × Wt)} (hn : (W.map (·.1)).Nodup) (hne : W ≠ []) : Least W (agFirst W) := by
  cases W with
  | nil => exact absurd rfl hne
  | cons p r =>
    obtain ⟨h1, h2, h3⟩ := agPick_fold r p
    obtain ⟨M, hM⟩ : ∃ M, M = r.foldl agPick p := ⟨_, rfl⟩
    have hf : agFirst (p :: r) = M.1 := by rw [hM]; rfl
    rw [hf]
    rw [← hM] at h1 h2 h3
    have hmem : (M.1, M.2) ∈ p :: r := by
      rcases h1 with h | h
      · rw [h]; exact List.mem_cons_self ..
      · exact List.mem_cons_of_mem _ h
    refine ⟨M.2, mget_of_mem hn hmem, fun w y hy => ?_⟩
    rcases List.mem_cons.1 (mget_mem hy) with h | h
    · rw [← h] at h2; exact h2
    · exact h3 _ h
theorem least_unique {W : List (Int × Wt)} (ha : Apart W) {f f' : Int} (h : Least W f) (h' : Least W f') : f = f' := by
  obtain ⟨x, hx, hl⟩ := h
  obtain ⟨x', hx', hl'⟩ := h'
  refine ha f x f' x' hx hx' ?_
  rcases stLt_tri x.1 x'.1 with h | h | h
  · exact absurd h (hl' f x hx)
  · exact h
  · exact absurd h (hl f' x' hx')
theorem agFirst_of {W : List (Int × Wt)} (hn : (W.map (·.1)).Nodup) (ha : Apart W) {f : Int} (h : Least W f) : agFirst W = f := by
  refine least_unique ha (agFirst_least hn ?_) h
  rintro rfl
  obtain ⟨x, hx, _⟩ := h
  cases hx
theorem agFirst_nil {W : List (Int × Wt)} (h : W = []) : agFirst W = 0 := by subst h; rfl
theorem agFirst_key {W : List (Int × Wt)} (hn : (W.map (·.1)).Nodup) (hne : W ≠ []) : ∃ x, mget W (agFirst W) = some x := by
  obtain ⟨x, hx, _⟩ := agFirst_least hn hne
  exact ⟨x, hx⟩
/-! ## What holds of a member -/
/-- G: who gave which stamps to each word; N members; k: this one. -/
structure AgMI (G : Int → List St) (N k : Nat) (m : AgM) : Prop where
  pos : 0 ≤ m.n
  keys : (m.waits.map (·.1)).Nodup
  disj : ∀ w x, mget m.waits w = some x → w ∉ m.heard
  nodup : m.heard.Nodup
  has : ∀ w, (k : Int) ∈ (G w).map (·.2) ↔ (mget m.waits w ≠ none ∨ w ∈ m.heard)
  knewH : ∀ w ∈ m.heard, w ∈ m.knew
  knewC : ∀ w ∈ m.knew, (G w).length = N
  knewN : ∀ w ∈ m.knew, (maxSt (G w)).1 ≤ m.n
  st : ∀ w x, mget m.waits w = some x → x.2 = decide (w ∈ m.knew) ∧ (x.2 = true → x.1 = maxSt (G w)) ∧ (x.2 = false → x.1 ∈ G w ∧ x.1.2 = k)
  own : ∀ w s, s ∈ G w → s.2 = k → s.1 ≤ m.n
  ord : ∀ h ∈ m.heard, ∀ w x, mget m.waits w = some x → stLt (maxSt (G h)) x.1
  sorted : m.heard.Pairwise (fun a b => stLt (maxSt (G a)) (maxSt (G b)))
  first : ∀ w x, mget m.waits w = some x → x.2 = true → ∃ w' x', mget m.waits w' = some x' ∧ x'.2 = false ∧ stLt x'.1 x.1
structure AgI (g : Ag) : Prop where
  whos : ∀ w, whoOf g w = (gvOf g w).map (·.2)
  range : ∀ w s, s ∈ gvOf g w → 1 ≤ s.1 ∧ 0 ≤ s.2 ∧ s.2 < g.mem.length
  nd : ∀ w, ((gvOf g w).map (·.2)).Nodup
  uniq : ∀ w w' s, s ∈ gvOf g w → s ∈ gvOf g w' → w = w'
  words : ∀ w, (mget g.given w).isSome → isWord w = true
  mem : ∀ k (h : k < g.mem.length), AgMI (gvOf g) g.mem.length k g.mem[k]
theorem gvOf_word {g : Ag} (h : AgI g) {w : Int} {s : St} (hs : s ∈ gvOf g w) : isWord w = true := by
  refine h.words w ?_
  unfold gvOf at hs
  cases hg : mget g.given w with
  | none => rw [hg] at hs; cases hs
  | some l => rfl
theorem agNew_get (n : Nat) (w : Int) : gvOf (agNew n) w = [] := rfl
theorem agNew_inv (n : Nat) : AgI (agNew n) where
  whos := fun w => rfl
  range := fun w s h => by cases h
  nd := fun w => List.nodup_nil
  uniq := fun w w' s h => by cases h
  words := fun w h => by cases h
  mem := fun k hk => by
    have hm : (agNew n).mem[k] = ⟨0, [], [], []⟩ := by simp [agNew]
    rw [hm]
    exact ⟨Int.le_refl _, List.nodup_nil, fun w x h => by (cases h), List.nodup_nil, fun w => by rw [agNew_get]; simp [mget], fun w h => by (cases h), fun w h => by (cases h), fun w h => by (cases h), fun w x h => by (cases h), fun w s h => by (rw [agNew_get] at h; cases h), fun h hh => by (cases hh), List.Pairwise.nil, fun w x h => by (cases h)⟩
theorem agSay_gv (g : Ag) (w w' : Int) : gvOf (agSay g w) w' = gvOf g w' := by
  unfold agSay
  by_cases h : agSayErr g w = 0
  · rw [if_pos h]
    unfold gvOf
    simp only
    rw [mget_mput]
    by_cases e : w = w'
    · subst e
      unfold agSayErr at h
      cases hw : isWord w
      · rw [if_pos hw] at h; cases h
      rw [if_neg (by rw [hw]; simp)] at h
      cases hg : mget g.given w with
      | none => rw [if_pos rfl]; rfl
      | some l => rw [hg] at h; simp at h
    · rw [if_neg e]
  · rw [if_neg h]
theorem agSay_mem (g : Ag) (w : Int) : (agSay g w).mem = g.mem := by unfold agSay; split <;> rfl
theorem agSay_who (g : Ag) (w : Int) : (agSay g w).who = g.who := by unfold agSay; split <;> rfl
theorem agSay_inv {g : Ag} (h : AgI g) (w : Int) : AgI (agSay g w) := by
  have hG : gvOf (agSay g w) = gvOf g := funext (agSay_gv g w)
  refine ⟨fun v => ?_, ?_, ?_, ?_, fun v hv => ?_, fun k hk => ?_⟩
  · rw [hG, ← h.whos]; unfold whoOf; rw [agSay_who]
  · rw [hG, agSay_mem]; exact h.range
  · rw [hG]; exact h.nd
  · rw [hG]; exact h.uniq
  · by_cases he : agSayErr g w = 0
    · unfold agSay at hv
      rw [if_pos he] at hv
      simp only at hv
      rw [mget_mput] at hv
      by_cases e : w = v
      · subst e
        unfold agSayErr at he
        cases hw : isWord w
        · rw [if_pos hw] at he; cases he
        · rfl
      · rw [if_neg e] at hv; exact h.words v hv
    · unfold agSay at hv
      rw [if_neg he] at hv
      exact h.words v hv
  · rw [hG]
    have hk' : k < g.mem.length := by rw [← agSay_mem g w]; exact hk
    have := h.mem k hk'
    have e : (agSay g w).mem[k] = g.mem[k] := by congr 1; exact agSay_mem g w
    rw [e, agSay_mem]; exact this
theorem agGet_at {g : Ag} {k : Nat} (hk : k < g.mem.length) : agGet g (k : Int) = g.mem[k] := by
  unfold agGet
  rw [List.getD_eq_getElem?_getD, Int.toNat_natCast, List.getElem?_eq_getElem hk]; rfl
theorem agChk0 {g : Ag} {who w : Int} (h : agChk g who w = 0) : (0 ≤ who ∧ who < g.mem.length) ∧ isWord w = true ∧ (mget g.given w).isSome = true := by
  unfold agChk at h
  cases h1 : inR who g.mem.length
  · rw [if_pos h1] at h; cases h
  rw [if_neg (by rw [h1]; simp)] at h
  cases h2 : isWord w
  · rw [if_pos h2] at h; cases h
  rw [if_neg (by rw [h2]; simp)] at h
  cases h3 : (mget g.given w).isSome
  · rw [if_pos h3] at h; cases h
  exact ⟨by simpa [inR] using h1, rfl, rfl⟩
theorem agPropErr0 {g : Ag} {who w : Int} (h : agPropErr g who w = 0) : agChk g who w = 0 ∧ who ∉ whoOf g w := by
  unfold agPropErr at h
  by_cases h1 : agChk g who w = 0
  · rw [if_neg (by rw [h1]; simp)] at h
    refine ⟨h1, fun hc => ?_⟩
    rw [if_pos hc] at h; cases h
  · rw [if_pos h1] at h; exact absurd h h1
theorem agSetErr0 {g : Ag} {who w : Int} (h : agSetErr g who w = 0) : agChk g who w = 0 ∧ g.mem.length ≤ (gvOf g w).length ∧ w ∉ (agGet g who).knew := by
  unfold agSetErr at h
  by_cases h1 : agChk g who w = 0
  · rw [if_neg (by rw [h1]; simp)] at h
    by_cases h2 : (gvOf g w).length < g.mem.length
    · rw [if_pos h2] at h; cases h
    rw [if_neg h2] at h
    refine ⟨h1, by omega, fun hc => ?_⟩
    rw [if_pos hc] at h; cases h
  · rw [if_pos h1] at h; exact absurd h h1
/-- So many different numbers below n: no more than n. -/
theorem below_len {l : List Int} {n : Nat} (hn : l.Nodup) (hb : ∀ x ∈ l, 0 ≤ x ∧ x < (n : Int)) : l.length ≤ n := by
  have h := distinct_le n (l.map (· + 1)) (nodup_map_inj (· + 1) (fun x y e => by have e' : x + 1 = y + 1 := e; omega) l hn) (fun x hx => by
    obtain ⟨y, hy, rfl⟩ := List.mem_map.1 hx
    have := hb y hy
    omega)
  simpa using h
theorem AgI.len {g : Ag} (h : AgI g) (w : Int) : (gvOf g w).length ≤ g.mem.length := by
  have := below_len (h.nd w) (n := g.mem.length) (fun x hx => by
    obtain ⟨s, hs, rfl⟩ := List.mem_map.1 hx
    exact (h.range w s hs).2)
  simpa using this
/-- One more stamp: a list of givers that lacks one is not full. -/
theorem AgI.lacks {g : Ag} (h : AgI g) {w : Int} {k : Nat} (hk : k < g.mem.length) (hn : (k : Int) ∉ (gvOf g w).map (·.2)) : (gvOf g w).length < g.mem.length := by
  have := below_len (l := (k : Int) :: (gvOf g w).map (·.2)) (n := g.mem.length) (List.nodup_cons.2 ⟨hn, h.nd w⟩) (fun x hx => by
    rcases List.mem_cons.1 hx with rfl | hx
    · omega
    · obtain ⟨s, hs, rfl⟩ := List.mem_map.1 hx
      exact (h.range w s hs).2)
  simp at this
  omega
/-- Where all gave a stamp, each did. -/
theorem AgI.full {g : Ag} (h : AgI g) {w : Int} (hl : (gvOf g w).length = g.mem.length) {k : Nat} (hk : k < g.mem.length) : (k : Int) ∈ (gvOf g w).map (·.2) := by
  rcases Classical.em ((k : Int) ∈ (gvOf g w).map (·.2)) with h1 | h1
  · exact h1
  · have := h.lacks hk h1
    omega
theorem AgMI.apart {g : Ag} (h : AgI g) {k : Nat} {m : AgM} (hm : AgMI (gvOf g) g.mem.length k m) (hpos : 0 < g.mem.length) {w : Int} {x : Wt} (hx : mget m.waits w = some x) : x.1 ∈ gvOf g w := by
  obtain ⟨h1, h2, h3⟩ := hm.st w x hx
  cases hb : x.2
  · exact (h3 hb).1
  · rw [h2 hb]
    refine maxSt_mem fun hc => ?_
    rw [hb] at h1
    have := hm.knewC w (of_decide_eq_true h1.symm)
    rw [hc] at this
    simp at this
    omega
theorem AgMI.apart' {g : Ag} (h : AgI g) {k : Nat} {m : AgM} (hm : AgMI (gvOf g) g.mem.length k m) (hpos : 0 < g.mem.length) : Apart m.waits := fun w y w' y' hy hy' e => by
  have h1 := hm.apart h hpos hy
  have h2 := hm.apart h hpos hy'
  rw [e] at h1
  exact h.uniq w w' _ h1 h2
end Go.Proofs.Ytiipldlggjjlnaa
/- Package agree, plainly, continued: what holds stays when a stamp is given, and when a word is settled. -/
namespace Go.Proofs.Ytiipldlggjjlnaa
set_option linter.unusedVariables false
set_option linter.unusedSimpArgs false
open Go.RowKit Go.Maps
theorem agProp_gv {g : Ag} {who w : Int} (h : agPropErr g who w = 0) (v : Int) : gvOf (agProp g who w) v = if w = v then gvOf g w ++ [((agGet g who).n + 1, who)] else gvOf g v := by
  unfold agProp
  rw [if_pos h]
  show (mget (mput g.given w (gvOf g w ++ [((agGet g who).n + 1, who)])) v).getD [] = _
  rw [mget_mput]
  by_cases e : w = v
  · rw [if_pos e, if_pos e]; rfl
  · rw [if_neg e, if_neg e]; rfl
theorem agProp_len {g : Ag} {who w : Int} : (agProp g who w).mem.length = g.mem.length := by unfold agProp; split <;> simp
theorem agSet_len {g : Ag} {who w : Int} : (agSet g who w).mem.length = g.mem.length := by unfold agSet; split <;> simp
/-- A member for whom nothing turned: another one gave a stamp to a word that was not full. -/
theorem AgMI.other {G G' : Int → List St} {N k : Nat} {m : AgM} (hm : AgMI G N k m) {w : Int} {s : St} (hG : ∀ v, G' v = if w = v then G w ++ [s] else G v) (hl : (G w).length < N) (hs : s.2 ≠ k) : AgMI G' N k m := by
  have hw : w ∉ m.knew := fun h => by have := hm.knewC w h; omega
  have hne : ∀ v ∈ m.knew, G' v = G v := fun v hv => by
    rw [hG, if_neg]
    rintro rfl
    exact hw hv
  have hsub : ∀ v x, x ∈ G v → x ∈ G' v := fun v x hx => by
    rw [hG]
    by_cases e : w = v
    · subst e; rw [if_pos rfl]; exact List.mem_append_left _ hx
    · rw [if_neg e]; exact hx
  refine ⟨hm.pos, hm.keys, hm.disj, hm.nodup, fun v => ?_, hm.knewH, fun v hv => by rw [hne v hv]; exact hm.knewC v hv, fun v hv => by rw [hne v hv]; exact hm.knewN v hv, fun v x hx => ?_, fun v x hx h2 => ?_, fun h hh v x hx => by rw [hne h (hm.knewH h hh)]; exact hm.ord h hh v x hx, ?_, hm.first⟩
  · rw [← hm.has v, hG]
    by_cases e : w = v
    · subst e
      rw [if_pos rfl, List.map_append, List.mem_append]
      refine ⟨fun h => h.elim id (fun h => ?_), .inl⟩
      simp at h; exact absurd h.symm hs
    · rw [if_neg e]
  · obtain ⟨h1, h2, h3⟩ := hm.st v x hx
    refine ⟨h1, fun hb => ?_, fun hb => ⟨hsub _ _ (h3 hb).1, (h3 hb).2⟩⟩
    rw [hne v (of_decide_eq_true (h1.symm.trans hb))]
    exact h2 hb
  · rw [hG] at hx
    by_cases e : w = v
    · subst e
      rw [if_pos rfl] at hx
      rcases List.mem_append.1 hx with hx | hx
      · exact hm.own _ _ hx h2
      · simp at hx; exact absurd (hx ▸ h2) hs
    · rw [if_neg e] at hx; exact hm.own _ _ hx h2
  · refine hm.sorted.imp_of_mem (fun {a b} ha hb h => ?_)
    rw [hne a (hm.knewH a ha), hne b (hm.knewH b hb)]; exact h
/-- The member that gave the stamp. -/
theorem AgMI.gave {G G' : Int → List St} {N k : Nat} {m : AgM} (hm : AgMI G N k m) {w : Int} (hG : ∀ v, G' v = if w = v then G w ++ [(m.n + 1, (k : Int))] else G v) (hl : (G w).length < N) (hk : (k : Int) ∉ (G w).map (·.2))
    (hmx : ∀ v ∈ m.knew, maxSt (G v) ∈ G v) : AgMI G' N k ⟨m.n + 1, mput m.waits w ((m.n + 1, k), false), m.knew, m.heard⟩ := by
  have hw : w ∉ m.knew := fun h => by have := hm.knewC w h; omega
  have hne : ∀ v ∈ m.knew, G' v = G v := fun v hv => by
    rw [hG, if_neg]
    rintro rfl
    exact hw hv
  have hnw : mget m.waits w = none ∧ w ∉ m.heard := by
    have h1 := fun h => hk ((hm.has w).2 h)
    refine ⟨?_, fun h => h1 (.inr h)⟩
    cases hg : mget m.waits w with
    | none => rfl
    | some x => exact absurd (.inl (by rw [hg]; simp)) h1
  have hget : ∀ v x, mget (mput m.waits w ((m.n + 1, (k : Int)), false)) v = some x → (v = w ∧ x = ((m.n + 1, (k : Int)), false)) ∨ (v ≠ w ∧ mget m.waits v = some x) := fun v x h => by
    rw [mget_mput] at h
    by_cases e : w = v
    · rw [if_pos e] at h; cases h; exact .inl ⟨e.symm, rfl⟩
    · rw [if_neg e] at h; exact .inr ⟨fun e' => e e'.symm, h⟩
  have hold : ∀ v x, mget m.waits v = some x → mget (mput m.waits w ((m.n + 1, (k : Int)), false)) v = some x := fun v x h => by
    rw [mget_mput, if_neg]
    · exact h
    · rintro rfl; rw [hnw.1] at h; cases h
  refine ⟨by have := hm.pos; show 0 ≤ m.n + 1; omega, mput_nodup hm.keys, fun v x hx => ?_, hm.nodup, fun v => ?_, hm.knewH, fun v hv => by rw [hne v hv]; exact hm.knewC v hv, fun v hv => by rw [hne v hv]; have := hm.knewN v hv; show _ ≤ m.n + 1; omega, fun v x hx => ?_, fun v s hs h2 => ?_, fun h hh v x hx => ?_, ?_, fun v x hx hb => ?_⟩
  · rcases hget v x hx with ⟨rfl, _⟩ | ⟨_, h⟩
    · exact hnw.2
    · exact hm.disj v x h
  · rw [hG]
    show _ ↔ (mget (mput m.waits w ((m.n + 1, (k : Int)), false)) v ≠ none ∨ v ∈ m.heard)
    by_cases e : w = v
    · subst e
      rw [if_pos rfl, List.map_append, List.mem_append, mget_mput, if_pos rfl]
      simp
    · rw [if_neg e, hm.has v, mget_mput, if_neg e]
  · rcases hget v x hx with ⟨rfl, rfl⟩ | ⟨hv, h⟩
    · refine ⟨?_, (fun h => by cases h), fun _ => ⟨?_, rfl⟩⟩
      · show false = _
        rw [eq_comm, decide_eq_false_iff_not]; exact hw
      · rw [hG, if_pos rfl]; exact List.mem_append_right _ (List.mem_singleton.2 rfl)
    · obtain ⟨h1, h2, h3⟩ := hm.st v x h
      refine ⟨h1, fun hb => ?_, fun hb => ?_⟩
      · rw [hne v (of_decide_eq_true (h1.symm.trans hb))]; exact h2 hb
      · rw [hG, if_neg (fun e => hv e.symm)]; exact h3 hb
  · show s.1 ≤ m.n + 1
    rw [hG] at hs
    by_cases e : w = v
    · subst e
      rw [if_pos rfl] at hs
      rcases List.mem_append.1 hs with hs | hs
      · have := hm.own _ _ hs h2; omega
      · simp at hs; rw [hs]; exact Int.le_refl _
    · rw [if_neg e] at hs
      have := hm.own _ _ hs h2; omega
  · have hh' : h ∈ m.heard := hh
    rw [hne h (hm.knewH h hh')]
    rcases hget v x hx with ⟨rfl, rfl⟩ | ⟨_, hx'⟩
    · have := hm.knewN h (hm.knewH h hh')
      exact .inl (by show _ < m.n + 1; omega)
    · exact hm.ord h hh' v x hx'
  · refine hm.sorted.imp_of_mem (fun {a b} ha hb h => ?_)
    rw [hne a (hm.knewH a ha), hne b (hm.knewH b hb)]; exact h
  · rcases hget v x hx with ⟨rfl, rfl⟩ | ⟨_, h⟩
    · cases hb
    · obtain ⟨w', x', h1, h2, h3⟩ := hm.first v x h hb
      exact ⟨w', x', hold _ _ h1, h2, h3⟩
theorem AgI.knew_max {g : Ag} (h : AgI g) {k : Nat} (hk : k < g.mem.length) {v : Int} (hv : v ∈ g.mem[k].knew) : maxSt (gvOf g v) ∈ gvOf g v := by
  refine maxSt_mem fun hc => ?_
  have := (h.mem k hk).knewC v hv
  rw [hc] at this
  simp at this
  omega
theorem agProp_inv {g : Ag} (h : AgI g) (who w : Int) : AgI (agProp g who w) := by
  by_cases he : agPropErr g who w = 0
  rotate_left
  · unfold agProp; rw [if_neg he]; exact h
  obtain ⟨hc, hnw⟩ := agPropErr0 he
  obtain ⟨⟨hw0, hwl⟩, hword, hsome⟩ := agChk0 hc
  obtain ⟨k, rfl⟩ : ∃ k : Nat, who = (k : Int) := ⟨who.toNat, by omega⟩
  have hk : k < g.mem.length := by omega
  have hG := agProp_gv he
  rw [agGet_at hk] at hG
  rw [h.whos] at hnw
  have hM := h.mem k hk
  have hlen := h.lacks hk hnw
  have hmemE : (agProp g k w).mem = g.mem.set k ⟨g.mem[k].n + 1, mput g.mem[k].waits w ((g.mem[k].n + 1, k), false), g.mem[k].knew, g.mem[k].heard⟩ := by
    unfold agProp; rw [if_pos he, agGet_at hk, Int.toNat_natCast]
  have hown : ∀ v s, s ∈ gvOf g v → s ≠ (g.mem[k].n + 1, (k : Int)) := fun v s hs e => by
    have h1 := hM.own v s hs (by rw [e])
    rw [e] at h1
    simp only at h1
    omega
  refine ⟨fun v => ?_, fun v s hs => ?_, fun v => ?_, fun v v' s hs hs' => ?_, fun v hv => ?_, fun j hj => ?_⟩
  · unfold whoOf
    rw [hG]
    have : (agProp g k w).who = mput g.who w (whoOf g w ++ [(k : Int)]) := by unfold agProp; rw [if_pos he]
    rw [this, mget_mput]
    by_cases e : w = v
    · rw [if_pos e, if_pos e, List.map_append, ← h.whos]; rfl
    · rw [if_neg e, if_neg e]; exact h.whos v
  · rw [hG] at hs
    rw [agProp_len]
    by_cases e : w = v
    · rw [if_pos e] at hs
      rcases List.mem_append.1 hs with hs | hs
      · exact h.range w s hs
      · simp at hs
        rw [hs]
        have h0 : 0 ≤ g.mem[k].n := hM.pos
        exact ⟨by show 1 ≤ g.mem[k].n + 1; omega, by show 0 ≤ (k : Int); omega, by show (k : Int) < _; omega⟩
    · rw [if_neg e] at hs; exact h.range v s hs
  · rw [hG]
    by_cases e : w = v
    · rw [if_pos e, List.map_append]
      refine List.nodup_append.2 ⟨h.nd w, by simp, fun a ha b hb => ?_⟩
      simp at hb
      rintro rfl
      subst hb
      exact hnw ha
    · rw [if_neg e]; exact h.nd v
  · rw [hG] at hs hs'
    by_cases e : w = v
    · subst e
      by_cases e' : w = v'
      · exact e'
      · rw [if_pos rfl] at hs
        rw [if_neg e'] at hs'
        rcases List.mem_append.1 hs with hs | hs
        · exact h.uniq _ _ s hs hs'
        · simp at hs
          exact absurd hs (hown _ s hs')
    · rw [if_neg e] at hs
      by_cases e' : w = v'
      · subst e'
        rw [if_pos rfl] at hs'
        rcases List.mem_append.1 hs' with hs' | hs'
        · exact h.uniq _ _ s hs hs'
        · simp at hs'
          exact absurd hs' (hown _ s hs)
      · rw [if_neg e'] at hs'; exact h.uniq _ _ s hs hs'
  · have : (agProp g k w).given = mput g.given w (gvOf g w ++ [(g.mem[k].n + 1, (k : Int))]) := by unfold agProp; rw [if_pos he, agGet_at hk]
    rw [this, mget_mput] at hv
    by_cases e : w = v
    · subst e; exact hword
    · rw [if_neg e] at hv; exact h.words v hv
  · rw [agProp_len] at hj ⊢
    have e : (agProp g k w).mem[j]'(by rw [agProp_len]; exact hj) = (g.mem.set k ⟨g.mem[k].n + 1, mput g.mem[k].waits w ((g.mem[k].n + 1, k), false), g.mem[k].knew, g.mem[k].heard⟩)[j]'(by simpa using hj) := by congr 1
    rw [e, List.getElem_set]
    by_cases hjk : k = j
    · subst hjk
      rw [if_pos rfl]
      exact hM.gave hG hlen hnw (fun v hv => h.knew_max hk hv)
    · rw [if_neg hjk]
      exact (h.mem j hj).other hG hlen (by show (k : Int) ≠ (j : Int); omega)
end Go.Proofs.Ytiipldlggjjlnaa
/- Package agree, plainly, continued: a word is settled, and what may be heard is; what all have heard. -/
namespace Go.Proofs.Ytiipldlggjjlnaa
set_option linter.unusedVariables false
set_option linter.unusedSimpArgs false
open Go.RowKit Go.Maps
/-- As AgMI, in the midst of hearing. -/
structure AgMJ (G : Int → List St) (N k : Nat) (m : AgM) : Prop where
  pos : 0 ≤ m.n
  keys : (m.waits.map (·.1)).Nodup
  disj : ∀ w x, mget m.waits w = some x → w ∉ m.heard
  nodup : m.heard.Nodup
  has : ∀ w, (k : Int) ∈ (G w).map (·.2) ↔ (mget m.waits w ≠ none ∨ w ∈ m.heard)
  knewH : ∀ w ∈ m.heard, w ∈ m.knew
  knewC : ∀ w ∈ m.knew, (G w).length = N
  knewN : ∀ w ∈ m.knew, (maxSt (G w)).1 ≤ m.n
  st : ∀ w x, mget m.waits w = some x → x.2 = decide (w ∈ m.knew) ∧ (x.2 = true → x.1 = maxSt (G w)) ∧ (x.2 = false → x.1 ∈ G w ∧ x.1.2 = k)
  own : ∀ w s, s ∈ G w → s.2 = k → s.1 ≤ m.n
  ord : ∀ h ∈ m.heard, ∀ w x, mget m.waits w = some x → stLt (maxSt (G h)) x.1
  sorted : m.heard.Pairwise (fun a b => stLt (maxSt (G a)) (maxSt (G b)))
theorem AgMI.j {G : Int → List St} {N k : Nat} {m : AgM} (h : AgMI G N k m) : AgMJ G N k m := ⟨h.pos, h.keys, h.disj, h.nodup, h.has, h.knewH, h.knewC, h.knewN, h.st, h.own, h.ord, h.sorted⟩
theorem AgMJ.i {G : Int → List St} {N k : Nat} {m : AgM} (h : AgMJ G N k m) (hf : ∀ w x, mget m.waits w = some x → x.2 = true → ∃ w' x', mget m.waits w' = some x' ∧ x'.2 = false ∧ stLt x'.1 x.1) : AgMI G N k m :=
  ⟨h.pos, h.keys, h.disj, h.nodup, h.has, h.knewH, h.knewC, h.knewN, h.st, h.own, h.ord, h.sorted, hf⟩
/-- What a word's stamps are like, whatever member knows. -/
structure GvI (G : Int → List St) (N : Nat) : Prop where
  uniq : ∀ w w' s, s ∈ G w → s ∈ G w' → w = w'
  words : ∀ w s, s ∈ G w → isWord w = true
  pos : 0 < N
theorem AgI.gv {g : Ag} (h : AgI g) (hp : 0 < g.mem.length) : GvI (gvOf g) g.mem.length := ⟨h.uniq, fun _ _ hs => gvOf_word h hs, hp⟩
section
variable {G : Int → List St} {N k : Nat} {m : AgM}
theorem AgMJ.mem (hG : GvI G N) (hm : AgMJ G N k m) {w : Int} {x : Wt} (hx : mget m.waits w = some x) : x.1 ∈ G w := by
  obtain ⟨h1, h2, h3⟩ := hm.st w x hx
  cases hb : x.2
  · exact (h3 hb).1
  · rw [h2 hb]
    refine maxSt_mem fun hc => ?_
    rw [hb] at h1
    have := hm.knewC w (of_decide_eq_true h1.symm)
    rw [hc] at this
    simp at this
    have := hG.pos
    omega
theorem AgMJ.apart (hG : GvI G N) (hm : AgMJ G N k m) : Apart m.waits := fun w y w' y' hy hy' e => by
  have h1 := hm.mem hG hy
  have h2 := hm.mem hG hy'
  rw [e] at h1
  exact hG.uniq w w' _ h1 h2
theorem AgMJ.word (hG : GvI G N) (hm : AgMJ G N k m) {w : Int} {x : Wt} (hx : mget m.waits w = some x) : isWord w = true := hG.words w _ (hm.mem hG hx)
theorem word_ne0 {w : Int} (h : isWord w = true) : w ≠ 0 := by simp [isWord] at h; omega
theorem agGo_iff (hG : GvI G N) (hm : AgMJ G N k m) : agGo m.waits = true ↔ ∃ f x, mget m.waits f = some x ∧ x.2 = true ∧ ∀ w y, mget m.waits w = some y → ¬ stLt y.1 x.1 := by
  unfold agGo
  rw [Bool.and_eq_true, decide_eq_true_iff]
  constructor
  · rintro ⟨h1, h2⟩
    have hne : m.waits ≠ [] := fun h => h1 (agFirst_nil h)
    obtain ⟨x, hx, hl⟩ := agFirst_least hm.keys hne
    rw [hx] at h2
    exact ⟨_, x, hx, h2, hl⟩
  · rintro ⟨f, x, hx, hs, hl⟩
    have := agFirst_of hm.keys (hm.apart hG) ⟨x, hx, hl⟩
    rw [this, hx]
    exact ⟨word_ne0 (hm.word hG hx), hs⟩
/-- One word more is heard. -/
theorem AgMJ.step (hG : GvI G N) (hm : AgMJ G N k m) (hgo : agGo m.waits = true) : AgMJ G N k ⟨m.n, mdel m.waits (agFirst m.waits), m.knew, m.heard ++ [agFirst m.waits]⟩ := by
  obtain ⟨f, x, hx, hs, hl⟩ := (agGo_iff hG hm).1 hgo
  have hf := agFirst_of hm.keys (hm.apart hG) ⟨x, hx, hl⟩
  rw [hf]
  obtain ⟨st1, st2, _⟩ := hm.st f x hx
  have hkn : f ∈ m.knew := of_decide_eq_true (st1.symm.trans hs)
  have hmx := st2 hs
  have hget : ∀ v y, mget (mdel m.waits f) v = some y → v ≠ f ∧ mget m.waits v = some y := fun v y h => by
    rw [mget_mdel _ hm.keys] at h
    by_cases e : f = v
    · rw [if_pos e] at h; cases h
    · rw [if_neg e] at h; exact ⟨fun e' => e e'.symm, h⟩
  refine ⟨hm.pos, mdel_nodup hm.keys, fun v y hy hc => ?_, ?_, fun v => ?_, fun v hv => ?_, hm.knewC, hm.knewN, fun v y hy => hm.st v y (hget v y hy).2, hm.own, fun h hh v y hy => ?_, ?_⟩
  · obtain ⟨h1, h2⟩ := hget v y hy
    rcases List.mem_append.1 hc with hc | hc
    · exact hm.disj v y h2 hc
    · exact h1 (List.mem_singleton.1 hc)
  · refine List.nodup_append.2 ⟨hm.nodup, by simp, fun a ha b hb => ?_⟩
    rw [List.mem_singleton.1 hb]
    rintro rfl
    exact hm.disj _ x hx ha
  · rw [hm.has v]
    show _ ↔ (mget (mdel m.waits f) v ≠ none ∨ v ∈ m.heard ++ [f])
    rw [mget_mdel _ hm.keys, List.mem_append, List.mem_singleton]
    by_cases e : f = v
    · subst e
      rw [if_pos rfl, hx]
      simp
    · rw [if_neg e]
      have e' : ¬ v = f := fun h => e h.symm
      simp [e']
  · rcases List.mem_append.1 hv with hv | hv
    · exact hm.knewH v hv
    · rw [List.mem_singleton.1 hv]; exact hkn
  · obtain ⟨h1, h2⟩ := hget v y hy
    rcases List.mem_append.1 hh with hh | hh
    · exact hm.ord h hh v y h2
    · rw [List.mem_singleton.1 hh, ← hmx]
      exact stLt_of_not (hl v y h2) (fun e => h1 (hm.apart hG v y f x h2 hx e))
  · refine List.pairwise_append.2 ⟨hm.sorted, List.pairwise_singleton _ _, fun a ha b hb => ?_⟩
    rw [List.mem_singleton.1 hb, ← hmx]
    exact hm.ord a ha f x hx
theorem AgMJ.hear (hG : GvI G N) : ∀ (j : Nat) (m : AgM), m.waits.length ≤ j → AgMJ G N k m → AgMJ G N k ⟨m.n, (agHear j m.waits).1, m.knew, m.heard ++ (agHear j m.waits).2⟩ ∧ agGo (agHear j m.waits).1 = false
  | 0, m, hj, hm => by
    have h0 : m.waits = [] := List.eq_nil_of_length_eq_zero (by omega)
    refine ⟨by unfold agHear; rw [List.append_nil]; exact hm, ?_⟩
    unfold agHear
    rw [h0]; rfl
  | j + 1, m, hj, hm => by
    unfold agHear
    cases hgo : agGo m.waits
    · rw [if_neg (by simp)]
      exact ⟨by rw [List.append_nil]; exact hm, hgo⟩
    · rw [if_pos rfl]
      obtain ⟨f, x, hx, hs, hl⟩ := (agGo_iff hG hm).1 hgo
      have hf := agFirst_of hm.keys (hm.apart hG) ⟨x, hx, hl⟩
      have hlen := mdel_len hx
      have := AgMJ.hear hG j ⟨m.n, mdel m.waits (agFirst m.waits), m.knew, m.heard ++ [agFirst m.waits]⟩ (by show (mdel m.waits (agFirst m.waits)).length ≤ j; rw [hf]; omega) (hm.step hG hgo)
      simp only [List.append_assoc, List.singleton_append] at this
      exact this
theorem AgMJ.done (hG : GvI G N) (hm : AgMJ G N k m) (hgo : agGo m.waits = false) : AgMI G N k m := by
  refine hm.i fun w x hx hs => ?_
  have hne : m.waits ≠ [] := fun h => by rw [h] at hx; cases hx
  obtain ⟨xf, hxf, hl⟩ := agFirst_least hm.keys hne
  have hfs : xf.2 = false := by
    cases hb : xf.2
    · rfl
    · have := (agGo_iff hG hm).2 ⟨_, xf, hxf, hb, hl⟩
      rw [hgo] at this; cases this
  refine ⟨_, xf, hxf, hfs, stLt_of_not (hl w x hx) fun e => ?_⟩
  have := hm.apart hG w x _ xf hx hxf e
  rw [← this, hx] at hxf
  cases hxf
  rw [hs] at hfs; cases hfs
theorem AgMI.settle (hG : GvI G N) (hm : AgMI G N k m) {w : Int} (hfull : (G w).length = N) (hk : (k : Int) ∈ (G w).map (·.2)) (hw : w ∉ m.knew) :
    AgMJ G N k ⟨max m.n (maxSt (G w)).1, mput m.waits w (maxSt (G w), true), setPut m.knew w, m.heard⟩ := by
  have hnh : w ∉ m.heard := fun h => hw (hm.knewH w h)
  obtain ⟨x0, hx0⟩ : ∃ x, mget m.waits w = some x := by
    rcases (hm.has w).1 hk with h | h
    · exact Option.ne_none_iff_exists'.1 h
    · exact absurd h hnh
  obtain ⟨s1, _, s3⟩ := hm.st w x0 hx0
  have hb0 : x0.2 = false := by rw [s1, decide_eq_false_iff_not]; exact hw
  have hx0G := (s3 hb0).1
  have hget : ∀ v y, mget (mput m.waits w (maxSt (G w), true)) v = some y → (v = w ∧ y = (maxSt (G w), true)) ∨ (v ≠ w ∧ mget m.waits v = some y) := fun v y h => by
    rw [mget_mput] at h
    by_cases e : w = v
    · rw [if_pos e] at h; cases h; exact .inl ⟨e.symm, rfl⟩
    · rw [if_neg e] at h; exact .inr ⟨fun e' => e e'.symm, h⟩
  refine ⟨by have := hm.pos; show 0 ≤ max m.n (maxSt (G w)).1; omega, mput_nodup hm.keys, fun v y hy => ?_, hm.nodup, fun v => ?_, fun v hv => mem_setPut.2 (.inl (hm.knewH v hv)), fun v hv => ?_, fun v hv => ?_, fun v y hy => ?_, fun v s hs h2 => ?_, fun h hh v y hy => ?_, hm.sorted⟩
  · rcases hget v y hy with ⟨rfl, _⟩ | ⟨_, h⟩
    · exact hnh
    · exact hm.disj v y h
  · rw [hm.has v]
    show _ ↔ (mget (mput m.waits w (maxSt (G w), true)) v ≠ none ∨ v ∈ m.heard)
    rw [mget_mput]
    by_cases e : w = v
    · subst e; rw [if_pos rfl, hx0]; simp
    · rw [if_neg e]
  · rcases mem_setPut.1 hv with hv | rfl
    · exact hm.knewC v hv
    · exact hfull
  · show _ ≤ max m.n (maxSt (G w)).1
    rcases mem_setPut.1 hv with hv | rfl
    · have := hm.knewN v hv; omega
    · omega
  · show _ = decide (v ∈ setPut m.knew w) ∧ _
    rcases hget v y hy with ⟨rfl, rfl⟩ | ⟨hv, h⟩
    · refine ⟨?_, fun _ => rfl, (fun h => by cases h)⟩
      show true = _
      rw [eq_comm, decide_eq_true_iff]; exact mem_setPut.2 (.inr rfl)
    · obtain ⟨h1, h2, h3⟩ := hm.st v y h
      refine ⟨?_, h2, h3⟩
      rw [h1]
      have : v ∈ setPut m.knew w ↔ v ∈ m.knew := by rw [mem_setPut]; simp [hv]
      simp [this]
  · show s.1 ≤ max m.n (maxSt (G w)).1
    have := hm.own v s hs h2
    omega
  · rcases hget v y hy with ⟨rfl, rfl⟩ | ⟨_, h'⟩
    · exact stLt_le (hm.ord h hh _ x0 hx0) (maxSt_ge hx0G)
    · exact hm.ord h hh v y h'
end
theorem agSet_inv {g : Ag} (h : AgI g) (who w : Int) : AgI (agSet g who w) := by
  by_cases he : agSetErr g who w = 0
  rotate_left
  · unfold agSet; rw [if_neg he]; exact h
  obtain ⟨hc, hfull, hnk⟩ := agSetErr0 he
  obtain ⟨⟨hw0, hwl⟩, hword, hsome⟩ := agChk0 hc
  obtain ⟨k, rfl⟩ : ∃ k : Nat, who = (k : Int) := ⟨who.toNat, by omega⟩
  have hk : k < g.mem.length := by omega
  have hE : agSet g k w = { g with mem := g.mem.set k (agHearM (agSetM g g.mem[k] w)) } := by unfold agSet; rw [if_pos he, agGet_at hk, Int.toNat_natCast]
  rw [agGet_at hk] at hnk
  have hl : (gvOf g w).length = g.mem.length := Nat.le_antisymm (h.len w) hfull
  have hGv := h.gv (show 0 < g.mem.length by omega)
  have hJ := (h.mem k hk).settle hGv hl (h.full hl hk) hnk
  obtain ⟨h1, h2⟩ := AgMJ.hear hGv _ (agSetM g g.mem[k] w) (Nat.le_refl _) hJ
  have hI : AgMI (gvOf g) g.mem.length k (agHearM (agSetM g g.mem[k] w)) := AgMJ.done hGv h1 h2
  rw [hE]
  refine ⟨h.whos, fun v s hs => ?_, h.nd, h.uniq, h.words, fun j hj => ?_⟩
  · show _ ∧ _ ∧ s.2 < ((g.mem.set k _).length : Nat)
    rw [List.length_set]
    exact h.range v s hs
  · have hj' : j < (g.mem.set k (agHearM (agSetM g g.mem[k] w))).length := hj
    have key : ∀ N, N = g.mem.length → AgMI (gvOf g) N j ((g.mem.set k (agHearM (agSetM g g.mem[k] w)))[j]'hj') := by
      rintro N rfl
      rw [List.getElem_set]
      by_cases hjk : k = j
      · subst hjk; rw [if_pos rfl]; exact hI
      · rw [if_neg hjk]; exact h.mem j (by simpa using hj')
    exact key _ (by simp)
/-! ## One order for all -/
/-- Two rising lists, each of which has whatever stands below one of its own: one begins the other. -/
theorem rising_begin (F : Int → St) : ∀ (a b : List Int), a.Pairwise (fun x y => stLt (F x) (F y)) → b.Pairwise (fun x y => stLt (F x) (F y)) →
    (∀ x ∈ a, ∀ y ∈ b, y ∉ a → stLt (F x) (F y)) → (∀ x ∈ b, ∀ y ∈ a, y ∉ b → stLt (F x) (F y)) → a <+: b ∨ b <+: a
  | [], b, _, _, _, _ => .inl List.nil_prefix
  | x :: a, [], _, _, _, _ => .inr List.nil_prefix
  | x :: a, y :: b, ha, hb, h1, h2 => by
    rw [List.pairwise_cons] at ha hb
    have hxy : x = y := by
      rcases Classical.em (x = y) with e | e
      · exact e
      exfalso
      rcases stLt_tri (F x) (F y) with h | h | h
      · have hx : x ∉ y :: b := fun hc => by
          rcases List.mem_cons.1 hc with hc | hc
          · exact e hc
          · exact stLt_irr _ (stLt_trans h (hb.1 x hc))
        exact stLt_irr _ (stLt_trans h (h2 y (List.mem_cons_self ..) x (List.mem_cons_self ..) hx))
      · have hx : x ∉ y :: b := fun hc => by
          rcases List.mem_cons.1 hc with hc | hc
          · exact e hc
          · have := hb.1 x hc; rw [h] at this; exact stLt_irr _ this
        have := h2 y (List.mem_cons_self ..) x (List.mem_cons_self ..) hx
        rw [h] at this; exact stLt_irr _ this
      · have hy : y ∉ x :: a := fun hc => by
          rcases List.mem_cons.1 hc with hc | hc
          · exact e hc.symm
          · exact stLt_irr _ (stLt_trans h (ha.1 y hc))
        exact stLt_irr _ (stLt_trans h (h1 x (List.mem_cons_self ..) y (List.mem_cons_self ..) hy))
    subst hxy
    have hna : ∀ z ∈ a, z ≠ x := fun z hz e => by have := ha.1 z hz; rw [e] at this; exact stLt_irr _ this
    have hnb : ∀ z ∈ b, z ≠ x := fun z hz e => by have := hb.1 z hz; rw [e] at this; exact stLt_irr _ this
    rcases rising_begin F a b ha.2 hb.2 (fun u hu v hv hn => h1 u (List.mem_cons_of_mem _ hu) v (List.mem_cons_of_mem _ hv) (fun hc => by
        rcases List.mem_cons.1 hc with hc | hc
        · exact hnb v hv hc
        · exact hn hc)) (fun u hu v hv hn => h2 u (List.mem_cons_of_mem _ hu) v (List.mem_cons_of_mem _ hv) (fun hc => by
        rcases List.mem_cons.1 hc with hc | hc
        · exact hna v hv hc
        · exact hn hc)) with h | h
    · exact .inl (List.cons_prefix_cons.2 ⟨rfl, h⟩)
    · exact .inr (List.cons_prefix_cons.2 ⟨rfl, h⟩)
/-- What another one heard, and this one did not, stands behind all that this one heard. -/
theorem AgI.behind {g : Ag} (h : AgI g) {j k : Nat} (hj : j < g.mem.length) (hk : k < g.mem.length) : ∀ x ∈ g.mem[j].heard, ∀ y ∈ g.mem[k].heard, y ∉ g.mem[j].heard → stLt (maxSt (gvOf g x)) (maxSt (gvOf g y)) := by
  intro x hx y hy hn
  have hJ := h.mem j hj
  have hK := h.mem k hk
  have hfull := hK.knewC y (hK.knewH y hy)
  rcases (hJ.has y).1 (h.full hfull hj) with hw | hw
  rotate_left
  · exact absurd hw hn
  obtain ⟨s, hs⟩ := Option.ne_none_iff_exists'.1 hw
  have h1 := hJ.ord x hx y s hs
  exact stLt_le h1 (maxSt_ge (hJ.j.mem (h.gv (by omega)) hs))
theorem AgI.alike {g : Ag} (h : AgI g) {j k : Nat} (hj : j < g.mem.length) (hk : k < g.mem.length) : g.mem[j].heard <+: g.mem[k].heard ∨ g.mem[k].heard <+: g.mem[j].heard :=
  rising_begin (fun w => maxSt (gvOf g w)) _ _ (h.mem j hj).sorted (h.mem k hk).sorted (h.behind hj hk) (h.behind hk hj)
/-- Whom nothing waits for heard all words of which it knows the stamps. -/
theorem AgI.heard_all {g : Ag} (h : AgI g) {k : Nat} (hk : k < g.mem.length) (hall : ∀ w, (mget g.given w).isSome → (gvOf g w).length = g.mem.length ∧ w ∈ g.mem[k].knew) : ∀ w, w ∈ g.mem[k].heard ↔ (mget g.given w).isSome := by
  have hM := h.mem k hk
  have hsome : ∀ w s, s ∈ gvOf g w → (mget g.given w).isSome := fun w s hs => by
    unfold gvOf at hs
    cases hg : mget g.given w with
    | none => rw [hg] at hs; cases hs
    | some l => rfl
  have hnone : ∀ w x, mget g.mem[k].waits w = some x → x.2 = true := fun w x hx => by
    have h1 := hsome w _ (hM.j.mem (h.gv (by omega)) hx)
    rw [(hM.st w x hx).1, decide_eq_true_iff]
    exact (hall w h1).2
  have hwait : ∀ w, mget g.mem[k].waits w = none := fun w => by
    cases hx : mget g.mem[k].waits w with
    | none => rfl
    | some x =>
      obtain ⟨w', x', h1, h2, _⟩ := hM.first w x hx (hnone w x hx)
      have := hnone w' x' h1
      rw [h2] at this; cases this
  intro w
  constructor
  · intro hw
    obtain ⟨s, hs, _⟩ := List.mem_map.1 ((hM.has w).2 (.inr hw))
    exact hsome w s hs
  · intro hw
    rcases (hM.has w).1 (h.full (hall w hw).1 hk) with hc | hc
    · exact absurd (hwait w) hc
    · exact hc
end Go.Proofs.Ytiipldlggjjlnaa
