/- Package agree, plainly: stamps and their order; a group; what holds of it whatever it is told. -/
import Derived.Test.YtldmdenojpnldaaDoorSet
import Derived.Test.YtldmdenojpnldaaDoorRange
namespace Go.Proofs.YtldmdenojpnldaaDoor
set_option linter.unusedVariables false
set_option linter.unusedSimpArgs false
open Go.RowKit Go.Maps
abbrev St := Int × Int
def stLt (a b : St) : Prop := a.1 < b.1 ∨ (a.1 = b.1 ∧ a.2 < b.2)
def stLess (a b : St) : Bool := decide (a.1 < b.1) || (decide (a.1 = b.1) && decide (a.2 < b.2))
theorem stLess_iff {a b : St} : stLess a b = true ↔ stLt a b := by unfold stLess stLt; simp
theorem stLess_no {a b : St} : stLess a b = false ↔ ¬ stLt a b := by rw [← stLess_iff]; simp
theorem stLt_irr (a : St) : ¬ stLt a a := by unfold stLt; omega
theorem stLt_trans {a b c : St} (h1 : stLt a b) (h2 : stLt b c) : stLt a c := by unfold stLt at *; omega
theorem stLt_tri (a b : St) : stLt a b ∨ a = b ∨ stLt b a := by
  obtain ⟨x, y⟩ := a
  obtain ⟨u, v⟩ := b
  unfold stLt
  by_cases h : x = u
  · by_cases h2 : y = v
    · subst h; subst h2; exact .inr (.inl rfl)
    · rcases Int.lt_or_gt_of_ne h2 with h2 | h2
      · exact .inl (.inr ⟨h, h2⟩)
      · exact .inr (.inr (.inr ⟨h.symm, h2⟩))
  · rcases Int.lt_or_gt_of_ne h with h | h
    · exact .inl (.inl h)
    · exact .inr (.inr (.inl h))
theorem stLt_of_not {a b : St} (h : ¬ stLt a b) (hn : a ≠ b) : stLt b a := by
  rcases stLt_tri a b with h1 | h1 | h1
  · exact absurd h1 h
  · exact absurd h1 hn
  · exact h1
theorem stLt_le {a b c : St} (h1 : stLt a b) (h2 : ¬ stLt c b) : stLt a c := by
  rcases stLt_tri b c with h | h | h
  · exact stLt_trans h1 h
  · exact h ▸ h1
  · exact absurd h h2
def stMax (a b : St) : St := if stLess a b then b else a
def maxSt (l : List St) : St := l.foldl stMax (l.headD (0, 0))
theorem maxSt_fold : ∀ (l : List St) (a : St), (l.foldl stMax a = a ∨ l.foldl stMax a ∈ l) ∧ ¬ stLt (l.foldl stMax a) a ∧ ∀ s ∈ l, ¬ stLt (l.foldl stMax a) s
  | [], a => ⟨.inl rfl, stLt_irr a, by simp⟩
  | b :: r, a => by
    obtain ⟨h1, h2, h3⟩ := maxSt_fold r (stMax a b)
    rw [List.foldl_cons]
    obtain ⟨M, hM⟩ : ∃ M, M = r.foldl stMax (stMax a b) := ⟨_, rfl⟩
    rw [← hM] at h1 h2 h3 ⊢
    unfold stMax at h1 h2
    cases hl : stLess a b
    · rw [hl] at h1 h2
      simp only [Bool.false_eq_true, if_false] at h1 h2
      have hab := stLess_no.1 hl
      refine ⟨?_, h2, fun s hs => ?_⟩
      · rcases h1 with h | h
        · exact .inl h
        · exact .inr (List.mem_cons_of_mem _ h)
      · rcases List.mem_cons.1 hs with rfl | hs
        · intro hc
          rcases stLt_tri a M with h | h | h
          · exact hab (stLt_trans h hc)
          · exact hab (h ▸ hc)
          · exact h2 h
        · exact h3 s hs
    · rw [hl] at h1 h2
      simp only [if_true] at h1 h2
      have hab := stLess_iff.1 hl
      refine ⟨?_, fun hc => h2 (stLt_trans hc hab), fun s hs => ?_⟩
      · rcases h1 with h | h
        · exact .inr (h ▸ List.mem_cons_self ..)
        · exact .inr (List.mem_cons_of_mem _ h)
      · rcases List.mem_cons.1 hs with rfl | hs
        · exact h2
        · exact h3 s hs
theorem maxSt_mem {l : List St} (h : l ≠ []) : maxSt l ∈ l := by
  cases l with
  | nil => exact absurd rfl h
  | cons a r =>
    rcases (maxSt_fold (a :: r) a).1 with h1 | h1
    · unfold maxSt; rw [show (a :: r).headD (0, 0) = a from rfl, h1]; exact List.mem_cons_self ..
    · exact h1
theorem maxSt_ge {l : List St} {s : St} (h : s ∈ l) : ¬ stLt (maxSt l) s := (maxSt_fold l _).2.2 s h
/-- A waiting word: its stamp, and whether that is settled. -/
abbrev Wt := St × Bool
structure AgM where
  n : Int
  waits : List (Int × Wt)
  knew : List Int
  heard : List Int
structure Ag where
  mem : List AgM
  given : List (Int × List St)
  who : List (Int × List Int)
def gvOf (g : Ag) (w : Int) : List St := (mget g.given w).getD []
def whoOf (g : Ag) (w : Int) : List Int := (mget g.who w).getD []
def agGet (g : Ag) (k : Int) : AgM := g.mem.getD k.toNat ⟨0, [], [], []⟩
def agPick (a b : Int × Wt) : Int × Wt := if stLess b.2.1 a.2.1 then b else a
def agFirst (W : List (Int × Wt)) : Int := match W with
  | [] => 0
  | p :: r => (r.foldl agPick p).1
/-- Is the first of those that wait settled? -/
def agGo (W : List (Int × Wt)) : Bool := decide (agFirst W ≠ 0) && ((mget W (agFirst W)).getD ((0, 0), false)).2
def agHear : Nat → List (Int × Wt) → List (Int × Wt) × List Int
  | 0, W => (W, [])
  | k + 1, W => if agGo W then ((agHear k (mdel W (agFirst W))).1, agFirst W :: (agHear k (mdel W (agFirst W))).2) else (W, [])
def agSayErr (g : Ag) (w : Int) : Nat := if isWord w = false then 1 else if (mget g.given w).isSome then 7 else 0
def agSay (g : Ag) (w : Int) : Ag := if agSayErr g w = 0 then { g with given := mput g.given w [] } else g
def agChk (g : Ag) (who w : Int) : Nat := if inR who g.mem.length = false then 1 else if isWord w = false then 1 else if (mget g.given w).isSome = false then 5 else 0
def agPropErr (g : Ag) (who w : Int) : Nat := if agChk g who w ≠ 0 then agChk g who w else if who ∈ whoOf g w then 7 else 0
def agProp (g : Ag) (who w : Int) : Ag := if agPropErr g who w = 0 then
    ⟨g.mem.set who.toNat ⟨(agGet g who).n + 1, mput (agGet g who).waits w (((agGet g who).n + 1, who), false), (agGet g who).knew, (agGet g who).heard⟩,
      mput g.given w (gvOf g w ++ [((agGet g who).n + 1, who)]), mput g.who w (whoOf g w ++ [who])⟩ else g
def agPropSt (g : Ag) (who w : Int) : St := if agPropErr g who w = 0 then ((agGet g who).n + 1, who) else (0, 0)
def agSetErr (g : Ag) (who w : Int) : Nat := if agChk g who w ≠ 0 then agChk g who w else if (gvOf g w).length < g.mem.length then 6 else if w ∈ (agGet g who).knew then 7 else 0
def agSetM (g : Ag) (m : AgM) (w : Int) : AgM := ⟨max m.n (maxSt (gvOf g w)).1, mput m.waits w (maxSt (gvOf g w), true), setPut m.knew w, m.heard⟩
def agHearM (m : AgM) : AgM := ⟨m.n, (agHear m.waits.length m.waits).1, m.knew, m.heard ++ (agHear m.waits.length m.waits).2⟩
def agSet (g : Ag) (who w : Int) : Ag := if agSetErr g who w = 0 then { g with mem := g.mem.set who.toNat (agHearM (agSetM g (agGet g who) w)) } else g
def agSetOut (g : Ag) (who w : Int) : List Int := if agSetErr g who w = 0 then (agHear (agSetM g (agGet g who) w).waits.length (agSetM g (agGet g who) w).waits).2 else []
def agNew (n : Nat) : Ag := ⟨List.replicate n ⟨0, [], [], []⟩, [], []⟩
def agHeardErr (g : Ag) (who : Int) : Nat := if inR who g.mem.length then 0 else 1
def agHeard (g : Ag) (who : Int) : List Int := if inR who g.mem.length then (agGet g who).heard else []
/-! ## The first of those that wait -/
theorem mget_mem {K V : Type} [DecidableEq K] {m : List (K × V)} {x : K} {v : V} (h : mget m x = some v) : (x, v) ∈ m := by
  induction m with
  | nil => cases h
  | cons p r ih =>
    unfold mget at h
    by_cases e : p.1 = x
    · rw [if_pos e] at h; cases h; subst e; exact List.mem_cons_self ..
    · rw [if_neg e] at h; exact List.mem_cons_of_mem _ (ih h)
theorem mget_of_mem {K V : Type} [DecidableEq K] {m : List (K × V)} (hn : (m.map (·.1)).Nodup) {x : K} {v : V} (h : (x, v) ∈ m) : mget m x = some v := by
  obtain ⟨j, hj, hjx⟩ := List.getElem_of_mem h
  exact mget_at hn (j := j) (by rw [List.getElem?_eq_getElem hj, hjx])
def Least (W : List (Int × Wt)) (f : Int) : Prop := ∃ x, mget W f = some x ∧ ∀ w y, mget W w = some y → ¬ stLt y.1 x.1
def Apart (W : List (Int × Wt)) : Prop := ∀ w y w' y', mget W w = some y → mget W w' = some y' → y.1 = y'.1 → w = w'
theorem agPick_fold : ∀ (r : List (Int × Wt)) (p : Int × Wt), (r.foldl agPick p = p ∨ r.foldl agPick p ∈ r) ∧ ¬ stLt p.2.1 (r.foldl agPick p).2.1 ∧ ∀ q ∈ r, ¬ stLt q.2.1 (r.foldl agPick p).2.1
  | [], p => ⟨.inl rfl, stLt_irr _, by simp⟩
  | q :: r, p => by
    obtain ⟨h1, h2, h3⟩ := agPick_fold r (agPick p q)
    rw [List.foldl_cons]
    obtain ⟨M, hM⟩ : ∃ M, M = r.foldl agPick (agPick p q) := ⟨_, rfl⟩
    rw [← hM] at h1 h2 h3 ⊢
    unfold agPick at h1 h2
    cases hl : stLess q.2.1 p.2.1
    · rw [hl] at h1 h2
      simp only [Bool.false_eq_true, if_false] at h1 h2
      have hab := stLess_no.1 hl
      refine ⟨?_, h2, fun s hs => ?_⟩
      · rcases h1 with h | h
        · exact .inl h
        · exact .inr (List.mem_cons_of_mem _ h)
      · rcases List.mem_cons.1 hs with rfl | hs
        · intro hc
          rcases stLt_tri p.2.1 M.2.1 with h | h | h
          · exact h2 h
          · exact hab (h ▸ hc)
          · exact hab (stLt_trans hc h)
        · exact h3 s hs
    · rw [hl] at h1 h2
      simp only [if_true] at h1 h2
      have hab := stLess_iff.1 hl
      refine ⟨?_, fun hc => h2 (stLt_trans hab hc), fun s hs => ?_⟩
      · rcases h1 with h | h
        · exact .inr (h ▸ List.mem_cons_self ..)
        · exact .inr (List.mem_cons_of_mem _ h)
      · rcases List.mem_cons.1 hs with rfl | hs
        · exact h2
        · exact h3 s hs
theorem agFirst_least {W : List (Int × Wt)} (hn : (W.map (·.1)).Nodup) (hne : W ≠ []) : Least W (agFirst W) := by
  cases W with
  | nil => exact absurd rfl hne
  | cons p r =>
    obtain ⟨h1, h2, h3⟩ := agPick_fold r p
    obtain ⟨M, hM⟩ : ∃ M, M = r.foldl agPick p := ⟨_, rfl⟩
    have hf : agFirst (p :: r) = M.1 := by rw [hM]; rfl
    rw [hf]
    rw [← hM] at h1 h2 h3
    have hmem : (M.1, M.2) ∈ p :: r := by
      rcases h1 with h | h
      · rw [h]; exact List.mem_cons_self ..
      · exact List.mem_cons_of_mem _ h
    refine ⟨M.2, mget_of_mem hn hmem, fun w y hy => ?_⟩
    rcases List.mem_cons.1 (mget_mem hy) with h | h
    · rw [← h] at h2; exact h2
    · exact h3 _ h
theorem least_unique {W : List (Int × Wt)} (ha : Apart W) {f f' : Int} (h : Least W f) (h' : Least W f') : f = f' := by
  obtain ⟨x, hx, hl⟩ := h
  obtain ⟨x', hx', hl'⟩ := h'
  refine ha f x f' x' hx hx' ?_
  rcases stLt_tri x.1 x'.1 with h | h | h
  · exact absurd h (hl' f x hx)
  · exact h
  · exact absurd h (hl f' x' hx')
theorem agFirst_of {W : List (Int × Wt)} (hn : (W.map (·.1)).Nodup) (ha : Apart W) {f : Int} (h : Least W f) : agFirst W = f := by
  refine least_unique ha (agFirst_least hn ?_) h
  rintro rfl
  obtain ⟨x, hx, _⟩ := h
  cases hx
theorem agFirst_nil {W : List (Int × Wt)} (h : W = []) : agFirst W = 0 := by subst h; rfl
theorem agFirst_key {W : List (Int × Wt)} (hn : (W.map (·.1)).Nodup) (hne : W ≠ []) : ∃ x, mget W (agFirst W) = some x := by
  obtain ⟨x, hx, _⟩ := agFirst_least hn hne
  exact ⟨x, hx⟩
/-! ## What holds of a member -/
/-- G: who gave which stamps to each word; N members; k: this one. -/
structure AgMI (G : Int → List St) (N k : Nat) (m : AgM) : Prop where
  pos : 0 ≤ m.n
  keys : (m.waits.map (·.1)).Nodup
  disj : ∀ w x, mget m.waits w = some x → w ∉ m.heard
  nodup : m.heard.Nodup
  has : ∀ w, (k : Int) ∈ (G w).map (·.2) ↔ (mget m.waits w ≠ none ∨ w ∈ m.heard)
  knewH : ∀ w ∈ m.heard, w ∈ m.knew
  knewC : ∀ w ∈ m.knew, (G w).length = N
  knewN : ∀ w ∈ m.knew, (maxSt (G w)).1 ≤ m.n
  st : ∀ w x, mget m.waits w = some x → x.2 = decide (w ∈ m.knew) ∧ (x.2 = true → x.1 = maxSt (G w)) ∧ (x.2 = false → x.1 ∈ G w ∧ x.1.2 = k)
  own : ∀ w s, s ∈ G w → s.2 = k → s.1 ≤ m.n
  ord : ∀ h ∈ m.heard, ∀ w x, mget m.waits w = some x → stLt (maxSt (G h)) x.1
  sorted : m.heard.Pairwise (fun a b => stLt (maxSt (G a)) (maxSt (G b)))
  first : ∀ w x, mget m.waits w = some x → x.2 = true → ∃ w' x', mget m.waits w' = some x' ∧ x'.2 = false ∧ stLt x'.1 x.1
structure AgI (g : Ag) : Prop where
  whos : ∀ w, whoOf g w = (gvOf g w).map (·.2)
  range : ∀ w s, s ∈ gvOf g w → 1 ≤ s.1 ∧ 0 ≤ s.2 ∧ s.2 < g.mem.length
  nd : ∀ w, ((gvOf g w).map (·.2)).Nodup
  uniq : ∀ w w' s, s ∈ gvOf g w → s ∈ gvOf g w' → w = w'
  words : ∀ w, (mget g.given w).isSome → isWord w = true
  mem : ∀ k (h : k < g.mem.length), AgMI (gvOf g) g.mem.length k g.mem[k]
theorem gvOf_word {g : Ag} (h : AgI g) {w : Int} {s : St} (hs : s ∈ gvOf g w) : isWord w = true := by
  refine h.words w ?_
  unfold gvOf at hs
  cases hg : mget g.given w with
  | none => rw [hg] at hs; cases hs
  | some l => rfl
theorem agNew_get (n : Nat) (w : Int) : gvOf (agNew n) w = [] := rfl
theorem agNew_inv (n : Nat) : AgI (agNew n) where
  whos := fun w => rfl
  range := fun w s h => by cases h
  nd := fun w => List.nodup_nil
  uniq := fun w w' s h => by cases h
  words := fun w h => by cases h
  mem := fun k hk => by
    have hm : (agNew n).mem[k] = ⟨0, [], [], []⟩ := by simp [agNew]
    rw [hm]
    exact ⟨Int.le_refl _, List.nodup_nil, fun w x h => by (cases h), List.nodup_nil, fun w => by rw [agNew_get]; simp [mget], fun w h => by (cases h), fun w h => by (cases h), fun w h => by (cases h), fun w x h => by (cases h), fun w s h => by (rw [agNew_get] at h; cases h), fun h hh => by (cases hh), List.Pairwise.nil, fun w x h => by (cases h)⟩
theorem agSay_gv (g : Ag) (w w' : Int) : gvOf (agSay g w) w' = gvOf g w' := by
  unfold agSay
  by_cases h : agSayErr g w = 0
  · rw [if_pos h]
    unfold gvOf
    simp only
    rw [mget_mput]
    by_cases e : w = w'
    · subst e
      unfold agSayErr at h
      cases hw : isWord w
      · rw [if_pos hw] at h; cases h
      rw [if_neg (by rw [hw]; simp)] at h
      cases hg : mget g.given w with
      | none => rw [if_pos rfl]; rfl
      | some l => rw [hg] at h; simp at h
    · rw [if_neg e]
  · rw [if_neg h]
theorem agSay_mem (g : Ag) (w : Int) : (agSay g w).mem = g.mem := by unfold agSay; split <;> rfl
theorem agSay_who (g : Ag) (w : Int) : (agSay g w).who = g.who := by unfold agSay; split <;> rfl
theorem agSay_inv {g : Ag} (h : AgI g) (w : Int) : AgI (agSay g w) := by
  have hG : gvOf (agSay g w) = gvOf g := funext (agSay_gv g w)
  refine ⟨fun v => ?_, ?_, ?_, ?_, fun v hv => ?_, fun k hk => ?_⟩
  · rw [hG, ← h.whos]; unfold whoOf; rw [agSay_who]
  · rw [hG, agSay_mem]; exact h.range
  · rw [hG]; exact h.nd
  · rw [hG]; exact h.uniq
  · by_cases he : agSayErr g w = 0
    · unfold agSay at hv
      rw [if_pos he] at hv
      simp only at hv
      rw [mget_mput] at hv
      by_cases e : w = v
      · subst e
        unfold agSayErr at he
        cases hw : isWord w
        · rw [if_pos hw] at he; cases he
        · rfl
      · rw [if_neg e] at hv; exact h.words v hv
    · unfold agSay at hv
      rw [if_neg he] at hv
      exact h.words v hv
  · rw [hG]
    have hk' : k < g.mem.length := by rw [← agSay_mem g w]; exact hk
    have := h.mem k hk'
    have e : (agSay g w).mem[k] = g.mem[k] := by congr 1; exact agSay_mem g w
    rw [e, agSay_mem]; exact this
theorem agGet_at {g : Ag} {k : Nat} (hk : k < g.mem.length) : agGet g (k : Int) = g.mem[k] := by
  unfold agGet
  rw [List.getD_eq_getElem?_getD, Int.toNat_natCast, List.getElem?_eq_getElem hk]; rfl
theorem agChk0 {g : Ag} {who w : Int} (h : agChk g who w = 0) : (0 ≤ who ∧ who < g.mem.length) ∧ isWord w = true ∧ (mget g.given w).isSome = true := by
  unfold agChk at h
  cases h1 : inR who g.mem.length
  · rw [if_pos h1] at h; cases h
  rw [if_neg (by rw [h1]; simp)] at h
  cases h2 : isWord w
  · rw [if_pos h2] at h; cases h
  rw [if_neg (by rw [h2]; simp)] at h
  cases h3 : (mget g.given w).isSome
  · rw [if_pos h3] at h; cases h
  exact ⟨by simpa [inR] using h1, rfl, rfl⟩
theorem agPropErr0 {g : Ag} {who w : Int} (h : agPropErr g who w = 0) : agChk g who w = 0 ∧ who ∉ whoOf g w := by
  unfold agPropErr at h
  by_cases h1 : agChk g who w = 0
  · rw [if_neg (by rw [h1]; simp)] at h
    refine ⟨h1, fun hc => ?_⟩
    rw [if_pos hc] at h; cases h
  · rw [if_pos h1] at h; exact absurd h h1
theorem agSetErr0 {g : Ag} {who w : Int} (h : agSetErr g who w = 0) : agChk g who w = 0 ∧ g.mem.length ≤ (gvOf g w).length ∧ w ∉ (agGet g who).knew := by
  unfold agSetErr at h
  by_cases h1 : agChk g who w = 0
  · rw [if_neg (by rw [h1]; simp)] at h
    by_cases h2 : (gvOf g w).length < g.mem.length
    · rw [if_pos h2] at h; cases h
    rw [if_neg h2] at h
    refine ⟨h1, by omega, fun hc => ?_⟩
    rw [if_pos hc] at h; cases h
  · rw [if_pos h1] at h; exact absurd h h1
/-- So many different numbers below n: no more than n. -/
theorem below_len {l : List Int} {n : Nat} (hn : l.Nodup) (hb : ∀ x ∈ l, 0 ≤ x ∧ x < (n : Int)) : l.length ≤ n := by
  have h := distinct_le n (l.map (· + 1)) (nodup_map_inj (· + 1) (fun x y e => by have e' : x + 1 = y + 1 := e; omega) l hn) (fun x hx => by
    obtain ⟨y, hy, rfl⟩ := List.mem_map.1 hx
    have := hb y hy
    omega)
  simpa using h
theorem AgI.len {g : Ag} (h : AgI g) (w : Int) : (gvOf g w).length ≤ g.mem.length := by
  have := below_len (h.nd w) (n := g.mem.length) (fun x hx => by
    obtain ⟨s, hs, rfl⟩ := List.mem_map.1 hx
    exact (h.range w s hs).2)
  simpa using this
/-- One more stamp: a list of givers that lacks one is not full. -/
theorem AgI.lacks {g : Ag} (h : AgI g) {w : Int} {k : Nat} (hk : k < g.mem.length) (hn : (k : Int) ∉ (gvOf g w).map (·.2)) : (gvOf g w).length < g.mem.length := by
  have := below_len (l := (k : Int) :: (gvOf g w).map (·.2)) (n := g.mem.length) (List.nodup_cons.2 ⟨hn, h.nd w⟩) (fun x hx => by
    rcases List.mem_cons.1 hx with rfl | hx
    · omega
    · obtain ⟨s, hs, rfl⟩ := List.mem_map.1 hx
      exact (h.range w s hs).2)
  simp at this
  omega
/-- Where all gave a stamp, each did. -/
theorem AgI.full {g : Ag} (h : AgI g) {w : Int} (hl : (gvOf g w).length = g.mem.length) {k : Nat} (hk : k < g.mem.length) : (k : Int) ∈ (gvOf g w).map (·.2) := by
  rcases Classical.em ((k : Int) ∈ (gvOf g w).map (·.2)) with h1 | h1
  · exact h1
  · have := h.lacks hk h1
    omega
theorem AgMI.apart {g : Ag} (h : AgI g) {k : Nat} {m : AgM} (hm : AgMI (gvOf g) g.mem.length k m) (hpos : 0 < g.mem.length) {w : Int} {x : Wt} (hx : mget m.waits w = some x) : x.1 ∈ gvOf g w := by
  obtain ⟨h1, h2, h3⟩ := hm.st w x hx
  cases hb : x.2
  · exact (h3 hb).1
  · rw [h2 hb]
    refine maxSt_mem fun hc => ?_
    rw [hb] at h1
    have := hm.knewC w (of_decide_eq_true h1.symm)
    rw [hc] at this
    simp at this
    omega
theorem AgMI.apart' {g : Ag} (h : AgI g) {k : Nat} {m : AgM} (hm : AgMI (gvOf g) g.mem.length k m) (hpos : 0 < g.mem.length) : Apart m.waits := fun w y w' y' hy hy' e => by
  have h1 := hm.apart h hpos hy
  have h2 := hm.apart h hpos hy'
  rw [e] at h1
  exact h.uniq w w' _ h1 h2
end Go.Proofs.YtldmdenojpnldaaDoor
