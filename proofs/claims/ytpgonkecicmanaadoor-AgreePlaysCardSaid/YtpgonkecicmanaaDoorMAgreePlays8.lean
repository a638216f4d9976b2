/- The reference's Agree, plainly: what its tables say of a group; the greatest stamp; the least of those that wait. -/
import Derived.Test.YtpgonkecicmanaaDoorMAgreePlays4
import Derived.Test.YtpgonkecicmanaaDoorMAgreePlays7
import Derived.Test.YtpgonkecicmanaaDoorMAgreePlays5
namespace Go.Proofs.YtpgonkecicmanaaDoor
set_option linter.unusedVariables false
set_option linter.unusedSimpArgs false
open Go.RowKit Go.Maps
theorem nodup_key {α β : Type} {f : α → β} {l : List α} (h : (l.map f).Nodup) {a b : α} (ha : a ∈ l) (hb : b ∈ l) (e : f a = f b) : a = b := by
  induction l with
  | nil => cases ha
  | cons x r ih =>
    rw [List.map_cons, List.nodup_cons] at h
    rcases List.mem_cons.1 ha with rfl | ha'
    · rcases List.mem_cons.1 hb with rfl | hb'
      · rfl
      · exact absurd (List.mem_map.2 ⟨b, hb', e.symm⟩) h.1
    · rcases List.mem_cons.1 hb with rfl | hb'
      · exact absurd (List.mem_map.2 ⟨a, ha', e⟩) h.1
      · exact ih h.2 ha' hb'
def rgSt (g : Ag) (w : Int) (k : Nat) : St := ((gvOf g w).find? fun s => s.2 == (k : Int)).getD (0, 0)
def rgHas (g : Ag) (w : Int) (k : Nat) : Bool := decide ((k : Int) ∈ (gvOf g w).map (·.2))
theorem rg_has {g : Ag} {w : Int} {k : Nat} (h : rgHas g w k = true) : rgSt g w k ∈ gvOf g w ∧ (rgSt g w k).2 = k := by
  have h1 := of_decide_eq_true h
  obtain ⟨s, hs, hk⟩ := List.mem_map.1 h1
  unfold rgSt
  cases hf : (gvOf g w).find? fun s => s.2 == (k : Int) with
  | none => exact absurd (List.find?_eq_none.1 hf s hs) (by simp [hk])
  | some x => exact ⟨List.mem_of_find?_eq_some hf, by simpa using List.find?_some hf⟩
theorem rg_no {g : Ag} {w : Int} {k : Nat} (h : rgHas g w k = false) : rgSt g w k = (0, 0) := by
  have h1 := of_decide_eq_false h
  unfold rgSt
  rw [List.find?_eq_none.2 (fun s hs => by
    intro hc
    exact h1 (List.mem_map.2 ⟨s, hs, by simpa using hc⟩))]
  rfl
theorem rg_of {g : Ag} (hI : AgI g) {w : Int} {s : St} (hs : s ∈ gvOf g w) {k : Nat} (hk : s.2 = k) : rgSt g w k = s := by
  obtain ⟨h2, h3⟩ := rg_has (show rgHas g w k = true from decide_eq_true (List.mem_map.2 ⟨s, hs, hk⟩))
  exact nodup_key (hI.nd w) h2 hs (h3.trans hk.symm)
/-! ## The greatest stamp -/
def finTo (F : Nat → St) : Nat → St
  | 0 => (0, 0)
  | i + 1 => if stLess (finTo F i) (F i) = true then F i else finTo F i
theorem finTo_spec (F : Nat → St) : ∀ n : Nat, (∀ i, i < n → 1 ≤ (F i).1) → (n = 0 ∧ finTo F n = (0, 0) ∨ ∃ i, i < n ∧ finTo F n = F i) ∧ ∀ i, i < n → ¬ stLt (finTo F n) (F i)
  | 0, _ => ⟨.inl ⟨rfl, rfl⟩, fun i hi => by omega⟩
  | n + 1, hp => by
    obtain ⟨h1, h2⟩ := finTo_spec F n (fun i hi => hp i (by omega))
    unfold finTo
    cases hl : stLess (finTo F n) (F n)
    · rw [if_neg (by simp)]
      have hn := stLess_no.1 hl
      refine ⟨.inr ?_, fun i hi => ?_⟩
      · rcases h1 with ⟨rfl, h1⟩ | ⟨i, hi, h1⟩
        · exfalso
          have := hp 0 (by omega)
          rw [h1] at hn
          exact hn (.inl (by show (0 : Int) < _; omega))
        · exact ⟨i, by omega, h1⟩
      · by_cases e : i = n
        · subst e; exact hn
        · exact h2 i (by omega)
    · rw [if_pos rfl]
      have hn := stLess_iff.1 hl
      refine ⟨.inr ⟨n, by omega, rfl⟩, fun i hi => ?_⟩
      by_cases e : i = n
      · subst e; exact stLt_irr _
      · exact fun hc => h2 i (by omega) (stLt_trans hn hc)
theorem fin_full {g : Ag} (hI : AgI g) {w : Int} (hp : 0 < g.mem.length) (hall : ∀ k, k < g.mem.length → rgHas g w k = true) : finTo (rgSt g w) g.mem.length = maxSt (gvOf g w) := by
  have hr : ∀ k, k < g.mem.length → 1 ≤ (rgSt g w k).1 := fun k hk => (hI.range w _ (rg_has (hall k hk)).1).1
  obtain ⟨h1, h2⟩ := finTo_spec (rgSt g w) g.mem.length hr
  have hne : gvOf g w ≠ [] := fun hc => by
    have := (rg_has (hall 0 hp)).1
    rw [hc] at this; cases this
  have hm := maxSt_mem hne
  rcases h1 with ⟨h1, _⟩ | ⟨i, hi, h1⟩
  · omega
  have hin : finTo (rgSt g w) g.mem.length ∈ gvOf g w := by rw [h1]; exact (rg_has (hall i hi)).1
  rcases stLt_tri (finTo (rgSt g w) g.mem.length) (maxSt (gvOf g w)) with h | h | h
  · exfalso
    obtain ⟨r1, r2, r3⟩ := hI.range w _ hm
    obtain ⟨k, hk⟩ : ∃ k : Nat, (maxSt (gvOf g w)).2 = (k : Int) := ⟨(maxSt (gvOf g w)).2.toNat, by omega⟩
    have h3 := h2 k (by omega)
    rw [rg_of hI hm hk] at h3
    exact h3 h
  · exact h
  · exact absurd h (maxSt_ge hin)
theorem rg_full {g : Ag} (hI : AgI g) {w : Int} : (∀ k, k < g.mem.length → rgHas g w k = true) ↔ (gvOf g w).length = g.mem.length :=
  ⟨fun h => hI.full_of fun k hk => by rw [hI.whos]; exact of_decide_eq_true (h k hk), fun h k hk => decide_eq_true (hI.full h hk)⟩
/-! ## The least of those that wait -/
def BestTo (C : Nat → Bool) (T : Nat → St) (j b : Nat) (l : St) : Prop :=
  (b = 0 ∧ ∀ v, 1 ≤ v → v ≤ j → C v = false) ∨ (1 ≤ b ∧ b ≤ j ∧ C b = true ∧ l = T b ∧ ∀ v, 1 ≤ v → v ≤ j → C v = true → ¬ stLt (T v) (T b))
theorem BestTo.start (C : Nat → Bool) (T : Nat → St) (l : St) : BestTo C T 0 0 l := .inl ⟨rfl, fun v h1 h2 => by omega⟩
theorem BestTo.skip {C : Nat → Bool} {T : Nat → St} {j b : Nat} {l : St} (h : BestTo C T j b l) (hc : C (j + 1) = false) : BestTo C T (j + 1) b l := by
  rcases h with ⟨h1, h2⟩ | ⟨h1, h2, h3, h4, h5⟩
  · refine .inl ⟨h1, fun v v1 v2 => ?_⟩
    by_cases e : v = j + 1
    · subst e; exact hc
    · exact h2 v v1 (by omega)
  · refine .inr ⟨h1, by omega, h3, h4, fun v v1 v2 vc => ?_⟩
    by_cases e : v = j + 1
    · subst e; rw [hc] at vc; cases vc
    · exact h5 v v1 (by omega) vc
theorem BestTo.take {C : Nat → Bool} {T : Nat → St} {j b : Nat} {l : St} (h : BestTo C T j b l) (hc : C (j + 1) = true) (hl : b = 0 ∨ stLess (T (j + 1)) l = true) : BestTo C T (j + 1) (j + 1) (T (j + 1)) := by
  refine .inr ⟨by omega, by omega, hc, rfl, fun v v1 v2 vc => ?_⟩
  by_cases e : v = j + 1
  · subst e; exact stLt_irr _
  rcases h with ⟨h1, h2⟩ | ⟨h1, h2, h3, h4, h5⟩
  · rw [h2 v v1 (by omega)] at vc; cases vc
  · rcases hl with hl | hl
    · omega
    · rw [h4] at hl
      exact fun hc' => h5 v v1 (by omega) vc (stLt_trans hc' (stLess_iff.1 hl))
theorem BestTo.keep {C : Nat → Bool} {T : Nat → St} {j b : Nat} {l : St} (h : BestTo C T j b l) (hb : b ≠ 0) (hl : stLess (T (j + 1)) l = false) : BestTo C T (j + 1) b l := by
  rcases h with ⟨h1, h2⟩ | ⟨h1, h2, h3, h4, h5⟩
  · exact absurd h1 hb
  · refine .inr ⟨h1, by omega, h3, h4, fun v v1 v2 vc => ?_⟩
    by_cases e : v = j + 1
    · subst e; rw [h4] at hl; exact stLess_no.1 hl
    · exact h5 v v1 (by omega) vc
def rgC (g : Ag) (k : Nat) (m : AgM) (v : Nat) : Bool := rgHas g (v : Int) k && !decide ((v : Int) ∈ m.heard)
def rgT (g : Ag) (k : Nat) (m : AgM) (v : Nat) : St := if (v : Int) ∈ m.knew then maxSt (gvOf g (v : Int)) else rgSt g (v : Int) k
theorem rgC_iff {g : Ag} {N k : Nat} {m : AgM} (hm : AgMJ (gvOf g) N k m) (v : Nat) : rgC g k m v = true ↔ ∃ x, mget m.waits (v : Int) = some x := by
  unfold rgC rgHas
  rw [Bool.and_eq_true, decide_eq_true_iff, hm.has, Bool.not_eq_true', decide_eq_false_iff_not]
  constructor
  · rintro ⟨h | h, hn⟩
    · exact Option.ne_none_iff_exists'.1 h
    · exact absurd h hn
  · rintro ⟨x, hx⟩
    exact ⟨.inl (by rw [hx]; simp), hm.disj _ x hx⟩
theorem rgT_eq {g : Ag} (hI : AgI g) {N k : Nat} {m : AgM} (hm : AgMJ (gvOf g) N k m) {v : Nat} {x : Wt} (hx : mget m.waits (v : Int) = some x) : rgT g k m v = x.1 := by
  obtain ⟨h1, h2, h3⟩ := hm.st _ x hx
  unfold rgT
  by_cases e : (v : Int) ∈ m.knew
  · rw [if_pos e, h2 (h1.trans (decide_eq_true e))]
  · rw [if_neg e]
    obtain ⟨a, b⟩ := h3 (h1.trans (decide_eq_false e))
    exact rg_of hI a b
theorem best_first {g : Ag} (hI : AgI g) {N k : Nat} (hG : GvI (gvOf g) N) {m : AgM} (hm : AgMJ (gvOf g) N k m) {b : Nat} {l : St} (h : BestTo (rgC g k m) (rgT g k m) 30 b l) : agFirst m.waits = (b : Int) := by
  have hw : ∀ w x, mget m.waits w = some x → ∃ v : Nat, w = (v : Int) ∧ 1 ≤ v ∧ v ≤ 30 := fun w x hx => by
    have := hm.word hG hx
    simp [isWord] at this
    exact ⟨w.toNat, by omega, by omega, by omega⟩
  rcases h with ⟨rfl, h2⟩ | ⟨h1, h2, h3, h4, h5⟩
  · refine agFirst_nil ?_
    cases hc : m.waits with
    | nil => rfl
    | cons p r =>
      exfalso
      obtain ⟨x, hx⟩ := agFirst_key hm.keys (by rw [hc]; simp)
      obtain ⟨v, hv, v1, v2⟩ := hw _ x hx
      rw [hv] at hx
      have := h2 v v1 v2
      rw [(rgC_iff hm v).2 ⟨x, hx⟩] at this
      cases this
  · obtain ⟨x, hx⟩ := (rgC_iff hm b).1 h3
    refine agFirst_of hm.keys (hm.apart hG) ⟨x, hx, fun w y hy => ?_⟩
    obtain ⟨v, rfl, v1, v2⟩ := hw w y hy
    have h6 := h5 v v1 v2 ((rgC_iff hm v).2 ⟨y, hy⟩)
    rw [rgT_eq hI hm hy, rgT_eq hI hm hx] at h6
    exact h6
theorem best_go {g : Ag} (hI : AgI g) {N k : Nat} (hG : GvI (gvOf g) N) {m : AgM} (hm : AgMJ (gvOf g) N k m) {b : Nat} {l : St} (h : BestTo (rgC g k m) (rgT g k m) 30 b l) : agGo m.waits = (decide (b ≠ 0) && decide ((b : Int) ∈ m.knew)) := by
  have hf := best_first hI hG hm h
  by_cases hb : b = 0
  · subst hb
    rw [agGo_none hf]
    simp
  · have hne : agFirst m.waits ≠ 0 := by rw [hf]; omega
    obtain ⟨x, hx⟩ := agFirst_has hm.keys hne
    rw [agGo_some hne hx, (hm.st _ x hx).1, hf, decide_eq_true hb, Bool.true_and]
/-! ## One member with another state -/
def agWith (g : Ag) (k : Nat) (m : AgM) : Ag := { g with mem := g.mem.set k m }
theorem agWith_gv (g : Ag) (k : Nat) (m : AgM) : gvOf (agWith g k m) = gvOf g := rfl
theorem agWith_said (g : Ag) (k : Nat) (m : AgM) : agSaid (agWith g k m) = agSaid g := rfl
theorem agWith_len (g : Ag) (k : Nat) (m : AgM) : (agWith g k m).mem.length = g.mem.length := by simp [agWith]
theorem agWith_get {g : Ag} {k : Nat} (hk : k < g.mem.length) (m : AgM) (j : Nat) : agGet (agWith g k m) (j : Int) = if j = k then m else agGet g (j : Int) := by
  have h := agGet_set (g := g) (k := (j : Int)) (j := k) (m := m) hk rfl (by omega)
  show (g.mem.set k m).getD (j : Int).toNat ⟨0, [], [], []⟩ = _
  rw [h]
  by_cases e : j = k
  · rw [if_pos e, if_pos (by omega)]
  · rw [if_neg e, if_neg (by omega)]
theorem agWith_self {g : Ag} {k : Nat} (hk : k < g.mem.length) : agWith g k (agGet g (k : Int)) = g := by
  unfold agWith
  rw [agGet_at hk, List.set_getElem_self]
theorem agSet_with {g : Ag} {k : Nat} {w : Int} (he : agSetErr g (k : Int) w = 0) : agSet g (k : Int) w = agWith g k (agHearM (agSetM g (agGet g (k : Int)) w)) := by
  unfold agSet agWith
  rw [if_pos he, Int.toNat_natCast]
theorem rgHas_prop {g : Ag} {k : Nat} {w : Int} (he : agPropErr g (k : Int) w = 0) (v : Int) (j : Nat) : rgHas (agProp g (k : Int) w) v j = if w = v ∧ j = k then true else rgHas g v j := by
  unfold rgHas
  rw [agProp_gv he]
  by_cases e : w = v
  · subst e
    rw [if_pos rfl, List.map_append]
    by_cases ej : j = k
    · rw [if_pos ⟨rfl, ej⟩, ej]
      simp
    · rw [if_neg (fun h => ej h.2)]
      have : ¬ (j : Int) = (k : Int) := by omega
      simp [this]
  · rw [if_neg e, if_neg (fun h => e h.1)]
theorem rgSt_prop {g : Ag} {k : Nat} {w : Int} (he : agPropErr g (k : Int) w = 0) (hI : AgI g) (v : Int) (j : Nat) : rgSt (agProp g (k : Int) w) v j = if w = v ∧ j = k then ((agGet g (k : Int)).n + 1, (k : Int)) else rgSt g v j := by
  have hn := (agPropErr0 he).2
  rw [hI.whos] at hn
  unfold rgSt
  rw [agProp_gv he]
  by_cases e : w = v
  · subst e
    rw [if_pos rfl, List.find?_append]
    by_cases ej : j = k
    · subst ej
      rw [if_pos ⟨rfl, rfl⟩, List.find?_eq_none.2 (fun s hs hc => hn (List.mem_map.2 ⟨s, hs, by simpa using hc⟩))]
      simp
    · rw [if_neg (fun h => ej h.2)]
      have : ¬ (k : Int) = (j : Int) := by omega
      simp [this]
  · rw [if_neg e, if_neg (fun h => e h.1)]
theorem agProp_get {g : Ag} {k : Nat} {w : Int} (he : agPropErr g (k : Int) w = 0) (j : Nat) : agGet (agProp g (k : Int) w) (j : Int) = if j = k then ⟨(agGet g (k : Int)).n + 1, mput (agGet g (k : Int)).waits w (((agGet g (k : Int)).n + 1, (k : Int)), false), (agGet g (k : Int)).knew, (agGet g (k : Int)).heard⟩ else agGet g (j : Int) := by
  obtain ⟨⟨_, h1⟩, _⟩ := agChk0 (agPropErr0 he).1
  have hk : k < g.mem.length := by omega
  rw [← agWith_get hk]
  unfold agProp agWith
  rw [if_pos he, Int.toNat_natCast]
  rfl
end Go.Proofs.YtpgonkecicmanaaDoor
/- The reference's Agree as it lies in memory. -/
namespace Go.Proofs.YtpgonkecicmanaaDoor
set_option linter.unusedVariables false
set_option linter.unusedSimpArgs false
open Go.RowKit Go.Maps
structure Rg where
  n : Nat
  was : Nat → Bool
  st : Nat → Nat → St
  has : Nat → Nat → Bool
  knew : Nat → Nat → Bool
  most : Nat → Int
def rgOf (g : Ag) : Rg := ⟨g.mem.length, fun w => agSaid g (w : Int), fun w k => rgSt g (w : Int) k, fun w k => rgHas g (w : Int) k, fun w k => decide ((w : Int) ∈ (agGet g (k : Int)).knew), fun k => (agGet g (k : Int)).n⟩
structure RgC (cs : Array Value) (hv : List Value) (r : Rg) : Prop where
  size : cs.size = 662
  hl : hv.length = 5
  n : cs[0]? = some (.int .i64 (r.n : Int))
  was : ∀ w, w < 31 → cs[1 + w]? = some (.bool (r.was w))
  s1 : ∀ w k, w < 31 → k < 5 → cs[32 + w * 10 + k * 2]? = some (.int .i64 (r.st w k).1)
  s2 : ∀ w k, w < 31 → k < 5 → cs[32 + w * 10 + k * 2 + 1]? = some (.int .i64 (r.st w k).2)
  has : ∀ w k, w < 31 → k < 5 → cs[342 + w * 5 + k]? = some (.bool (r.has w k))
  knew : ∀ w k, w < 31 → k < 5 → cs[497 + w * 5 + k]? = some (.bool (r.knew w k))
  most : ∀ k, k < 5 → cs[652 + k]? = some (.int .i64 (r.most k))
  hd : ∀ k, k < 5 → cs[657 + k]? = hv[k]?
section
variable {cs : Array Value} {hv : List Value} {r : Rg}
theorem RgC.congr (h : RgC cs hv r) (r' : Rg) (e1 : r.n = r'.n) (e2 : ∀ w, w < 31 → r.was w = r'.was w) (e3 : ∀ w k, w < 31 → k < 5 → r.st w k = r'.st w k) (e4 : ∀ w k, w < 31 → k < 5 → r.has w k = r'.has w k)
    (e5 : ∀ w k, w < 31 → k < 5 → r.knew w k = r'.knew w k) (e6 : ∀ k, k < 5 → r.most k = r'.most k) : RgC cs hv r' where
  size := h.size
  hl := h.hl
  n := by rw [h.n, e1]
  was := fun w hw => by rw [h.was w hw, e2 w hw]
  s1 := fun w k hw hk => by rw [h.s1 w k hw hk, e3 w k hw hk]
  s2 := fun w k hw hk => by rw [h.s2 w k hw hk, e3 w k hw hk]
  has := fun w k hw hk => by rw [h.has w k hw hk, e4 w k hw hk]
  knew := fun w k hw hk => by rw [h.knew w k hw hk, e5 w k hw hk]
  most := fun k hk => by rw [h.most k hk, e6 k hk]
  hd := h.hd
theorem set_at {cs : Array Value} {i : Nat} (v : Value) (h : i < cs.size) : (cs.setIfInBounds i v)[i]? = some v := by
  rw [Array.getElem?_setIfInBounds, if_pos rfl, if_pos h]
theorem set_off {cs : Array Value} {i j : Nat} (v : Value) (h : i ≠ j) : (cs.setIfInBounds i v)[j]? = cs[j]? := by
  rw [Array.getElem?_setIfInBounds, if_neg h]
theorem RgC.setWas (h : RgC cs hv r) {w : Nat} (hw : w < 31) : RgC (cs.setIfInBounds (1 + w) (.bool true)) hv { r with was := fun v => if v = w then true else r.was v } where
  size := by rw [Array.size_setIfInBounds]; exact h.size
  hl := h.hl
  n := by rw [set_off _ (by omega)]; exact h.n
  was := fun v hv' => by
    by_cases e : v = w
    · subst e; rw [set_at _ (by rw [h.size]; omega)]; simp
    · rw [set_off _ (by omega), h.was v hv']; simp [e]
  s1 := fun w k hw hk => by rw [set_off _ (by omega)]; exact h.s1 w k hw hk
  s2 := fun w k hw hk => by rw [set_off _ (by omega)]; exact h.s2 w k hw hk
  has := fun w k hw hk => by rw [set_off _ (by omega)]; exact h.has w k hw hk
  knew := fun w k hw hk => by rw [set_off _ (by omega)]; exact h.knew w k hw hk
  most := fun k hk => by rw [set_off _ (by omega)]; exact h.most k hk
  hd := fun k hk => by rw [set_off _ (by omega)]; exact h.hd k hk
theorem RgC.setMost (h : RgC cs hv r) {j : Nat} (hj : j < 5) (x : Int) : RgC (cs.setIfInBounds (652 + j) (.int .i64 x)) hv { r with most := fun k => if k = j then x else r.most k } where
  size := by rw [Array.size_setIfInBounds]; exact h.size
  hl := h.hl
  n := by rw [set_off _ (by omega)]; exact h.n
  was := fun v hv' => by rw [set_off _ (by omega)]; exact h.was v hv'
  s1 := fun w k hw hk => by rw [set_off _ (by omega)]; exact h.s1 w k hw hk
  s2 := fun w k hw hk => by rw [set_off _ (by omega)]; exact h.s2 w k hw hk
  has := fun w k hw hk => by rw [set_off _ (by omega)]; exact h.has w k hw hk
  knew := fun w k hw hk => by rw [set_off _ (by omega)]; exact h.knew w k hw hk
  most := fun k hk => by
    by_cases e : k = j
    · subst e; rw [set_at _ (by rw [h.size]; omega)]; simp
    · rw [set_off _ (by omega), h.most k hk]; simp [e]
  hd := fun k hk => by rw [set_off _ (by omega)]; exact h.hd k hk
theorem RgC.setHas (h : RgC cs hv r) {v j : Nat} (hv' : v < 31) (hj : j < 5) : RgC (cs.setIfInBounds (342 + v * 5 + j) (.bool true)) hv { r with has := fun w k => if w = v ∧ k = j then true else r.has w k } where
  size := by rw [Array.size_setIfInBounds]; exact h.size
  hl := h.hl
  n := by rw [set_off _ (by omega)]; exact h.n
  was := fun v hv' => by rw [set_off _ (by omega)]; exact h.was v hv'
  s1 := fun w k hw hk => by rw [set_off _ (by omega)]; exact h.s1 w k hw hk
  s2 := fun w k hw hk => by rw [set_off _ (by omega)]; exact h.s2 w k hw hk
  has := fun w k hw hk => by
    by_cases e : w = v ∧ k = j
    · obtain ⟨rfl, rfl⟩ := e; rw [set_at _ (by rw [h.size]; omega)]; simp
    · rw [set_off _ (by omega), h.has w k hw hk]; simp [e]
  knew := fun w k hw hk => by rw [set_off _ (by omega)]; exact h.knew w k hw hk
  most := fun k hk => by rw [set_off _ (by omega)]; exact h.most k hk
  hd := fun k hk => by rw [set_off _ (by omega)]; exact h.hd k hk
theorem RgC.setKnew (h : RgC cs hv r) {v j : Nat} (hv' : v < 31) (hj : j < 5) : RgC (cs.setIfInBounds (497 + v * 5 + j) (.bool true)) hv { r with knew := fun w k => if w = v ∧ k = j then true else r.knew w k } where
  size := by rw [Array.size_setIfInBounds]; exact h.size
  hl := h.hl
  n := by rw [set_off _ (by omega)]; exact h.n
  was := fun v hv' => by rw [set_off _ (by omega)]; exact h.was v hv'
  s1 := fun w k hw hk => by rw [set_off _ (by omega)]; exact h.s1 w k hw hk
  s2 := fun w k hw hk => by rw [set_off _ (by omega)]; exact h.s2 w k hw hk
  has := fun w k hw hk => by rw [set_off _ (by omega)]; exact h.has w k hw hk
  knew := fun w k hw hk => by
    by_cases e : w = v ∧ k = j
    · obtain ⟨rfl, rfl⟩ := e; rw [set_at _ (by rw [h.size]; omega)]; simp
    · rw [set_off _ (by omega), h.knew w k hw hk]; simp [e]
  most := fun k hk => by rw [set_off _ (by omega)]; exact h.most k hk
  hd := fun k hk => by rw [set_off _ (by omega)]; exact h.hd k hk
theorem RgC.setSt (h : RgC cs hv r) {v j : Nat} (hv' : v < 31) (hj : j < 5) (s : St) : RgC ((cs.setIfInBounds (32 + v * 10 + j * 2) (.int .i64 s.1)).setIfInBounds (32 + v * 10 + j * 2 + 1) (.int .i64 s.2)) hv { r with st := fun w k => if w = v ∧ k = j then s else r.st w k } where
  size := by rw [Array.size_setIfInBounds, Array.size_setIfInBounds]; exact h.size
  hl := h.hl
  n := by rw [set_off _ (by omega), set_off _ (by omega)]; exact h.n
  was := fun v hv' => by rw [set_off _ (by omega), set_off _ (by omega)]; exact h.was v hv'
  s1 := fun w k hw hk => by
    by_cases e : w = v ∧ k = j
    · obtain ⟨rfl, rfl⟩ := e; rw [set_off _ (by omega), set_at _ (by rw [h.size]; omega)]; simp
    · rw [set_off _ (by omega), set_off _ (by omega), h.s1 w k hw hk]; simp [e]
  s2 := fun w k hw hk => by
    by_cases e : w = v ∧ k = j
    · obtain ⟨rfl, rfl⟩ := e; rw [set_at _ (by rw [Array.size_setIfInBounds, h.size]; omega)]; simp
    · rw [set_off _ (by omega), set_off _ (by omega), h.s2 w k hw hk]; simp [e]
  has := fun w k hw hk => by rw [set_off _ (by omega), set_off _ (by omega)]; exact h.has w k hw hk
  knew := fun w k hw hk => by rw [set_off _ (by omega), set_off _ (by omega)]; exact h.knew w k hw hk
  most := fun k hk => by rw [set_off _ (by omega), set_off _ (by omega)]; exact h.most k hk
  hd := fun k hk => by rw [set_off _ (by omega), set_off _ (by omega)]; exact h.hd k hk
theorem RgC.setHd (h : RgC cs hv r) {j : Nat} (hj : j < 5) (x : Value) : RgC (cs.setIfInBounds (657 + j) x) (hv.set j x) r where
  size := by rw [Array.size_setIfInBounds]; exact h.size
  hl := by rw [List.length_set]; exact h.hl
  n := by rw [set_off _ (by omega)]; exact h.n
  was := fun v hv' => by rw [set_off _ (by omega)]; exact h.was v hv'
  s1 := fun w k hw hk => by rw [set_off _ (by omega)]; exact h.s1 w k hw hk
  s2 := fun w k hw hk => by rw [set_off _ (by omega)]; exact h.s2 w k hw hk
  has := fun w k hw hk => by rw [set_off _ (by omega)]; exact h.has w k hw hk
  knew := fun w k hw hk => by rw [set_off _ (by omega)]; exact h.knew w k hw hk
  most := fun k hk => by rw [set_off _ (by omega)]; exact h.most k hk
  hd := fun k hk => by
    by_cases e : k = j
    · subst e; rw [set_at _ (by rw [h.size]; omega), List.getElem?_set, if_pos rfl, if_pos (by rw [h.hl]; omega)]
    · rw [set_off _ (by omega), h.hd k hk, List.getElem?_set, if_neg (by omega)]
end
/-- The five lists that were heard. -/
def agHeards (g : Ag) : List (List Int) := (List.range 5).map fun k : Nat => (agGet g (k : Int)).heard
def RgIs (cs : Array Value) (rows : List (Value × List Int)) (g : Ag) : Prop := RgC cs (rows.map (·.1)) (rgOf g) ∧ rows.map (·.2) = agHeards g
abbrev rgBlk (q : Nat) (cs : Array Value) : HProp := blk q (.cells cs 41 (0, 0))
def RgP (q : Nat) (g : Ag) : HProp := hex fun (x : Array Value × List (Value × List Int)) => pur (RgIs x.1 x.2 g) * (rgBlk q x.1 * starL rowP x.2)
theorem Own.rg_open {w0 w : World} {q : Nat} {g : Ag} {R : HProp} (h : Own w0 (RgP q g * R) w) : ∃ cs rows, RgIs cs rows g ∧ Own w0 (rgBlk q cs * (starL rowP rows * R)) w := by
  obtain ⟨⟨cs, rows⟩, h⟩ := Own.ex h
  rw [star_assoc] at h
  obtain ⟨he, h⟩ := Own.pur_out h
  rw [star_assoc] at h
  exact ⟨cs, rows, he, h⟩
theorem Own.rg_close {w0 w : World} {q : Nat} {cs : Array Value} {rows : List (Value × List Int)} {g : Ag} {R : HProp} (he : RgIs cs rows g) (h : Own w0 (rgBlk q cs * (starL rowP rows * R)) w) : Own w0 (RgP q g * R) w := by
  refine Own.ex_mk (cs, rows) ?_
  rw [star_assoc]
  refine Own.pur_mk he ?_
  rw [star_assoc]
  exact h
section
variable {w0 w : World} {q : Nat} {cs : Array Value} {rows : List (Value × List Int)} {g : Ag} {R : HProp}
theorem RgIs.heard (he : RgIs cs rows g) {k : Nat} (hk : k < 5) : ∃ h : k < rows.length, rows[k].2 = (agGet g (k : Int)).heard ∧ cs[657 + k]? = some rows[k].1 := by
  have hl : rows.length = 5 := by have := he.1.hl; rwa [List.length_map] at this
  have h1 : k < rows.length := by omega
  refine ⟨h1, ?_, ?_⟩
  · have h2 : (rows.map (·.2))[k]? = (agHeards g)[k]? := by rw [he.2]
    unfold agHeards at h2
    rw [List.getElem?_map, List.getElem?_eq_getElem h1, List.getElem?_map, List.getElem?_range hk] at h2
    exact Option.some.inj h2
  · rw [he.1.hd k hk, List.getElem?_map, List.getElem?_eq_getElem h1]; rfl
theorem RgIs.congr (he : RgIs cs rows g) {g' : Ag} (h1 : g'.mem.length = g.mem.length) (h2 : ∀ w, agSaid g' w = agSaid g w) (h3 : gvOf g' = gvOf g) (h4 : ∀ k : Nat, k < 5 → (agGet g' (k : Int)).knew = (agGet g (k : Int)).knew ∧ (agGet g' (k : Int)).n = (agGet g (k : Int)).n ∧ (agGet g' (k : Int)).heard = (agGet g (k : Int)).heard) : RgIs cs rows g' := by
  refine ⟨he.1.congr _ h1.symm (fun w _ => (h2 _).symm) (fun w k _ _ => ?_) (fun w k _ _ => ?_) (fun w k _ hk => ?_) (fun k hk => ((h4 k hk).2.1).symm), ?_⟩
  · show rgSt g _ _ = rgSt g' _ _
    unfold rgSt; rw [h3]
  · show rgHas g _ _ = rgHas g' _ _
    unfold rgHas; rw [h3]
  · show decide _ = decide _
    rw [(h4 k hk).1]
  · rw [he.2]
    unfold agHeards
    refine List.map_congr_left fun k hk => ?_
    exact ((h4 k (by simpa using hk)).2.2).symm
theorem Own.rg_cells (he : RgIs cs rows g) (h : Own w0 (rgBlk q cs * R) w) :
    w.cell? ⟨q, 0, none⟩ = some (.int .i64 (g.mem.length : Int)) ∧ (∀ w', w' < 31 → w.cell? ⟨q, 1 + w', none⟩ = some (.bool (agSaid g (w' : Int)))) ∧
    (∀ v k, v < 31 → k < 5 → w.cell? ⟨q, 32 + v * 10 + k * 2, none⟩ = some (.int .i64 (rgSt g (v : Int) k).1) ∧ w.cell? ⟨q, 32 + v * 10 + k * 2 + 1, none⟩ = some (.int .i64 (rgSt g (v : Int) k).2) ∧
      w.cell? ⟨q, 342 + v * 5 + k, none⟩ = some (.bool (rgHas g (v : Int) k)) ∧ w.cell? ⟨q, 497 + v * 5 + k, none⟩ = some (.bool (decide ((v : Int) ∈ (agGet g (k : Int)).knew)))) ∧
    (∀ k, k < 5 → w.cell? ⟨q, 652 + k, none⟩ = some (.int .i64 (agGet g (k : Int)).n)) ∧ (∀ k r, rows[k]? = some r → w.cell? ⟨q, 657 + k, none⟩ = some r.1) ∧ ∀ i s, w.frozen? ⟨q, i, s⟩ = false :=
  ⟨by rw [Own.cell h]; exact he.1.n, fun v hv => by rw [Own.cell h]; exact he.1.was v hv,
    fun v k hv hk => ⟨by rw [Own.cell h]; exact he.1.s1 v k hv hk, by rw [Own.cell h]; exact he.1.s2 v k hv hk, by rw [Own.cell h]; exact he.1.has v k hv hk, by rw [Own.cell h]; exact he.1.knew v k hv hk⟩,
    fun k hk => by rw [Own.cell h]; exact he.1.most k hk, fun k r hr => by
      have hl : rows.length = 5 := by have := he.1.hl; rwa [List.length_map] at this
      have hk := (List.getElem?_eq_some_iff.1 hr).1
      rw [Own.cell h, he.1.hd k (by omega), List.getElem?_map, hr]; rfl, fun i s => Own.free h i s⟩
end
end Go.Proofs.YtpgonkecicmanaaDoor
/- Contracts of package agree, continued: check, Say, Heard. -/
namespace Go.Proofs.YtpgonkecicmanaaDoor
set_option linter.unusedVariables false
set_option linter.unusedSimpArgs false
open Go.RowKit Go.Maps
theorem mapgv_kind : Tryd.prog.underlying 126 = some (.map 3 137) := by kernel_rfl
theorem mapwho_kind : Tryd.prog.underlying 127 = some (.map 3 38) := by kernel_rfl
theorem stamps_zero : ∀ w, (zeroValue 137).run Tryd.prog w = .ok (.slice none 0 0) w := fun _ => by kernel_rfl
section
variable {w0 w : World} {p rb off cap gb wb : Nat} {rs : List AgR} {gs : List GRow} {ws : List WRow} {g : Ag} {R : HProp}
theorem Own.ag_gvlook (h : Own w0 (AgO p rb off cap gb wb rs gs ws * R) w) (x : Int) (hx : I64 x) (c : Bool) :
    (Instr.lookup 126 (.map (some gb)) (.int .i64 x) c).run Tryd.prog w = .ok (if c then .tuple #[((mget gs x).getD nilSt).1, .bool (mget gs x).isSome] else ((mget gs x).getD nilSt).1) w := by
  have h1 := (h.ag_gv.perm (show _ = Mp iK I64 gb (mvals Prod.fst gs) * _ by unfold MpS; rw [star_assoc])).map_look (int_ke int_kind) mapgv_kind stamps_zero hx c
  have h2 := mget_val Prod.fst gs x nilSt
  rw [show (nilSt).1 = Value.slice none 0 0 from rfl] at h2
  rw [h2, mget_mvals, Option.isSome_map] at h1
  exact h1
theorem agIs_some (he : agIs rs gs ws g) (x : Int) : (mget gs x).isSome = (mget g.given x).isSome := by
  rw [← he.2.1, mget_mvals, Option.isSome_map]
theorem agIs_len (he : agIs rs gs ws g) : rs.length = g.mem.length := by rw [← he.1, List.length_map]
theorem agIs_gv (he : agIs rs gs ws g) (x : Int) : ((mget gs x).getD nilSt).2 = gvOf g x := by
  unfold gvOf; rw [← he.2.1, mget_mvals]; cases mget gs x <;> rfl
end
theorem inR_iff {i : Int} {n : Nat} : inR i n = true ↔ 0 ≤ i ∧ i < n := by unfold inR; simp
set_option maxRecDepth 100000 in
set_option maxHeartbeats 4000000 in
theorem agCheck_any {w0 w : World} {R : HProp} (p : Nat) (g : Ag) (who word : Int) (h : Own w0 (AgP p g * R) w) :
    Calls Tryd.prog 66 #[.pointer (some ⟨p, 0, none⟩), .int .i64 who, .int .i64 word] w fun e w' => e = .returned (errV (agChk g who word)) ∧ w = w' := by
  obtain ⟨rb, off, cap, gb, wb, rs, gs, ws, he, ho⟩ := h.ag_open
  obtain ⟨c0, c1, c2, _, _, _, _⟩ := ho.ag_facts
  obtain ⟨n, hn⟩ : ∃ n, n = rs.length := ⟨_, rfl⟩
  have hgl : g.mem.length = n := by rw [hn, agIs_len he]
  rw [← hn] at c0
  obtain ⟨E, hE⟩ : ∃ E, E = agChk g who word := ⟨_, rfl⟩
  rw [← hE]
  unfold agChk at hE
  rw [hgl, ← agIs_some he] at hE
  cases hin : inR who n
  · rw [hin, if_pos rfl] at hE
    subst hE
    by_cases h0 : who < 0
    · have t0 : decide (who < 0) = true := by simpa using h0
      have H := Lib.hid h; have HO := Lib.hid ho; have HE := Lib.hid he; have HN := Lib.hid hn; have HGL := Lib.hid hgl; have HIN := Lib.hid hin; have H0 := Lib.hid h0
      clear h ho he hn hgl hin h0
      go_enter Tryd.func66, Tryd.ntmps66
      go_wp2
      go_ret
      exact ⟨rfl, rfl⟩
    · have t0 : decide (who < 0) = false := by simpa using h0
      have t1 : decide ((n : Int) ≤ who) = true := decide_eq_true (by have := mt (inR_iff (i := who) (n := n)).2 (by rw [hin]; simp); omega)
      have H := Lib.hid h; have HO := Lib.hid ho; have HE := Lib.hid he; have HN := Lib.hid hn; have HGL := Lib.hid hgl; have HIN := Lib.hid hin; have H0 := Lib.hid h0
      clear h ho he hn hgl hin h0
      go_enter Tryd.func66, Tryd.ntmps66
      go_wp2
      go_ret
      exact ⟨rfl, rfl⟩
  obtain ⟨i0, i1⟩ := inR_iff.1 hin
  have t0 : decide (who < 0) = false := decide_eq_false (by omega)
  have t1 : decide ((n : Int) ≤ who) = false := decide_eq_false (by omega)
  rw [hin, if_neg (show ¬ true = false by simp)] at hE
  cases hw : isWord word
  · rw [hw, if_pos rfl] at hE
    subst hE
    have H := Lib.hid h; have HO := Lib.hid ho; have HE := Lib.hid he; have HN := Lib.hid hn; have HGL := Lib.hid hgl; have HIN := Lib.hid hin; have HW := Lib.hid hw; have I0 := Lib.hid i0; have I1 := Lib.hid i1
    clear h ho he hn hgl hin hw i0 i1
    go_enter Tryd.func66, Tryd.ntmps66
    go_wp2_with fail
    refine (word_any _ _).mono ?_
    rintro e w' ⟨rfl, rfl⟩
    rw [HW.out]
    go_wp2
    go_ret
    exact ⟨rfl, rfl⟩
  rw [hw, if_neg (show ¬ true = false by simp)] at hE
  have hlk := ho.ag_gvlook word (isWord_I64 hw) true
  rw [if_pos rfl] at hlk
  obtain ⟨V, hV⟩ : ∃ V, V = ((mget gs word).getD nilSt).1 := ⟨_, rfl⟩
  obtain ⟨D, hD⟩ : ∃ D, D = (mget gs word).isSome := ⟨_, rfl⟩
  rw [← hV, ← hD] at hlk
  rw [← hD] at hE
  cases D
  · rw [if_pos rfl] at hE
    subst hE
    have H := Lib.hid h; have HO := Lib.hid ho; have HE := Lib.hid he; have HN := Lib.hid hn; have HGL := Lib.hid hgl; have HIN := Lib.hid hin; have HW := Lib.hid hw; have I0 := Lib.hid i0; have I1 := Lib.hid i1; have HV := Lib.hid hV; have HD := Lib.hid hD
    clear h ho he hn hgl hin hw i0 i1 hV hD
    go_enter Tryd.func66, Tryd.ntmps66
    go_wp2_with fail
    refine (word_any _ _).mono ?_
    rintro e w' ⟨rfl, rfl⟩
    rw [HW.out]
    go_wp2
    go_ret
    exact ⟨rfl, rfl⟩
  · rw [if_neg (show ¬ true = false by simp)] at hE
    subst hE
    have H := Lib.hid h; have HO := Lib.hid ho; have HE := Lib.hid he; have HN := Lib.hid hn; have HGL := Lib.hid hgl; have HIN := Lib.hid hin; have HW := Lib.hid hw; have I0 := Lib.hid i0; have I1 := Lib.hid i1; have HV := Lib.hid hV; have HD := Lib.hid hD
    clear h ho he hn hgl hin hw i0 i1 hV hD
    go_enter Tryd.func66, Tryd.ntmps66
    go_wp2_with fail
    refine (word_any _ _).mono ?_
    rintro e w' ⟨rfl, rfl⟩
    rw [HW.out]
    go_wp2
    go_ret
    exact ⟨rfl, rfl⟩
set_option maxRecDepth 100000 in
set_option maxHeartbeats 4000000 in
theorem agSay_any {w0 w : World} {R : HProp} (p : Nat) (g : Ag) (word : Int) (h : Own w0 (AgP p g * R) w) :
    Calls Tryd.prog 12 #[.pointer (some ⟨p, 0, none⟩), .int .i64 word] w fun e w' => e = .returned (errV (agSayErr g word)) ∧ Own w0 (AgP p (agSay g word) * R) w' := by
  obtain ⟨rb, off, cap, gb, wb, rs, gs, ws, he, ho⟩ := h.ag_open
  obtain ⟨c0, c1, c2, _, _, _, _⟩ := ho.ag_facts
  obtain ⟨E, hE⟩ : ∃ E, E = agSayErr g word := ⟨_, rfl⟩
  obtain ⟨S, hS⟩ : ∃ S, S = agSay g word := ⟨_, rfl⟩
  rw [← hE, ← hS]
  unfold agSay at hS
  rw [← hE] at hS
  unfold agSayErr at hE
  rw [← agIs_some he] at hE
  cases hw : isWord word
  · rw [hw, if_pos rfl] at hE
    subst hE
    rw [if_neg (by decide)] at hS
    subst hS
    have H := Lib.hid h; have HO := Lib.hid ho; have HE := Lib.hid he; have HW := Lib.hid hw
    clear h ho he hw
    go_enter Tryd.func12, Tryd.ntmps12
    go_wp2_with fail
    refine (word_any _ _).mono ?_
    rintro e w' ⟨rfl, rfl⟩
    rw [HW.out]
    go_wp2
    go_ret
    exact ⟨rfl, H.out⟩
  rw [hw, if_neg (show ¬ true = false by simp)] at hE
  have hwI := isWord_I64 hw
  have hlk := ho.ag_gvlook word hwI true
  rw [if_pos rfl] at hlk
  obtain ⟨V, hV⟩ : ∃ V, V = ((mget gs word).getD nilSt).1 := ⟨_, rfl⟩
  obtain ⟨D, hD⟩ : ∃ D, D = (mget gs word).isSome := ⟨_, rfl⟩
  rw [← hV, ← hD] at hlk
  rw [← hD] at hE
  cases D
  rotate_left
  · rw [if_pos rfl] at hE
    subst hE
    rw [if_neg (by decide)] at hS
    subst hS
    have H := Lib.hid h; have HO := Lib.hid ho; have HE := Lib.hid he; have HW := Lib.hid hw; have HV := Lib.hid hV; have HD := Lib.hid hD; have HWI := Lib.hid hwI
    clear h ho he hw hV hD hwI
    go_enter Tryd.func12, Tryd.ntmps12
    go_wp2_with fail
    refine (word_any _ _).mono ?_
    rintro e w' ⟨rfl, rfl⟩
    rw [HW.out]
    go_wp2
    go_ret
    exact ⟨rfl, H.out⟩
  rw [if_neg (show ¬ false = true by simp)] at hE
  subst hE
  rw [if_pos rfl] at hS
  have hnone : mget gs word = none := by
    cases hg : mget gs word with
    | none => rfl
    | some x => rw [hg] at hD; cases hD
  have HGV : Hid (Own w0 (Mp iK I64 gb (mvals Prod.fst gs) * (starL (fun q : GRow => stP q.2) gs * (agHd p rb off rs.length cap gb wb * (TabO agM agV 131 rb off cap rs * (MpS iK I64 rowP Prod.fst wb ws * R))))) w) := Lib.hid (ho.ag_gv.perm (by unfold MpS; ac_rfl))
  have hclose : ∀ w', Own w0 (Mp iK I64 gb (mput (mvals Prod.fst gs) word (.slice none 0 0)) * (starL (fun q : GRow => stP q.2) gs * (agHd p rb off rs.length cap gb wb * (TabO agM agV 131 rb off cap rs * (MpS iK I64 rowP Prod.fst wb ws * R))))) w' → Own w0 (AgP p S * R) w' := fun w' h' => by
    have hm : mput gs word nilSt = gs ++ [(word, nilSt)] := mput_new (mget_none.1 hnone)
    have hmv : mput (mvals Prod.fst gs) word (.slice none 0 0) = mvals Prod.fst (mput gs word nilSt) := by rw [← mput_mvals]; rfl
    refine Own.ag_close (rb := rb) (off := off) (cap := cap) (gb := gb) (wb := wb) (rs := rs) (gs := mput gs word nilSt) (ws := ws) ?_ (h'.perm ?_)
    · rw [hS]
      refine ⟨he.1, ?_, he.2.2⟩
      show mvals Prod.snd (mput gs word nilSt) = mput g.given word []
      rw [← mput_mvals, he.2.1]; rfl
    · rw [hmv]
      unfold AgO MpS
      rw [hm, starL_snoc, show stP (((word, nilSt) : GRow)).2 = emp from stP_nil, emp_star]
      ac_rfl
  have H := Lib.hid h; have HO := Lib.hid ho; have HE := Lib.hid he; have HW := Lib.hid hw; have HV := Lib.hid hV; have HD := Lib.hid hD; have HWI := Lib.hid hwI; have HS := Lib.hid hS; have HNONE := Lib.hid hnone; have HCLOSE := Lib.hid hclose
  clear h ho he hw hV hD hwI hS hnone hclose
  go_enter Tryd.func12, Tryd.ntmps12
  go_wp2_with fail
  refine (word_any _ _).mono ?_
  rintro e w' ⟨rfl, rfl⟩
  rw [HW.out]
  go_wp2_with (at_mapUpdate; refine wpList_put (v := .slice none 0 0) (x := word) (int_ke int_kind) mapgv_kind HGV.out HWI.out rfl _ _ _ rfl rfl rfl rfl ?_; intro w1 ho1; have HO1 := Lib.hid (HCLOSE.out _ ho1); clear ho1)
  go_ret
  exact ⟨rfl, HO1.out⟩
set_option maxRecDepth 100000 in
set_option maxHeartbeats 4000000 in
theorem agHeard_any {w0 w : World} {R : HProp} (p : Nat) (g : Ag) (who : Int) (hI : ∀ k : Nat, k < g.mem.length → (agGet g k).heard.length ≤ 1000 ∧ ∀ x ∈ (agGet g k).heard, I64 x) (h : Own w0 (AgP p g * R) w) :
    Calls Tryd.prog 18 #[.pointer (some ⟨p, 0, none⟩), .int .i64 who] w fun e w' => ∃ v', e = .returned (.tuple #[v', errV (agHeardErr g who)]) ∧ Own w0 (IntSl v' (agHeard g who) * (AgP p g * R)) w' := by
  obtain ⟨rb, off, cap, gb, wb, rs, gs, ws, he, ho⟩ := h.ag_open
  obtain ⟨c0, c1, c2, _, cm, hc1, hc2⟩ := ho.ag_facts
  have hgl := agIs_len he
  unfold maxLen at hc2
  cases hin : inR who rs.length
  · have hE : agHeardErr g who = 1 := by unfold agHeardErr; rw [← hgl, hin]; rfl
    have hS : agHeard g who = [] := by unfold agHeard; rw [← hgl, hin]; rfl
    rw [hE, hS]
    have HR := Lib.hid (h.sl_nil 3 1)
    obtain ⟨n, hn⟩ : ∃ n, n = rs.length := ⟨_, rfl⟩
    rw [← hn] at c0 hin hc1
    by_cases h0 : who < 0
    · have t0 : decide (who < 0) = true := by simpa using h0
      have H := Lib.hid h; have HO := Lib.hid ho; have HE := Lib.hid he; have HN := Lib.hid hn; have HGL := Lib.hid hgl; have HIN := Lib.hid hin; have H0 := Lib.hid h0; have HE := Lib.hid hE; have HS := Lib.hid hS; have HI := Lib.hid hI; have CM := Lib.hid cm
      clear h ho he hn hgl hin h0 hE hS hI cm
      go_enter Tryd.func18, Tryd.ntmps18
      go_wp2
      go_ret2
      exact ⟨_, rfl, HR.out⟩
    · have t0 : decide (who < 0) = false := by simpa using h0
      have t1 : decide ((n : Int) ≤ who) = true := decide_eq_true (by have := mt (inR_iff (i := who) (n := n)).2 (by rw [hin]; simp); omega)
      have H := Lib.hid h; have HO := Lib.hid ho; have HE := Lib.hid he; have HN := Lib.hid hn; have HGL := Lib.hid hgl; have HIN := Lib.hid hin; have H0 := Lib.hid h0; have HE := Lib.hid hE; have HS := Lib.hid hS; have HI := Lib.hid hI; have CM := Lib.hid cm
      clear h ho he hn hgl hin h0 hE hS hI cm
      go_enter Tryd.func18, Tryd.ntmps18
      go_wp2
      go_ret2
      exact ⟨_, rfl, HR.out⟩
  obtain ⟨i0, i1⟩ := inR_iff.1 hin
  obtain ⟨k, rfl⟩ : ∃ k : Nat, who = (k : Int) := ⟨who.toNat, by omega⟩
  have hk : k < rs.length := by omega
  have hkg : k < g.mem.length := by omega
  have hmk : g.mem[k] = rs[k].m := by
    have e : g.mem[k]? = some rs[k].m := by rw [← he.1, List.getElem?_map, List.getElem?_eq_getElem hk]; rfl
    exact (List.getElem?_eq_some_iff.1 e).2
  have hE : agHeardErr g k = 0 := by unfold agHeardErr; rw [← hgl, hin]; rfl
  have hS : agHeard g k = rs[k].m.heard := by unfold agHeard; rw [← hgl, hin, agGet_at hkg, hmk]; rfl
  obtain ⟨hb1, hb2⟩ := hI k hkg
  rw [agGet_at hkg, hmk] at hb1 hb2
  rw [hE, hS]
  have c5 := cm k rs[k] (by simp [hk])
  have ht := ho.ag_take hk
  obtain ⟨_, _, _, d3, _⟩ := ht.agm_facts
  have hrd : Ints w rs[k].hv rs[k].m.heard := IntSl_reads hb2 _ ht.agm_heard
  obtain ⟨r, hr⟩ : ∃ r, r = rs[k] := ⟨_, rfl⟩
  rw [← hr] at c5 d3 hrd hb1 hb2 ⊢
  obtain ⟨rp, hrp⟩ : ∃ x, x = r.p := ⟨_, rfl⟩
  unfold agV at c5
  rw [← hrp] at c5 d3
  obtain ⟨ad, cp, hs, _, _⟩ := hrd.shape
  rw [hs] at d3 hrd
  obtain ⟨L, hL⟩ : ∃ L, L = r.m.heard := ⟨_, rfl⟩
  rw [← hL] at hrd hb1 d3 ⊢
  obtain ⟨n, hn⟩ : ∃ n, n = rs.length := ⟨_, rfl⟩
  rw [← hn] at c0 hk hc1 i1
  have t0 : decide ((k : Int) < 0) = false := decide_eq_false (by omega)
  have t1 : decide (n ≤ k) = false := decide_eq_false (by omega)
  have t1' : decide ((n : Int) ≤ (k : Int)) = false := decide_eq_false (by omega)
  have H := Lib.hid h; have HO := Lib.hid ho; have HE := Lib.hid he; have HN := Lib.hid hn; have HGL := Lib.hid hgl; have HIN := Lib.hid hin; have HE := Lib.hid hE; have HS := Lib.hid hS; have HI := Lib.hid hI; have CM := Lib.hid cm; have HT := Lib.hid ht; have HR := Lib.hid hr; have HRP := Lib.hid hrp; have HS := Lib.hid hs; have HL := Lib.hid hL; have HB2 := Lib.hid hb2; have HMK := Lib.hid hmk; have HRD := Lib.hid hrd
  clear h ho he hn hgl hin hE hS hI cm ht hr hrp hs hL hb2 hmk hrd
  go_enter Tryd.func18, Tryd.ntmps18
  go_wp2_with fail
  refine (cloneInts_any H.out _ L HRD.out (by omega)).mono ?_
  rintro e w2 ⟨v', rfl, ho2⟩
  have HO2 := Lib.hid ho2
  clear ho2
  go_wp2
  go_ret2
  exact ⟨v', rfl, HO2.out⟩
end Go.Proofs.YtpgonkecicmanaaDoor
