/- A map that the call made, as a list of keys and values: look-up, store, removal, length. -/
import Derived.Test.YtddbjcpfgjcmnaaBase
import Derived.Maps.Keyed
namespace Go.Proofs.Ytddbjcpfgjcmnaa
set_option linter.unusedVariables false
set_option linter.unusedSimpArgs false
open Go.RowKit Go.Maps
set_option linter.unusedSectionVars false
section
variable {K : Type} [DecidableEq K]
/-- How keys are spelt, and that the model can compare them. -/
structure KE (P : Program) (k : TypeId) (enc : K → Value) (ok : K → Prop) : Prop where
  keyed : Keyed P k
  has : ∀ x, ok x → ∃ l, keyOf P k (enc x) = some l
  inj : ∀ x y, enc x = enc y → x = y
def MapIs (enc : K → Value) (ok : K → Prop) (es : List MapEntry) (m : List (K × Value)) : Prop :=
  es.map (fun e => (e.key, e.val)) = m.map (fun p => (enc p.1, p.2)) ∧ (m.map (·.1)).Nodup ∧ ∀ p ∈ m, ok p.1
/-- When a map's entries were born: each at its own time, all in the past. -/
def Born (es : List MapEntry) (clock : Nat) : Prop := (∀ x ∈ es, x.born < clock) ∧ (es.map (·.born)).Nodup
def Mp (enc : K → Value) (ok : K → Prop) (b : Nat) (m : List (K × Value)) : HProp := fun h => ∃ es clock, (MapIs enc ok es.toList m ∧ Born es.toList clock) ∧ h = hone b (.map es clock)
variable {V U : Type}
def mget : List (K × V) → K → Option V
  | [], _ => none
  | p :: r, x => if p.1 = x then some p.2 else mget r x
def mput : List (K × V) → K → V → List (K × V)
  | [], x, v => [(x, v)]
  | p :: r, x, v => if p.1 = x then (x, v) :: r else p :: mput r x v
def mdel : List (K × V) → K → List (K × V)
  | [], _ => []
  | p :: r, x => if p.1 = x then r else p :: mdel r x
theorem mget_none {m : List (K × V)} {x : K} : mget m x = none ↔ ∀ p ∈ m, p.1 ≠ x := by
  induction m with
  | nil => simp [mget]
  | cons p r ih =>
    unfold mget
    by_cases h : p.1 = x <;> simp [h, ih]
theorem mget_mput (m : List (K × V)) (x y : K) (v : V) : mget (mput m x v) y = if x = y then some v else mget m y := by
  induction m with
  | nil => simp [mput, mget]
  | cons p r ih =>
    unfold mput
    by_cases h : p.1 = x
    · subst h
      simp only [if_true, mget]
      by_cases h2 : p.1 = y <;> simp [h2]
    · simp only [if_neg h, mget, ih]
      by_cases h2 : p.1 = y
      · subst h2; have h' : ¬ x = p.1 := fun e => h e.symm
        simp [h']
      · simp [h2]
theorem mget_mdel (m : List (K × V)) (hn : (m.map (·.1)).Nodup) (x y : K) : mget (mdel m x) y = if x = y then none else mget m y := by
  induction m with
  | nil => simp [mdel, mget]
  | cons p r ih =>
    simp only [List.map_cons, List.nodup_cons] at hn
    unfold mdel
    by_cases h : p.1 = x
    · subst h
      simp only [if_true, mget]
      by_cases h2 : p.1 = y
      · subst h2
        simp only [if_true]
        exact mget_none.2 (fun q hq e => hn.1 (List.mem_map.2 ⟨q, hq, e⟩))
      · simp [h2]
    · simp only [if_neg h, mget, ih hn.2]
      by_cases h2 : p.1 = y
      · subst h2; have h' : ¬ x = p.1 := fun e => h e.symm
        simp [h']
      · simp [h2]
theorem mput_keys (m : List (K × V)) (x : K) (v : V) : (mput m x v).map (·.1) = if x ∈ m.map (·.1) then m.map (·.1) else m.map (·.1) ++ [x] := by
  induction m with
  | nil => simp [mput]
  | cons p r ih =>
    unfold mput
    by_cases h : p.1 = x
    · subst h; simp
    · rw [if_neg h, List.map_cons, ih, List.map_cons]
      have h' : ¬ x = p.1 := fun e => h e.symm
      by_cases h2 : x ∈ r.map (·.1)
      · rw [if_pos h2, if_pos (List.mem_cons_of_mem _ h2)]
      · rw [if_neg h2, if_neg (by simp only [List.mem_cons, not_or]; exact ⟨h', h2⟩)]; rfl
theorem mput_new {m : List (K × V)} {x : K} {v : V} (h : ∀ p ∈ m, p.1 ≠ x) : mput m x v = m ++ [(x, v)] := by
  induction m with
  | nil => rfl
  | cons p r ih => unfold mput; rw [if_neg (h p (by simp)), ih (fun q hq => h q (by simp [hq]))]; rfl
theorem mput_at {m : List (K × V)} {x : K} {v : V} (hn : (m.map (·.1)).Nodup) {j : Nat} {u : V} (h : m[j]? = some (x, u)) : mput m x v = m.set j (x, v) := by
  induction m generalizing j with
  | nil => simp at h
  | cons p r ih =>
    simp only [List.map_cons, List.nodup_cons] at hn
    cases j with
    | zero => simp at h; subst h; simp [mput]
    | succ j =>
      simp at h
      have : p.1 ≠ x := fun e => hn.1 (e ▸ List.mem_map.2 ⟨_, List.mem_of_getElem? h, rfl⟩)
      simp [mput, this, ih hn.2 h]
theorem mdel_none {m : List (K × V)} {x : K} (h : ∀ p ∈ m, p.1 ≠ x) : mdel m x = m := by
  induction m with
  | nil => rfl
  | cons p r ih => unfold mdel; rw [if_neg (h p (by simp)), ih (fun q hq => h q (by simp [hq]))]
theorem mdel_at {m : List (K × V)} {x : K} (hn : (m.map (·.1)).Nodup) {j : Nat} {u : V} (h : m[j]? = some (x, u)) : mdel m x = m.eraseIdx j := by
  induction m generalizing j with
  | nil => simp at h
  | cons p r ih =>
    simp only [List.map_cons, List.nodup_cons] at hn
    cases j with
    | zero => simp at h; subst h; simp [mdel]
    | succ j =>
      simp at h
      have : p.1 ≠ x := fun e => hn.1 (e ▸ List.mem_map.2 ⟨_, List.mem_of_getElem? h, rfl⟩)
      simp [mdel, this, ih hn.2 h]
theorem mget_at {m : List (K × V)} (hn : (m.map (·.1)).Nodup) {j : Nat} {x : K} {u : V} (h : m[j]? = some (x, u)) : mget m x = some u := by
  induction m generalizing j with
  | nil => simp at h
  | cons p r ih =>
    simp only [List.map_cons, List.nodup_cons] at hn
    cases j with
    | zero => simp at h; subst h; simp [mget]
    | succ j =>
      simp at h
      have : p.1 ≠ x := fun e => hn.1 (e ▸ List.mem_map.2 ⟨_, List.mem_of_getElem? h, rfl⟩)
      simp [mget, this, ih hn.2 h]
theorem mem_mput {m : List (K × V)} {x : K} {v : V} {p : K × V} (h : p ∈ mput m x v) : p ∈ m ∨ p = (x, v) := by
  induction m with
  | nil => simp [mput] at h; exact .inr h
  | cons q r ih =>
    unfold mput at h
    by_cases e : q.1 = x
    · rw [if_pos e] at h
      rcases List.mem_cons.1 h with h | h
      · exact .inr h
      · exact .inl (List.mem_cons_of_mem _ h)
    · rw [if_neg e] at h
      rcases List.mem_cons.1 h with h | h
      · exact .inl (by rw [h]; exact List.mem_cons_self)
      · rcases ih h with h | h
        · exact .inl (List.mem_cons_of_mem _ h)
        · exact .inr h
theorem mem_mdel {m : List (K × V)} {x : K} {p : K × V} (h : p ∈ mdel m x) : p ∈ m := by
  induction m with
  | nil => exact h
  | cons q r ih =>
    unfold mdel at h
    by_cases e : q.1 = x
    · rw [if_pos e] at h; exact List.mem_cons_of_mem _ h
    · rw [if_neg e] at h
      rcases List.mem_cons.1 h with h | h
      · rw [h]; exact List.mem_cons_self
      · exact List.mem_cons_of_mem _ (ih h)
theorem mput_nodup {m : List (K × V)} {x : K} {v : V} (h : (m.map (·.1)).Nodup) : ((mput m x v).map (·.1)).Nodup := by
  rw [mput_keys]
  split
  · exact h
  · rename_i hx; rw [List.nodup_append]; exact ⟨h, by simp, fun a ha b hb e => hx (by simp at hb; subst hb; exact e ▸ ha)⟩
theorem mdel_nodup {m : List (K × V)} {x : K} (h : (m.map (·.1)).Nodup) : ((mdel m x).map (·.1)).Nodup := by
  induction m with
  | nil => exact h
  | cons p r ih =>
    simp only [List.map_cons, List.nodup_cons] at h
    unfold mdel
    split
    · exact h.2
    · simp only [List.map_cons, List.nodup_cons]
      refine ⟨fun hx => h.1 ?_, ih h.2⟩
      obtain ⟨q, hq, e⟩ := List.mem_map.1 hx
      exact List.mem_map.2 ⟨q, mem_mdel hq, e⟩
/-- The values of a map, spelt otherwise. -/
def mvals (f : V → U) (m : List (K × V)) : List (K × U) := m.map fun p => (p.1, f p.2)
theorem mvals_nil (f : V → U) : mvals f ([] : List (K × V)) = [] := rfl
theorem mvals_len (f : V → U) (m : List (K × V)) : (mvals f m).length = m.length := by simp [mvals]
theorem mget_mvals (f : V → U) (m : List (K × V)) (x : K) : mget (mvals f m) x = (mget m x).map f := by
  induction m with
  | nil => rfl
  | cons p r ih =>
    unfold mvals at ih ⊢
    rw [List.map_cons]; unfold mget
    by_cases h : p.1 = x <;> simp [h, ih]
theorem mput_mvals (f : V → U) (m : List (K × V)) (x : K) (v : V) : mput (mvals f m) x (f v) = mvals f (mput m x v) := by
  induction m with
  | nil => rfl
  | cons p r ih =>
    unfold mvals at ih ⊢
    rw [List.map_cons]; unfold mput
    by_cases h : p.1 = x <;> simp [h, ih]
theorem mdel_mvals (f : V → U) (m : List (K × V)) (x : K) : mdel (mvals f m) x = mvals f (mdel m x) := by
  induction m with
  | nil => rfl
  | cons p r ih =>
    unfold mvals at ih ⊢
    rw [List.map_cons]; unfold mdel
    by_cases h : p.1 = x <;> simp [h, ih]
theorem mdel_len {m : List (K × V)} {x : K} {v : V} (h : mget m x = some v) : (mdel m x).length + 1 = m.length := by
  induction m with
  | nil => simp [mget] at h
  | cons p r ih =>
    unfold mget at h; unfold mdel
    by_cases e : p.1 = x
    · simp [e]
    · rw [if_neg e] at h ⊢; simp [ih h]
theorem mput_len_new {m : List (K × V)} {x : K} {v : V} (h : mget m x = none) : (mput m x v).length = m.length + 1 := by
  rw [mput_new (mget_none.1 h)]; simp
variable {P : Program} {k : TypeId} {enc : K → Value} {ok : K → Prop}
theorem MapIs.entry {es : List MapEntry} {m : List (K × Value)} (h : MapIs enc ok es m) {j : Nat} {e : MapEntry} (he : es[j]? = some e) : ∃ y, m[j]? = some (y, e.val) ∧ e.key = enc y := by
  have := congrArg (·[j]?) h.1
  simp only [List.getElem?_map, he, Option.map_some] at this
  cases hm : m[j]? with
  | none => rw [hm] at this; cases this
  | some p =>
    rw [hm] at this
    simp only [Option.map_some, Option.some.injEq, Prod.mk.injEq] at this
    exact ⟨p.1, by rw [this.2], this.1⟩
theorem MapIs.find (E : KE P k enc ok) (w : World) {es : List MapEntry} {m : List (K × Value)} (h : MapIs enc ok es m) {x : K} (hx : ok x) :
    ((Instr.findKey k (enc x) es).run P w = .ok none w ∧ (∀ e ∈ es, e.key ≠ enc x) ∧ ∀ p ∈ m, p.1 ≠ x) ∨
    ∃ j e, (Instr.findKey k (enc x) es).run P w = .ok (some (j, e.val)) w ∧ es[j]? = some e ∧ e.key = enc x ∧ m[j]? = some (x, e.val) := by
  obtain ⟨l, hl⟩ := E.has x hx
  rcases E.keyed.find w hl es (fun e he => by
    obtain ⟨j, hj, rfl⟩ := List.getElem_of_mem he
    obtain ⟨y, hy, hk⟩ := h.entry (List.getElem?_eq_getElem hj)
    rw [hk]
    exact E.has y (h.2.2 _ (List.mem_of_getElem? hy))) with ⟨h1, h2⟩ | ⟨j, e, h1, h2, h3⟩
  · refine .inl ⟨h1, h2, fun p hp hpx => ?_⟩
    obtain ⟨j, hj, rfl⟩ := List.getElem_of_mem hp
    have := congrArg (·[j]?) h.1
    simp only [List.getElem?_map, List.getElem?_eq_getElem hj, Option.map_some] at this
    cases he : es[j]? with
    | none => rw [he] at this; cases this
    | some e =>
      rw [he] at this
      simp only [Option.map_some, Option.some.injEq, Prod.mk.injEq] at this
      exact h2 e (List.mem_of_getElem? he) (by rw [this.1, hpx])
  · obtain ⟨y, hy, hk⟩ := h.entry h2
    have : y = x := E.inj _ _ (hk.symm.trans h3)
    subst this
    exact .inr ⟨j, e, h1, h2, h3, hy⟩
theorem born_push {es : Array MapEntry} {clock : Nat} {k v : Value} (h : Born es.toList clock) : Born (es.push ⟨k, v, clock⟩).toList (clock + 1) := by
  rw [Array.toList_push]
  refine ⟨fun x hx => ?_, ?_⟩
  · rcases List.mem_append.1 hx with hx | hx
    · exact Nat.lt_succ_of_lt (h.1 x hx)
    · simp at hx; subst hx; exact Nat.lt_succ_self _
  · rw [List.map_append, List.nodup_append]
    refine ⟨h.2, by simp, fun a ha b hb e => ?_⟩
    simp at hb
    subst hb
    obtain ⟨x, hx, rfl⟩ := List.mem_map.1 ha
    have := h.1 x hx
    omega
theorem born_modify {es : List MapEntry} {clock : Nat} (h : Born es clock) (j : Nat) (f : MapEntry → MapEntry) (hf : ∀ x, (f x).born = x.born) : Born (es.modify j f) clock := by
  have e : (es.modify j f).map (·.born) = es.map (·.born) := by
    apply List.ext_getElem?
    intro i
    simp only [List.getElem?_map, List.getElem?_modify]
    cases es[i]? with
    | none => simp
    | some x => by_cases h : j = i <;> simp [h, hf]
  refine ⟨fun x hx => ?_, by rw [e]; exact h.2⟩
  have : x.born ∈ (es.modify j f).map (·.born) := List.mem_map.2 ⟨x, hx, rfl⟩
  rw [e] at this
  obtain ⟨y, hy, e2⟩ := List.mem_map.1 this
  rw [← e2]; exact h.1 y hy
theorem born_erase {es : List MapEntry} {clock : Nat} (h : Born es clock) (j : Nat) : Born (es.eraseIdx j) clock :=
  ⟨fun x hx => h.1 x (List.mem_of_mem_eraseIdx hx), by rw [Go.ChangeMaps.map_eraseIdx]; exact h.2.sublist (List.eraseIdx_sublist _ _)⟩
theorem Own.map_at {w0 w : World} {b : Nat} {m : List (K × Value)} {R : HProp} (h : Own w0 (Mp enc ok b m * R) w) : ∃ es clock, MapIs enc ok es.toList m ∧ Born es.toList clock ∧ Own w0 (blk b (.map es clock) * R) w := by
  have h2 : Own w0 (hex (fun x : Array MapEntry × Nat => fun h => (MapIs enc ok x.1.toList m ∧ Born x.1.toList x.2) ∧ h = hone b (.map x.1 x.2)) * R) w := h.cons (fun hp ⟨es, clock, hx⟩ => ⟨(es, clock), hx⟩)
  obtain ⟨⟨es, clock⟩, h3⟩ := h2.ex
  have h4 : Own w0 (pur (MapIs enc ok es.toList m ∧ Born es.toList clock) * (blk b (.map es clock) * R)) w := h3.mono fun hp hh => by
    obtain ⟨p, q, d, rfl, ⟨h1, h2⟩, hq⟩ := hh
    exact pur_star.2 ⟨h1, p, q, d, rfl, h2, hq⟩
  exact ⟨es, clock, h4.pur_out.1.1, h4.pur_out.1.2, h4.pur_out.2⟩
theorem Own.map_mk {w0 w : World} {b : Nat} {m : List (K × Value)} {R : HProp} {es : Array MapEntry} {clock : Nat} (hm : MapIs enc ok es.toList m) (hbn : Born es.toList clock) (h : Own w0 (blk b (.map es clock) * R) w) : Own w0 (Mp enc ok b m * R) w :=
  h.cons fun _ hh => ⟨es, clock, ⟨hm, hbn⟩, hh⟩
theorem Own.map_new {w0 w : World} {R : HProp} (h : Own w0 R w) : Own w0 (Mp enc ok w.heap.size ([] : List (K × Value)) * R) (w.alloc (.map #[] 0)) :=
  Own.map_mk ⟨rfl, by simp, by simp⟩ ⟨by simp, by simp⟩ (h.alloc _)
theorem Own.map_nodup {w0 w : World} {b : Nat} {m : List (K × Value)} {R : HProp} (h : Own w0 (Mp enc ok b m * R) w) : (m.map (·.1)).Nodup := by
  obtain ⟨es, clock, hm, _, _⟩ := h.map_at
  exact hm.2.1
theorem Own.map_ok {w0 w : World} {b : Nat} {m : List (K × Value)} {R : HProp} (h : Own w0 (Mp enc ok b m * R) w) : ∀ p ∈ m, ok p.1 := by
  obtain ⟨es, clock, hm, _, _⟩ := h.map_at
  exact hm.2.2
theorem Own.map_look (E : KE P k enc ok) {t e : TypeId} (ht : P.underlying t = some (.map k e)) {z : Value} (hz : ∀ w, (zeroValue e).run P w = .ok z w) {w0 w : World} {b : Nat} {m : List (K × Value)} {R : HProp}
    (h : Own w0 (Mp enc ok b m * R) w) {x : K} (hx : ok x) (c : Bool) : (Instr.lookup t (.map (some b)) (enc x) c).run P w = .ok (if c then .tuple #[(mget m x).getD z, .bool (mget m x).isSome] else (mget m x).getD z) w := by
  obtain ⟨es, clock, hm, hbn, ho⟩ := h.map_at
  have hb := ho.blk_at.1
  obtain ⟨l, hl⟩ := E.has x hx
  rcases hm.find E w hx with ⟨h1, h2, h3⟩ | ⟨j, en, h1, h2, h3, h4⟩
  · have hg : mget m x = none := mget_none.2 h3
    cases c <;> simp [Instr.lookup, run_underlying ht, MapKept.run_getObj_map hb, E.keyed.check w _ hl, h1, hz, hg, Result.andThen]
  · have hg : mget m x = some en.val := mget_at hm.2.1 h4
    cases c <;> simp [Instr.lookup, run_underlying ht, MapKept.run_getObj_map hb, E.keyed.check w _ hl, h1, hg, Result.andThen]
theorem Own.map_put (E : KE P k enc ok) {t e : TypeId} (ht : P.underlying t = some (.map k e)) {w0 w : World} {b : Nat} {m : List (K × Value)} {R : HProp}
    (h : Own w0 (Mp enc ok b m * R) w) {x : K} (hx : ok x) (v : Value) : ∃ w', (Instr.mapUpdate t (.map (some b)) (enc x) v).run P w = .ok () w' ∧ Own w0 (Mp enc ok b (mput m x v) * R) w' := by
  obtain ⟨es, clock, hm, hbn, ho⟩ := h.map_at
  have hb := ho.blk_at.1
  obtain ⟨l, hl⟩ := E.has x hx
  have hset : ∀ o', Own w0 (blk b o' * R) { w with heap := w.heap.setIfInBounds b o' } := fun o' => by
    refine ho.set rfl rfl rfl (by simp) (fun q _ hq => by simp [Array.getElem?_setIfInBounds, Ne.symm hq]) ?_
    have := ho.lt
    simp [this]
  have hkeep : ∀ p ∈ mput m x v, ok p.1 := fun p hp => by
    rcases mem_mput hp with hp | rfl
    · exact hm.2.2 p hp
    · exact hx
  rcases hm.find E w hx with ⟨h1, h2, h3⟩ | ⟨j, en, h1, h2, h3, h4⟩
  · refine ⟨_, ?_, Own.map_mk (es := es.push ⟨enc x, v, clock⟩) (clock := clock + 1) ⟨?_, mput_nodup hm.2.1, hkeep⟩ (born_push hbn) (hset _)⟩
    · simp [Instr.mapUpdate, run_underlying ht, MapKept.run_getObj_map hb, E.keyed.check w _ hl, h1, MapKept.run_setObj_map _ hb, Result.andThen]
    · rw [mput_new h3, Array.toList_push, List.map_append, List.map_append, hm.1]; rfl
  · have hj : es[j]? = some en := by simpa using h2
    refine ⟨_, ?_, Own.map_mk (es := es.modify j (fun e' => { e' with key := enc x, val := v })) (clock := clock) ⟨?_, mput_nodup hm.2.1, hkeep⟩ (by rw [Array.toList_modify]; exact born_modify hbn j _ (fun _ => rfl)) (hset _)⟩
    · simp [Instr.mapUpdate, run_underlying ht, MapKept.run_getObj_map hb, E.keyed.check w _ hl, h1, hj, h3, E.keyed.stays w hl, MapKept.run_setObj_map _ hb, Result.andThen]
    · rw [mput_at hm.2.1 h4, Array.toList_modify, Go.ChangeMaps.modify_eq_set _ _ _ _ h2, List.map_set, List.map_set, hm.1]
theorem Own.map_del (E : KE P k enc ok) {t e : TypeId} (ht : P.underlying t = some (.map k e)) {w0 w : World} {b : Nat} {m : List (K × Value)} {R : HProp} (ty : TypeId)
    (h : Own w0 (Mp enc ok b m * R) w) {x : K} (hx : ok x) : ∃ w', (Builtin.delete_ #[t, k] ty #[.map (some b), enc x]).run P w = .ok (.tuple #[]) w' ∧ Own w0 (Mp enc ok b (mdel m x) * R) w' := by
  obtain ⟨es, clock, hm, hbn, ho⟩ := h.map_at
  have hb := ho.blk_at.1
  obtain ⟨l, hl⟩ := E.has x hx
  have hset : ∀ o', Own w0 (blk b o' * R) { w with heap := w.heap.setIfInBounds b o' } := fun o' => by
    refine ho.set rfl rfl rfl (by simp) (fun q _ hq => by simp [Array.getElem?_setIfInBounds, Ne.symm hq]) ?_
    have := ho.lt
    simp [this]
  have hkeep : ∀ p ∈ mdel m x, ok p.1 := fun p hp => hm.2.2 p (mem_mdel hp)
  rcases hm.find E w hx with ⟨h1, h2, h3⟩ | ⟨j, en, h1, h2, h3, h4⟩
  · refine ⟨_, ?_, Own.map_mk (es := es) (clock := clock) ⟨?_, mdel_nodup hm.2.1, hkeep⟩ hbn (hset _)⟩
    · simp [Builtin.delete_, run_underlying ht, MapKept.run_getObj_map hb, E.keyed.check w _ hl, h1, MapKept.run_setObj_map _ hb, Result.andThen]
    · rw [mdel_none h3, hm.1]
  · have hj : es[j]? = some en := by simpa using h2
    have hjl : j < es.size := (Array.getElem?_eq_some_iff.1 hj).1
    refine ⟨_, ?_, Own.map_mk (es := es.eraseIdxIfInBounds j) (clock := clock) ⟨?_, mdel_nodup hm.2.1, hkeep⟩ (by rw [Array.eraseIdxIfInBounds, dif_pos hjl, Array.toList_eraseIdx]; exact born_erase hbn j) (hset _)⟩
    · simp [Builtin.delete_, run_underlying ht, MapKept.run_getObj_map hb, E.keyed.check w _ hl, h1, MapKept.run_setObj_map _ hb, Result.andThen]
    · rw [mdel_at hm.2.1 h4, Array.eraseIdxIfInBounds, dif_pos hjl, Array.toList_eraseIdx, Go.ChangeMaps.map_eraseIdx, Go.ChangeMaps.map_eraseIdx, hm.1]
theorem Own.map_size {w0 w : World} {b : Nat} {m : List (K × Value)} {R : HProp} (h : Own w0 (Mp enc ok b m * R) w) : ∃ es clock, w.heap[b]? = some (.map es clock) ∧ es.size = m.length := by
  obtain ⟨es, clock, hm, hbn, ho⟩ := h.map_at
  refine ⟨es, clock, ho.blk_at.1, ?_⟩
  have := congrArg List.length hm.1
  simpa using this
theorem Own.map_len {t e : TypeId} (ht : P.underlying t = some (.map k e)) {w0 w : World} {b : Nat} {m : List (K × Value)} {R : HProp} (h : Own w0 (Mp enc ok b m * R) w) (ty : TypeId) :
    (Builtin.len_ #[t] ty #[.map (some b)]).run P w = .ok (.int .i64 m.length) w := by
  obtain ⟨es, clock, hb, he⟩ := h.map_size
  simp [Builtin.len_, run_underlying ht, MapKept.run_getObj_map hb, goInt, Result.andThen, he]
/-- A look-up, at the operation. -/
theorem wpList_look (E : KE P k enc ok) {t e : TypeId} (ht : P.underlying t = some (.map k e)) {z : Value} (hz : ∀ w, (zeroValue e).run P w = .ok z w) {ops : Array Oper} {rest : List Oper} {o : Oper} {a : Act} {Q : Exit → Act → World → Prop}
    {w0 w : World} {b : Nat} {m : List (K × Value)} {R : HProp} (hown : Own w0 (Mp enc ok b m * R) w) {x : K} (hx : ok x)
    (hg : o.guard = none) (mo xo : Operand) (hop : o.op = Op.lookup t mo xo false) (hm : a.eval mo = .map (some b)) (hxo : a.eval xo = enc x)
    (hK : wpList P ops Q rest (a.put o.dst ((mget m x).getD z)) w) : wpList P ops Q (o :: rest) a w := by
  refine wpList_plain hg fun K' hK' => ?_
  have hrun := hown.map_look E ht hz hx false
  unfold Oper.wp
  simp [execOp, hop, hm, hxo, hrun, Result.andThen]
  exact hK' _ _ hK
theorem wpList_look2 (E : KE P k enc ok) {t e : TypeId} (ht : P.underlying t = some (.map k e)) {z : Value} (hz : ∀ w, (zeroValue e).run P w = .ok z w) {ops : Array Oper} {rest : List Oper} {o : Oper} {a : Act} {Q : Exit → Act → World → Prop}
    {w0 w : World} {b : Nat} {m : List (K × Value)} {R : HProp} (hown : Own w0 (Mp enc ok b m * R) w) {x : K} (hx : ok x)
    (hg : o.guard = none) (mo xo : Operand) (hop : o.op = Op.lookup t mo xo true) (hm : a.eval mo = .map (some b)) (hxo : a.eval xo = enc x)
    (hK : wpList P ops Q rest (a.put o.dst (.tuple #[(mget m x).getD z, .bool (mget m x).isSome])) w) : wpList P ops Q (o :: rest) a w := by
  refine wpList_plain hg fun K' hK' => ?_
  have hrun := hown.map_look E ht hz hx true
  unfold Oper.wp
  simp [execOp, hop, hm, hxo, hrun, Result.andThen]
  exact hK' _ _ hK
/-- A store, at the operation. -/
theorem wpList_put (E : KE P k enc ok) {t e : TypeId} (ht : P.underlying t = some (.map k e)) {ops : Array Oper} {rest : List Oper} {o : Oper} {a : Act} {Q : Exit → Act → World → Prop}
    {w0 w : World} {b : Nat} {m : List (K × Value)} {R : HProp} (hown : Own w0 (Mp enc ok b m * R) w) {x : K} (hx : ok x)
    (hg : o.guard = none) (mo xo vo : Operand) (hop : o.op = Op.mapUpdate t mo xo vo) (hm : a.eval mo = .map (some b)) (hxo : a.eval xo = enc x) {v : Value} (hv : a.eval vo = v)
    (hK : ∀ w', Own w0 (Mp enc ok b (mput m x v) * R) w' → wpList P ops Q rest (a.put o.dst undef) w') : wpList P ops Q (o :: rest) a w := by
  refine wpList_plain hg fun K' hK' => ?_
  obtain ⟨w', hrun, ho⟩ := hown.map_put E ht hx v
  unfold Oper.wp
  simp [execOp, hop, hm, hxo, hv, hrun, Result.andThen]
  exact hK' _ _ (hK w' ho)
theorem wpList_del (E : KE P k enc ok) {t e : TypeId} (ht : P.underlying t = some (.map k e)) {ops : Array Oper} {rest : List Oper} {o : Oper} {a : Act} {Q : Exit → Act → World → Prop}
    {w0 w : World} {b : Nat} {m : List (K × Value)} {R : HProp} (hown : Own w0 (Mp enc ok b m * R) w) {x : K} (hx : ok x)
    (hg : o.guard = none) (mo xo : Operand) (hop : o.op = Op.call { callee := Callee.builtin Builtin.delete, args := #[mo, xo], argTypes := #[t, k] }) (hm : a.eval mo = .map (some b)) (hxo : a.eval xo = enc x)
    (hK : ∀ w', Own w0 (Mp enc ok b (mdel m x) * R) w' → wpList P ops Q rest (a.put o.dst (.tuple #[])) w') : wpList P ops Q (o :: rest) a w := by
  refine wpList_plain hg fun K' hK' => ?_
  obtain ⟨w', hrun, ho⟩ := hown.map_del E ht o.type hx
  unfold Oper.wp
  simp [execOp, hop, hm, hxo, resolve, invoke, builtin, hrun, Result.andThen]
  exact hK' _ _ (hK w' ho)
theorem step_del (E : KE P k enc ok) {t e : TypeId} (ht : P.underlying t = some (.map k e)) {ops : Array Oper} {o : Oper} {a : Act} {K' : Act → World → Prop} {Q : Exit → Act → World → Prop} {E' : Prop}
    {w0 w : World} {b : Nat} {m : List (K × Value)} {R : HProp} (hown : Own w0 (Mp enc ok b m * R) w) {x : K} (hx : ok x)
    (hg : o.guard = none) (mo xo : Operand) (hop : o.op = Op.call { callee := Callee.builtin Builtin.delete, args := #[mo, xo], argTypes := #[t, k] }) (hm : a.eval mo = .map (some b)) (hxo : a.eval xo = enc x)
    (hK : ∀ w', Own w0 (Mp enc ok b (mdel m x) * R) w' → K' (a.put o.dst (.tuple #[])) w') : if Region.wanted o (yielded ops a.tmps) = true then Oper.wp P o a w K' Q else E' := by
  have hw : Region.wanted o (yielded ops a.tmps) = true := by simp [Region.wanted, hg]
  rw [if_pos hw]
  obtain ⟨w', hrun, ho⟩ := hown.map_del E ht o.type hx
  unfold Oper.wp
  simp [execOp, hop, hm, hxo, resolve, invoke, builtin, hrun, Result.andThen]
  exact hK w' ho
theorem step_put (E : KE P k enc ok) {t e : TypeId} (ht : P.underlying t = some (.map k e)) {ops : Array Oper} {o : Oper} {a : Act} {K' : Act → World → Prop} {Q : Exit → Act → World → Prop} {E' : Prop}
    {w0 w : World} {b : Nat} {m : List (K × Value)} {R : HProp} (hown : Own w0 (Mp enc ok b m * R) w) {x : K} (hx : ok x)
    (hg : o.guard = none) (mo xo vo : Operand) (hop : o.op = Op.mapUpdate t mo xo vo) (hm : a.eval mo = .map (some b)) (hxo : a.eval xo = enc x) {v : Value} (hv : a.eval vo = v)
    (hK : ∀ w', Own w0 (Mp enc ok b (mput m x v) * R) w' → K' (a.put o.dst undef) w') : if Region.wanted o (yielded ops a.tmps) = true then Oper.wp P o a w K' Q else E' := by
  have hw : Region.wanted o (yielded ops a.tmps) = true := by simp [Region.wanted, hg]
  rw [if_pos hw]
  obtain ⟨w', hrun, ho⟩ := hown.map_put E ht hx v
  unfold Oper.wp
  simp [execOp, hop, hm, hxo, hv, hrun, Result.andThen]
  exact hK w' ho
end
theorem I64_wf {a : Int} (h : I64 a) : (Lit.int .i64 a).wf = true := by
  obtain ⟨h1, h2⟩ := h
  simp [Lit.wf, IntKind.min, IntKind.max, IntKind.signed, IntKind.bits]; omega
/-- Keys of the kind int. -/
theorem int_ke {P : Program} {k : TypeId} (hk : P.underlying k = some (.int .i64)) : KE P k (fun n : Int => Value.int .i64 n) I64 :=
  ⟨int_keyed hk, fun _ hx => ⟨_, keyOf_int_mk hk (I64_wf hx)⟩, fun _ _ h => by injection h⟩
end Go.Proofs.Ytddbjcpfgjcmnaa
