/- A map that the call made, as a list of keys and values: look-up, store, removal, length. -/
import Derived.Test.YtdfjbnfdknpahaaGreatDoorMRunAnswers0
import Derived.Maps.Keyed
import Derived.Test.YtdfjbnfdknpahaaGreatDoorMRunAnswers1
import Derived.Deep.RegionLaw
import Derived.Deep.RegionHeld3
import Derived.DeepKeys3
import Derived.Deep.LoopGhost
import Derived.StillTailTactics
namespace Go.Proofs.YtdfjbnfdknpahaaGreatDoor
set_option linter.unusedVariables false
set_option linter.unusedSimpArgs false
open Go.RowKit Go.Maps
set_option linter.unusedSectionVars false
section
variable {K : Type} [DecidableEq K]
/-- How keys are spelt, and that the model can compare them. -/
structure KE (P : Program) (k : TypeId) (enc : K → Value) (ok : K → Prop) : Prop where
  keyed : Keyed P k
  has : ∀ x, ok x → ∃ l, keyOf P k (enc x) = some l
  inj : ∀ x y, enc x = enc y → x = y
def MapIs (enc : K → Value) (ok : K → Prop) (es : List MapEntry) (m : List (K × Value)) : Prop :=
  es.map (fun e => (e.key, e.val)) = m.map (fun p => (enc p.1, p.2)) ∧ (m.map (·.1)).Nodup ∧ ∀ p ∈ m, ok p.1
/-- When a map's entries were born: each at its own time, all in the past. -/
def Born (es : List MapEntry) (clock : Nat) : Prop := (∀ x ∈ es, x.born < clock) ∧ (es.map (·.born)).Nodup
def Mp (enc : K → Value) (ok : K → Prop) (b : Nat) (m : List (K × Value)) : HProp := fun h => ∃ es clock, (MapIs enc ok es.toList m ∧ Born es.toList clock) ∧ h = hone b (.map es clock)
variable {V U : Type}
def mget : List (K × V) → K → Option V
  | [], _ => none
  | p :: r, x => if p.1 = x then some p.2 else mget r x
def mput : List (K × V) → K → V → List (K × V)
  | [], x, v => [(x, v)]
  | p :: r, x, v => if p.1 = x then (x, v) :: r else p :: mput r x v
def mdel : List (K × V) → K → List (K × V)
  | [], _ => []
  | p :: r, x => if p.1 = x then r else p :: mdel r x
theorem mget_none {m : List (K × V)} {x : K} : mget m x = none ↔ ∀ p ∈ m, p.1 ≠ x := by
  induction m with
  | nil => simp [mget]
  | cons p r ih =>
    unfold mget
    by_cases h : p.1 = x <;> simp [h, ih]
theorem mget_mput (m : List (K × V)) (x y : K) (v : V) : mget (mput m x v) y = if x = y then some v else mget m y := by
  induction m with
  | nil => simp [mput, mget]
  | cons p r ih =>
    unfold mput
    by_cases h : p.1 = x
    · subst h
      simp only [if_true, mget]
      by_cases h2 : p.1 = y <;> simp [h2]
    · simp only [if_neg h, mget, ih]
      by_cases h2 : p.1 = y
      · subst h2; have h' : ¬ x = p.1 := fun e => h e.symm
        simp [h']
      · simp [h2]
theorem mput_keys (m : List (K × V)) (x : K) (v : V) : (mput m x v).map (·.1) = if x ∈ m.map (·.1) then m.map (·.1) else m.map (·.1) ++ [x] := by
  induction m with
  | nil => simp [mput]
  | cons p r ih =>
    unfold mput
    by_cases h : p.1 = x
    · subst h; simp
    · rw [if_neg h, List.map_cons, ih, List.map_cons]
      have h' : ¬ x = p.1 := fun e => h e.symm
      by_cases h2 : x ∈ r.map (·.1)
      · rw [if_pos h2, if_pos (List.mem_cons_of_mem _ h2)]
      · rw [if_neg h2, if_neg (by simp only [List.mem_cons, not_or]; exact ⟨h', h2⟩)]; rfl
theorem mput_new {m : List (K × V)} {x : K} {v : V} (h : ∀ p ∈ m, p.1 ≠ x) : mput m x v = m ++ [(x, v)] := by
  induction m with
  | nil => rfl
  | cons p r ih => unfold mput; rw [if_neg (h p (by simp)), ih (fun q hq => h q (by simp [hq]))]; rfl
theorem mput_at {m : List (K × V)} {x : K} {v : V} (hn : (m.map (·.1)).Nodup) {j : Nat} {u : V} (h : m[j]? = some (x, u)) : mput m x v = m.set j (x, v) := by
  induction m generalizing j with
  | nil => simp at h
  | cons p r ih =>
    simp only [List.map_cons, List.nodup_cons] at hn
    cases j with
    | zero => simp at h; subst h; simp [mput]
    | succ j =>
      simp at h
      have : p.1 ≠ x := fun e => hn.1 (e ▸ List.mem_map.2 ⟨_, List.mem_of_getElem? h, rfl⟩)
      simp [mput, this, ih hn.2 h]
theorem mget_at {m : List (K × V)} (hn : (m.map (·.1)).Nodup) {j : Nat} {x : K} {u : V} (h : m[j]? = some (x, u)) : mget m x = some u := by
  induction m generalizing j with
  | nil => simp at h
  | cons p r ih =>
    simp only [List.map_cons, List.nodup_cons] at hn
    cases j with
    | zero => simp at h; subst h; simp [mget]
    | succ j =>
      simp at h
      have : p.1 ≠ x := fun e => hn.1 (e ▸ List.mem_map.2 ⟨_, List.mem_of_getElem? h, rfl⟩)
      simp [mget, this, ih hn.2 h]
theorem mem_mput {m : List (K × V)} {x : K} {v : V} {p : K × V} (h : p ∈ mput m x v) : p ∈ m ∨ p = (x, v) := by
  induction m with
  | nil => simp [mput] at h; exact .inr h
  | cons q r ih =>
    unfold mput at h
    by_cases e : q.1 = x
    · rw [if_pos e] at h
      rcases List.mem_cons.1 h with h | h
      · exact .inr h
      · exact .inl (List.mem_cons_of_mem _ h)
    · rw [if_neg e] at h
      rcases List.mem_cons.1 h with h | h
      · exact .inl (by rw [h]; exact List.mem_cons_self)
      · rcases ih h with h | h
        · exact .inl (List.mem_cons_of_mem _ h)
        · exact .inr h
theorem mput_nodup {m : List (K × V)} {x : K} {v : V} (h : (m.map (·.1)).Nodup) : ((mput m x v).map (·.1)).Nodup := by
  rw [mput_keys]
  split
  · exact h
  · rename_i hx; rw [List.nodup_append]; exact ⟨h, by simp, fun a ha b hb e => hx (by simp at hb; subst hb; exact e ▸ ha)⟩
/-- The values of a map, spelt otherwise. -/
def mvals (f : V → U) (m : List (K × V)) : List (K × U) := m.map fun p => (p.1, f p.2)
theorem mvals_nil (f : V → U) : mvals f ([] : List (K × V)) = [] := rfl
theorem mvals_len (f : V → U) (m : List (K × V)) : (mvals f m).length = m.length := by simp [mvals]
theorem mget_mvals (f : V → U) (m : List (K × V)) (x : K) : mget (mvals f m) x = (mget m x).map f := by
  induction m with
  | nil => rfl
  | cons p r ih =>
    unfold mvals at ih ⊢
    rw [List.map_cons]; unfold mget
    by_cases h : p.1 = x <;> simp [h, ih]
theorem mput_mvals (f : V → U) (m : List (K × V)) (x : K) (v : V) : mput (mvals f m) x (f v) = mvals f (mput m x v) := by
  induction m with
  | nil => rfl
  | cons p r ih =>
    unfold mvals at ih ⊢
    rw [List.map_cons]; unfold mput
    by_cases h : p.1 = x <;> simp [h, ih]
theorem mput_len_new {m : List (K × V)} {x : K} {v : V} (h : mget m x = none) : (mput m x v).length = m.length + 1 := by
  rw [mput_new (mget_none.1 h)]; simp
variable {P : Program} {k : TypeId} {enc : K → Value} {ok : K → Prop}
theorem MapIs.entry {es : List MapEntry} {m : List (K × Value)} (h : MapIs enc ok es m) {j : Nat} {e : MapEntry} (he : es[j]? = some e) : ∃ y, m[j]? = some (y, e.val) ∧ e.key = enc y := by
  have := congrArg (·[j]?) h.1
  simp only [List.getElem?_map, he, Option.map_some] at this
  cases hm : m[j]? with
  | none => rw [hm] at this; cases this
  | some p =>
    rw [hm] at this
    simp only [Option.map_some, Option.some.injEq, Prod.mk.injEq] at this
    exact ⟨p.1, by rw [this.2], this.1⟩
theorem MapIs.find (E : KE P k enc ok) (w : World) {es : List MapEntry} {m : List (K × Value)} (h : MapIs enc ok es m) {x : K} (hx : ok x) :
    ((Instr.findKey k (enc x) es).run P w = .ok none w ∧ (∀ e ∈ es, e.key ≠ enc x) ∧ ∀ p ∈ m, p.1 ≠ x) ∨
    ∃ j e, (Instr.findKey k (enc x) es).run P w = .ok (some (j, e.val)) w ∧ es[j]? = some e ∧ e.key = enc x ∧ m[j]? = some (x, e.val) := by
  obtain ⟨l, hl⟩ := E.has x hx
  rcases E.keyed.find w hl es (fun e he => by
    obtain ⟨j, hj, rfl⟩ := List.getElem_of_mem he
    obtain ⟨y, hy, hk⟩ := h.entry (List.getElem?_eq_getElem hj)
    rw [hk]
    exact E.has y (h.2.2 _ (List.mem_of_getElem? hy))) with ⟨h1, h2⟩ | ⟨j, e, h1, h2, h3⟩
  · refine .inl ⟨h1, h2, fun p hp hpx => ?_⟩
    obtain ⟨j, hj, rfl⟩ := List.getElem_of_mem hp
    have := congrArg (·[j]?) h.1
    simp only [List.getElem?_map, List.getElem?_eq_getElem hj, Option.map_some] at this
    cases he : es[j]? with
    | none => rw [he] at this; cases this
    | some e =>
      rw [he] at this
      simp only [Option.map_some, Option.some.injEq, Prod.mk.injEq] at this
      exact h2 e (List.mem_of_getElem? he) (by rw [this.1, hpx])
  · obtain ⟨y, hy, hk⟩ := h.entry h2
    have : y = x := E.inj _ _ (hk.symm.trans h3)
    subst this
    exact .inr ⟨j, e, h1, h2, h3, hy⟩
theorem born_push {es : Array MapEntry} {clock : Nat} {k v : Value} (h : Born es.toList clock) : Born (es.push ⟨k, v, clock⟩).toList (clock + 1) := by
  rw [Array.toList_push]
  refine ⟨fun x hx => ?_, ?_⟩
  · rcases List.mem_append.1 hx with hx | hx
    · exact Nat.lt_succ_of_lt (h.1 x hx)
    · simp at hx; subst hx; exact Nat.lt_succ_self _
  · rw [List.map_append, List.nodup_append]
    refine ⟨h.2, by simp, fun a ha b hb e => ?_⟩
    simp at hb
    subst hb
    obtain ⟨x, hx, rfl⟩ := List.mem_map.1 ha
    have := h.1 x hx
    omega
theorem born_modify {es : List MapEntry} {clock : Nat} (h : Born es clock) (j : Nat) (f : MapEntry → MapEntry) (hf : ∀ x, (f x).born = x.born) : Born (es.modify j f) clock := by
  have e : (es.modify j f).map (·.born) = es.map (·.born) := by
    apply List.ext_getElem?
    intro i
    simp only [List.getElem?_map, List.getElem?_modify]
    cases es[i]? with
    | none => simp
    | some x => by_cases h : j = i <;> simp [h, hf]
  refine ⟨fun x hx => ?_, by rw [e]; exact h.2⟩
  have : x.born ∈ (es.modify j f).map (·.born) := List.mem_map.2 ⟨x, hx, rfl⟩
  rw [e] at this
  obtain ⟨y, hy, e2⟩ := List.mem_map.1 this
  rw [← e2]; exact h.1 y hy
theorem Own.map_at {w0 w : World} {b : Nat} {m : List (K × Value)} {R : HProp} (h : Own w0 (Mp enc ok b m * R) w) : ∃ es clock, MapIs enc ok es.toList m ∧ Born es.toList clock ∧ Own w0 (blk b (.map es clock) * R) w := by
  have h2 : Own w0 (hex (fun x : Array MapEntry × Nat => fun h => (MapIs enc ok x.1.toList m ∧ Born x.1.toList x.2) ∧ h = hone b (.map x.1 x.2)) * R) w := h.cons (fun hp ⟨es, clock, hx⟩ => ⟨(es, clock), hx⟩)
  obtain ⟨⟨es, clock⟩, h3⟩ := h2.ex
  have h4 : Own w0 (pur (MapIs enc ok es.toList m ∧ Born es.toList clock) * (blk b (.map es clock) * R)) w := h3.mono fun hp hh => by
    obtain ⟨p, q, d, rfl, ⟨h1, h2⟩, hq⟩ := hh
    exact pur_star.2 ⟨h1, p, q, d, rfl, h2, hq⟩
  exact ⟨es, clock, h4.pur_out.1.1, h4.pur_out.1.2, h4.pur_out.2⟩
theorem Own.map_mk {w0 w : World} {b : Nat} {m : List (K × Value)} {R : HProp} {es : Array MapEntry} {clock : Nat} (hm : MapIs enc ok es.toList m) (hbn : Born es.toList clock) (h : Own w0 (blk b (.map es clock) * R) w) : Own w0 (Mp enc ok b m * R) w :=
  h.cons fun _ hh => ⟨es, clock, ⟨hm, hbn⟩, hh⟩
theorem Own.map_new {w0 w : World} {R : HProp} (h : Own w0 R w) : Own w0 (Mp enc ok w.heap.size ([] : List (K × Value)) * R) (w.alloc (.map #[] 0)) :=
  Own.map_mk ⟨rfl, by simp, by simp⟩ ⟨by simp, by simp⟩ (h.alloc _)
theorem Own.map_look (E : KE P k enc ok) {t e : TypeId} (ht : P.underlying t = some (.map k e)) {z : Value} (hz : ∀ w, (zeroValue e).run P w = .ok z w) {w0 w : World} {b : Nat} {m : List (K × Value)} {R : HProp}
    (h : Own w0 (Mp enc ok b m * R) w) {x : K} (hx : ok x) (c : Bool) : (Instr.lookup t (.map (some b)) (enc x) c).run P w = .ok (if c then .tuple #[(mget m x).getD z, .bool (mget m x).isSome] else (mget m x).getD z) w := by
  obtain ⟨es, clock, hm, hbn, ho⟩ := h.map_at
  have hb := ho.blk_at.1
  obtain ⟨l, hl⟩ := E.has x hx
  rcases hm.find E w hx with ⟨h1, h2, h3⟩ | ⟨j, en, h1, h2, h3, h4⟩
  · have hg : mget m x = none := mget_none.2 h3
    cases c <;> simp [Instr.lookup, run_underlying ht, MapKept.run_getObj_map hb, E.keyed.check w _ hl, h1, hz, hg, Result.andThen]
  · have hg : mget m x = some en.val := mget_at hm.2.1 h4
    cases c <;> simp [Instr.lookup, run_underlying ht, MapKept.run_getObj_map hb, E.keyed.check w _ hl, h1, hg, Result.andThen]
theorem Own.map_put (E : KE P k enc ok) {t e : TypeId} (ht : P.underlying t = some (.map k e)) {w0 w : World} {b : Nat} {m : List (K × Value)} {R : HProp}
    (h : Own w0 (Mp enc ok b m * R) w) {x : K} (hx : ok x) (v : Value) : ∃ w', (Instr.mapUpdate t (.map (some b)) (enc x) v).run P w = .ok () w' ∧ Own w0 (Mp enc ok b (mput m x v) * R) w' := by
  obtain ⟨es, clock, hm, hbn, ho⟩ := h.map_at
  have hb := ho.blk_at.1
  obtain ⟨l, hl⟩ := E.has x hx
  have hset : ∀ o', Own w0 (blk b o' * R) { w with heap := w.heap.setIfInBounds b o' } := fun o' => by
    refine ho.set rfl rfl rfl (by simp) (fun q _ hq => by simp [Array.getElem?_setIfInBounds, Ne.symm hq]) ?_
    have := ho.lt
    simp [this]
  have hkeep : ∀ p ∈ mput m x v, ok p.1 := fun p hp => by
    rcases mem_mput hp with hp | rfl
    · exact hm.2.2 p hp
    · exact hx
  rcases hm.find E w hx with ⟨h1, h2, h3⟩ | ⟨j, en, h1, h2, h3, h4⟩
  · refine ⟨_, ?_, Own.map_mk (es := es.push ⟨enc x, v, clock⟩) (clock := clock + 1) ⟨?_, mput_nodup hm.2.1, hkeep⟩ (born_push hbn) (hset _)⟩
    · simp [Instr.mapUpdate, run_underlying ht, MapKept.run_getObj_map hb, E.keyed.check w _ hl, h1, MapKept.run_setObj_map _ hb, Result.andThen]
    · rw [mput_new h3, Array.toList_push, List.map_append, List.map_append, hm.1]; rfl
  · have hj : es[j]? = some en := by simpa using h2
    refine ⟨_, ?_, Own.map_mk (es := es.modify j (fun e' => { e' with key := enc x, val := v })) (clock := clock) ⟨?_, mput_nodup hm.2.1, hkeep⟩ (by rw [Array.toList_modify]; exact born_modify hbn j _ (fun _ => rfl)) (hset _)⟩
    · simp [Instr.mapUpdate, run_underlying ht, MapKept.run_getObj_map hb, E.keyed.check w _ hl, h1, hj, h3, E.keyed.stays w hl, MapKept.run_setObj_map _ hb, Result.andThen]
    · rw [mput_at hm.2.1 h4, Array.toList_modify, Go.ChangeMaps.modify_eq_set _ _ _ _ h2, List.map_set, List.map_set, hm.1]
theorem Own.map_size {w0 w : World} {b : Nat} {m : List (K × Value)} {R : HProp} (h : Own w0 (Mp enc ok b m * R) w) : ∃ es clock, w.heap[b]? = some (.map es clock) ∧ es.size = m.length := by
  obtain ⟨es, clock, hm, hbn, ho⟩ := h.map_at
  refine ⟨es, clock, ho.blk_at.1, ?_⟩
  have := congrArg List.length hm.1
  simpa using this
theorem Own.map_len {t e : TypeId} (ht : P.underlying t = some (.map k e)) {w0 w : World} {b : Nat} {m : List (K × Value)} {R : HProp} (h : Own w0 (Mp enc ok b m * R) w) (ty : TypeId) :
    (Builtin.len_ #[t] ty #[.map (some b)]).run P w = .ok (.int .i64 m.length) w := by
  obtain ⟨es, clock, hb, he⟩ := h.map_size
  simp [Builtin.len_, run_underlying ht, MapKept.run_getObj_map hb, goInt, Result.andThen, he]
/-- A store, at the operation. -/
theorem wpList_put (E : KE P k enc ok) {t e : TypeId} (ht : P.underlying t = some (.map k e)) {ops : Array Oper} {rest : List Oper} {o : Oper} {a : Act} {Q : Exit → Act → World → Prop}
    {w0 w : World} {b : Nat} {m : List (K × Value)} {R : HProp} (hown : Own w0 (Mp enc ok b m * R) w) {x : K} (hx : ok x)
    (hg : o.guard = none) (mo xo vo : Operand) (hop : o.op = Op.mapUpdate t mo xo vo) (hm : a.eval mo = .map (some b)) (hxo : a.eval xo = enc x) {v : Value} (hv : a.eval vo = v)
    (hK : ∀ w', Own w0 (Mp enc ok b (mput m x v) * R) w' → wpList P ops Q rest (a.put o.dst undef) w') : wpList P ops Q (o :: rest) a w := by
  refine wpList_plain hg fun K' hK' => ?_
  obtain ⟨w', hrun, ho⟩ := hown.map_put E ht hx v
  unfold Oper.wp
  simp [execOp, hop, hm, hxo, hv, hrun, Result.andThen]
  exact hK' _ _ (hK w' ho)
end
theorem I64_wf {a : Int} (h : I64 a) : (Lit.int .i64 a).wf = true := by
  obtain ⟨h1, h2⟩ := h
  simp [Lit.wf, IntKind.min, IntKind.max, IntKind.signed, IntKind.bits]; omega
/-- Keys of the kind int. -/
theorem int_ke {P : Program} {k : TypeId} (hk : P.underlying k = some (.int .i64)) : KE P k (fun n : Int => Value.int .i64 n) I64 :=
  ⟨int_keyed hk, fun _ hx => ⟨_, keyOf_int_mk hk (I64_wf hx)⟩, fun _ _ h => by injection h⟩
end Go.Proofs.YtdfjbnfdknpahaaGreatDoor
/- Contracts of package stable. -/
namespace Go.Proofs.YtdfjbnfdknpahaaGreatDoor
set_option linter.unusedVariables false
set_option linter.unusedSimpArgs false
open Go.RowKit
/-- One of so many members? -/
def inR (who : Int) (n : Nat) : Bool := decide (0 ≤ who) && decide (who < n)
theorem info_ints : (Tryz.prog.info? 57).map (fun i => (i.zero, i.size, i.bytes)) = some (some (.slice none 0 0), 1, 24) := by kernel_rfl
def rowP (r : Value × List Int) : HProp := IntSl r.1 r.2
def rowsOk (rows : List (List Int)) : Prop := ∀ r ∈ rows, vecErr r = 0
theorem vecErr_I64 {r : List Int} (h : vecErr r = 0) : ∀ x ∈ r, I64 x := fun x hx => by have := (vecErr0 h).2 x hx; unfold I64; omega
def toldErr (n : Nat) (who : Int) (v : List Int) : Nat := if inR who n = false then 1 else vecErr v
def toldRows (rows : List (List Int)) (who : Int) (v : List Int) : List (List Int) := if toldErr rows.length who v = 0 then rows.set who.toNat (zipMax (rows.getD who.toNat []) v) else rows
end Go.Proofs.YtdfjbnfdknpahaaGreatDoor
/- Sets of ints as maps; where an int is in a list; parts of a list of ints. -/
namespace Go.Proofs.YtdfjbnfdknpahaaGreatDoor
set_option linter.unusedVariables false
set_option linter.unusedSimpArgs false
open Go.RowKit
theorem bool_zero : ∀ w, (zeroValue 4).run Tryz.prog w = .ok (.bool false) w := fun _ => by kernel_rfl
theorem int_kind : Tryz.prog.underlying 3 = some (.int .i64) := by kernel_rfl
theorem isWord_I64 {x : Int} (h : isWord x = true) : I64 x := by simp [isWord] at h; unfold I64; omega
/-- A part of a list of ints. -/
theorem Ints.mid {w : World} {ad : Option Addr} {len cp lo hi : Nat} {l : List Int} (h : Ints w (.slice ad len cp) l) (h1 : lo ≤ hi) (h2 : hi ≤ len) : Ints w (.slice (cutA ad cp lo) (hi - lo) (cp - lo)) ((l.take hi).drop lo) := by
  obtain ⟨⟨ad', cap', e, h3, h4, h5, hc⟩, hi'⟩ := h
  injection e with e1 e2 e3
  subst e1; subst e2; subst e3
  refine ⟨⟨cutA ad cp lo, cp - lo, ?_, ?_, by omega, ?_, fun i u hu => ?_⟩, fun x hx => hi' x (List.mem_of_mem_take (List.mem_of_mem_drop hx))⟩
  · congr 1; simp; omega
  · simp; omega
  · intro hn; unfold cutA at hn; split at hn
    · omega
    · cases ad with
      | none => have := h5 rfl; omega
      | some a => cases hn
  · have hlt : i < hi - lo := by
      rcases Nat.lt_or_ge i (hi - lo) with h | h
      · exact h
      · rw [List.getElem?_eq_none (by simp; omega)] at hu; cases hu
    have hu2 : (l.map (Value.int .i64))[lo + i]? = some u := by
      rw [← hu]; simp [List.getElem?_map, List.getElem?_drop, List.getElem?_take, show lo + i < hi from by omega]
    obtain ⟨a, ha, hcell⟩ := hc _ _ hu2
    subst ha
    have hne : ¬ cp = lo := by omega
    refine ⟨a.add lo, by unfold cutA; rw [if_neg hne]; rfl, ?_⟩
    have : (a.add lo).add i = a.add (lo + i) := by
      unfold Addr.add
      by_cases e1 : lo = 0
      · subst e1; simp
      · by_cases e2 : i = 0
        · subst e2; simp [e1]
        · have : ¬ lo + i = 0 := by omega
          simp [e1, e2, this]; omega
    rw [this]; exact hcell
set_option maxRecDepth 100000 in
set_option maxHeartbeats 4000000 in
theorem indexInt_any (v : Value) (l : List Int) (x : Int) (w : World) (hl : Ints w v l) :
    Calls Tryz.prog 124 #[v, .int .i64 x] w fun e w' => e = .returned (.int .i64 (whereIs (fun n => decide (n = x)) l)) ∧ w = w' := by
  obtain ⟨ad, cap, rfl, hlc, hcap⟩ := hl.shape
  have HL := Lib.hid hl
  clear hl
  go_enter Tryz.func124, Tryz.ntmps124
  go_wp2
  go_loop [8] (fun i => ∃ k : Nat, k ≤ l.length ∧ i = .int .i64 k ∧ Hid (∀ j (h : j < k) (h' : j < l.length), decide (l[j] = x) = false)) (fun i => l.length - (intOf i).toNat)
  case atStart => exact ⟨0, Nat.zero_le _, rfl, fun j h => by omega⟩
  case round =>
    obtain ⟨k, hk, rfl, hp⟩ := hrel
    by_cases hlt : k < l.length
    · obtain ⟨a, rfl, hc⟩ := HL.out.at k hlt
      obtain ⟨y, hy⟩ : ∃ y, y = l[k] := ⟨_, rfl⟩
      rw [← hy] at hc
      by_cases hb : x = y
      · have hb' : (x == y) = true := by simp [hb]
        have HB := Lib.hid hb; have HY := Lib.hid hy
        clear hb hy
        go_wp2
        go_ret
        exact ⟨ret_int (whereIs_hit _ l k hlt (fun j h => hp.out j h (by omega)) (by rw [← HY.out, HB.out]; simp)).symm, rfl⟩
      · have hb' : (x == y) = false := by simp [hb]
        have HB := Lib.hid hb; have HY := Lib.hid hy
        clear hb hy
        go_wp2
        go_round
        case rel => exact ⟨k + 1, by omega, by go_num, fun j h h' => by
          by_cases hj : j < k
          · exact hp.out j hj h'
          · have : j = k := by omega
            subst this; rw [← HY.out]; simp; exact fun e => HB.out e.symm⟩
        case measure => simp [intOf]; omega
    · go_wp2
      go_ret
      exact ⟨ret_int (whereIs_miss _ l (fun j h => hp.out j (by omega) h)).symm, rfl⟩
set_option maxRecDepth 100000 in
set_option maxHeartbeats 4000000 in
theorem containsInt_any (v : Value) (l : List Int) (x : Int) (w : World) (hl : Ints w v l) :
    Calls Tryz.prog 128 #[v, .int .i64 x] w fun e w' => e = .returned (.bool (decide (x ∈ l))) ∧ w = w' := by
  have hw := whereIs_neg (fun n => decide (n = x)) l
  have HL := Lib.hid hl; have HW := Lib.hid hw
  clear hl hw
  go_enter Tryz.func128, Tryz.ntmps128
  go_wp2_with fail
  refine (indexInt_any _ l x _ HL.out).mono ?_
  rintro e w' ⟨rfl, rfl⟩
  go_wp2
  go_ret
  refine ⟨ret_bool ?_, rfl⟩
  have h1 := HW.out
  have h2 : (l.any fun n => decide (n = x)) = decide (x ∈ l) := by
    rw [Bool.eq_iff_iff]; simp
  rw [h2] at h1
  by_cases h : x ∈ l
  · simp [h] at h1 ⊢; omega
  · simp [h] at h1 ⊢; omega
/-- The beginning of a list of ints. -/
theorem Ints.front {w : World} {ad : Option Addr} {len cp hi : Nat} {l : List Int} (h : Ints w (.slice ad len cp) l) (h2 : hi ≤ len) : Ints w (.slice ad hi cp) (l.take hi) := by
  have hmi := Ints.mid h (Nat.zero_le _) h2
  have hcut : cutA ad cp 0 = ad := by
    unfold cutA
    split
    · rfl
    · cases ad <;> simp [Addr.add]
  rwa [hcut, List.drop_zero, Nat.sub_zero, Nat.sub_zero] at hmi
/-- A row of a list of lists. -/
theorem Rows2.at {w : World} {ad : Option Addr} {n cap : Nat} {ll : List (List Int)} (h : Rows2 w (.slice ad n cap) ll) (k : Nat) (hk : k < ll.length) :
    ∃ (a : Addr) (ad' : Option Addr) (cap' : Nat), ad = some a ∧ w.cell? (a.add k) = some (.slice ad' ll[k].length cap') ∧ Ints w (.slice ad' ll[k].length cap') ll[k] := by
  obtain ⟨rs, h1, ⟨ad', cap', e, _, _, _, hc⟩, h3⟩ := h
  injection e with e1 e2 e3
  subst e1
  have hr : rs[k]? = some (rs[k]'(by omega)) := by simp [h1, hk]
  obtain ⟨a, ha, hcell⟩ := hc k _ hr
  have hi := h3 k _ ll[k] hr (by simp [hk])
  obtain ⟨ad2, cap2, e2, _, _⟩ := hi.shape
  rw [e2] at hi hcell
  exact ⟨a, ad2, cap2, ha, hcell, hi⟩
theorem Rows2.shape {w : World} {v : Value} {ll : List (List Int)} (h : Rows2 w v ll) : ∃ ad cap, v = .slice ad ll.length cap ∧ ll.length ≤ cap ∧ cap ≤ 9223372036854775807 := by
  obtain ⟨rs, h1, ⟨ad', cap', e, h2, h3, _, hc⟩, _⟩ := h
  exact ⟨_, _, e, h2, by simpa [maxLen] using h3⟩
/-- Distinct numbers from 1 to n: at most n. -/
theorem distinct_le (n : Nat) : ∀ (l : List Int), l.Nodup → (∀ x ∈ l, 1 ≤ x ∧ x ≤ (n : Int)) → l.length ≤ n := by
  induction n with
  | zero =>
    intro l _ h
    cases l with
    | nil => exact Nat.le_refl _
    | cons x r => have := h x (by simp); omega
  | succ n ih =>
    intro l hn h
    by_cases hm : ((n + 1 : Nat) : Int) ∈ l
    · have h1 := ih (l.erase ((n + 1 : Nat) : Int)) (hn.erase _) (fun x hx => by
        have h2 := (hn.mem_erase_iff).1 hx
        have := h x h2.2
        have := h2.1
        omega)
      rw [List.length_erase_of_mem hm] at h1
      omega
    · have := ih l hn (fun x hx => by
        have h2 := h x hx
        have : x ≠ ((n + 1 : Nat) : Int) := fun e => hm (e ▸ hx)
        omega)
      omega
end Go.Proofs.YtdfjbnfdknpahaaGreatDoor
/- Package cause, plainly: a member, for whom words may wait. -/
namespace Go.Proofs.YtdfjbnfdknpahaaGreatDoor
set_option linter.unusedVariables false
set_option linter.unusedSimpArgs false
open Go.RowKit Go.Maps
/-- A word: who said it, which, and what it knew. -/
structure Sd where
  who : Int
  word : Int
  clk : List Int
structure Ca where
  me : Int
  clk : List Int
  waits : List Sd
def caAt (clk : List Int) (i : Int) : Int := clk.getD i.toNat 0
def caBump (clk : List Int) (i : Int) : List Int := clk.set i.toNat (caAt clk i + 1)
def caOk1 (clk : List Int) (s : Sd) (i : Nat) : Bool := if (i : Int) = s.who then decide (s.clk.getD i 0 = clk.getD i 0 + 1) else decide (s.clk.getD i 0 ≤ clk.getD i 0)
/-- Is a word ready to be heard? -/
def caReady (clk : List Int) (s : Sd) : Bool := (List.range 5).all fun i => caOk1 clk s i
def sdErr (s : Sd) : Nat := if isMember s.who = false then 1 else if isWord s.word = false then 1 else vecErr s.clk
def caSame (s x : Sd) : Bool := decide (x.who = s.who) && decide (caAt x.clk x.who = caAt s.clk s.who)
def caErr (c : Ca) (s : Sd) : Nat := if sdErr s ≠ 0 then sdErr s else if s.who = c.me then 3 else if caAt s.clk s.who = 0 then 1 else if caAt s.clk s.who ≤ caAt c.clk s.who then 7 else
  if c.waits.any (caSame s) = true then 7 else if 40 ≤ c.waits.length ∧ caReady c.clk s = false then 4 else 0
def caHear : Nat → List Int → List Sd → List Int × List Sd × List Int
  | 0, clk, ws => (clk, ws, [])
  | k + 1, clk, ws => if h : ((whereI (caReady clk) ws).toNat < ws.length ∧ 0 ≤ whereI (caReady clk) ws) then
      let r := caHear k (caBump clk ws[(whereI (caReady clk) ws).toNat].who) (ws.eraseIdx (whereI (caReady clk) ws).toNat)
      (r.1, r.2.1, ws[(whereI (caReady clk) ws).toNat].word :: r.2.2)
    else (clk, ws, [])
def caRun (c : Ca) (s : Sd) : List Int × List Sd × List Int := caHear c.waits.length (caBump c.clk s.who) c.waits
def caTake (c : Ca) (s : Sd) : Ca := if caErr c s = 0 then (if caReady c.clk s = true then ⟨c.me, (caRun c s).1, (caRun c s).2.1⟩ else ⟨c.me, c.clk, c.waits ++ [s]⟩) else c
def caOut (c : Ca) (s : Sd) : List Int := if caErr c s = 0 then (if caReady c.clk s = true then s.word :: (caRun c s).2.2 else []) else []
def caSayErr (c : Ca) (w : Int) : Nat := if isWord w = false then 1 else if caAt c.clk c.me = 1000000 then 4 else 0
def caSay (c : Ca) (w : Int) : Ca := if caSayErr c w = 0 then ⟨c.me, caBump c.clk c.me, c.waits⟩ else c
def caSaid (c : Ca) (w : Int) : Sd := if caSayErr c w = 0 then ⟨c.me, w, caBump c.clk c.me⟩ else ⟨0, 0, []⟩
def zeroClk : List Int := [0, 0, 0, 0, 0]
def caNew (me : Int) : Ca := ⟨me, zeroClk, []⟩
structure CaI (c : Ca) : Prop where
  me : isMember c.me = true
  clk : vecErr c.clk = 0
  len : c.waits.length ≤ 40
  ok : ∀ s ∈ c.waits, sdErr s = 0
theorem sdErr0 {s : Sd} (h : sdErr s = 0) : isMember s.who = true ∧ isWord s.word = true ∧ vecErr s.clk = 0 := by
  unfold sdErr at h
  cases h1 : isMember s.who
  · rw [if_pos h1] at h; cases h
  rw [if_neg (by rw [h1]; simp)] at h
  cases h2 : isWord s.word
  · rw [if_pos h2] at h; cases h
  rw [if_neg (by rw [h2]; simp)] at h
  exact ⟨rfl, rfl, h⟩
theorem caErr0 {c : Ca} {s : Sd} (h : caErr c s = 0) : sdErr s = 0 ∧ s.who ≠ c.me ∧ caAt s.clk s.who ≠ 0 ∧ caAt c.clk s.who < caAt s.clk s.who ∧ c.waits.any (caSame s) = false ∧ (c.waits.length < 40 ∨ caReady c.clk s = true) := by
  unfold caErr at h
  by_cases h1 : sdErr s = 0
  rotate_left
  · rw [if_pos h1] at h; exact absurd h h1
  rw [if_neg (by rw [h1]; simp)] at h
  by_cases h2 : s.who = c.me
  · rw [if_pos h2] at h; cases h
  rw [if_neg h2] at h
  by_cases h3 : caAt s.clk s.who = 0
  · rw [if_pos h3] at h; cases h
  rw [if_neg h3] at h
  by_cases h4 : caAt s.clk s.who ≤ caAt c.clk s.who
  · rw [if_pos h4] at h; cases h
  rw [if_neg h4] at h
  cases h5 : c.waits.any (caSame s)
  rotate_left
  · rw [if_pos h5] at h; cases h
  rw [if_neg (by rw [h5]; simp)] at h
  refine ⟨h1, h2, h3, by omega, rfl, ?_⟩
  by_cases h6 : 40 ≤ c.waits.length ∧ caReady c.clk s = false
  · rw [if_pos h6] at h; cases h
  · rcases Nat.lt_or_ge c.waits.length 40 with h7 | h7
    · exact .inl h7
    · right
      cases hr : caReady c.clk s
      · exact absurd ⟨h7, hr⟩ h6
      · rfl
theorem vecErr_iff {l : List Int} : vecErr l = 0 ↔ l.length = 5 ∧ ∀ x ∈ l, 0 ≤ x ∧ x ≤ 1000000 := by
  refine ⟨vecErr0, fun ⟨h5, hb⟩ => ?_⟩
  unfold vecErr
  rw [if_neg (by rw [h5]; simp), if_neg]
  intro hc
  obtain ⟨x, hx, h⟩ := List.any_eq_true.1 hc
  have := hb x hx
  simp [isCount] at h
  omega
theorem vec_get {l : List Int} (h : vecErr l = 0) (i : Nat) : 0 ≤ l.getD i 0 ∧ l.getD i 0 ≤ 1000000 := by
  rw [List.getD_eq_getElem?_getD]
  rcases Nat.lt_or_ge i l.length with hi | hi
  · rw [List.getElem?_eq_getElem hi]
    exact (vecErr0 h).2 _ (List.getElem_mem hi)
  · rw [List.getElem?_eq_none hi]
    show 0 ≤ (0 : Int) ∧ (0 : Int) ≤ 1000000
    omega
theorem vec_set {l : List Int} (h : vecErr l = 0) (i : Nat) {x : Int} (hx : 0 ≤ x ∧ x ≤ 1000000) : vecErr (l.set i x) = 0 := by
  obtain ⟨h5, hb⟩ := vecErr0 h
  refine vecErr_iff.2 ⟨by simp [h5], fun y hy => ?_⟩
  rcases List.mem_or_eq_of_mem_set hy with hy | rfl
  · exact hb y hy
  · exact hx
theorem caReady_at {clk : List Int} {s : Sd} (h : caReady clk s = true) {i : Nat} (hi : i < 5) : caOk1 clk s i = true := by
  unfold caReady at h
  exact List.all_eq_true.1 h i (List.mem_range.2 hi)
theorem caReady_bump {clk : List Int} {s : Sd} (hc : vecErr clk = 0) (hs : sdErr s = 0) (h : caReady clk s = true) : vecErr (caBump clk s.who) = 0 ∧ caAt s.clk s.who = caAt clk s.who + 1 := by
  obtain ⟨h1, h2, h3⟩ := sdErr0 hs
  have hm : 0 ≤ s.who ∧ s.who < 5 := by simpa [isMember] using h1
  have h4 := caReady_at h (i := s.who.toNat) (by omega)
  unfold caOk1 at h4
  rw [if_pos (by omega), decide_eq_true_iff] at h4
  have h5 := vec_get h3 s.who.toNat
  have h6 := vec_get hc s.who.toNat
  refine ⟨vec_set hc _ ?_, h4⟩
  unfold caAt
  omega
theorem caHear_ok : ∀ (k : Nat) (clk : List Int) (ws : List Sd), vecErr clk = 0 → (∀ s ∈ ws, sdErr s = 0) → vecErr (caHear k clk ws).1 = 0 ∧ (∀ s ∈ (caHear k clk ws).2.1, sdErr s = 0) ∧ (caHear k clk ws).2.1.length ≤ ws.length
  | 0, clk, ws, hc, hw => ⟨hc, hw, Nat.le_refl _⟩
  | k + 1, clk, ws, hc, hw => by
    unfold caHear
    by_cases h : ((whereI (caReady clk) ws).toNat < ws.length ∧ 0 ≤ whereI (caReady clk) ws)
    · rw [dif_pos h]
      simp only
      have hr : caReady clk ws[(whereI (caReady clk) ws).toNat] = true := by
        rcases whereI_cases (caReady clk) ws with ⟨h1, _⟩ | ⟨j, hj, h1, h2, _⟩
        · omega
        · have : (whereI (caReady clk) ws).toNat = j := by omega
          simp only [this]; exact h2
      have h1 := caReady_bump hc (hw _ (List.getElem_mem h.1)) hr
      obtain ⟨a, b, d⟩ := caHear_ok k _ (ws.eraseIdx (whereI (caReady clk) ws).toNat) h1.1 (fun s hs => hw s (List.mem_of_mem_eraseIdx hs))
      exact ⟨a, b, Nat.le_trans d (List.length_eraseIdx_le ..)⟩
    · rw [dif_neg h]; exact ⟨hc, hw, Nat.le_refl _⟩
theorem CaI.new {me : Int} (h : isMember me = true) : CaI (caNew me) := ⟨h, (show vecErr zeroClk = 0 by decide), by simp [caNew], by simp [caNew]⟩
theorem CaI.say {c : Ca} (h : CaI c) (w : Int) : CaI (caSay c w) := by
  unfold caSay
  by_cases he : caSayErr c w = 0
  rotate_left
  · rw [if_neg he]; exact h
  rw [if_pos he]
  unfold caSayErr at he
  cases h1 : isWord w
  · rw [if_pos h1] at he; cases he
  rw [if_neg (by rw [h1]; simp)] at he
  by_cases h2 : caAt c.clk c.me = 1000000
  · rw [if_pos h2] at he; cases he
  have h3 := vec_get h.clk c.me.toNat
  exact ⟨h.me, vec_set h.clk _ (by unfold caAt at *; omega), h.len, h.ok⟩
theorem CaI.take {c : Ca} (h : CaI c) (s : Sd) : CaI (caTake c s) := by
  unfold caTake
  by_cases he : caErr c s = 0
  rotate_left
  · rw [if_neg he]; exact h
  rw [if_pos he]
  obtain ⟨h1, h2, h3, h4, h5, h6⟩ := caErr0 he
  cases hr : caReady c.clk s
  · rw [if_neg (by simp)]
    refine ⟨h.me, h.clk, ?_, fun x hx => ?_⟩
    · show (c.waits ++ [s]).length ≤ 40
      rw [hr] at h6
      simp at h6 ⊢
      omega
    · rcases List.mem_append.1 hx with hx | hx
      · exact h.ok x hx
      · rw [List.mem_singleton.1 hx]; exact h1
  · rw [if_pos rfl]
    have hb := (caReady_bump h.clk h1 hr).1
    obtain ⟨a, b, d⟩ := caHear_ok c.waits.length _ c.waits hb h.ok
    exact ⟨h.me, a, Nat.le_trans d h.len, b⟩
theorem caOut_len {c : Ca} (k : Nat) : ∀ (clk : List Int) (ws : List Sd), (caHear k clk ws).2.2.length ≤ k := by
  induction k with
  | zero => intro clk ws; exact Nat.le_refl _
  | succ k ih =>
    intro clk ws
    unfold caHear
    by_cases h : ((whereI (caReady clk) ws).toNat < ws.length ∧ 0 ≤ whereI (caReady clk) ws)
    · rw [dif_pos h]
      have := ih (caBump clk ws[(whereI (caReady clk) ws).toNat].who) (ws.eraseIdx (whereI (caReady clk) ws).toNat)
      simp only [List.length_cons]
      omega
    · rw [dif_neg h]; exact Nat.zero_le _
end Go.Proofs.YtdfjbnfdknpahaaGreatDoor
/- Contracts of package fifo. -/
namespace Go.Proofs.YtdfjbnfdknpahaaGreatDoor
set_option linter.unusedVariables false
set_option linter.unusedSimpArgs false
open Go.RowKit Go.Maps
/-- A place: whose a word is, and which. -/
def plV (x : Int × Int) : Value := .agg #[.int .i64 x.1, .int .i64 x.2]
def plOk (x : Int × Int) : Prop := I64 x.1 ∧ I64 x.2
end Go.Proofs.YtdfjbnfdknpahaaGreatDoor
/- Package net, plainly: what is on its way, and what is cut. -/
namespace Go.Proofs.YtdfjbnfdknpahaaGreatDoor
set_option linter.unusedVariables false
set_option linter.unusedSimpArgs false
open Go.RowKit Go.Maps
/-- A set of ways as a map. -/
def setW (ss : List (Int × Int)) : List ((Int × Int) × Value) := ss.map fun x => (x, Value.bool true)
theorem mget_setW (ss : List (Int × Int)) (x : Int × Int) : (mget (setW ss) x).getD (.bool false) = .bool (decide (x ∈ ss)) := by
  induction ss with
  | nil => rfl
  | cons y r ih =>
    unfold setW at ih ⊢
    rw [List.map_cons]; unfold mget
    by_cases h : y = x
    · simp [h]
    · rw [if_neg h, ih]
      have h' : ¬ x = y := fun e => h e.symm
      simp [h']
/-- A net: packets (from, to, word), and the ways that are cut. -/
structure Nt where
  all : List Ev
  cut : List (Int × Int)
def wayOf (a b : Int) : Int × Int := (min a b, max a b)
def pkErr (p : Ev) : Nat := if isMember p.1 = false then 1 else if isMember p.2.1 = false then 1 else if isWord p.2.2 = false then 1 else if p.1 = p.2.1 then 3 else 0
def ntErr (s : Nt) (p : Ev) : Nat := if pkErr p ≠ 0 then pkErr p else if 40 ≤ s.all.length then 4 else 0
def ntSend (s : Nt) (p : Ev) : Nt := if ntErr s p = 0 then { s with all := s.all ++ [p] } else s
def ntHas (s : Nt) (i : Int) : Bool := inR i s.all.length
def ntAt (s : Nt) (i : Int) : Ev := s.all.getD i.toNat (0, 0, 0)
def ntOut (s : Nt) (i : Int) : Nt := { s with all := s.all.eraseIdx i.toNat }
def ntCutAt (s : Nt) (i : Int) : Bool := decide (wayOf (ntAt s i).1 (ntAt s i).2.1 ∈ s.cut)
def ntGiveErr (s : Nt) (i : Int) : Nat := if ntHas s i = false then 1 else if ntCutAt s i = true then 6 else 0
def ntGive (s : Nt) (i : Int) : Nt := if ntGiveErr s i = 0 then ntOut s i else s
def ntGiven (s : Nt) (i : Int) : Ev := if ntGiveErr s i = 0 then ntAt s i else (0, 0, 0)
def ntDropErr (s : Nt) (i : Int) : Nat := if ntHas s i = false then 1 else 0
def ntDrop (s : Nt) (i : Int) : Nt := if ntDropErr s i = 0 then ntOut s i else s
def ntTwiceErr (s : Nt) (i : Int) : Nat := if ntHas s i = false then 1 else ntErr s (ntAt s i)
def ntTwice (s : Nt) (i : Int) : Nt := if ntTwiceErr s i = 0 then ntSend s (ntAt s i) else s
/-- What holds of a net, whatever is done. -/
structure NtI (s : Nt) : Prop where
  len : s.all.length ≤ 40
  ok : ∀ p ∈ s.all, pkErr p = 0
  nd : s.cut.Nodup
  mem : ∀ x ∈ s.cut, isMember x.1 = true ∧ isMember x.2 = true
theorem pkErr0 {p : Ev} (h : pkErr p = 0) : isMember p.1 = true ∧ isMember p.2.1 = true ∧ isWord p.2.2 = true ∧ p.1 ≠ p.2.1 := by
  unfold pkErr at h
  cases h1 : isMember p.1
  · rw [if_pos h1] at h; cases h
  rw [if_neg (by rw [h1]; simp)] at h
  cases h2 : isMember p.2.1
  · rw [if_pos h2] at h; cases h
  rw [if_neg (by rw [h2]; simp)] at h
  cases h3 : isWord p.2.2
  · rw [if_pos h3] at h; cases h
  rw [if_neg (by rw [h3]; simp)] at h
  by_cases h4 : p.1 = p.2.1
  · rw [if_pos h4] at h; cases h
  · exact ⟨rfl, rfl, rfl, h4⟩
theorem ntErr0 {s : Nt} {p : Ev} (h : ntErr s p = 0) : pkErr p = 0 ∧ s.all.length < 40 := by
  unfold ntErr at h
  by_cases h1 : pkErr p = 0
  · rw [if_neg (by rw [h1]; simp)] at h
    by_cases h2 : 40 ≤ s.all.length
    · rw [if_pos h2] at h; cases h
    · exact ⟨h1, by omega⟩
  · rw [if_pos h1] at h; exact absurd h h1
theorem ntHas_iff {s : Nt} {i : Int} : ntHas s i = true ↔ 0 ≤ i ∧ i < s.all.length := by unfold ntHas inR; simp
theorem ntAt_mem {s : Nt} {i : Int} (h : ntHas s i = true) : ntAt s i ∈ s.all := by
  obtain ⟨h1, h2⟩ := ntHas_iff.1 h
  unfold ntAt
  rw [List.getD_eq_getElem?_getD, List.getElem?_eq_getElem (by omega)]
  exact List.getElem_mem _
theorem NtI.new : NtI ⟨[], []⟩ := ⟨by simp, by simp, List.nodup_nil, by simp⟩
theorem NtI.send {s : Nt} (h : NtI s) (p : Ev) : NtI (ntSend s p) := by
  unfold ntSend
  by_cases he : ntErr s p = 0
  · rw [if_pos he]
    obtain ⟨h1, h2⟩ := ntErr0 he
    refine ⟨by simp; omega, fun q hq => ?_, h.nd, h.mem⟩
    rcases List.mem_append.1 hq with hq | hq
    · exact h.ok q hq
    · rw [List.mem_singleton.1 hq]; exact h1
  · rw [if_neg he]; exact h
theorem NtI.out {s : Nt} (h : NtI s) (i : Int) : NtI (ntOut s i) :=
  ⟨Nat.le_trans (List.length_eraseIdx_le ..) h.len, fun q hq => h.ok q (List.mem_of_mem_eraseIdx hq), h.nd, h.mem⟩
theorem NtI.give {s : Nt} (h : NtI s) (i : Int) : NtI (ntGive s i) := by
  unfold ntGive; split
  · exact h.out i
  · exact h
theorem NtI.drop {s : Nt} (h : NtI s) (i : Int) : NtI (ntDrop s i) := by
  unfold ntDrop; split
  · exact h.out i
  · exact h
theorem NtI.twice {s : Nt} (h : NtI s) (i : Int) : NtI (ntTwice s i) := by
  unfold ntTwice; split
  · exact h.send _
  · exact h
theorem wayOf_mem {a b : Int} (ha : isMember a = true) (hb : isMember b = true) : isMember (wayOf a b).1 = true ∧ isMember (wayOf a b).2 = true := by
  unfold wayOf
  simp only [isMember, Bool.and_eq_true, decide_eq_true_eq] at *
  omega
end Go.Proofs.YtdfjbnfdknpahaaGreatDoor
