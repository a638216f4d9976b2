/- A map's entry, made and then filled: m[k] = v beside another assignment. -/
import Derived.Test.YtdfjbnfdknpahaaGreatDoorMRunCausal6
import Derived.Test.YtdfjbnfdknpahaaGreatDoorMRunCausal20
import Derived.Test.YtdfjbnfdknpahaaGreatDoorMRunCausal8
import Derived.Test.YtdfjbnfdknpahaaGreatDoorMRunCausal21
import Derived.Test.YtdfjbnfdknpahaaGreatDoorMRunCausal11
import Derived.Deep.DeepCutAuto
import Derived.Deep.CutBlock
namespace Go.Proofs.YtdfjbnfdknpahaaGreatDoor
set_option linter.unusedVariables false
set_option linter.unusedSimpArgs false
open Go.RowKit Go.Maps
set_option linter.unusedSectionVars false
section
variable {K : Type} [DecidableEq K] {P : Program} {k : TypeId} {enc : K → Value} {ok : K → Prop}
theorem Born.find {es : Array MapEntry} {clock : Nat} (h : Born es.toList clock) {j : Nat} {e : MapEntry} (he : es[j]? = some e) : es.findIdx? (fun x => ((x.born : Nat) : Int) == ((e.born : Nat) : Int)) = some j := by
  obtain ⟨hj, rfl⟩ := Array.getElem?_eq_some_iff.1 he
  rw [Array.findIdx?_eq_some_iff_getElem]
  refine ⟨hj, by simp, fun i hij hb => ?_⟩
  have hb2 : es[i].born = es[j].born := Int.ofNat.inj (eq_of_beq hb)
  have hl : ∀ q (hq : q < es.size), (es.toList.map (·.born))[q]'(by simpa using hq) = es[q].born := fun q hq => by simp
  have h1 := List.pairwise_iff_getElem.1 h.2 i j (by simp; omega) (by simpa using hj) hij
  rw [hl i (by omega), hl j hj] at h1
  exact h1 hb2
theorem modify_last {l : List MapEntry} {a : MapEntry} (f : MapEntry → MapEntry) : (l ++ [a]).modify l.length f = l ++ [f a] := by
  apply List.ext_getElem?
  intro i
  rw [List.getElem?_modify]
  by_cases h1 : i < l.length
  · rw [List.getElem?_append_left h1, List.getElem?_append_left h1]
    have : ¬ l.length = i := by omega
    simp [this]
  · by_cases h2 : i = l.length
    · subst h2; simp
    · rw [List.getElem?_append_right (by omega), List.getElem?_append_right (by omega)]
      have : [a][i - l.length]? = none := List.getElem?_eq_none (by simp; omega)
      have h3 : [f a][i - l.length]? = none := List.getElem?_eq_none (by simp; omega)
      rw [this, h3]; rfl
def setO (w : World) (b : Nat) (o : Obj) : World := { w with heap := w.heap.setIfInBounds b o }
theorem Own.map_obj {w0 w : World} {b : Nat} {o : Obj} {R : HProp} (ho : Own w0 (blk b o * R) w) (o' : Obj) : Own w0 (blk b o' * R) (setO w b o') := by
  refine ho.set rfl rfl rfl (by simp [setO]) (fun q _ hq => by simp [setO, Array.getElem?_setIfInBounds, Ne.symm hq]) ?_
  have := ho.lt
  simp [setO, this]
theorem Own.map_entry (E : KE P k enc ok) {t e : TypeId} (ht : P.underlying t = some (.map k e)) {z : Value} (hz : ∀ w, (zeroValue e).run P w = .ok z w) {w0 w : World} {b : Nat} {m : List (K × Value)} {R : HProp}
    (h : Own w0 (Mp enc ok b m * R) w) {x : K} (hx : ok x) (v : Value) : ∃ w1 s, (Instr.mapEntry t (.map (some b)) (enc x)).run P w = .ok (.tuple #[(mget m x).getD z, s]) w1 ∧ ∃ w2, (Instr.entryStore t (.map (some b)) s v).run P w1 = .ok () w2 ∧ Own w0 (Mp enc ok b (mput m x v) * R) w2 := by
  obtain ⟨es, clock, hm, hbn, ho⟩ := h.map_at
  have hb := ho.blk_at.1
  obtain ⟨l, hl⟩ := E.has x hx
  have hkeep : ∀ p ∈ mput m x v, ok p.1 := fun p hp => by
    rcases mem_mput hp with hp | rfl
    · exact hm.2.2 p hp
    · exact hx
  rcases hm.find E w hx with ⟨h1, h2, h3⟩ | ⟨j, en, h1, h2, h3, h4⟩
  · have hg : mget m x = none := mget_none.2 h3
    obtain ⟨es1, he1⟩ : ∃ e1, e1 = es.push ⟨enc x, z, clock⟩ := ⟨_, rfl⟩
    obtain ⟨w1, hw1⟩ : ∃ w1, w1 = setO w b (.map es1 (clock + 1)) := ⟨_, rfl⟩
    have ho1 := ho.map_obj (.map es1 (clock + 1))
    rw [← hw1] at ho1
    have ha : ∀ c : Int, Sem.run P (asIntOf (.int .i64 c)) w1 = .ok (.i64, c) w1 := fun _ => rfl
    have hb1 := ho1.blk_at.1
    have hf : es1.findIdx? (fun y => ((y.born : Nat) : Int) == ((clock : Nat) : Int)) = some es.size := by
      rw [he1]
      exact (born_push hbn (k := enc x) (v := z)).find (e := ⟨enc x, z, clock⟩) (by simp)
    have ho2 := ho1.map_obj (.map (es1.modify es.size (fun e' => { e' with val := v })) (clock + 1))
    have hme : es1.modify es.size (fun e' => { e' with val := v }) = es.push ⟨enc x, v, clock⟩ := by
      rw [he1]
      apply Array.ext'
      rw [Array.toList_modify, Array.toList_push, Array.toList_push]
      exact modify_last _
    refine ⟨w1, .int .i64 clock, ?_, setO w1 b (.map (es.push ⟨enc x, v, clock⟩) (clock + 1)), ?_, Own.map_mk (es := es.push ⟨enc x, v, clock⟩) (clock := clock + 1) ⟨?_, mput_nodup hm.2.1, hkeep⟩ (born_push hbn) (by rw [hme] at ho2; exact ho2)⟩
    · rw [hw1, he1]
      simp [Instr.mapEntry, run_underlying ht, MapKept.run_getObj_map hb, E.keyed.check w _ hl, h1, hz, hg, MapKept.run_setObj_map _ hb, Result.andThen, goInt, setO]
    · rw [← hme]
      simp [Instr.entryStore, MapKept.run_getObj_map hb1, MapKept.run_setObj_map _ hb1, Result.andThen, asInt, ha, hf, setO]
    · rw [mput_new h3, Array.toList_push, List.map_append, List.map_append, hm.1]; rfl
  · have hj : es[j]? = some en := by simpa using h2
    have hg : mget m x = some en.val := mget_at hm.2.1 h4
    obtain ⟨es1, he1⟩ : ∃ e1, e1 = es.modify j (fun e' => { e' with key := enc x }) := ⟨_, rfl⟩
    obtain ⟨w1, hw1⟩ : ∃ w1, w1 = setO w b (.map es1 clock) := ⟨_, rfl⟩
    have ho1 := ho.map_obj (.map es1 clock)
    rw [← hw1] at ho1
    have ha : ∀ c : Int, Sem.run P (asIntOf (.int .i64 c)) w1 = .ok (.i64, c) w1 := fun _ => rfl
    have hb1 := ho1.blk_at.1
    have hbn1 : Born es1.toList clock := by rw [he1, Array.toList_modify]; exact born_modify hbn j _ (fun _ => rfl)
    have hj1 : es1[j]? = some { en with key := enc x } := by rw [he1, Array.getElem?_modify, if_pos rfl, hj]; rfl
    have hf : es1.findIdx? (fun y => ((y.born : Nat) : Int) == ((en.born : Nat) : Int)) = some j := hbn1.find (e := { en with key := enc x }) hj1
    have ho2 := ho1.map_obj (.map (es1.modify j (fun e' => { e' with val := v })) clock)
    have hml : (es1.modify j (fun e' => { e' with val := v })).toList = es.toList.modify j (fun e' => { e' with key := enc x, val := v }) := by
      rw [he1, Array.toList_modify, Array.toList_modify]
      apply List.ext_getElem?
      intro i
      simp only [List.getElem?_modify]
      cases es.toList[i]? with
      | none => simp
      | some y => by_cases h : j = i <;> simp [h]
    refine ⟨w1, .int .i64 en.born, ?_, setO w1 b (.map (es1.modify j (fun e' => { e' with val := v })) clock), ?_, Own.map_mk (es := es1.modify j (fun e' => { e' with val := v })) (clock := clock) ⟨?_, mput_nodup hm.2.1, hkeep⟩ (by rw [Array.toList_modify]; exact born_modify hbn1 j _ (fun _ => rfl)) ho2⟩
    · rw [hw1, he1]
      simp [Instr.mapEntry, run_underlying ht, MapKept.run_getObj_map hb, E.keyed.check w _ hl, h1, hj, h3, E.keyed.stays w hl, hg, MapKept.run_setObj_map _ hb, Result.andThen, goInt, setO]
    · simp [Instr.entryStore, MapKept.run_getObj_map hb1, MapKept.run_setObj_map _ hb1, Result.andThen, asInt, ha, hf, setO]
    · rw [hml, mput_at hm.2.1 h4, Go.ChangeMaps.modify_eq_set _ _ _ _ h2, List.map_set, List.map_set, hm.1]
end
end Go.Proofs.YtdfjbnfdknpahaaGreatDoor
/- A map's entry open for a store: m[k] = append(m[k], ..); and maps whose values own what they point to. -/
namespace Go.Proofs.YtdfjbnfdknpahaaGreatDoor
set_option linter.unusedVariables false
set_option linter.unusedSimpArgs false
open Go.RowKit Go.Maps
set_option linter.unusedSectionVars false
section
variable {K : Type} [DecidableEq K] {P : Program} {k : TypeId} {enc : K → Value} {ok : K → Prop}
/-- The map m in whose block the entry at x stands open: a store at the stamp s fills it. -/
def MpE (enc : K → Value) (ok : K → Prop) (b : Nat) (m : List (K × Value)) (x : K) (s : Value) : HProp := fun h =>
  ∃ (es : Array MapEntry) (clock j : Nat) (e : MapEntry), (es[j]? = some e ∧ s = .int .i64 e.born ∧ Born es.toList clock ∧ (∀ v, MapIs enc ok (es.modify j (fun e' => { e' with val := v })).toList (mput m x v))) ∧ h = hone b (.map es clock)
theorem Own.mpe_at {w0 w : World} {b : Nat} {m : List (K × Value)} {x : K} {s : Value} {R : HProp} (h : Own w0 (MpE enc ok b m x s * R) w) :
    ∃ (es : Array MapEntry) (clock j : Nat) (e : MapEntry), es[j]? = some e ∧ s = .int .i64 e.born ∧ Born es.toList clock ∧ (∀ v, MapIs enc ok (es.modify j (fun e' => { e' with val := v })).toList (mput m x v)) ∧ Own w0 (blk b (.map es clock) * R) w := by
  have h2 : Own w0 (hex (fun x' : Array MapEntry × Nat × Nat × MapEntry => fun h => (x'.1[x'.2.2.1]? = some x'.2.2.2 ∧ s = .int .i64 x'.2.2.2.born ∧ Born x'.1.toList x'.2.1 ∧ (∀ v, MapIs enc ok (x'.1.modify x'.2.2.1 (fun e' => { e' with val := v })).toList (mput m x v))) ∧ h = hone b (.map x'.1 x'.2.1)) * R) w :=
    h.cons (fun hp ⟨es, clock, j, e, hx⟩ => ⟨(es, clock, j, e), hx⟩)
  obtain ⟨⟨es, clock, j, e⟩, h3⟩ := h2.ex
  have h4 : Own w0 (pur (es[j]? = some e ∧ s = .int .i64 e.born ∧ Born es.toList clock ∧ (∀ v, MapIs enc ok (es.modify j (fun e' => { e' with val := v })).toList (mput m x v))) * (blk b (.map es clock) * R)) w := h3.mono fun hp hh => by
    obtain ⟨p, q, d, rfl, ⟨h1, h2⟩, hq⟩ := hh
    exact pur_star.2 ⟨h1, p, q, d, rfl, h2, hq⟩
  obtain ⟨⟨a1, a2, a3, a4⟩, h5⟩ := h4.pur_out
  exact ⟨es, clock, j, e, a1, a2, a3, a4, h5⟩
theorem Own.map_raw (E : KE P k enc ok) {t e : TypeId} (ht : P.underlying t = some (.map k e)) {z : Value} (hz : ∀ w, (zeroValue e).run P w = .ok z w) {w0 w : World} {b : Nat} {m : List (K × Value)} {R : HProp}
    (h : Own w0 (Mp enc ok b m * R) w) {x : K} (hx : ok x) : ∃ (w1 : World) (s : Value) (es : Array MapEntry) (clock j : Nat) (e : MapEntry), (Instr.mapEntry t (.map (some b)) (enc x)).run P w = .ok (.tuple #[(mget m x).getD z, s]) w1 ∧ (es[j]? = some e ∧ s = .int .i64 e.born ∧ Born es.toList clock ∧ (∀ v, MapIs enc ok (es.modify j (fun e' => { e' with val := v })).toList (mput m x v))) ∧ e.val = (mget m x).getD z ∧ Own w0 (blk b (.map es clock) * R) w1 := by
  obtain ⟨es, clock, hm, hbn, ho⟩ := h.map_at
  have hb := ho.blk_at.1
  obtain ⟨l, hl⟩ := E.has x hx
  have hkeep : ∀ v, ∀ p ∈ mput m x v, ok p.1 := fun v p hp => by
    rcases mem_mput hp with hp | rfl
    · exact hm.2.2 p hp
    · exact hx
  rcases hm.find E w hx with ⟨h1, h2, h3⟩ | ⟨j, en, h1, h2, h3, h4⟩
  · have hg : mget m x = none := mget_none.2 h3
    obtain ⟨es1, he1⟩ : ∃ e1, e1 = es.push ⟨enc x, z, clock⟩ := ⟨_, rfl⟩
    obtain ⟨w1, hw1⟩ : ∃ w1, w1 = setO w b (.map es1 (clock + 1)) := ⟨_, rfl⟩
    have ho1 := ho.map_obj (.map es1 (clock + 1))
    rw [← hw1] at ho1
    refine ⟨w1, .int .i64 clock, es1, clock + 1, es.size, ⟨enc x, z, clock⟩, ?_, ⟨by rw [he1]; simp, rfl, by rw [he1]; exact born_push hbn, fun v => ?_⟩, by rw [hg]; rfl, ho1⟩
    · rw [hw1, he1]
      simp [Instr.mapEntry, run_underlying ht, MapKept.run_getObj_map hb, E.keyed.check w _ hl, h1, hz, hg, MapKept.run_setObj_map _ hb, Result.andThen, goInt, setO]
    · have hme : (es1.modify es.size (fun e' => { e' with val := v })).toList = es.toList ++ [⟨enc x, v, clock⟩] := by
        rw [he1, Array.toList_modify, Array.toList_push]
        exact modify_last _
      refine ⟨?_, mput_nodup hm.2.1, hkeep v⟩
      rw [hme, mput_new h3, List.map_append, List.map_append, hm.1]; rfl
  · have hj : es[j]? = some en := by simpa using h2
    have hg : mget m x = some en.val := mget_at hm.2.1 h4
    obtain ⟨es1, he1⟩ : ∃ e1, e1 = es.modify j (fun e' => { e' with key := enc x }) := ⟨_, rfl⟩
    obtain ⟨w1, hw1⟩ : ∃ w1, w1 = setO w b (.map es1 clock) := ⟨_, rfl⟩
    have ho1 := ho.map_obj (.map es1 clock)
    rw [← hw1] at ho1
    have hbn1 : Born es1.toList clock := by rw [he1, Array.toList_modify]; exact born_modify hbn j _ (fun _ => rfl)
    have hj1 : es1[j]? = some { en with key := enc x } := by rw [he1, Array.getElem?_modify, if_pos rfl, hj]; rfl
    refine ⟨w1, .int .i64 en.born, es1, clock, j, { en with key := enc x }, ?_, ⟨hj1, rfl, hbn1, fun v => ⟨?_, mput_nodup hm.2.1, hkeep v⟩⟩, by rw [hg]; rfl, ho1⟩
    · rw [hw1, he1]
      simp [Instr.mapEntry, run_underlying ht, MapKept.run_getObj_map hb, E.keyed.check w _ hl, h1, hj, h3, E.keyed.stays w hl, hg, MapKept.run_setObj_map _ hb, Result.andThen, goInt, setO]
    · have hml : (es1.modify j (fun e' => { e' with val := v })).toList = es.toList.modify j (fun e' => { e' with key := enc x, val := v }) := by
        rw [he1, Array.toList_modify, Array.toList_modify]
        apply List.ext_getElem?
        intro i
        simp only [List.getElem?_modify]
        cases es.toList[i]? with
        | none => simp
        | some y => by_cases h : j = i <;> simp [h]
      rw [hml, mput_at hm.2.1 h4, Go.ChangeMaps.modify_eq_set _ _ _ _ h2, List.map_set, List.map_set, hm.1]
theorem Own.map_open (E : KE P k enc ok) {t e : TypeId} (ht : P.underlying t = some (.map k e)) {z : Value} (hz : ∀ w, (zeroValue e).run P w = .ok z w) {w0 w : World} {b : Nat} {m : List (K × Value)} {R : HProp}
    (h : Own w0 (Mp enc ok b m * R) w) {x : K} (hx : ok x) : ∃ w1 s, (Instr.mapEntry t (.map (some b)) (enc x)).run P w = .ok (.tuple #[(mget m x).getD z, s]) w1 ∧ Own w0 (MpE enc ok b m x s * R) w1 := by
  obtain ⟨w1, s, es, clock, j, e, h1, h2, _, ho⟩ := h.map_raw E ht hz hx
  exact ⟨w1, s, h1, ho.cons fun _ hh => ⟨es, clock, j, e, h2, hh⟩⟩
theorem modify_self {es : Array MapEntry} {j : Nat} {e : MapEntry} (h : es[j]? = some e) : es.modify j (fun e' => { e' with val := e.val }) = es := by
  apply Array.ext_getElem?
  intro i
  rw [Array.getElem?_modify]
  by_cases hi : j = i
  · subst hi; rw [if_pos rfl, h]; rfl
  · rw [if_neg hi]
/-- As map_open; and a look-up there gives what it gave. -/
theorem Own.map_open2 (E : KE P k enc ok) {t e : TypeId} (ht : P.underlying t = some (.map k e)) {z : Value} (hz : ∀ w, (zeroValue e).run P w = .ok z w) {w0 w : World} {b : Nat} {m : List (K × Value)} {R : HProp}
    (h : Own w0 (Mp enc ok b m * R) w) {x : K} (hx : ok x) : ∃ w1 s, (Instr.mapEntry t (.map (some b)) (enc x)).run P w = .ok (.tuple #[(mget m x).getD z, s]) w1 ∧ Own w0 (MpE enc ok b m x s * R) w1 ∧ Own w0 (Mp enc ok b (mput m x ((mget m x).getD z)) * R) w1 := by
  obtain ⟨w1, s, es, clock, j, e, h1, h2, h3, ho⟩ := h.map_raw E ht hz hx
  refine ⟨w1, s, h1, ho.cons fun _ hh => ⟨es, clock, j, e, h2, hh⟩, ?_⟩
  have h4 := h2.2.2.2 e.val
  rw [modify_self h2.1, h3] at h4
  exact Own.map_mk h4 h2.2.2.1 ho
theorem Own.map_fill {t : TypeId} {w0 w : World} {b : Nat} {m : List (K × Value)} {x : K} {s : Value} {R : HProp} (h : Own w0 (MpE enc ok b m x s * R) w) (v : Value) :
    ∃ w2, (Instr.entryStore t (.map (some b)) s v).run P w = .ok () w2 ∧ Own w0 (Mp enc ok b (mput m x v) * R) w2 := by
  obtain ⟨es, clock, j, en, hj, rfl, hbn, hv, ho⟩ := h.mpe_at
  have hb := ho.blk_at.1
  have hf : es.findIdx? (fun y => ((y.born : Nat) : Int) == ((en.born : Nat) : Int)) = some j := hbn.find hj
  have ha : ∀ c : Int, Sem.run P (asIntOf (.int .i64 c)) w = .ok (.i64, c) w := fun _ => rfl
  have ho2 := ho.map_obj (.map (es.modify j (fun e' => { e' with val := v })) clock)
  refine ⟨setO w b (.map (es.modify j (fun e' => { e' with val := v })) clock), ?_, Own.map_mk (hv v) (by rw [Array.toList_modify]; exact born_modify hbn j _ (fun _ => rfl)) ho2⟩
  simp [Instr.entryStore, MapKept.run_getObj_map hb, MapKept.run_setObj_map _ hb, Result.andThen, asInt, ha, hf, setO]
theorem step_open (E : KE P k enc ok) {t e : TypeId} (ht : P.underlying t = some (.map k e)) {z : Value} (hz : ∀ w, (zeroValue e).run P w = .ok z w) {ops : Array Oper} {o : Oper} {a : Act} {K' : Act → World → Prop} {Q : Exit → Act → World → Prop} {E' : Prop}
    {w0 w : World} {b : Nat} {m : List (K × Value)} {R : HProp} (hown : Own w0 (Mp enc ok b m * R) w) {x : K} (hx : ok x)
    (hg : o.guard = none) (mo xo : Operand) (hop : o.op = Op.mapEntry t mo xo) (hm : a.eval mo = .map (some b)) (hxo : a.eval xo = enc x)
    (hK : ∀ w' s, Own w0 (MpE enc ok b m x s * R) w' → K' (a.put o.dst (.tuple #[(mget m x).getD z, s])) w') : if Region.wanted o (yielded ops a.tmps) = true then Oper.wp P o a w K' Q else E' := by
  have hw : Region.wanted o (yielded ops a.tmps) = true := by simp [Region.wanted, hg]
  rw [if_pos hw]
  obtain ⟨w', s, hrun, ho⟩ := hown.map_open E ht hz hx
  unfold Oper.wp
  simp [execOp, hop, hm, hxo, hrun, Result.andThen]
  exact hK w' s ho
theorem step_open2 (E : KE P k enc ok) {t e : TypeId} (ht : P.underlying t = some (.map k e)) {z : Value} (hz : ∀ w, (zeroValue e).run P w = .ok z w) {ops : Array Oper} {o : Oper} {a : Act} {K' : Act → World → Prop} {Q : Exit → Act → World → Prop} {E' : Prop}
    {w0 w : World} {b : Nat} {m : List (K × Value)} {R : HProp} (hown : Own w0 (Mp enc ok b m * R) w) {x : K} (hx : ok x)
    (hg : o.guard = none) (mo xo : Operand) (hop : o.op = Op.mapEntry t mo xo) (hm : a.eval mo = .map (some b)) (hxo : a.eval xo = enc x)
    (hK : ∀ w' s, Own w0 (MpE enc ok b m x s * R) w' → Own w0 (Mp enc ok b (mput m x ((mget m x).getD z)) * R) w' → K' (a.put o.dst (.tuple #[(mget m x).getD z, s])) w') : if Region.wanted o (yielded ops a.tmps) = true then Oper.wp P o a w K' Q else E' := by
  have hw : Region.wanted o (yielded ops a.tmps) = true := by simp [Region.wanted, hg]
  rw [if_pos hw]
  obtain ⟨w', s, hrun, ho, ho2⟩ := hown.map_open2 E ht hz hx
  unfold Oper.wp
  simp [execOp, hop, hm, hxo, hrun, Result.andThen]
  exact hK w' s ho ho2
theorem wpList_fill {t : TypeId} {ops : Array Oper} {rest : List Oper} {o : Oper} {a : Act} {Q : Exit → Act → World → Prop}
    {w0 w : World} {b : Nat} {m : List (K × Value)} {x : K} {s : Value} {R : HProp} (hown : Own w0 (MpE enc ok b m x s * R) w)
    (hg : o.guard = none) (mo so vo : Operand) (hop : o.op = Op.entryStore t mo so vo) (hm : a.eval mo = .map (some b)) (hso : a.eval so = s) {v : Value} (hv : a.eval vo = v)
    (hK : ∀ w', Own w0 (Mp enc ok b (mput m x v) * R) w' → wpList P ops Q rest (a.put o.dst undef) w') : wpList P ops Q (o :: rest) a w := by
  refine wpList_plain hg fun K' hK' => ?_
  obtain ⟨w', hrun, ho⟩ := hown.map_fill (P := P) (t := t) v
  unfold Oper.wp
  simp [execOp, hop, hm, hso, hv, hrun, Result.andThen]
  exact hK' _ _ (hK w' ho)
theorem step_fill {t : TypeId} {ops : Array Oper} {o : Oper} {a : Act} {K' : Act → World → Prop} {Q : Exit → Act → World → Prop} {E' : Prop}
    {w0 w : World} {b : Nat} {m : List (K × Value)} {x : K} {s : Value} {R : HProp} (hown : Own w0 (MpE enc ok b m x s * R) w)
    (hg : o.guard = none) (mo so vo : Operand) (hop : o.op = Op.entryStore t mo so vo) (hm : a.eval mo = .map (some b)) (hso : a.eval so = s) {v : Value} (hv : a.eval vo = v)
    (hK : ∀ w', Own w0 (Mp enc ok b (mput m x v) * R) w' → K' (a.put o.dst undef) w') : if Region.wanted o (yielded ops a.tmps) = true then Oper.wp P o a w K' Q else E' := by
  have hw : Region.wanted o (yielded ops a.tmps) = true := by simp [Region.wanted, hg]
  rw [if_pos hw]
  obtain ⟨w', hrun, ho⟩ := hown.map_fill (P := P) (t := t) v
  unfold Oper.wp
  simp [execOp, hop, hm, hso, hv, hrun, Result.andThen]
  exact hK w' ho
/-! ### Maps whose values own -/
variable {α : Type}
def MpS (enc : K → Value) (ok : K → Prop) (f : α → HProp) (val : α → Value) (b : Nat) (m : List (K × α)) : HProp := Mp enc ok b (mvals val m) * starL (fun p : K × α => f p.2) m
theorem starL_mput (f : α → HProp) (m : List (K × α)) (x : K) (a : α) : starL (fun p : K × α => f p.2) (mput m x a) = f a * starL (fun p : K × α => f p.2) (mdel m x) := by
  induction m with
  | nil => simp [mput, mdel, starL]
  | cons p r ih =>
    unfold mput mdel
    by_cases h : p.1 = x
    · rw [if_pos h, if_pos h]; rfl
    · rw [if_neg h, if_neg h]; simp only [starL]; rw [ih]; ac_rfl
theorem starL_mget (f : α → HProp) (m : List (K × α)) (x : K) (n : α) (hn : f n = emp) : starL (fun p : K × α => f p.2) m = f ((mget m x).getD n) * starL (fun p : K × α => f p.2) (mdel m x) := by
  induction m with
  | nil => simp [mget, mdel, starL, hn, emp_star]
  | cons p r ih =>
    unfold mget mdel
    by_cases h : p.1 = x
    · rw [if_pos h, if_pos h]; rfl
    · rw [if_neg h, if_neg h]; simp only [starL]; rw [ih]; ac_rfl
theorem Own.ms_take {f : α → HProp} {val : α → Value} {w0 w : World} {b : Nat} {m : List (K × α)} {R : HProp} (n : α) (hn : f n = emp) (x : K) (h : Own w0 (MpS enc ok f val b m * R) w) :
    Own w0 (f ((mget m x).getD n) * (Mp enc ok b (mvals val m) * (starL (fun p : K × α => f p.2) (mdel m x) * R))) w := by
  refine h.perm ?_
  unfold MpS
  rw [starL_mget f m x n hn]
  ac_rfl
theorem Own.ms_give {f : α → HProp} {val : α → Value} {w0 w : World} {b : Nat} {m : List (K × α)} {R : HProp} (n : α) (hn : f n = emp) (x : K)
    (h : Own w0 (f ((mget m x).getD n) * (Mp enc ok b (mvals val m) * (starL (fun p : K × α => f p.2) (mdel m x) * R))) w) : Own w0 (MpS enc ok f val b m * R) w := by
  refine h.perm ?_
  unfold MpS
  rw [starL_mget f m x n hn]
  ac_rfl
theorem Own.ms_put {f : α → HProp} {val : α → Value} {w0 w : World} {b : Nat} {m : List (K × α)} {R : HProp} {a : α} (x : K) (h : Own w0 (f a * (Mp enc ok b (mput (mvals val m) x (val a)) * (starL (fun p : K × α => f p.2) (mdel m x) * R))) w) :
    Own w0 (MpS enc ok f val b (mput m x a) * R) w := by
  refine h.perm ?_
  unfold MpS
  rw [starL_mput, mput_mvals]
  ac_rfl
theorem mget_val (val : α → Value) (m : List (K × α)) (x : K) (n : α) : (mget (mvals val m) x).getD (val n) = val ((mget m x).getD n) := by
  rw [mget_mvals]; cases mget m x <;> rfl
theorem Own.ms_new {f : α → HProp} {val : α → Value} {w0 w : World} {R : HProp} (h : Own w0 R w) : Own w0 (MpS enc ok f val w.heap.size ([] : List (K × α)) * R) (w.alloc (.map #[] 0)) :=
  (h.map_new (enc := enc) (ok := ok)).perm (by unfold MpS; rw [mvals_nil]; simp only [starL]; rw [star_emp])
end
/-- Rows of ints as a map's values. -/
def nilRow : Value × List Int := (.slice none 0 0, [])
theorem rowP_nil : rowP nilRow = emp := Sl_nil _ _
theorem ints_zero : ∀ w, (zeroValue 57).run Tryz.prog w = .ok (.slice none 0 0) w := fun _ => by kernel_rfl
end Go.Proofs.YtdfjbnfdknpahaaGreatDoor
/- Package cast: a group as it lies in memory; New. -/
namespace Go.Proofs.YtdfjbnfdknpahaaGreatDoor
set_option linter.unusedVariables false
set_option linter.unusedSimpArgs false
open Go.RowKit Go.Maps
abbrev CmR := Nat × Ca
def cmV (r : CmR) : Value := .pointer (some ⟨r.1, 0, none⟩)
def cmP (r : CmR) : HProp := CwP r.1 r.2
abbrev SRow := Int × SdR
abbrev sK : Int → Value := fun n => Value.int .i64 n
abbrev csHd (p nb sb : Nat) (mv hv : Value) : HProp := blk p (.cells #[mv, .pointer (some ⟨nb, 0, none⟩), .map (some sb), hv] 96 (0, 0))
def nilSdR : SdR := (.slice none 0 0, nilSd)
theorem sdRow_nil : sdRow nilSdR = emp := Sl_nil _ _
def CsO (p rb off cap nb sb : Nat) (hv : Value) (rs : List CmR) (ss : List SRow) (c : Cs) : HProp :=
  csHd p nb sb (.slice (some ⟨rb, off, none⟩) rs.length cap) hv * (TabO cmP cmV 97 rb off cap rs * (NtP nb c.net * (MpS sK I64 sdRow sdV sb ss * EvSl hv c.hist)))
def csIs (rs : List CmR) (ss : List SRow) (c : Cs) : Prop := rs.map (·.2) = c.mem ∧ mvals (fun r : SdR => r.2) ss = c.said
def CsP (p : Nat) (c : Cs) : HProp := hex fun (x : (Nat × Nat × Nat × Nat × Nat) × Value × List CmR × List SRow) => pur (csIs x.2.2.1 x.2.2.2 c) * CsO p x.1.1 x.1.2.1 x.1.2.2.1 x.1.2.2.2.1 x.1.2.2.2.2 x.2.1 x.2.2.1 x.2.2.2 c
theorem Own.cs_open {w0 w : World} {p : Nat} {c : Cs} {R : HProp} (h : Own w0 (CsP p c * R) w) : ∃ rb off cap nb sb hv rs ss, csIs rs ss c ∧ Own w0 (CsO p rb off cap nb sb hv rs ss c * R) w := by
  obtain ⟨⟨⟨rb, off, cap, nb, sb⟩, hv, rs, ss⟩, h⟩ := Own.ex h
  rw [star_assoc] at h
  obtain ⟨he, h⟩ := Own.pur_out h
  exact ⟨rb, off, cap, nb, sb, hv, rs, ss, he, h⟩
theorem Own.cs_close {w0 w : World} {p rb off cap nb sb : Nat} {hv : Value} {rs : List CmR} {ss : List SRow} {c : Cs} {R : HProp} (he : csIs rs ss c) (h : Own w0 (CsO p rb off cap nb sb hv rs ss c * R) w) : Own w0 (CsP p c * R) w := by
  refine Own.ex_mk ((rb, off, cap, nb, sb), hv, rs, ss) ?_
  rw [star_assoc]
  exact Own.pur_mk he h
section
variable {w0 w : World} {p rb off cap nb sb : Nat} {hv : Value} {rs : List CmR} {ss : List SRow} {c : Cs} {R : HProp}
theorem Own.cs_blk (h : Own w0 (CsO p rb off cap nb sb hv rs ss c * R) w) : Own w0 (csHd p nb sb (.slice (some ⟨rb, off, none⟩) rs.length cap) hv * (TabO cmP cmV 97 rb off cap rs * (NtP nb c.net * (MpS sK I64 sdRow sdV sb ss * (EvSl hv c.hist * R))))) w := h.perm (by unfold CsO; ac_rfl)
theorem Own.cs_tab (h : Own w0 (CsO p rb off cap nb sb hv rs ss c * R) w) : Own w0 (TabO cmP cmV 97 rb off cap rs * (csHd p nb sb (.slice (some ⟨rb, off, none⟩) rs.length cap) hv * (NtP nb c.net * (MpS sK I64 sdRow sdV sb ss * (EvSl hv c.hist * R))))) w := h.perm (by unfold CsO; ac_rfl)
theorem Own.cs_net (h : Own w0 (CsO p rb off cap nb sb hv rs ss c * R) w) : Own w0 (NtP nb c.net * (csHd p nb sb (.slice (some ⟨rb, off, none⟩) rs.length cap) hv * (TabO cmP cmV 97 rb off cap rs * (MpS sK I64 sdRow sdV sb ss * (EvSl hv c.hist * R))))) w := h.perm (by unfold CsO; ac_rfl)
theorem Own.cs_map (h : Own w0 (CsO p rb off cap nb sb hv rs ss c * R) w) : Own w0 (MpS sK I64 sdRow sdV sb ss * (csHd p nb sb (.slice (some ⟨rb, off, none⟩) rs.length cap) hv * (TabO cmP cmV 97 rb off cap rs * (NtP nb c.net * (EvSl hv c.hist * R))))) w := h.perm (by unfold CsO; ac_rfl)
theorem Own.cs_hist (h : Own w0 (CsO p rb off cap nb sb hv rs ss c * R) w) : Own w0 (EvSl hv c.hist * (csHd p nb sb (.slice (some ⟨rb, off, none⟩) rs.length cap) hv * (TabO cmP cmV 97 rb off cap rs * (NtP nb c.net * (MpS sK I64 sdRow sdV sb ss * R))))) w := h.perm (by unfold CsO; ac_rfl)
theorem Own.cs_facts (h : Own w0 (CsO p rb off cap nb sb hv rs ss c * R) w) :
    w.cell? ⟨p, 0, none⟩ = some (.slice (some ⟨rb, off, none⟩) rs.length cap) ∧ w.cell? ⟨p, 1, none⟩ = some (.pointer (some ⟨nb, 0, none⟩)) ∧ w.cell? ⟨p, 2, none⟩ = some (.map (some sb)) ∧ w.cell? ⟨p, 3, none⟩ = some hv ∧ (∀ i s, w.frozen? ⟨p, i, s⟩ = false) ∧
    (∀ (i : Nat) r, rs[i]? = some r → w.cell? ⟨rb, off + i, none⟩ = some (cmV r)) ∧ rs.length ≤ cap ∧ cap ≤ maxLen := by
  have h2 := h.cs_tab.tab_facts
  exact ⟨by rw [h.cs_blk.cell]; rfl, by rw [h.cs_blk.cell]; rfl, by rw [h.cs_blk.cell]; rfl, by rw [h.cs_blk.cell]; rfl, fun i s => h.cs_blk.free i s, h2.1, h2.2.2.1, h2.2.2.2⟩
end
theorem csIs_len {rs : List CmR} {ss : List SRow} {c : Cs} (he : csIs rs ss c) : rs.length = c.mem.length := by rw [← he.1, List.length_map]
theorem mapsd_made : ∀ w, (Instr.makeMap 93 none).run Tryz.prog w = .ok (.map (some w.heap.size)) (w.alloc (.map #[] 0)) := fun _ => by kernel_rfl
theorem mapsd_kind : Tryz.prog.underlying 93 = some (.map 3 59) := by kernel_rfl
theorem sd_zero : ∀ w, (zeroValue 59).run Tryz.prog w = .ok (sdV nilSdR) w := fun _ => by kernel_rfl
theorem info_cm : (Tryz.prog.info? 97).map (fun i => (i.zero, i.size, i.bytes)) = some (some (.pointer none), 1, 8) := by kernel_rfl
/-- A group in the making. -/
def CsNn (p nb sb : Nat) (mv : Value) (rs : List CmR) : HProp := csHd p nb sb mv (.slice none 0 0) * (Sl 97 1 mv rs.length (rs.map cmV) * (starL cmP rs * (NtP nb ⟨[], []⟩ * MpS sK I64 sdRow sdV sb [])))
def isGrp (n : Int) : Bool := decide (2 ≤ n) && decide (n ≤ 5)
set_option maxRecDepth 100000 in
set_option maxHeartbeats 4000000 in
theorem castGroup_any (n : Int) (w : World) :
    Calls Tryz.prog 31 #[.int .i64 n] w fun e w' => e = .returned (.bool (isGrp n)) ∧ w = w' := by
  unfold isGrp
  by_cases h1 : 2 ≤ n
  · have t1 : decide ((2 : Int) ≤ n) = true := decide_eq_true h1
    rw [t1, Bool.true_and]
    go_enter Tryz.func31, Tryz.ntmps31
    go_wp2
    go_ret
    exact ⟨rfl, rfl⟩
  · have t1 : decide ((2 : Int) ≤ n) = false := decide_eq_false h1
    rw [t1, Bool.false_and]
    go_enter Tryz.func31, Tryz.ntmps31
    go_wp2
    go_ret
    exact ⟨rfl, rfl⟩
section
variable {w0 w : World} {p nb sb : Nat} {mv : Value} {rs : List CmR} {R : HProp}
theorem csN_open (h : Own w0 (CsNn p nb sb mv rs * R) w) : Own w0 (csHd p nb sb mv (.slice none 0 0) * (Sl 97 1 mv rs.length (rs.map cmV) * (starL cmP rs * (NtP nb ⟨[], []⟩ * (MpS sK I64 sdRow sdV sb [] * R))))) w := h.perm (by unfold CsNn; ac_rfl)
theorem csN_app {q : Nat} {m : Ca} (h : Own w0 (CwP q m * (CsNn p nb sb mv rs * R)) w) : Own w0 (Sl 97 1 mv rs.length (rs.map cmV) * (csHd p nb sb mv (.slice none 0 0) * (starL cmP rs * (NtP nb ⟨[], []⟩ * (MpS sK I64 sdRow sdV sb [] * (CwP q m * R)))))) w := h.perm (by unfold CsNn; ac_rfl)
theorem csN_push {q : Nat} {m : Ca} {v' : Value}
    (h : Own w0 (Sl 97 1 v' (rs.length + 1) (rs.map cmV ++ [.pointer (some ⟨q, 0, none⟩)]) * (csHd p nb sb mv (.slice none 0 0) * (starL cmP rs * (NtP nb ⟨[], []⟩ * (MpS sK I64 sdRow sdV sb [] * (CwP q m * R)))))) w) :
    Own w0 (CsNn p nb sb v' (rs ++ [(q, m)]) * R) (w.setCell ⟨p, 0, none⟩ v') := by
  have h1 := h.second.setCell (i := 0) (v := v')
  refine h1.perm ?_
  unfold CsNn csHd
  rw [starL_snoc, List.length_append, List.map_append]
  simp only [List.length_singleton, List.map_cons, List.map_nil]
  show (blk p (.cells #[v', .pointer (some ⟨nb, 0, none⟩), .map (some sb), .slice none 0 0] 96 (0, 0)) * _ : HProp) = _
  unfold cmV
  rw [show cmP (q, m) = CwP q m from rfl]
  ac_rfl
theorem csN_done {n : Nat} (hn : 0 < rs.length) (hl : rs.map (·.2) = (List.range n).map fun i : Nat => caNew (i : Int)) (h : Own w0 (CsNn p nb sb mv rs * R) w) : Own w0 (CsP p (csNew n) * R) w := by
  obtain ⟨b, off, cap, rfl, h2⟩ := (csN_open h).second.slAt (by simpa using hn)
  refine Own.cs_close (rb := b) (off := off) (cap := cap) (nb := nb) (sb := sb) (hv := .slice none 0 0) (rs := rs) (ss := []) ⟨hl, rfl⟩ ((h2.sl_nil 112 3).perm ?_)
  unfold CsO TabO csHd EvSl
  show _ = _ * (_ * (NtP nb ⟨[], []⟩ * (_ * Sl 112 3 (.slice none 0 0) 0 []))) * R
  ac_rfl
end
set_option maxRecDepth 100000 in
set_option maxHeartbeats 4000000 in
theorem csNew_no (n : Int) (w : World) (h : isGrp n = false) :
    Calls Tryz.prog 11 #[.int .i64 n] w fun e w' => e = .returned (.tuple #[.pointer none, errV 1]) ∧ w = w' := by
  have H := Lib.hid h
  clear h
  go_enter Tryz.func11, Tryz.ntmps11
  go_wp2_with fail
  refine (castGroup_any _ _).mono ?_
  rintro e w' ⟨rfl, rfl⟩
  rw [H.out]
  go_wp2
  go_ret2
  exact ⟨rfl, rfl⟩
set_option maxRecDepth 100000 in
set_option maxHeartbeats 4000000 in
theorem csNew_yes {w0 w : World} {R : HProp} (n : Nat) (hg : isGrp n = true) (h : Own w0 R w) :
    Calls Tryz.prog 11 #[.int .i64 n] w fun e w' => ∃ p, e = .returned (.tuple #[.pointer (some ⟨p, 0, none⟩), errV 0]) ∧ Own w0 (CsP p (csNew n) * R) w' := by
  have hn5 : 2 ≤ n ∧ n ≤ 5 := by simp [isGrp] at hg; omega
  have hm1 := mapsd_made
  have HG := Lib.hid hg; have H := Lib.hid h
  clear hg h
  go_enter Tryz.func11, Tryz.ntmps11
  go_wp2_with fail
  refine (castGroup_any _ _).mono ?_
  rintro e w' ⟨rfl, rfl⟩
  rw [HG.out]
  go_wp2_with fail
  refine (ntNew_any H.out).mono ?_
  rintro e w1 ⟨nb, rfl, ho⟩
  have h1 := ho.ms_new (enc := sK) (ok := I64) (f := sdRow) (val := sdV)
  obtain ⟨sb, hsb⟩ : ∃ b, b = w1.heap.size := ⟨_, rfl⟩
  rw [← hsb] at h1
  have h2 := h1.alloc (.cells #[.slice none 0 0, .pointer (some ⟨nb, 0, none⟩), .map (some sb), .slice none 0 0] 96)
  obtain ⟨p, hp⟩ : ∃ b, b = sb + 1 := ⟨_, rfl⟩
  rw [World.size_alloc, ← hsb, ← hp] at h2
  have HN : Hid (Own w0 (CsNn p nb sb (.slice none 0 0) [] * R) ((w1.alloc (.map #[] 0)).alloc (.cells #[.slice none 0 0, .pointer (some ⟨nb, 0, none⟩), .map (some sb), .slice none 0 0] 96))) := Lib.hid ((h2.sl_nil 97 1).perm (by
    unfold CsNn csHd
    simp only [starL, List.length_nil, List.map_nil]
    rw [emp_star]
    ac_rfl))
  clear h1 h2 ho
  have HSB := Lib.hid hsb; have HP := Lib.hid hp
  clear hsb hp
  go_upto_block 0 with fail
  rw [← HSB.out, show sb + 1 = p from HP.out.symm]
  go_wp2_with fail
  go_loopw [17] (fun iv wr => ∃ (k : Nat) (mv : Value) (rs : List CmR), k ≤ n ∧ iv = .int .i64 k ∧ Hid (rs.length = k ∧ rs.map (·.2) = (List.range k).map fun i : Nat => caNew (i : Int)) ∧ Hid (Own w0 (CsNn p nb sb mv rs * R) wr)) (fun iv _ => n - (intOf iv).toNat)
  case atStart => exact ⟨0, _, [], Nat.zero_le _, rfl, Lib.hid ⟨rfl, rfl⟩, HN⟩
  case round =>
    clear HN
    obtain ⟨k, mv, rs, hk, rfl, HRS, HPP⟩ := hrel
    by_cases hlt : k < n
    rotate_left
    · have hkn : k = n := by omega
      subst hkn
      go_wp2
      go_ret2
      exact ⟨_, rfl, csN_done (by have := HRS.out.1; omega) HRS.out.2 HPP.out⟩
    have hm : isMember (k : Int) = true := by simp [isMember]; omega
    have hrl : rs.length = k := HRS.out.1
    have HM := Lib.hid hm; have HRL := Lib.hid hrl
    clear hm hrl
    go_wp2_with fail
    refine (cwNew_yes (k : Int) HM.out HPP.out).mono ?_
    rintro e w2 ⟨q, rfl, ho⟩
    rw [errV0]
    have h1 := csN_app ho
    have c1 : w2.cell? ⟨p, 0, none⟩ = some mv := (h1.second.cell 0).trans rfl
    obtain ⟨ad, cp, hmv, _⟩ := Own.rd h1
    subst hmv
    have HAP := Lib.hid h1
    clear h1 ho
    go_wp2_with (at_builtin; refine wpList_app rfl _ _ 94 rfl 97 1 8 _ info_cm Tryz.underlying94 rfl (by decide) rfl (HAP.out.alloc' _) rfl (by rfl) (Rd_lit (by simp) (by unfold maxLen; omega)) (by intro u hu; simp at hu; subst hu; rfl) (by have := HRL.out; unfold maxLen; omega) (by have := HRL.out; omega) ?_; intro v' w3 ho3; obtain ⟨ad', cp', hv', _⟩ := Own.rd ho3; subst hv'; have g1 := ho3.second.cell 0; have g2 := ho3.second.free 0 none; have HW := Lib.hid (csN_push ho3); clear ho3)
    go_round
    case rel =>
      refine ⟨k + 1, _, _, by omega, by go_num, Lib.hid ⟨by simp [HRL.out], ?_⟩, HW⟩
      rw [List.map_append, HRS.out.2, List.range_succ, List.map_append]
      rfl
    case measure => simp [intOf]; omega
end Go.Proofs.YtdfjbnfdknpahaaGreatDoor
/- slices.Clone of events. -/
namespace Go.Proofs.YtdfjbnfdknpahaaGreatDoor
set_option linter.unusedVariables false
set_option linter.unusedSimpArgs false
open Go.RowKit Go.Maps
set_option maxRecDepth 100000 in
set_option maxHeartbeats 4000000 in
theorem cloneEv_any {w0 w : World} {R : HProp} (v : Value) (l : List Ev) (hl : Evs w v l) (hb : l.length ≤ 1000000) (h : Own w0 R w) :
    Calls Tryz.prog 86 #[v] w fun e w' => ∃ v', e = .returned v' ∧ Own w0 (EvSl v' l * R) w' := by
  obtain ⟨⟨ad, cap, rfl, hlc, hcap, hn, hc⟩, hi⟩ := id hl
  cases ad with
  | none =>
    have h0 := hn rfl
    subst h0
    have hl0 : l = [] := List.eq_nil_of_length_eq_zero (by omega)
    subst hl0
    clear hn hc hi hl hlc hcap hb
    have hnil := fun (w : World) => Lib.run_eql_slice_nil (P := Tryz.prog) w 61 112 none 0 0 0 0 Tryz.underlying61
    go_enter Tryz.func86, Tryz.ntmps86
    go_wp2
    go_ret
    exact ⟨_, rfl, h.sl_nil _ _⟩
  | some a =>
    have hnil := fun (w : World) => Lib.run_eql_slice_nil (P := Tryz.prog) w 61 112 (some a) l.length cap 0 0 Tryz.underlying61
    have H := Lib.hid h
    have HL := Lib.hid hl
    have HS : Hid (Own w0 (Sl 112 3 (.slice (some ⟨w.heap.size, 0, none⟩) 0 0) 0 [] * R) (w.alloc (.cells #[] 112))) := Lib.hid (Own.sl_mk (cs := #[]) (Nat.le_refl _) (Nat.zero_le _) rfl (Nat.le_refl _) (fun i hi => by simp at hi) (h.alloc _))
    clear hn hc hi hl h
    go_enter Tryz.func86, Tryz.ntmps86
    go_wp2_with (at_builtin; refine wpList_app rfl _ _ 61 rfl 112 3 24 _ info_ev Tryz.underlying61 rfl (by decide) rfl HS.out rfl (cells_len evCells 3 (fun _ => rfl) _) ((HL.out.1).alloc _) (ev_one _) (by unfold maxLen; omega) (by omega) ?_; intro v' w1 hown')
    go_ret
    exact ⟨_, rfl, by unfold EvSl; simpa using hown'⟩
end Go.Proofs.YtdfjbnfdknpahaaGreatDoor
/- Contracts of package cast, continued: OnWay, History, Drop, Twice. -/
namespace Go.Proofs.YtdfjbnfdknpahaaGreatDoor
set_option linter.unusedVariables false
set_option linter.unusedSimpArgs false
open Go.RowKit Go.Maps
section
variable {w0 w : World} {p rb off cap nb sb : Nat} {hv : Value} {rs : List CmR} {ss : List SRow} {c : Cs} {R : HProp}
/-- A net put back. -/
theorem Own.cs_net_put {nt : Nt} (h : Own w0 (NtP nb nt * (csHd p nb sb (.slice (some ⟨rb, off, none⟩) rs.length cap) hv * (TabO cmP cmV 97 rb off cap rs * (MpS sK I64 sdRow sdV sb ss * (EvSl hv c.hist * R))))) w) : Own w0 (CsO p rb off cap nb sb hv rs ss { c with net := nt } * R) w := h.perm (by unfold CsO; ac_rfl)
end
set_option maxRecDepth 100000 in
set_option maxHeartbeats 4000000 in
theorem csOnWay_any {w0 w : World} {R : HProp} (p : Nat) (c : Cs) (hI : CsI c) (h : Own w0 (CsP p c * R) w) :
    Calls Tryz.prog 83 #[.pointer (some ⟨p, 0, none⟩)] w fun e w' => ∃ v', e = .returned v' ∧ Own w0 (PkSl v' c.net.all * (CsP p c * R)) w' := by
  obtain ⟨rb, off, cap, nb, sb, hv, rs, ss, he, ho⟩ := h.cs_open
  obtain ⟨c0, c1, c2, c3, _⟩ := ho.cs_facts
  have HO := Lib.hid ho.cs_net
  have HE := Lib.hid he
  clear he ho
  have H := Lib.hid h; have HI := Lib.hid hI
  clear h hI
  go_enter Tryz.func83, Tryz.ntmps83
  go_wp2_with fail
  refine (ntAll_any nb c.net HI.out.net HO.out).mono ?_
  rintro e w2 ⟨v', rfl, ho⟩
  have HO2 := Lib.hid ho
  clear ho c0 c1 c2 c3
  go_wp2
  go_ret
  exact ⟨v', rfl, (Own.cs_close (c := c) HE.out (Own.cs_net_put (c := c) HO2.out.to6)).second⟩
set_option maxRecDepth 100000 in
set_option maxHeartbeats 4000000 in
theorem csDrop_any {w0 w : World} {R : HProp} (p : Nat) (c : Cs) (i : Int) (hI : CsI c) (h : Own w0 (CsP p c * R) w) :
    Calls Tryz.prog 55 #[.pointer (some ⟨p, 0, none⟩), .int .i64 i] w fun e w' => e = .returned (errV (ntDropErr c.net i)) ∧ Own w0 (CsP p (csDrop c i) * R) w' := by
  obtain ⟨rb, off, cap, nb, sb, hv, rs, ss, he, ho⟩ := h.cs_open
  obtain ⟨c0, c1, c2, c3, _⟩ := ho.cs_facts
  have HO := Lib.hid ho.cs_net
  have HE := Lib.hid he
  clear he ho
  have H := Lib.hid h; have HI := Lib.hid hI
  clear h hI
  go_enter Tryz.func55, Tryz.ntmps55
  go_wp2_with fail
  refine (ntDrop_any nb c.net i HI.out.net HO.out).mono ?_
  rintro e w2 ⟨rfl, ho⟩
  have HO2 := Lib.hid ho
  clear ho c0 c1 c2 c3
  go_wp2
  go_ret
  exact ⟨rfl, Own.cs_close (c := csDrop c i) HE.out (Own.cs_net_put (c := c) HO2.out)⟩
set_option maxRecDepth 100000 in
set_option maxHeartbeats 4000000 in
theorem csTwice_any {w0 w : World} {R : HProp} (p : Nat) (c : Cs) (i : Int) (hI : CsI c) (h : Own w0 (CsP p c * R) w) :
    Calls Tryz.prog 56 #[.pointer (some ⟨p, 0, none⟩), .int .i64 i] w fun e w' => e = .returned (errV (ntTwiceErr c.net i)) ∧ Own w0 (CsP p (csTwice c i) * R) w' := by
  obtain ⟨rb, off, cap, nb, sb, hv, rs, ss, he, ho⟩ := h.cs_open
  obtain ⟨c0, c1, c2, c3, _⟩ := ho.cs_facts
  have HO := Lib.hid ho.cs_net
  have HE := Lib.hid he
  clear he ho
  have H := Lib.hid h; have HI := Lib.hid hI
  clear h hI
  go_enter Tryz.func56, Tryz.ntmps56
  go_wp2_with fail
  refine (ntTwice_any nb c.net i HI.out.net HO.out).mono ?_
  rintro e w2 ⟨rfl, ho⟩
  have HO2 := Lib.hid ho
  clear ho c0 c1 c2 c3
  go_wp2
  go_ret
  exact ⟨rfl, Own.cs_close (c := csTwice c i) HE.out (Own.cs_net_put (c := c) HO2.out)⟩
set_option maxRecDepth 100000 in
set_option maxHeartbeats 4000000 in
theorem csHistory_any {w0 w : World} {R : HProp} (p : Nat) (c : Cs) (hI : CsI c) (hb : c.hist.length ≤ 100000) (h : Own w0 (CsP p c * R) w) :
    Calls Tryz.prog 59 #[.pointer (some ⟨p, 0, none⟩)] w fun e w' => ∃ v', e = .returned v' ∧ Own w0 (EvSl v' c.hist * (CsP p c * R)) w' := by
  obtain ⟨rb, off, cap, nb, sb, hv, rs, ss, he, ho⟩ := h.cs_open
  obtain ⟨c0, c1, c2, c3, _⟩ := ho.cs_facts
  have hev : Evs w hv c.hist := EvSl_reads hI.hist _ ho.cs_hist
  obtain ⟨ad, cp, hvs, _, _⟩ := hev.shape
  have HEV := Lib.hid hev
  subst hvs
  clear he ho hev
  have H := Lib.hid h; have HI := Lib.hid hI
  clear h hI
  go_enter Tryz.func59, Tryz.ntmps59
  go_wp2_with fail
  refine (cloneEv_any _ c.hist HEV.out (by omega) H.out).mono ?_
  rintro e w2 ⟨v', rfl, ho⟩
  have HO2 := Lib.hid ho
  clear ho c0 c1 c2 c3
  go_wp2
  go_ret
  exact ⟨v', rfl, HO2.out⟩
end Go.Proofs.YtdfjbnfdknpahaaGreatDoor
