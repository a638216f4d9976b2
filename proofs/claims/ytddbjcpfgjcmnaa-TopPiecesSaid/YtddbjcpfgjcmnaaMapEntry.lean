/- A map's entry, made and then filled: m[k] = v beside another assignment. -/
import Derived.Test.YtddbjcpfgjcmnaaMap
namespace Go.Proofs.Ytddbjcpfgjcmnaa
set_option linter.unusedVariables false
set_option linter.unusedSimpArgs false
open Go.RowKit Go.Maps
set_option linter.unusedSectionVars false
section
variable {K : Type} [DecidableEq K] {P : Program} {k : TypeId} {enc : K → Value} {ok : K → Prop}
theorem Born.find {es : Array MapEntry} {clock : Nat} (h : Born es.toList clock) {j : Nat} {e : MapEntry} (he : es[j]? = some e) : es.findIdx? (fun x => ((x.born : Nat) : Int) == ((e.born : Nat) : Int)) = some j := by
  obtain ⟨hj, rfl⟩ := Array.getElem?_eq_some_iff.1 he
  rw [Array.findIdx?_eq_some_iff_getElem]
  refine ⟨hj, by simp, fun i hij hb => ?_⟩
  have hb2 : es[i].born = es[j].born := Int.ofNat.inj (eq_of_beq hb)
  have hl : ∀ q (hq : q < es.size), (es.toList.map (·.born))[q]'(by simpa using hq) = es[q].born := fun q hq => by simp
  have h1 := List.pairwise_iff_getElem.1 h.2 i j (by simp; omega) (by simpa using hj) hij
  rw [hl i (by omega), hl j hj] at h1
  exact h1 hb2
theorem modify_last {l : List MapEntry} {a : MapEntry} (f : MapEntry → MapEntry) : (l ++ [a]).modify l.length f = l ++ [f a] := by
  apply List.ext_getElem?
  intro i
  rw [List.getElem?_modify]
  by_cases h1 : i < l.length
  · rw [List.getElem?_append_left h1, List.getElem?_append_left h1]
    have : ¬ l.length = i := by omega
    simp [this]
  · by_cases h2 : i = l.length
    · subst h2; simp
    · rw [List.getElem?_append_right (by omega), List.getElem?_append_right (by omega)]
      have : [a][i - l.length]? = none := List.getElem?_eq_none (by simp; omega)
      have h3 : [f a][i - l.length]? = none := List.getElem?_eq_none (by simp; omega)
      rw [this, h3]; rfl
def setO (w : World) (b : Nat) (o : Obj) : World := { w with heap := w.heap.setIfInBounds b o }
theorem Own.map_obj {w0 w : World} {b : Nat} {o : Obj} {R : HProp} (ho : Own w0 (blk b o * R) w) (o' : Obj) : Own w0 (blk b o' * R) (setO w b o') := by
  refine ho.set rfl rfl rfl (by simp [setO]) (fun q _ hq => by simp [setO, Array.getElem?_setIfInBounds, Ne.symm hq]) ?_
  have := ho.lt
  simp [setO, this]
theorem Own.map_entry (E : KE P k enc ok) {t e : TypeId} (ht : P.underlying t = some (.map k e)) {z : Value} (hz : ∀ w, (zeroValue e).run P w = .ok z w) {w0 w : World} {b : Nat} {m : List (K × Value)} {R : HProp}
    (h : Own w0 (Mp enc ok b m * R) w) {x : K} (hx : ok x) (v : Value) : ∃ w1 s, (Instr.mapEntry t (.map (some b)) (enc x)).run P w = .ok (.tuple #[(mget m x).getD z, s]) w1 ∧ ∃ w2, (Instr.entryStore t (.map (some b)) s v).run P w1 = .ok () w2 ∧ Own w0 (Mp enc ok b (mput m x v) * R) w2 := by
  obtain ⟨es, clock, hm, hbn, ho⟩ := h.map_at
  have hb := ho.blk_at.1
  obtain ⟨l, hl⟩ := E.has x hx
  have hkeep : ∀ p ∈ mput m x v, ok p.1 := fun p hp => by
    rcases mem_mput hp with hp | rfl
    · exact hm.2.2 p hp
    · exact hx
  rcases hm.find E w hx with ⟨h1, h2, h3⟩ | ⟨j, en, h1, h2, h3, h4⟩
  · have hg : mget m x = none := mget_none.2 h3
    obtain ⟨es1, he1⟩ : ∃ e1, e1 = es.push ⟨enc x, z, clock⟩ := ⟨_, rfl⟩
    obtain ⟨w1, hw1⟩ : ∃ w1, w1 = setO w b (.map es1 (clock + 1)) := ⟨_, rfl⟩
    have ho1 := ho.map_obj (.map es1 (clock + 1))
    rw [← hw1] at ho1
    have ha : ∀ c : Int, Sem.run P (asIntOf (.int .i64 c)) w1 = .ok (.i64, c) w1 := fun _ => rfl
    have hb1 := ho1.blk_at.1
    have hf : es1.findIdx? (fun y => ((y.born : Nat) : Int) == ((clock : Nat) : Int)) = some es.size := by
      rw [he1]
      exact (born_push hbn (k := enc x) (v := z)).find (e := ⟨enc x, z, clock⟩) (by simp)
    have ho2 := ho1.map_obj (.map (es1.modify es.size (fun e' => { e' with val := v })) (clock + 1))
    have hme : es1.modify es.size (fun e' => { e' with val := v }) = es.push ⟨enc x, v, clock⟩ := by
      rw [he1]
      apply Array.ext'
      rw [Array.toList_modify, Array.toList_push, Array.toList_push]
      exact modify_last _
    refine ⟨w1, .int .i64 clock, ?_, setO w1 b (.map (es.push ⟨enc x, v, clock⟩) (clock + 1)), ?_, Own.map_mk (es := es.push ⟨enc x, v, clock⟩) (clock := clock + 1) ⟨?_, mput_nodup hm.2.1, hkeep⟩ (born_push hbn) (by rw [hme] at ho2; exact ho2)⟩
    · rw [hw1, he1]
      simp [Instr.mapEntry, run_underlying ht, MapKept.run_getObj_map hb, E.keyed.check w _ hl, h1, hz, hg, MapKept.run_setObj_map _ hb, Result.andThen, goInt, setO]
    · rw [← hme]
      simp [Instr.entryStore, MapKept.run_getObj_map hb1, MapKept.run_setObj_map _ hb1, Result.andThen, asInt, ha, hf, setO]
    · rw [mput_new h3, Array.toList_push, List.map_append, List.map_append, hm.1]; rfl
  · have hj : es[j]? = some en := by simpa using h2
    have hg : mget m x = some en.val := mget_at hm.2.1 h4
    obtain ⟨es1, he1⟩ : ∃ e1, e1 = es.modify j (fun e' => { e' with key := enc x }) := ⟨_, rfl⟩
    obtain ⟨w1, hw1⟩ : ∃ w1, w1 = setO w b (.map es1 clock) := ⟨_, rfl⟩
    have ho1 := ho.map_obj (.map es1 clock)
    rw [← hw1] at ho1
    have ha : ∀ c : Int, Sem.run P (asIntOf (.int .i64 c)) w1 = .ok (.i64, c) w1 := fun _ => rfl
    have hb1 := ho1.blk_at.1
    have hbn1 : Born es1.toList clock := by rw [he1, Array.toList_modify]; exact born_modify hbn j _ (fun _ => rfl)
    have hj1 : es1[j]? = some { en with key := enc x } := by rw [he1, Array.getElem?_modify, if_pos rfl, hj]; rfl
    have hf : es1.findIdx? (fun y => ((y.born : Nat) : Int) == ((en.born : Nat) : Int)) = some j := hbn1.find (e := { en with key := enc x }) hj1
    have ho2 := ho1.map_obj (.map (es1.modify j (fun e' => { e' with val := v })) clock)
    have hml : (es1.modify j (fun e' => { e' with val := v })).toList = es.toList.modify j (fun e' => { e' with key := enc x, val := v }) := by
      rw [he1, Array.toList_modify, Array.toList_modify]
      apply List.ext_getElem?
      intro i
      simp only [List.getElem?_modify]
      cases es.toList[i]? with
      | none => simp
      | some y => by_cases h : j = i <;> simp [h]
    refine ⟨w1, .int .i64 en.born, ?_, setO w1 b (.map (es1.modify j (fun e' => { e' with val := v })) clock), ?_, Own.map_mk (es := es1.modify j (fun e' => { e' with val := v })) (clock := clock) ⟨?_, mput_nodup hm.2.1, hkeep⟩ (by rw [Array.toList_modify]; exact born_modify hbn1 j _ (fun _ => rfl)) ho2⟩
    · rw [hw1, he1]
      simp [Instr.mapEntry, run_underlying ht, MapKept.run_getObj_map hb, E.keyed.check w _ hl, h1, hj, h3, E.keyed.stays w hl, hg, MapKept.run_setObj_map _ hb, Result.andThen, goInt, setO]
    · simp [Instr.entryStore, MapKept.run_getObj_map hb1, MapKept.run_setObj_map _ hb1, Result.andThen, asInt, ha, hf, setO]
    · rw [hml, mput_at hm.2.1 h4, Go.ChangeMaps.modify_eq_set _ _ _ _ h2, List.map_set, List.map_set, hm.1]
end
end Go.Proofs.Ytddbjcpfgjcmnaa
