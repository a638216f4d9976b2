/- A map's entry open for a store: m[k] = append(m[k], ..); and maps whose values own what they point to. -/
import Derived.Test.YtiipldlggjjlnaaMTopTotal11
import Derived.Test.YtiipldlggjjlnaaMTopTotal2
import Derived.Test.YtiipldlggjjlnaaMTopTotal1
import Derived.Test.YtiipldlggjjlnaaMTopTotal3
import Derived.Test.YtiipldlggjjlnaaMTopTotal7
import Derived.Deep.DeepCutAuto
import Derived.Deep.CutBlock
namespace Go.Proofs.Ytiipldlggjjlnaa
set_option linter.unusedVariables false
set_option linter.unusedSimpArgs false
open Go.RowKit Go.Maps
set_option linter.unusedSectionVars false
section
variable {K : Type} [DecidableEq K] {P : Program} {k : TypeId} {enc : K → Value} {ok : K → Prop}
/-- The map m in whose block the entry at x stands open: a store at the stamp s fills it. -/
def MpE (enc : K → Value) (ok : K → Prop) (b : Nat) (m : List (K × Value)) (x : K) (s : Value) : HProp := fun h =>
  ∃ (es : Array MapEntry) (clock j : Nat) (e : MapEntry), (es[j]? = some e ∧ s = .int .i64 e.born ∧ Born es.toList clock ∧ (∀ v, MapIs enc ok (es.modify j (fun e' => { e' with val := v })).toList (mput m x v))) ∧ h = hone b (.map es clock)
theorem Own.mpe_at {w0 w : World} {b : Nat} {m : List (K × Value)} {x : K} {s : Value} {R : HProp} (h : Own w0 (MpE enc ok b m x s * R) w) :
    ∃ (es : Array MapEntry) (clock j : Nat) (e : MapEntry), es[j]? = some e ∧ s = .int .i64 e.born ∧ Born es.toList clock ∧ (∀ v, MapIs enc ok (es.modify j (fun e' => { e' with val := v })).toList (mput m x v)) ∧ Own w0 (blk b (.map es clock) * R) w := by
  have h2 : Own w0 (hex (fun x' : Array MapEntry × Nat × Nat × MapEntry => fun h => (x'.1[x'.2.2.1]? = some x'.2.2.2 ∧ s = .int .i64 x'.2.2.2.born ∧ Born x'.1.toList x'.2.1 ∧ (∀ v, MapIs enc ok (x'.1.modify x'.2.2.1 (fun e' => { e' with val := v })).toList (mput m x v))) ∧ h = hone b (.map x'.1 x'.2.1)) * R) w :=
    h.cons (fun hp ⟨es, clock, j, e, hx⟩ => ⟨(es, clock, j, e), hx⟩)
  obtain ⟨⟨es, clock, j, e⟩, h3⟩ := h2.ex
  have h4 : Own w0 (pur (es[j]? = some e ∧ s = .int .i64 e.born ∧ Born es.toList clock ∧ (∀ v, MapIs enc ok (es.modify j (fun e' => { e' with val := v })).toList (mput m x v))) * (blk b (.map es clock) * R)) w := h3.mono fun hp hh => by
    obtain ⟨p, q, d, rfl, ⟨h1, h2⟩, hq⟩ := hh
    exact pur_star.2 ⟨h1, p, q, d, rfl, h2, hq⟩
  obtain ⟨⟨a1, a2, a3, a4⟩, h5⟩ := h4.pur_out
  exact ⟨es, clock, j, e, a1, a2, a3, a4, h5⟩
theorem Own.map_raw (E : KE P k enc ok) {t e : TypeId} (ht : P.underlying t = some (.map k e)) {z : Value} (hz : ∀ w, (zeroValue e).run P w = .ok z w) {w0 w : World} {b : Nat} {m : List (K × Value)} {R : HProp}
    (h : Own w0 (Mp enc ok b m * R) w) {x : K} (hx : ok x) : ∃ (w1 : World) (s : Value) (es : Array MapEntry) (clock j : Nat) (e : MapEntry), (Instr.mapEntry t (.map (some b)) (enc x)).run P w = .ok (.tuple #[(mget m x).getD z, s]) w1 ∧ (es[j]? = some e ∧ s = .int .i64 e.born ∧ Born es.toList clock ∧ (∀ v, MapIs enc ok (es.modify j (fun e' => { e' with val := v })).toList (mput m x v))) ∧ e.val = (mget m x).getD z ∧ Own w0 (blk b (.map es clock) * R) w1 := by
  obtain ⟨es, clock, hm, hbn, ho⟩ := h.map_at
  have hb := ho.blk_at.1
  obtain ⟨l, hl⟩ := E.has x hx
  have hkeep : ∀ v, ∀ p ∈ mput m x v, ok p.1 := fun v p hp => by
    rcases mem_mput hp with hp | rfl
    · exact hm.2.2 p hp
    · exact hx
  rcases hm.find E w hx with ⟨h1, h2, h3⟩ | ⟨j, en, h1, h2, h3, h4⟩
  · have hg : mget m x = none := mget_none.2 h3
    obtain ⟨es1, he1⟩ : ∃ e1, e1 = es.push ⟨enc x, z, clock⟩ := ⟨_, rfl⟩
    obtain ⟨w1, hw1⟩ : ∃ w1, w1 = setO w b (.map es1 (clock + 1)) := ⟨_, rfl⟩
    have ho1 := ho.map_obj (.map es1 (clock + 1))
    rw [← hw1] at ho1
    refine ⟨w1, .int .i64 clock, es1, clock + 1, es.size, ⟨enc x, z, clock⟩, ?_, ⟨by rw [he1]; simp, rfl, by rw [he1]; exact born_push hbn, fun v => ?_⟩, by rw [hg]; rfl, ho1⟩
    · rw [hw1, he1]
      simp [Instr.mapEntry, run_underlying ht, MapKept.run_getObj_map hb, E.keyed.check w _ hl, h1, hz, hg, MapKept.run_setObj_map _ hb, Result.andThen, goInt, setO]
    · have hme : (es1.modify es.size (fun e' => { e' with val := v })).toList = es.toList ++ [⟨enc x, v, clock⟩] := by
        rw [he1, Array.toList_modify, Array.toList_push]
        exact modify_last _
      refine ⟨?_, mput_nodup hm.2.1, hkeep v⟩
      rw [hme, mput_new h3, List.map_append, List.map_append, hm.1]; rfl
  · have hj : es[j]? = some en := by simpa using h2
    have hg : mget m x = some en.val := mget_at hm.2.1 h4
    obtain ⟨es1, he1⟩ : ∃ e1, e1 = es.modify j (fun e' => { e' with key := enc x }) := ⟨_, rfl⟩
    obtain ⟨w1, hw1⟩ : ∃ w1, w1 = setO w b (.map es1 clock) := ⟨_, rfl⟩
    have ho1 := ho.map_obj (.map es1 clock)
    rw [← hw1] at ho1
    have hbn1 : Born es1.toList clock := by rw [he1, Array.toList_modify]; exact born_modify hbn j _ (fun _ => rfl)
    have hj1 : es1[j]? = some { en with key := enc x } := by rw [he1, Array.getElem?_modify, if_pos rfl, hj]; rfl
    refine ⟨w1, .int .i64 en.born, es1, clock, j, { en with key := enc x }, ?_, ⟨hj1, rfl, hbn1, fun v => ⟨?_, mput_nodup hm.2.1, hkeep v⟩⟩, by rw [hg]; rfl, ho1⟩
    · rw [hw1, he1]
      simp [Instr.mapEntry, run_underlying ht, MapKept.run_getObj_map hb, E.keyed.check w _ hl, h1, hj, h3, E.keyed.stays w hl, hg, MapKept.run_setObj_map _ hb, Result.andThen, goInt, setO]
    · have hml : (es1.modify j (fun e' => { e' with val := v })).toList = es.toList.modify j (fun e' => { e' with key := enc x, val := v }) := by
        rw [he1, Array.toList_modify, Array.toList_modify]
        apply List.ext_getElem?
        intro i
        simp only [List.getElem?_modify]
        cases es.toList[i]? with
        | none => simp
        | some y => by_cases h : j = i <;> simp [h]
      rw [hml, mput_at hm.2.1 h4, Go.ChangeMaps.modify_eq_set _ _ _ _ h2, List.map_set, List.map_set, hm.1]
theorem Own.map_open (E : KE P k enc ok) {t e : TypeId} (ht : P.underlying t = some (.map k e)) {z : Value} (hz : ∀ w, (zeroValue e).run P w = .ok z w) {w0 w : World} {b : Nat} {m : List (K × Value)} {R : HProp}
    (h : Own w0 (Mp enc ok b m * R) w) {x : K} (hx : ok x) : ∃ w1 s, (Instr.mapEntry t (.map (some b)) (enc x)).run P w = .ok (.tuple #[(mget m x).getD z, s]) w1 ∧ Own w0 (MpE enc ok b m x s * R) w1 := by
  obtain ⟨w1, s, es, clock, j, e, h1, h2, _, ho⟩ := h.map_raw E ht hz hx
  exact ⟨w1, s, h1, ho.cons fun _ hh => ⟨es, clock, j, e, h2, hh⟩⟩
theorem modify_self {es : Array MapEntry} {j : Nat} {e : MapEntry} (h : es[j]? = some e) : es.modify j (fun e' => { e' with val := e.val }) = es := by
  apply Array.ext_getElem?
  intro i
  rw [Array.getElem?_modify]
  by_cases hi : j = i
  · subst hi; rw [if_pos rfl, h]; rfl
  · rw [if_neg hi]
/-- As map_open; and a look-up there gives what it gave. -/
theorem Own.map_open2 (E : KE P k enc ok) {t e : TypeId} (ht : P.underlying t = some (.map k e)) {z : Value} (hz : ∀ w, (zeroValue e).run P w = .ok z w) {w0 w : World} {b : Nat} {m : List (K × Value)} {R : HProp}
    (h : Own w0 (Mp enc ok b m * R) w) {x : K} (hx : ok x) : ∃ w1 s, (Instr.mapEntry t (.map (some b)) (enc x)).run P w = .ok (.tuple #[(mget m x).getD z, s]) w1 ∧ Own w0 (MpE enc ok b m x s * R) w1 ∧ Own w0 (Mp enc ok b (mput m x ((mget m x).getD z)) * R) w1 := by
  obtain ⟨w1, s, es, clock, j, e, h1, h2, h3, ho⟩ := h.map_raw E ht hz hx
  refine ⟨w1, s, h1, ho.cons fun _ hh => ⟨es, clock, j, e, h2, hh⟩, ?_⟩
  have h4 := h2.2.2.2 e.val
  rw [modify_self h2.1, h3] at h4
  exact Own.map_mk h4 h2.2.2.1 ho
theorem Own.map_fill {t : TypeId} {w0 w : World} {b : Nat} {m : List (K × Value)} {x : K} {s : Value} {R : HProp} (h : Own w0 (MpE enc ok b m x s * R) w) (v : Value) :
    ∃ w2, (Instr.entryStore t (.map (some b)) s v).run P w = .ok () w2 ∧ Own w0 (Mp enc ok b (mput m x v) * R) w2 := by
  obtain ⟨es, clock, j, en, hj, rfl, hbn, hv, ho⟩ := h.mpe_at
  have hb := ho.blk_at.1
  have hf : es.findIdx? (fun y => ((y.born : Nat) : Int) == ((en.born : Nat) : Int)) = some j := hbn.find hj
  have ha : ∀ c : Int, Sem.run P (asIntOf (.int .i64 c)) w = .ok (.i64, c) w := fun _ => rfl
  have ho2 := ho.map_obj (.map (es.modify j (fun e' => { e' with val := v })) clock)
  refine ⟨setO w b (.map (es.modify j (fun e' => { e' with val := v })) clock), ?_, Own.map_mk (hv v) (by rw [Array.toList_modify]; exact born_modify hbn j _ (fun _ => rfl)) ho2⟩
  simp [Instr.entryStore, MapKept.run_getObj_map hb, MapKept.run_setObj_map _ hb, Result.andThen, asInt, ha, hf, setO]
theorem step_open (E : KE P k enc ok) {t e : TypeId} (ht : P.underlying t = some (.map k e)) {z : Value} (hz : ∀ w, (zeroValue e).run P w = .ok z w) {ops : Array Oper} {o : Oper} {a : Act} {K' : Act → World → Prop} {Q : Exit → Act → World → Prop} {E' : Prop}
    {w0 w : World} {b : Nat} {m : List (K × Value)} {R : HProp} (hown : Own w0 (Mp enc ok b m * R) w) {x : K} (hx : ok x)
    (hg : o.guard = none) (mo xo : Operand) (hop : o.op = Op.mapEntry t mo xo) (hm : a.eval mo = .map (some b)) (hxo : a.eval xo = enc x)
    (hK : ∀ w' s, Own w0 (MpE enc ok b m x s * R) w' → K' (a.put o.dst (.tuple #[(mget m x).getD z, s])) w') : if Region.wanted o (yielded ops a.tmps) = true then Oper.wp P o a w K' Q else E' := by
  have hw : Region.wanted o (yielded ops a.tmps) = true := by simp [Region.wanted, hg]
  rw [if_pos hw]
  obtain ⟨w', s, hrun, ho⟩ := hown.map_open E ht hz hx
  unfold Oper.wp
  simp [execOp, hop, hm, hxo, hrun, Result.andThen]
  exact hK w' s ho
theorem step_open2 (E : KE P k enc ok) {t e : TypeId} (ht : P.underlying t = some (.map k e)) {z : Value} (hz : ∀ w, (zeroValue e).run P w = .ok z w) {ops : Array Oper} {o : Oper} {a : Act} {K' : Act → World → Prop} {Q : Exit → Act → World → Prop} {E' : Prop}
    {w0 w : World} {b : Nat} {m : List (K × Value)} {R : HProp} (hown : Own w0 (Mp enc ok b m * R) w) {x : K} (hx : ok x)
    (hg : o.guard = none) (mo xo : Operand) (hop : o.op = Op.mapEntry t mo xo) (hm : a.eval mo = .map (some b)) (hxo : a.eval xo = enc x)
    (hK : ∀ w' s, Own w0 (MpE enc ok b m x s * R) w' → Own w0 (Mp enc ok b (mput m x ((mget m x).getD z)) * R) w' → K' (a.put o.dst (.tuple #[(mget m x).getD z, s])) w') : if Region.wanted o (yielded ops a.tmps) = true then Oper.wp P o a w K' Q else E' := by
  have hw : Region.wanted o (yielded ops a.tmps) = true := by simp [Region.wanted, hg]
  rw [if_pos hw]
  obtain ⟨w', s, hrun, ho, ho2⟩ := hown.map_open2 E ht hz hx
  unfold Oper.wp
  simp [execOp, hop, hm, hxo, hrun, Result.andThen]
  exact hK w' s ho ho2
theorem wpList_fill {t : TypeId} {ops : Array Oper} {rest : List Oper} {o : Oper} {a : Act} {Q : Exit → Act → World → Prop}
    {w0 w : World} {b : Nat} {m : List (K × Value)} {x : K} {s : Value} {R : HProp} (hown : Own w0 (MpE enc ok b m x s * R) w)
    (hg : o.guard = none) (mo so vo : Operand) (hop : o.op = Op.entryStore t mo so vo) (hm : a.eval mo = .map (some b)) (hso : a.eval so = s) {v : Value} (hv : a.eval vo = v)
    (hK : ∀ w', Own w0 (Mp enc ok b (mput m x v) * R) w' → wpList P ops Q rest (a.put o.dst undef) w') : wpList P ops Q (o :: rest) a w := by
  refine wpList_plain hg fun K' hK' => ?_
  obtain ⟨w', hrun, ho⟩ := hown.map_fill (P := P) (t := t) v
  unfold Oper.wp
  simp [execOp, hop, hm, hso, hv, hrun, Result.andThen]
  exact hK' _ _ (hK w' ho)
theorem step_fill {t : TypeId} {ops : Array Oper} {o : Oper} {a : Act} {K' : Act → World → Prop} {Q : Exit → Act → World → Prop} {E' : Prop}
    {w0 w : World} {b : Nat} {m : List (K × Value)} {x : K} {s : Value} {R : HProp} (hown : Own w0 (MpE enc ok b m x s * R) w)
    (hg : o.guard = none) (mo so vo : Operand) (hop : o.op = Op.entryStore t mo so vo) (hm : a.eval mo = .map (some b)) (hso : a.eval so = s) {v : Value} (hv : a.eval vo = v)
    (hK : ∀ w', Own w0 (Mp enc ok b (mput m x v) * R) w' → K' (a.put o.dst undef) w') : if Region.wanted o (yielded ops a.tmps) = true then Oper.wp P o a w K' Q else E' := by
  have hw : Region.wanted o (yielded ops a.tmps) = true := by simp [Region.wanted, hg]
  rw [if_pos hw]
  obtain ⟨w', hrun, ho⟩ := hown.map_fill (P := P) (t := t) v
  unfold Oper.wp
  simp [execOp, hop, hm, hso, hv, hrun, Result.andThen]
  exact hK w' ho
/-! ### Maps whose values own -/
variable {α : Type}
def MpS (enc : K → Value) (ok : K → Prop) (f : α → HProp) (val : α → Value) (b : Nat) (m : List (K × α)) : HProp := Mp enc ok b (mvals val m) * starL (fun p : K × α => f p.2) m
theorem starL_mput (f : α → HProp) (m : List (K × α)) (x : K) (a : α) : starL (fun p : K × α => f p.2) (mput m x a) = f a * starL (fun p : K × α => f p.2) (mdel m x) := by
  induction m with
  | nil => simp [mput, mdel, starL]
  | cons p r ih =>
    unfold mput mdel
    by_cases h : p.1 = x
    · rw [if_pos h, if_pos h]; rfl
    · rw [if_neg h, if_neg h]; simp only [starL]; rw [ih]; ac_rfl
theorem starL_mget (f : α → HProp) (m : List (K × α)) (x : K) (n : α) (hn : f n = emp) : starL (fun p : K × α => f p.2) m = f ((mget m x).getD n) * starL (fun p : K × α => f p.2) (mdel m x) := by
  induction m with
  | nil => simp [mget, mdel, starL, hn, emp_star]
  | cons p r ih =>
    unfold mget mdel
    by_cases h : p.1 = x
    · rw [if_pos h, if_pos h]; rfl
    · rw [if_neg h, if_neg h]; simp only [starL]; rw [ih]; ac_rfl
theorem Own.ms_take {f : α → HProp} {val : α → Value} {w0 w : World} {b : Nat} {m : List (K × α)} {R : HProp} (n : α) (hn : f n = emp) (x : K) (h : Own w0 (MpS enc ok f val b m * R) w) :
    Own w0 (f ((mget m x).getD n) * (Mp enc ok b (mvals val m) * (starL (fun p : K × α => f p.2) (mdel m x) * R))) w := by
  refine h.perm ?_
  unfold MpS
  rw [starL_mget f m x n hn]
  ac_rfl
theorem Own.ms_give {f : α → HProp} {val : α → Value} {w0 w : World} {b : Nat} {m : List (K × α)} {R : HProp} (n : α) (hn : f n = emp) (x : K)
    (h : Own w0 (f ((mget m x).getD n) * (Mp enc ok b (mvals val m) * (starL (fun p : K × α => f p.2) (mdel m x) * R))) w) : Own w0 (MpS enc ok f val b m * R) w := by
  refine h.perm ?_
  unfold MpS
  rw [starL_mget f m x n hn]
  ac_rfl
theorem Own.ms_put {f : α → HProp} {val : α → Value} {w0 w : World} {b : Nat} {m : List (K × α)} {R : HProp} {a : α} (x : K) (h : Own w0 (f a * (Mp enc ok b (mput (mvals val m) x (val a)) * (starL (fun p : K × α => f p.2) (mdel m x) * R))) w) :
    Own w0 (MpS enc ok f val b (mput m x a) * R) w := by
  refine h.perm ?_
  unfold MpS
  rw [starL_mput, mput_mvals]
  ac_rfl
theorem mget_val (val : α → Value) (m : List (K × α)) (x : K) (n : α) : (mget (mvals val m) x).getD (val n) = val ((mget m x).getD n) := by
  rw [mget_mvals]; cases mget m x <;> rfl
theorem Own.ms_new {f : α → HProp} {val : α → Value} {w0 w : World} {R : HProp} (h : Own w0 R w) : Own w0 (MpS enc ok f val w.heap.size ([] : List (K × α)) * R) (w.alloc (.map #[] 0)) :=
  (h.map_new (enc := enc) (ok := ok)).perm (by unfold MpS; rw [mvals_nil]; simp only [starL]; rw [star_emp])
end
/-- Rows of ints as a map's values. -/
def nilRow : Value × List Int := (.slice none 0 0, [])
theorem rowP_nil : rowP nilRow = emp := Sl_nil _ _
theorem ints_zero : ∀ w, (zeroValue 25).run Try.prog w = .ok (.slice none 0 0) w := fun _ => by kernel_rfl
end Go.Proofs.Ytiipldlggjjlnaa
/- Parts of what is owned brought to the front; a literal of ints. -/
namespace Go.Proofs.Ytiipldlggjjlnaa
set_option linter.unusedVariables false
set_option linter.unusedSimpArgs false
open Go.RowKit
section
variable {w0 w : World} {A B C D E F G H R : HProp}
theorem Own.second (h : Own w0 (A * (B * R)) w) : Own w0 (B * (A * R)) w := h.perm (by ac_rfl)
theorem Own.third (h : Own w0 (A * (B * (C * R))) w) : Own w0 (C * (A * (B * R))) w := h.perm (by ac_rfl)
theorem Own.fourth (h : Own w0 (A * (B * (C * (D * R)))) w) : Own w0 (D * (A * (B * (C * R)))) w := h.perm (by ac_rfl)
theorem Own.fifth (h : Own w0 (A * (B * (C * (D * (E * R))))) w) : Own w0 (E * (A * (B * (C * (D * R))))) w := h.perm (by ac_rfl)
theorem Own.sixth (h : Own w0 (A * (B * (C * (D * (E * (F * R)))))) w) : Own w0 (F * (A * (B * (C * (D * (E * R))))) ) w := h.perm (by ac_rfl)
theorem Own.seventh (h : Own w0 (A * (B * (C * (D * (E * (F * (G * R))))))) w) : Own w0 (G * (A * (B * (C * (D * (E * (F * R)))))) ) w := h.perm (by ac_rfl)
/-- The front put back to the third, fourth, .. place. -/
theorem Own.to3 (h : Own w0 (A * (B * (C * R))) w) : Own w0 (B * (C * (A * R))) w := h.perm (by ac_rfl)
theorem Own.to4 (h : Own w0 (A * (B * (C * (D * R)))) w) : Own w0 (B * (C * (D * (A * R)))) w := h.perm (by ac_rfl)
theorem Own.to5 (h : Own w0 (A * (B * (C * (D * (E * R))))) w) : Own w0 (B * (C * (D * (E * (A * R))))) w := h.perm (by ac_rfl)
theorem Own.to6 (h : Own w0 (A * (B * (C * (D * (E * (F * R)))))) w) : Own w0 (B * (C * (D * (E * (F * (A * R)))))) w := h.perm (by ac_rfl)
end
theorem Own.only {w0 w : World} {P R : HProp} (h : Own w0 (P * R) w) : Own w0 (P * emp) w := by rw [star_emp]; exact h.drop2
theorem Own.litI {w0 w : World} {b : Nat} {R : HProp} (l : List Int) (k : Nat) (hk : l.length = k) (hm : k ≤ 1000) (h : Own w0 (blk b (.cells (l.map (Value.int .i64)).toArray 3 (0, 0)) * R) w) : Own w0 (IntSl (.slice (some ⟨b, 0, none⟩) k k) l * R) w := by
  unfold IntSl
  subst hk
  exact Own.sl_mk (Nat.le_refl _) (by unfold maxLen; omega) (by simp) (by simp) (fun i hi => by simp) h
end Go.Proofs.Ytiipldlggjjlnaa
/- Package agree: a group as it lies in memory. -/
namespace Go.Proofs.Ytiipldlggjjlnaa
set_option linter.unusedVariables false
set_option linter.unusedSimpArgs false
open Go.RowKit Go.Maps
def stCells (s : St) : List Value := [.int .i64 s.1, .int .i64 s.2]
def stP (x : Value × List St) : HProp := Sl 52 2 x.1 x.2.length (x.2.flatMap stCells)
def nilSt : Value × List St := (.slice none 0 0, [])
theorem stP_nil : stP nilSt = emp := Sl_nil _ _
def wtV (x : Wt) : Value := .agg #[.int .i64 x.1.1, .int .i64 x.1.2, .bool x.2]
/-- A member as it lies in memory. -/
structure AgR where
  p : Nat
  mb1 : Nat
  mb2 : Nat
  hv : Value
  m : AgM
def agV (r : AgR) : Value := .pointer (some ⟨r.p, 0, none⟩)
abbrev agBlk (p mb1 mb2 : Nat) (n : Int) (hv : Value) : HProp := blk p (.cells #[.int .i64 n, .map (some mb1), .map (some mb2), hv] 84 (0, 0))
def agM (r : AgR) : HProp := agBlk r.p r.mb1 r.mb2 r.m.n r.hv * (IMp r.mb1 (mvals wtV r.m.waits) * (IMp r.mb2 (setM r.m.knew) * IntSl r.hv r.m.heard))
abbrev GRow := Int × (Value × List St)
abbrev WRow := Int × (Value × List Int)
abbrev iK : Int → Value := fun n => Value.int .i64 n
abbrev agHd (p rb off n cap gb wb : Nat) : HProp := blk p (.cells #[.slice (some ⟨rb, off, none⟩) n cap, .map (some gb), .map (some wb)] 79 (0, 0))
def AgO (p rb off cap gb wb : Nat) (rs : List AgR) (gs : List GRow) (ws : List WRow) : HProp :=
  agHd p rb off rs.length cap gb wb * (TabO agM agV 80 rb off cap rs * (MpS iK I64 stP Prod.fst gb gs * MpS iK I64 rowP Prod.fst wb ws))
def agIs (rs : List AgR) (gs : List GRow) (ws : List WRow) (g : Ag) : Prop := rs.map (·.m) = g.mem ∧ mvals Prod.snd gs = g.given ∧ mvals Prod.snd ws = g.who
def AgP (p : Nat) (g : Ag) : HProp := hex fun (x : (Nat × Nat × Nat × Nat × Nat) × List AgR × List GRow × List WRow) => pur (agIs x.2.1 x.2.2.1 x.2.2.2 g) * AgO p x.1.1 x.1.2.1 x.1.2.2.1 x.1.2.2.2.1 x.1.2.2.2.2 x.2.1 x.2.2.1 x.2.2.2
theorem Own.ag_open {w0 w : World} {p : Nat} {g : Ag} {R : HProp} (h : Own w0 (AgP p g * R) w) : ∃ rb off cap gb wb rs gs ws, agIs rs gs ws g ∧ Own w0 (AgO p rb off cap gb wb rs gs ws * R) w := by
  obtain ⟨⟨⟨rb, off, cap, gb, wb⟩, rs, gs, ws⟩, h⟩ := Own.ex h
  rw [star_assoc] at h
  obtain ⟨he, h⟩ := Own.pur_out h
  exact ⟨rb, off, cap, gb, wb, rs, gs, ws, he, h⟩
theorem Own.ag_close {w0 w : World} {p rb off cap gb wb : Nat} {rs : List AgR} {gs : List GRow} {ws : List WRow} {g : Ag} {R : HProp} (he : agIs rs gs ws g) (h : Own w0 (AgO p rb off cap gb wb rs gs ws * R) w) : Own w0 (AgP p g * R) w := by
  refine Own.ex_mk ((rb, off, cap, gb, wb), rs, gs, ws) ?_
  rw [star_assoc]
  exact Own.pur_mk he h
section
variable {w0 w : World} {p rb off cap gb wb : Nat} {rs : List AgR} {gs : List GRow} {ws : List WRow} {R : HProp}
theorem Own.ag_blk (h : Own w0 (AgO p rb off cap gb wb rs gs ws * R) w) : Own w0 (agHd p rb off rs.length cap gb wb * (TabO agM agV 80 rb off cap rs * (MpS iK I64 stP Prod.fst gb gs * (MpS iK I64 rowP Prod.fst wb ws * R)))) w := h.perm (by unfold AgO; ac_rfl)
theorem Own.ag_tab (h : Own w0 (AgO p rb off cap gb wb rs gs ws * R) w) : Own w0 (TabO agM agV 80 rb off cap rs * (agHd p rb off rs.length cap gb wb * (MpS iK I64 stP Prod.fst gb gs * (MpS iK I64 rowP Prod.fst wb ws * R)))) w := h.perm (by unfold AgO; ac_rfl)
theorem Own.ag_gv (h : Own w0 (AgO p rb off cap gb wb rs gs ws * R) w) : Own w0 (MpS iK I64 stP Prod.fst gb gs * (agHd p rb off rs.length cap gb wb * (TabO agM agV 80 rb off cap rs * (MpS iK I64 rowP Prod.fst wb ws * R)))) w := h.perm (by unfold AgO; ac_rfl)
theorem Own.ag_who (h : Own w0 (AgO p rb off cap gb wb rs gs ws * R) w) : Own w0 (MpS iK I64 rowP Prod.fst wb ws * (agHd p rb off rs.length cap gb wb * (TabO agM agV 80 rb off cap rs * (MpS iK I64 stP Prod.fst gb gs * R)))) w := h.perm (by unfold AgO; ac_rfl)
theorem Own.ag_facts (h : Own w0 (AgO p rb off cap gb wb rs gs ws * R) w) :
    w.cell? ⟨p, 0, none⟩ = some (.slice (some ⟨rb, off, none⟩) rs.length cap) ∧ w.cell? ⟨p, 1, none⟩ = some (.map (some gb)) ∧ w.cell? ⟨p, 2, none⟩ = some (.map (some wb)) ∧ (∀ i s, w.frozen? ⟨p, i, s⟩ = false) ∧
    (∀ (i : Nat) r, rs[i]? = some r → w.cell? ⟨rb, off + i, none⟩ = some (agV r)) ∧ rs.length ≤ cap ∧ cap ≤ maxLen := by
  have h2 := h.ag_tab.tab_facts
  exact ⟨by rw [h.ag_blk.cell]; rfl, by rw [h.ag_blk.cell]; rfl, by rw [h.ag_blk.cell]; rfl, fun i s => h.ag_blk.free i s, h2.1, h2.2.2.1, h2.2.2.2⟩
/-- What is left of a group while one of its members is out. -/
def AgX (p rb off cap gb wb : Nat) (rs : List AgR) (gs : List GRow) (ws : List WRow) (k : Nat) : HProp :=
  SlAt 80 1 rb off rs.length cap (rs.map agV) * (starL agM (rs.eraseIdx k) * (agHd p rb off rs.length cap gb wb * (MpS iK I64 stP Prod.fst gb gs * MpS iK I64 rowP Prod.fst wb ws)))
theorem Own.ag_take {k : Nat} (hk : k < rs.length) (h : Own w0 (AgO p rb off cap gb wb rs gs ws * R) w) : Own w0 (agM rs[k] * (AgX p rb off cap gb wb rs gs ws k * R)) w :=
  (h.ag_tab.tab_take hk).perm (by unfold AgX; ac_rfl)
theorem Own.ag_give {k : Nat} (hk : k < rs.length) {y : AgR} (hy : y.p = rs[k].p) (h : Own w0 (agM y * (AgX p rb off cap gb wb rs gs ws k * R)) w) : Own w0 (AgO p rb off cap gb wb (rs.set k y) gs ws * R) w := by
  refine h.perm ?_
  unfold AgX AgO TabO
  have e : (rs.set k y).map agV = rs.map agV := by
    rw [List.map_set]
    have : agV y = (rs.map agV)[k]'(by simpa using hk) := by simp [agV, hy]
    rw [this, List.set_getElem_self]
  rw [starL_set agM rs k hk, e, List.length_set]
  ac_rfl
theorem Own.agx_blk {k : Nat} {Q : HProp} (h : Own w0 (Q * (AgX p rb off cap gb wb rs gs ws k * R)) w) : Own w0 (agHd p rb off rs.length cap gb wb * (SlAt 80 1 rb off rs.length cap (rs.map agV) * (starL agM (rs.eraseIdx k) * (MpS iK I64 stP Prod.fst gb gs * (MpS iK I64 rowP Prod.fst wb ws * (Q * R)))))) w := h.perm (by unfold AgX; ac_rfl)
theorem Own.agx_gv {k : Nat} {Q : HProp} (h : Own w0 (Q * (AgX p rb off cap gb wb rs gs ws k * R)) w) : Own w0 (MpS iK I64 stP Prod.fst gb gs * (SlAt 80 1 rb off rs.length cap (rs.map agV) * (starL agM (rs.eraseIdx k) * (agHd p rb off rs.length cap gb wb * (MpS iK I64 rowP Prod.fst wb ws * (Q * R)))))) w := h.perm (by unfold AgX; ac_rfl)
theorem Own.agx_facts {k : Nat} {Q : HProp} (h : Own w0 (Q * (AgX p rb off cap gb wb rs gs ws k * R)) w) :
    w.cell? ⟨p, 0, none⟩ = some (.slice (some ⟨rb, off, none⟩) rs.length cap) ∧ w.cell? ⟨p, 1, none⟩ = some (.map (some gb)) ∧ w.cell? ⟨p, 2, none⟩ = some (.map (some wb)) :=
  ⟨by rw [h.agx_blk.cell]; rfl, by rw [h.agx_blk.cell]; rfl, by rw [h.agx_blk.cell]; rfl⟩
theorem Own.agm_blk {r : AgR} (h : Own w0 (agM r * R) w) : Own w0 (agBlk r.p r.mb1 r.mb2 r.m.n r.hv * (IMp r.mb1 (mvals wtV r.m.waits) * (IMp r.mb2 (setM r.m.knew) * (IntSl r.hv r.m.heard * R)))) w := h.perm (by unfold agM; ac_rfl)
theorem Own.agm_waits {r : AgR} (h : Own w0 (agM r * R) w) : Own w0 (IMp r.mb1 (mvals wtV r.m.waits) * (agBlk r.p r.mb1 r.mb2 r.m.n r.hv * (IMp r.mb2 (setM r.m.knew) * (IntSl r.hv r.m.heard * R)))) w := h.perm (by unfold agM; ac_rfl)
theorem Own.agm_knew {r : AgR} (h : Own w0 (agM r * R) w) : Own w0 (IMp r.mb2 (setM r.m.knew) * (agBlk r.p r.mb1 r.mb2 r.m.n r.hv * (IMp r.mb1 (mvals wtV r.m.waits) * (IntSl r.hv r.m.heard * R)))) w := h.perm (by unfold agM; ac_rfl)
theorem Own.agm_heard {r : AgR} (h : Own w0 (agM r * R) w) : Own w0 (IntSl r.hv r.m.heard * (agBlk r.p r.mb1 r.mb2 r.m.n r.hv * (IMp r.mb1 (mvals wtV r.m.waits) * (IMp r.mb2 (setM r.m.knew) * R)))) w := h.perm (by unfold agM; ac_rfl)
theorem Own.agm_facts {r : AgR} (h : Own w0 (agM r * R) w) : w.cell? ⟨r.p, 0, none⟩ = some (.int .i64 r.m.n) ∧ w.cell? ⟨r.p, 1, none⟩ = some (.map (some r.mb1)) ∧ w.cell? ⟨r.p, 2, none⟩ = some (.map (some r.mb2)) ∧ w.cell? ⟨r.p, 3, none⟩ = some r.hv ∧ (∀ i s, w.frozen? ⟨r.p, i, s⟩ = false) :=
  ⟨by rw [h.agm_blk.cell]; rfl, by rw [h.agm_blk.cell]; rfl, by rw [h.agm_blk.cell]; rfl, by rw [h.agm_blk.cell]; rfl, fun i s => h.agm_blk.free i s⟩
end
end Go.Proofs.Ytiipldlggjjlnaa
/- Contracts of package agree: less, first, hear. -/
namespace Go.Proofs.Ytiipldlggjjlnaa
set_option linter.unusedVariables false
set_option linter.unusedSimpArgs false
open Go.RowKit Go.Maps
def orI (x y : Int) : Int := if x = 0 then y else x
def cmpI (a b : Int) : Int := if a < b then -1 else if b < a then 1 else 0
set_option maxRecDepth 100000 in
set_option maxHeartbeats 4000000 in
theorem isNaN_any (a : Int) (w : World) :
    Calls Try.prog 49 #[.int .i64 a] w fun e w' => e = .returned (.bool false) ∧ w = w' := by
  have t1 : (a != a) = false := by rw [bne_eq_false_iff_eq]
  go_enter Try.func49, Try.ntmps49
  go_wp2
  go_ret
  exact ⟨rfl, rfl⟩
set_option maxRecDepth 100000 in
set_option maxHeartbeats 4000000 in
theorem compare_any (a b : Int) (w : World) :
    Calls Try.prog 28 #[.int .i64 a, .int .i64 b] w fun e w' => e = .returned (.int .i64 (cmpI a b)) ∧ w = w' := by
  by_cases h1 : a < b
  · have hc : cmpI a b = -1 := if_pos h1
    have t1 : decide (a < b) = true := by simpa using h1
    have HC := Lib.hid hc; have H1 := Lib.hid h1
    clear hc h1
    go_enter Try.func28, Try.ntmps28
    go_wp2_with fail
    refine (isNaN_any _ _).mono ?_
    rintro e w' ⟨rfl, rfl⟩
    go_wp2_with fail
    refine (isNaN_any _ _).mono ?_
    rintro e w' ⟨rfl, rfl⟩
    go_wp2
    go_ret
    exact ⟨by rw [show cmpI a b = -1 from HC.out]; rfl, rfl⟩
  have t1 : decide (a < b) = false := by simpa using h1
  by_cases h2 : b < a
  · have hc : cmpI a b = 1 := (if_neg h1).trans (if_pos h2)
    have t2 : decide (b < a) = true := by simpa using h2
    have HC := Lib.hid hc; have H1 := Lib.hid h1; have H2 := Lib.hid h2
    clear hc h1 h2
    go_enter Try.func28, Try.ntmps28
    go_wp2_with fail
    refine (isNaN_any _ _).mono ?_
    rintro e w' ⟨rfl, rfl⟩
    go_wp2_with fail
    refine (isNaN_any _ _).mono ?_
    rintro e w' ⟨rfl, rfl⟩
    go_wp2
    go_ret
    exact ⟨by rw [show cmpI a b = 1 from HC.out]; rfl, rfl⟩
  have hc : cmpI a b = 0 := (if_neg h1).trans (if_neg h2)
  have t2 : decide (b < a) = false := by simpa using h2
  have HC := Lib.hid hc; have H1 := Lib.hid h1; have H2 := Lib.hid h2
  clear hc h1 h2
  go_enter Try.func28, Try.ntmps28
  go_wp2_with fail
  refine (isNaN_any _ _).mono ?_
  rintro e w' ⟨rfl, rfl⟩
  go_wp2_with fail
  refine (isNaN_any _ _).mono ?_
  rintro e w' ⟨rfl, rfl⟩
  go_wp2
  go_ret
  exact ⟨by rw [show cmpI a b = 0 from HC.out]; rfl, rfl⟩
set_option maxRecDepth 100000 in
set_option maxHeartbeats 4000000 in
theorem orInt_any (b : Nat) (x y : Int) (w : World) (c0 : w.cell? ⟨b, 0, none⟩ = some (.int .i64 x)) (c1 : w.cell? ⟨b, 1, none⟩ = some (.int .i64 y)) :
    Calls Try.prog 27 #[.slice (some ⟨b, 0, none⟩) 2 2] w fun e w' => e = .returned (.int .i64 (orI x y)) ∧ w = w' := by
  go_enter Try.func27, Try.ntmps27
  go_wp2_with fail
  go_loopw [8] (fun iv wr => ∃ k : Nat, k ≤ 2 ∧ iv = .int .i64 k ∧ Hid (wr = w ∧ (0 < k → x = 0) ∧ (1 < k → y = 0))) (fun iv _ => 2 - (intOf iv).toNat)
  case atStart => exact ⟨0, by omega, rfl, Lib.hid ⟨rfl, by omega, by omega⟩⟩
  case round =>
    obtain ⟨k, hk, rfl, hp⟩ := hrel
    obtain ⟨rfl, h1, h2⟩ := hp.out
    by_cases h3 : k = 0
    · subst h3
      by_cases hx : x = 0
      · have t1 : (x != 0) = false := by rw [bne_eq_false_iff_eq]; exact hx
        have HX := Lib.hid hx; have H1 := Lib.hid h1; have H2 := Lib.hid h2
        clear hx h1 h2
        go_wp2
        go_roundw
        case rel => exact ⟨1, by omega, rfl, Lib.hid (by refine ⟨?_, fun _ => HX.out, fun h => by omega⟩; first | rfl | trivial)⟩
        case measure => simp [intOf]
      · have t1 : (x != 0) = true := by rw [bne_iff_ne]; exact hx
        have HX := Lib.hid hx; have H1 := Lib.hid h1; have H2 := Lib.hid h2
        clear hx h1 h2
        go_wp2
        go_ret
        exact ⟨by rw [show orI x y = x from if_neg HX.out]; rfl, rfl⟩
    have hx : x = 0 := h1 (by omega)
    by_cases h4 : k = 1
    · subst h4
      by_cases hy : y = 0
      · have t1 : (y != 0) = false := by rw [bne_eq_false_iff_eq]; exact hy
        have HX := Lib.hid hx; have HY := Lib.hid hy; have H1 := Lib.hid h1; have H2 := Lib.hid h2
        clear hx hy h1 h2
        go_wp2
        go_roundw
        case rel => exact ⟨2, by omega, rfl, Lib.hid (by refine ⟨?_, fun _ => HX.out, fun _ => HY.out⟩; first | rfl | trivial)⟩
        case measure => simp [intOf]
      · have t1 : (y != 0) = true := by rw [bne_iff_ne]; exact hy
        have HX := Lib.hid hx; have HY := Lib.hid hy; have H1 := Lib.hid h1; have H2 := Lib.hid h2
        clear hx hy h1 h2
        go_wp2
        go_ret
        exact ⟨by rw [show orI x y = y from if_pos HX.out]; rfl, rfl⟩
    have h5 : k = 2 := by omega
    subst h5
    have hy : y = 0 := h2 (by omega)
    have HX := Lib.hid hx; have HY := Lib.hid hy; have H1 := Lib.hid h1; have H2 := Lib.hid h2; have H3 := Lib.hid h3; have H4 := Lib.hid h4
    clear hx hy h1 h2 h3 h4
    go_wp2
    go_ret
    exact ⟨by rw [show orI x y = 0 from (if_pos HX.out).trans HY.out]; rfl, rfl⟩
def stV (s : St) : Value := .agg #[.int .i64 s.1, .int .i64 s.2]
def StO (b : Nat) (s : St) : HProp := blk b (.cells #[.int .i64 s.1, .int .i64 s.2] 52 (0, 0))
theorem Own.sto {w0 w : World} {b : Nat} {s : St} {R : HProp} (h : Own w0 (StO b s * R) w) : w.cell? ⟨b, 0, none⟩ = some (.int .i64 s.1) ∧ w.cell? ⟨b, 1, none⟩ = some (.int .i64 s.2) ∧ ∀ i t, w.frozen? ⟨b, i, t⟩ = false :=
  ⟨(Own.cell h 0).trans rfl, (Own.cell h 1).trans rfl, Own.free h⟩
theorem stLess_cmp (a b : St) : stLess a b = decide (orI (cmpI a.1 b.1) (cmpI a.2 b.2) < 0) := by
  unfold stLess orI cmpI
  by_cases h1 : a.1 < b.1
  · simp [h1]
  · by_cases h2 : b.1 < a.1
    · have h3 : ¬ a.1 = b.1 := by omega
      simp [h1, h2, h3]
    · have h3 : a.1 = b.1 := by omega
      by_cases h4 : a.2 < b.2
      · simp [h3, h4]
      · by_cases h5 : b.2 < a.2 <;> simp [h3, h4, h5]
set_option maxRecDepth 100000 in
set_option maxHeartbeats 4000000 in
theorem less_any {w0 w : World} {R : HProp} (a b : St) (h : Own w0 R w) :
    Calls Try.prog 39 #[.agg #[.int .i64 a.1, .int .i64 a.2], .agg #[.int .i64 b.1, .int .i64 b.2]] w fun e w' => e = .returned (.bool (stLess a b)) ∧ Own w0 R w' := by
  rw [stLess_cmp]
  obtain ⟨a1, a2⟩ := a
  obtain ⟨b1, b2⟩ := b
  dsimp only
  obtain ⟨p1, hb_p1⟩ : ∃ zz_, zz_ = (w).heap.size := ⟨_, rfl⟩
  obtain ⟨w1, hw_w1⟩ : ∃ zz_, zz_ = (w).alloc (.cells #[.int .i64 a1, .int .i64 a2] 52 (0, 0)) := ⟨_, rfl⟩
  have h_H1 := (h).alloc (.cells #[.int .i64 a1, .int .i64 a2] 52 (0, 0))
  rw [← hb_p1, ← hw_w1] at h_H1
  have H1 := Lib.hid h_H1
  clear h_H1
  obtain ⟨p2, hb_p2⟩ : ∃ zz_, zz_ = (w1).heap.size := ⟨_, rfl⟩
  obtain ⟨w2, hw_w2⟩ : ∃ zz_, zz_ = (w1).alloc (.cells #[.int .i64 b1, .int .i64 b2] 52 (0, 0)) := ⟨_, rfl⟩
  have h_H2 := (H1.out).alloc (.cells #[.int .i64 b1, .int .i64 b2] 52 (0, 0))
  rw [← hb_p2, ← hw_w2] at h_H2
  have H2 := Lib.hid h_H2
  clear h_H2
  have HO : Hid (Own w0 (StO p1 (a1, a2) * (StO p2 (b1, b2) * R)) w2) := Lib.hid (H2.out.second.perm (by unfold StO; ac_rfl))
  obtain ⟨x0, x1, _⟩ := HO.out.drew.sto
  obtain ⟨y0, y1, _⟩ := HO.out.drew.second.sto
  simp only at x0 x1 y0 y1
  clear H1 H2
  have H := Lib.hid h
  clear h
  go_enter Try.func39, Try.ntmps39
  go_upto_region 1 with fail
  have hq_p2 : p1 + 1 = p2 := by rw [hb_p2, hw_w1, hb_p1, World.size_alloc]
  rw [← hb_p1, hq_p2, ← hw_w1, ← hw_w2]
  clear hq_p2 hb_p1 hb_p2 hw_w1 hw_w2
  refine wp_region_planH 13 [] [(true, 0), (true, 1), (true, 2), (true, 3), (true, 5), (true, 6), (true, 7), (true, 8), (false, 4), (false, 9), (false, 10), (false, 11), (true, 12)] [13] (fun wS => wS.cell? ⟨p1, 0, none⟩ = some (.int .i64 a1) ∧ wS.cell? ⟨p1, 1, none⟩ = some (.int .i64 a2) ∧ wS.cell? ⟨p2, 0, none⟩ = some (.int .i64 b1) ∧ wS.cell? ⟨p2, 1, none⟩ = some (.int .i64 b2)) (by kernel_rfl) (by kernel_rfl) (⟨x0, x1, y0, y1⟩) ?_
  simp only [pickH, pick, List.getElem?_cons_succ, List.getElem?_cons_zero, Option.toList, Option.map_some, List.cons_append, List.nil_append]
  repeat (refine wpPure_step ?_ rfl ?_ ?_; rotate_left; (focus (intro _; first | with_reducible rfl | (go_simp; done) | (go_simp; with_reducible rfl) | rfl)); go_simp)
  refine wpPure_nil ?_
  repeat (refine wpMix_read ?_ rfl ?_ ?_; rotate_left; (focus (intro _ hS; obtain ⟨s1, s2, s3, s4⟩ := hS; first | with_reducible rfl | (go_simp; done) | (go_simp; with_reducible rfl) | rfl)); go_simp)
  refine wpMix_write (fun K hK => ?_)
  go_simp
  refine (compare_any _ _ _).mono ?_
  rintro e w' ⟨rfl, rfl⟩
  refine hK _ _ ⟨⟨x0, x1, y0, y1⟩, ?_⟩
  clear hK K
  go_simp
  refine wpMix_write (fun K hK => ?_)
  go_simp
  refine (compare_any _ _ _).mono ?_
  rintro e w' ⟨rfl, rfl⟩
  refine hK _ _ ⟨⟨x0, x1, y0, y1⟩, ?_⟩
  clear hK K
  go_simp
  refine wpMix_write (fun K hK => ?_)
  go_simp
  obtain ⟨p3, hb_p3⟩ : ∃ zz_, zz_ = (w2).heap.size := ⟨_, rfl⟩
  obtain ⟨w3, hw_w3⟩ : ∃ zz_, zz_ = (w2).alloc (.cells #[.int .i64 (cmpI a1 b1), .int .i64 (cmpI a2 b2)] 3 (0, 0)) := ⟨_, rfl⟩
  have h_H3 := (HO.out).alloc (.cells #[.int .i64 (cmpI a1 b1), .int .i64 (cmpI a2 b2)] 3 (0, 0))
  rw [← hb_p3, ← hw_w3] at h_H3
  have H3 := Lib.hid h_H3
  clear h_H3
  rw [← hb_p3, ← hw_w3]
  clear hb_p3 hw_w3
  clear x0 x1 y0 y1
  have z0 : w3.drew.cell? ⟨p3, 0, none⟩ = some (.int .i64 (cmpI a1 b1)) := (H3.out.drew.cell 0).trans rfl
  have z1 : w3.drew.cell? ⟨p3, 1, none⟩ = some (.int .i64 (cmpI a2 b2)) := (H3.out.drew.cell 1).trans rfl
  have HO3 : Hid (Own w0 (StO p1 (a1, a2) * (StO p2 (b1, b2) * R)) w3.drew) := Lib.hid H3.out.drop.drew
  clear H3
  obtain ⟨x0, x1, _⟩ := HO3.out.sto
  obtain ⟨y0, y1, _⟩ := HO3.out.second.sto
  simp only at x0 x1 y0 y1
  refine hK _ _ ⟨⟨x0, x1, y0, y1⟩, ?_⟩
  clear hK K
  go_simp
  refine wpMix_write (fun K hK => ?_)
  go_simp
  refine (orInt_any p3 _ _ _ z0 z1).mono ?_
  rintro e w' ⟨rfl, rfl⟩
  refine hK _ _ ⟨⟨x0, x1, y0, y1⟩, ?_⟩
  clear hK K
  go_simp
  repeat (refine wpMix_read ?_ rfl ?_ ?_; rotate_left; (focus (intro _ hS; obtain ⟨s1, s2, s3, s4⟩ := hS; first | with_reducible rfl | (go_simp; done) | (go_simp; with_reducible rfl) | rfl)); go_simp)
  refine wpMix_nil ?_
  go_wp2_with fail
  refine NoPanic.normal ?_
  go_wp2
  go_ret
  exact ⟨rfl, HO3.out.drop.drop⟩
end Go.Proofs.Ytiipldlggjjlnaa
