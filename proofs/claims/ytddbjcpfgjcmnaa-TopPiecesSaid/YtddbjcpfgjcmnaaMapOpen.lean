/- A map's entry open for a store: m[k] = append(m[k], ..); and maps whose values own what they point to. -/
import Derived.Test.YtddbjcpfgjcmnaaMapEntry
import Derived.Test.YtddbjcpfgjcmnaaStable
namespace Go.Proofs.Ytddbjcpfgjcmnaa
set_option linter.unusedVariables false
set_option linter.unusedSimpArgs false
open Go.RowKit Go.Maps
set_option linter.unusedSectionVars false
section
variable {K : Type} [DecidableEq K] {P : Program} {k : TypeId} {enc : K → Value} {ok : K → Prop}
/-- The map m in whose block the entry at x stands open: a store at the stamp s fills it. -/
def MpE (enc : K → Value) (ok : K → Prop) (b : Nat) (m : List (K × Value)) (x : K) (s : Value) : HProp := fun h =>
  ∃ (es : Array MapEntry) (clock j : Nat) (e : MapEntry), (es[j]? = some e ∧ s = .int .i64 e.born ∧ Born es.toList clock ∧ (∀ v, MapIs enc ok (es.modify j (fun e' => { e' with val := v })).toList (mput m x v))) ∧ h = hone b (.map es clock)
theorem Own.mpe_at {w0 w : World} {b : Nat} {m : List (K × Value)} {x : K} {s : Value} {R : HProp} (h : Own w0 (MpE enc ok b m x s * R) w) :
    ∃ (es : Array MapEntry) (clock j : Nat) (e : MapEntry), es[j]? = some e ∧ s = .int .i64 e.born ∧ Born es.toList clock ∧ (∀ v, MapIs enc ok (es.modify j (fun e' => { e' with val := v })).toList (mput m x v)) ∧ Own w0 (blk b (.map es clock) * R) w := by
  have h2 : Own w0 (hex (fun x' : Array MapEntry × Nat × Nat × MapEntry => fun h => (x'.1[x'.2.2.1]? = some x'.2.2.2 ∧ s = .int .i64 x'.2.2.2.born ∧ Born x'.1.toList x'.2.1 ∧ (∀ v, MapIs enc ok (x'.1.modify x'.2.2.1 (fun e' => { e' with val := v })).toList (mput m x v))) ∧ h = hone b (.map x'.1 x'.2.1)) * R) w :=
    h.cons (fun hp ⟨es, clock, j, e, hx⟩ => ⟨(es, clock, j, e), hx⟩)
  obtain ⟨⟨es, clock, j, e⟩, h3⟩ := h2.ex
  have h4 : Own w0 (pur (es[j]? = some e ∧ s = .int .i64 e.born ∧ Born es.toList clock ∧ (∀ v, MapIs enc ok (es.modify j (fun e' => { e' with val := v })).toList (mput m x v))) * (blk b (.map es clock) * R)) w := h3.mono fun hp hh => by
    obtain ⟨p, q, d, rfl, ⟨h1, h2⟩, hq⟩ := hh
    exact pur_star.2 ⟨h1, p, q, d, rfl, h2, hq⟩
  obtain ⟨⟨a1, a2, a3, a4⟩, h5⟩ := h4.pur_out
  exact ⟨es, clock, j, e, a1, a2, a3, a4, h5⟩
theorem Own.map_raw (E : KE P k enc ok) {t e : TypeId} (ht : P.underlying t = some (.map k e)) {z : Value} (hz : ∀ w, (zeroValue e).run P w = .ok z w) {w0 w : World} {b : Nat} {m : List (K × Value)} {R : HProp}
    (h : Own w0 (Mp enc ok b m * R) w) {x : K} (hx : ok x) : ∃ (w1 : World) (s : Value) (es : Array MapEntry) (clock j : Nat) (e : MapEntry), (Instr.mapEntry t (.map (some b)) (enc x)).run P w = .ok (.tuple #[(mget m x).getD z, s]) w1 ∧ (es[j]? = some e ∧ s = .int .i64 e.born ∧ Born es.toList clock ∧ (∀ v, MapIs enc ok (es.modify j (fun e' => { e' with val := v })).toList (mput m x v))) ∧ e.val = (mget m x).getD z ∧ Own w0 (blk b (.map es clock) * R) w1 := by
  obtain ⟨es, clock, hm, hbn, ho⟩ := h.map_at
  have hb := ho.blk_at.1
  obtain ⟨l, hl⟩ := E.has x hx
  have hkeep : ∀ v, ∀ p ∈ mput m x v, ok p.1 := fun v p hp => by
    rcases mem_mput hp with hp | rfl
    · exact hm.2.2 p hp
    · exact hx
  rcases hm.find E w hx with ⟨h1, h2, h3⟩ | ⟨j, en, h1, h2, h3, h4⟩
  · have hg : mget m x = none := mget_none.2 h3
    obtain ⟨es1, he1⟩ : ∃ e1, e1 = es.push ⟨enc x, z, clock⟩ := ⟨_, rfl⟩
    obtain ⟨w1, hw1⟩ : ∃ w1, w1 = setO w b (.map es1 (clock + 1)) := ⟨_, rfl⟩
    have ho1 := ho.map_obj (.map es1 (clock + 1))
    rw [← hw1] at ho1
    refine ⟨w1, .int .i64 clock, es1, clock + 1, es.size, ⟨enc x, z, clock⟩, ?_, ⟨by rw [he1]; simp, rfl, by rw [he1]; exact born_push hbn, fun v => ?_⟩, by rw [hg]; rfl, ho1⟩
    · rw [hw1, he1]
      simp [Instr.mapEntry, run_underlying ht, MapKept.run_getObj_map hb, E.keyed.check w _ hl, h1, hz, hg, MapKept.run_setObj_map _ hb, Result.andThen, goInt, setO]
    · have hme : (es1.modify es.size (fun e' => { e' with val := v })).toList = es.toList ++ [⟨enc x, v, clock⟩] := by
        rw [he1, Array.toList_modify, Array.toList_push]
        exact modify_last _
      refine ⟨?_, mput_nodup hm.2.1, hkeep v⟩
      rw [hme, mput_new h3, List.map_append, List.map_append, hm.1]; rfl
  · have hj : es[j]? = some en := by simpa using h2
    have hg : mget m x = some en.val := mget_at hm.2.1 h4
    obtain ⟨es1, he1⟩ : ∃ e1, e1 = es.modify j (fun e' => { e' with key := enc x }) := ⟨_, rfl⟩
    obtain ⟨w1, hw1⟩ : ∃ w1, w1 = setO w b (.map es1 clock) := ⟨_, rfl⟩
    have ho1 := ho.map_obj (.map es1 clock)
    rw [← hw1] at ho1
    have hbn1 : Born es1.toList clock := by rw [he1, Array.toList_modify]; exact born_modify hbn j _ (fun _ => rfl)
    have hj1 : es1[j]? = some { en with key := enc x } := by rw [he1, Array.getElem?_modify, if_pos rfl, hj]; rfl
    refine ⟨w1, .int .i64 en.born, es1, clock, j, { en with key := enc x }, ?_, ⟨hj1, rfl, hbn1, fun v => ⟨?_, mput_nodup hm.2.1, hkeep v⟩⟩, by rw [hg]; rfl, ho1⟩
    · rw [hw1, he1]
      simp [Instr.mapEntry, run_underlying ht, MapKept.run_getObj_map hb, E.keyed.check w _ hl, h1, hj, h3, E.keyed.stays w hl, hg, MapKept.run_setObj_map _ hb, Result.andThen, goInt, setO]
    · have hml : (es1.modify j (fun e' => { e' with val := v })).toList = es.toList.modify j (fun e' => { e' with key := enc x, val := v }) := by
        rw [he1, Array.toList_modify, Array.toList_modify]
        apply List.ext_getElem?
        intro i
        simp only [List.getElem?_modify]
        cases es.toList[i]? with
        | none => simp
        | some y => by_cases h : j = i <;> simp [h]
      rw [hml, mput_at hm.2.1 h4, Go.ChangeMaps.modify_eq_set _ _ _ _ h2, List.map_set, List.map_set, hm.1]
theorem Own.map_open (E : KE P k enc ok) {t e : TypeId} (ht : P.underlying t = some (.map k e)) {z : Value} (hz : ∀ w, (zeroValue e).run P w = .ok z w) {w0 w : World} {b : Nat} {m : List (K × Value)} {R : HProp}
    (h : Own w0 (Mp enc ok b m * R) w) {x : K} (hx : ok x) : ∃ w1 s, (Instr.mapEntry t (.map (some b)) (enc x)).run P w = .ok (.tuple #[(mget m x).getD z, s]) w1 ∧ Own w0 (MpE enc ok b m x s * R) w1 := by
  obtain ⟨w1, s, es, clock, j, e, h1, h2, _, ho⟩ := h.map_raw E ht hz hx
  exact ⟨w1, s, h1, ho.cons fun _ hh => ⟨es, clock, j, e, h2, hh⟩⟩
theorem modify_self {es : Array MapEntry} {j : Nat} {e : MapEntry} (h : es[j]? = some e) : es.modify j (fun e' => { e' with val := e.val }) = es := by
  apply Array.ext_getElem?
  intro i
  rw [Array.getElem?_modify]
  by_cases hi : j = i
  · subst hi; rw [if_pos rfl, h]; rfl
  · rw [if_neg hi]
/-- As map_open; and a look-up there gives what it gave. -/
theorem Own.map_open2 (E : KE P k enc ok) {t e : TypeId} (ht : P.underlying t = some (.map k e)) {z : Value} (hz : ∀ w, (zeroValue e).run P w = .ok z w) {w0 w : World} {b : Nat} {m : List (K × Value)} {R : HProp}
    (h : Own w0 (Mp enc ok b m * R) w) {x : K} (hx : ok x) : ∃ w1 s, (Instr.mapEntry t (.map (some b)) (enc x)).run P w = .ok (.tuple #[(mget m x).getD z, s]) w1 ∧ Own w0 (MpE enc ok b m x s * R) w1 ∧ Own w0 (Mp enc ok b (mput m x ((mget m x).getD z)) * R) w1 := by
  obtain ⟨w1, s, es, clock, j, e, h1, h2, h3, ho⟩ := h.map_raw E ht hz hx
  refine ⟨w1, s, h1, ho.cons fun _ hh => ⟨es, clock, j, e, h2, hh⟩, ?_⟩
  have h4 := h2.2.2.2 e.val
  rw [modify_self h2.1, h3] at h4
  exact Own.map_mk h4 h2.2.2.1 ho
theorem Own.map_fill {t : TypeId} {w0 w : World} {b : Nat} {m : List (K × Value)} {x : K} {s : Value} {R : HProp} (h : Own w0 (MpE enc ok b m x s * R) w) (v : Value) :
    ∃ w2, (Instr.entryStore t (.map (some b)) s v).run P w = .ok () w2 ∧ Own w0 (Mp enc ok b (mput m x v) * R) w2 := by
  obtain ⟨es, clock, j, en, hj, rfl, hbn, hv, ho⟩ := h.mpe_at
  have hb := ho.blk_at.1
  have hf : es.findIdx? (fun y => ((y.born : Nat) : Int) == ((en.born : Nat) : Int)) = some j := hbn.find hj
  have ha : ∀ c : Int, Sem.run P (asIntOf (.int .i64 c)) w = .ok (.i64, c) w := fun _ => rfl
  have ho2 := ho.map_obj (.map (es.modify j (fun e' => { e' with val := v })) clock)
  refine ⟨setO w b (.map (es.modify j (fun e' => { e' with val := v })) clock), ?_, Own.map_mk (hv v) (by rw [Array.toList_modify]; exact born_modify hbn j _ (fun _ => rfl)) ho2⟩
  simp [Instr.entryStore, MapKept.run_getObj_map hb, MapKept.run_setObj_map _ hb, Result.andThen, asInt, ha, hf, setO]
theorem step_open (E : KE P k enc ok) {t e : TypeId} (ht : P.underlying t = some (.map k e)) {z : Value} (hz : ∀ w, (zeroValue e).run P w = .ok z w) {ops : Array Oper} {o : Oper} {a : Act} {K' : Act → World → Prop} {Q : Exit → Act → World → Prop} {E' : Prop}
    {w0 w : World} {b : Nat} {m : List (K × Value)} {R : HProp} (hown : Own w0 (Mp enc ok b m * R) w) {x : K} (hx : ok x)
    (hg : o.guard = none) (mo xo : Operand) (hop : o.op = Op.mapEntry t mo xo) (hm : a.eval mo = .map (some b)) (hxo : a.eval xo = enc x)
    (hK : ∀ w' s, Own w0 (MpE enc ok b m x s * R) w' → K' (a.put o.dst (.tuple #[(mget m x).getD z, s])) w') : if Region.wanted o (yielded ops a.tmps) = true then Oper.wp P o a w K' Q else E' := by
  have hw : Region.wanted o (yielded ops a.tmps) = true := by simp [Region.wanted, hg]
  rw [if_pos hw]
  obtain ⟨w', s, hrun, ho⟩ := hown.map_open E ht hz hx
  unfold Oper.wp
  simp [execOp, hop, hm, hxo, hrun, Result.andThen]
  exact hK w' s ho
theorem step_open2 (E : KE P k enc ok) {t e : TypeId} (ht : P.underlying t = some (.map k e)) {z : Value} (hz : ∀ w, (zeroValue e).run P w = .ok z w) {ops : Array Oper} {o : Oper} {a : Act} {K' : Act → World → Prop} {Q : Exit → Act → World → Prop} {E' : Prop}
    {w0 w : World} {b : Nat} {m : List (K × Value)} {R : HProp} (hown : Own w0 (Mp enc ok b m * R) w) {x : K} (hx : ok x)
    (hg : o.guard = none) (mo xo : Operand) (hop : o.op = Op.mapEntry t mo xo) (hm : a.eval mo = .map (some b)) (hxo : a.eval xo = enc x)
    (hK : ∀ w' s, Own w0 (MpE enc ok b m x s * R) w' → Own w0 (Mp enc ok b (mput m x ((mget m x).getD z)) * R) w' → K' (a.put o.dst (.tuple #[(mget m x).getD z, s])) w') : if Region.wanted o (yielded ops a.tmps) = true then Oper.wp P o a w K' Q else E' := by
  have hw : Region.wanted o (yielded ops a.tmps) = true := by simp [Region.wanted, hg]
  rw [if_pos hw]
  obtain ⟨w', s, hrun, ho, ho2⟩ := hown.map_open2 E ht hz hx
  unfold Oper.wp
  simp [execOp, hop, hm, hxo, hrun, Result.andThen]
  exact hK w' s ho ho2
theorem wpList_fill {t : TypeId} {ops : Array Oper} {rest : List Oper} {o : Oper} {a : Act} {Q : Exit → Act → World → Prop}
    {w0 w : World} {b : Nat} {m : List (K × Value)} {x : K} {s : Value} {R : HProp} (hown : Own w0 (MpE enc ok b m x s * R) w)
    (hg : o.guard = none) (mo so vo : Operand) (hop : o.op = Op.entryStore t mo so vo) (hm : a.eval mo = .map (some b)) (hso : a.eval so = s) {v : Value} (hv : a.eval vo = v)
    (hK : ∀ w', Own w0 (Mp enc ok b (mput m x v) * R) w' → wpList P ops Q rest (a.put o.dst undef) w') : wpList P ops Q (o :: rest) a w := by
  refine wpList_plain hg fun K' hK' => ?_
  obtain ⟨w', hrun, ho⟩ := hown.map_fill (P := P) (t := t) v
  unfold Oper.wp
  simp [execOp, hop, hm, hso, hv, hrun, Result.andThen]
  exact hK' _ _ (hK w' ho)
theorem step_fill {t : TypeId} {ops : Array Oper} {o : Oper} {a : Act} {K' : Act → World → Prop} {Q : Exit → Act → World → Prop} {E' : Prop}
    {w0 w : World} {b : Nat} {m : List (K × Value)} {x : K} {s : Value} {R : HProp} (hown : Own w0 (MpE enc ok b m x s * R) w)
    (hg : o.guard = none) (mo so vo : Operand) (hop : o.op = Op.entryStore t mo so vo) (hm : a.eval mo = .map (some b)) (hso : a.eval so = s) {v : Value} (hv : a.eval vo = v)
    (hK : ∀ w', Own w0 (Mp enc ok b (mput m x v) * R) w' → K' (a.put o.dst undef) w') : if Region.wanted o (yielded ops a.tmps) = true then Oper.wp P o a w K' Q else E' := by
  have hw : Region.wanted o (yielded ops a.tmps) = true := by simp [Region.wanted, hg]
  rw [if_pos hw]
  obtain ⟨w', hrun, ho⟩ := hown.map_fill (P := P) (t := t) v
  unfold Oper.wp
  simp [execOp, hop, hm, hso, hv, hrun, Result.andThen]
  exact hK w' ho
/-! ### Maps whose values own -/
variable {α : Type}
def MpS (enc : K → Value) (ok : K → Prop) (f : α → HProp) (val : α → Value) (b : Nat) (m : List (K × α)) : HProp := Mp enc ok b (mvals val m) * starL (fun p : K × α => f p.2) m
theorem starL_mput (f : α → HProp) (m : List (K × α)) (x : K) (a : α) : starL (fun p : K × α => f p.2) (mput m x a) = f a * starL (fun p : K × α => f p.2) (mdel m x) := by
  induction m with
  | nil => simp [mput, mdel, starL]
  | cons p r ih =>
    unfold mput mdel
    by_cases h : p.1 = x
    · rw [if_pos h, if_pos h]; rfl
    · rw [if_neg h, if_neg h]; simp only [starL]; rw [ih]; ac_rfl
theorem starL_mget (f : α → HProp) (m : List (K × α)) (x : K) (n : α) (hn : f n = emp) : starL (fun p : K × α => f p.2) m = f ((mget m x).getD n) * starL (fun p : K × α => f p.2) (mdel m x) := by
  induction m with
  | nil => simp [mget, mdel, starL, hn, emp_star]
  | cons p r ih =>
    unfold mget mdel
    by_cases h : p.1 = x
    · rw [if_pos h, if_pos h]; rfl
    · rw [if_neg h, if_neg h]; simp only [starL]; rw [ih]; ac_rfl
theorem Own.ms_take {f : α → HProp} {val : α → Value} {w0 w : World} {b : Nat} {m : List (K × α)} {R : HProp} (n : α) (hn : f n = emp) (x : K) (h : Own w0 (MpS enc ok f val b m * R) w) :
    Own w0 (f ((mget m x).getD n) * (Mp enc ok b (mvals val m) * (starL (fun p : K × α => f p.2) (mdel m x) * R))) w := by
  refine h.perm ?_
  unfold MpS
  rw [starL_mget f m x n hn]
  ac_rfl
theorem Own.ms_give {f : α → HProp} {val : α → Value} {w0 w : World} {b : Nat} {m : List (K × α)} {R : HProp} (n : α) (hn : f n = emp) (x : K)
    (h : Own w0 (f ((mget m x).getD n) * (Mp enc ok b (mvals val m) * (starL (fun p : K × α => f p.2) (mdel m x) * R))) w) : Own w0 (MpS enc ok f val b m * R) w := by
  refine h.perm ?_
  unfold MpS
  rw [starL_mget f m x n hn]
  ac_rfl
theorem Own.ms_put {f : α → HProp} {val : α → Value} {w0 w : World} {b : Nat} {m : List (K × α)} {R : HProp} {a : α} (x : K) (h : Own w0 (f a * (Mp enc ok b (mput (mvals val m) x (val a)) * (starL (fun p : K × α => f p.2) (mdel m x) * R))) w) :
    Own w0 (MpS enc ok f val b (mput m x a) * R) w := by
  refine h.perm ?_
  unfold MpS
  rw [starL_mput, mput_mvals]
  ac_rfl
theorem mget_val (val : α → Value) (m : List (K × α)) (x : K) (n : α) : (mget (mvals val m) x).getD (val n) = val ((mget m x).getD n) := by
  rw [mget_mvals]; cases mget m x <;> rfl
theorem Own.ms_new {f : α → HProp} {val : α → Value} {w0 w : World} {R : HProp} (h : Own w0 R w) : Own w0 (MpS enc ok f val w.heap.size ([] : List (K × α)) * R) (w.alloc (.map #[] 0)) :=
  (h.map_new (enc := enc) (ok := ok)).perm (by unfold MpS; rw [mvals_nil]; simp only [starL]; rw [star_emp])
end
/-- Rows of ints as a map's values. -/
def nilRow : Value × List Int := (.slice none 0 0, [])
theorem rowP_nil : rowP nilRow = emp := Sl_nil _ _
theorem ints_zero : ∀ w, (zeroValue 49).run Try.prog w = .ok (.slice none 0 0) w := fun _ => by kernel_rfl
end Go.Proofs.Ytddbjcpfgjcmnaa
