/- A map's entry open for a store: m[k] = append(m[k], ..); and maps whose values own what they point to. -/
import Derived.Test.YtpafhfnimncklaaGreatDoorMTopCast16
import Derived.Test.YtpafhfnimncklaaGreatDoorMTopCast2
import Derived.Test.YtpafhfnimncklaaGreatDoorMTopCast15
import Derived.Test.YtpafhfnimncklaaGreatDoorMTopCast4
import Derived.Test.YtpafhfnimncklaaGreatDoorMTopCast8
import Derived.Deep.DeepCutAuto
import Derived.Deep.CutBlock
import Derived.Test.YtpafhfnimncklaaGreatDoorMTopCast7
namespace Go.Proofs.YtpafhfnimncklaaGreatDoor
set_option linter.unusedVariables false
set_option linter.unusedSimpArgs false
open Go.RowKit Go.Maps
set_option linter.unusedSectionVars false
section
variable {K : Type} [DecidableEq K] {P : Program} {k : TypeId} {enc : K → Value} {ok : K → Prop}
/-- The map m in whose block the entry at x stands open: a store at the stamp s fills it. -/
def MpE (enc : K → Value) (ok : K → Prop) (b : Nat) (m : List (K × Value)) (x : K) (s : Value) : HProp := fun h =>
  ∃ (es : Array MapEntry) (clock j : Nat) (e : MapEntry), (es[j]? = some e ∧ s = .int .i64 e.born ∧ Born es.toList clock ∧ (∀ v, MapIs enc ok (es.modify j (fun e' => { e' with val := v })).toList (mput m x v))) ∧ h = hone b (.map es clock)
theorem Own.mpe_at {w0 w : World} {b : Nat} {m : List (K × Value)} {x : K} {s : Value} {R : HProp} (h : Own w0 (MpE enc ok b m x s * R) w) :
    ∃ (es : Array MapEntry) (clock j : Nat) (e : MapEntry), es[j]? = some e ∧ s = .int .i64 e.born ∧ Born es.toList clock ∧ (∀ v, MapIs enc ok (es.modify j (fun e' => { e' with val := v })).toList (mput m x v)) ∧ Own w0 (blk b (.map es clock) * R) w := by
  have h2 : Own w0 (hex (fun x' : Array MapEntry × Nat × Nat × MapEntry => fun h => (x'.1[x'.2.2.1]? = some x'.2.2.2 ∧ s = .int .i64 x'.2.2.2.born ∧ Born x'.1.toList x'.2.1 ∧ (∀ v, MapIs enc ok (x'.1.modify x'.2.2.1 (fun e' => { e' with val := v })).toList (mput m x v))) ∧ h = hone b (.map x'.1 x'.2.1)) * R) w :=
    h.cons (fun hp ⟨es, clock, j, e, hx⟩ => ⟨(es, clock, j, e), hx⟩)
  obtain ⟨⟨es, clock, j, e⟩, h3⟩ := h2.ex
  have h4 : Own w0 (pur (es[j]? = some e ∧ s = .int .i64 e.born ∧ Born es.toList clock ∧ (∀ v, MapIs enc ok (es.modify j (fun e' => { e' with val := v })).toList (mput m x v))) * (blk b (.map es clock) * R)) w := h3.mono fun hp hh => by
    obtain ⟨p, q, d, rfl, ⟨h1, h2⟩, hq⟩ := hh
    exact pur_star.2 ⟨h1, p, q, d, rfl, h2, hq⟩
  obtain ⟨⟨a1, a2, a3, a4⟩, h5⟩ := h4.pur_out
  exact ⟨es, clock, j, e, a1, a2, a3, a4, h5⟩
theorem Own.map_raw (E : KE P k enc ok) {t e : TypeId} (ht : P.underlying t = some (.map k e)) {z : Value} (hz : ∀ w, (zeroValue e).run P w = .ok z w) {w0 w : World} {b : Nat} {m : List (K × Value)} {R : HProp}
    (h : Own w0 (Mp enc ok b m * R) w) {x : K} (hx : ok x) : ∃ (w1 : World) (s : Value) (es : Array MapEntry) (clock j : Nat) (e : MapEntry), (Instr.mapEntry t (.map (some b)) (enc x)).run P w = .ok (.tuple #[(mget m x).getD z, s]) w1 ∧ (es[j]? = some e ∧ s = .int .i64 e.born ∧ Born es.toList clock ∧ (∀ v, MapIs enc ok (es.modify j (fun e' => { e' with val := v })).toList (mput m x v))) ∧ e.val = (mget m x).getD z ∧ Own w0 (blk b (.map es clock) * R) w1 := by
  obtain ⟨es, clock, hm, hbn, ho⟩ := h.map_at
  have hb := ho.blk_at.1
  obtain ⟨l, hl⟩ := E.has x hx
  have hkeep : ∀ v, ∀ p ∈ mput m x v, ok p.1 := fun v p hp => by
    rcases mem_mput hp with hp | rfl
    · exact hm.2.2 p hp
    · exact hx
  rcases hm.find E w hx with ⟨h1, h2, h3⟩ | ⟨j, en, h1, h2, h3, h4⟩
  · have hg : mget m x = none := mget_none.2 h3
    obtain ⟨es1, he1⟩ : ∃ e1, e1 = es.push ⟨enc x, z, clock⟩ := ⟨_, rfl⟩
    obtain ⟨w1, hw1⟩ : ∃ w1, w1 = setO w b (.map es1 (clock + 1)) := ⟨_, rfl⟩
    have ho1 := ho.map_obj (.map es1 (clock + 1))
    rw [← hw1] at ho1
    refine ⟨w1, .int .i64 clock, es1, clock + 1, es.size, ⟨enc x, z, clock⟩, ?_, ⟨by rw [he1]; simp, rfl, by rw [he1]; exact born_push hbn, fun v => ?_⟩, by rw [hg]; rfl, ho1⟩
    · rw [hw1, he1]
      simp [Instr.mapEntry, run_underlying ht, MapKept.run_getObj_map hb, E.keyed.check w _ hl, h1, hz, hg, MapKept.run_setObj_map _ hb, Result.andThen, goInt, setO]
    · have hme : (es1.modify es.size (fun e' => { e' with val := v })).toList = es.toList ++ [⟨enc x, v, clock⟩] := by
        rw [he1, Array.toList_modify, Array.toList_push]
        exact modify_last _
      refine ⟨?_, mput_nodup hm.2.1, hkeep v⟩
      rw [hme, mput_new h3, List.map_append, List.map_append, hm.1]; rfl
  · have hj : es[j]? = some en := by simpa using h2
    have hg : mget m x = some en.val := mget_at hm.2.1 h4
    obtain ⟨es1, he1⟩ : ∃ e1, e1 = es.modify j (fun e' => { e' with key := enc x }) := ⟨_, rfl⟩
    obtain ⟨w1, hw1⟩ : ∃ w1, w1 = setO w b (.map es1 clock) := ⟨_, rfl⟩
    have ho1 := ho.map_obj (.map es1 clock)
    rw [← hw1] at ho1
    have hbn1 : Born es1.toList clock := by rw [he1, Array.toList_modify]; exact born_modify hbn j _ (fun _ => rfl)
    have hj1 : es1[j]? = some { en with key := enc x } := by rw [he1, Array.getElem?_modify, if_pos rfl, hj]; rfl
    refine ⟨w1, .int .i64 en.born, es1, clock, j, { en with key := enc x }, ?_, ⟨hj1, rfl, hbn1, fun v => ⟨?_, mput_nodup hm.2.1, hkeep v⟩⟩, by rw [hg]; rfl, ho1⟩
    · rw [hw1, he1]
      simp [Instr.mapEntry, run_underlying ht, MapKept.run_getObj_map hb, E.keyed.check w _ hl, h1, hj, h3, E.keyed.stays w hl, hg, MapKept.run_setObj_map _ hb, Result.andThen, goInt, setO]
    · have hml : (es1.modify j (fun e' => { e' with val := v })).toList = es.toList.modify j (fun e' => { e' with key := enc x, val := v }) := by
        rw [he1, Array.toList_modify, Array.toList_modify]
        apply List.ext_getElem?
        intro i
        simp only [List.getElem?_modify]
        cases es.toList[i]? with
        | none => simp
        | some y => by_cases h : j = i <;> simp [h]
      rw [hml, mput_at hm.2.1 h4, Go.ChangeMaps.modify_eq_set _ _ _ _ h2, List.map_set, List.map_set, hm.1]
theorem Own.map_open (E : KE P k enc ok) {t e : TypeId} (ht : P.underlying t = some (.map k e)) {z : Value} (hz : ∀ w, (zeroValue e).run P w = .ok z w) {w0 w : World} {b : Nat} {m : List (K × Value)} {R : HProp}
    (h : Own w0 (Mp enc ok b m * R) w) {x : K} (hx : ok x) : ∃ w1 s, (Instr.mapEntry t (.map (some b)) (enc x)).run P w = .ok (.tuple #[(mget m x).getD z, s]) w1 ∧ Own w0 (MpE enc ok b m x s * R) w1 := by
  obtain ⟨w1, s, es, clock, j, e, h1, h2, _, ho⟩ := h.map_raw E ht hz hx
  exact ⟨w1, s, h1, ho.cons fun _ hh => ⟨es, clock, j, e, h2, hh⟩⟩
theorem modify_self {es : Array MapEntry} {j : Nat} {e : MapEntry} (h : es[j]? = some e) : es.modify j (fun e' => { e' with val := e.val }) = es := by
  apply Array.ext_getElem?
  intro i
  rw [Array.getElem?_modify]
  by_cases hi : j = i
  · subst hi; rw [if_pos rfl, h]; rfl
  · rw [if_neg hi]
/-- As map_open; and a look-up there gives what it gave. -/
theorem Own.map_open2 (E : KE P k enc ok) {t e : TypeId} (ht : P.underlying t = some (.map k e)) {z : Value} (hz : ∀ w, (zeroValue e).run P w = .ok z w) {w0 w : World} {b : Nat} {m : List (K × Value)} {R : HProp}
    (h : Own w0 (Mp enc ok b m * R) w) {x : K} (hx : ok x) : ∃ w1 s, (Instr.mapEntry t (.map (some b)) (enc x)).run P w = .ok (.tuple #[(mget m x).getD z, s]) w1 ∧ Own w0 (MpE enc ok b m x s * R) w1 ∧ Own w0 (Mp enc ok b (mput m x ((mget m x).getD z)) * R) w1 := by
  obtain ⟨w1, s, es, clock, j, e, h1, h2, h3, ho⟩ := h.map_raw E ht hz hx
  refine ⟨w1, s, h1, ho.cons fun _ hh => ⟨es, clock, j, e, h2, hh⟩, ?_⟩
  have h4 := h2.2.2.2 e.val
  rw [modify_self h2.1, h3] at h4
  exact Own.map_mk h4 h2.2.2.1 ho
theorem Own.map_fill {t : TypeId} {w0 w : World} {b : Nat} {m : List (K × Value)} {x : K} {s : Value} {R : HProp} (h : Own w0 (MpE enc ok b m x s * R) w) (v : Value) :
    ∃ w2, (Instr.entryStore t (.map (some b)) s v).run P w = .ok () w2 ∧ Own w0 (Mp enc ok b (mput m x v) * R) w2 := by
  obtain ⟨es, clock, j, en, hj, rfl, hbn, hv, ho⟩ := h.mpe_at
  have hb := ho.blk_at.1
  have hf : es.findIdx? (fun y => ((y.born : Nat) : Int) == ((en.born : Nat) : Int)) = some j := hbn.find hj
  have ha : ∀ c : Int, Sem.run P (asIntOf (.int .i64 c)) w = .ok (.i64, c) w := fun _ => rfl
  have ho2 := ho.map_obj (.map (es.modify j (fun e' => { e' with val := v })) clock)
  refine ⟨setO w b (.map (es.modify j (fun e' => { e' with val := v })) clock), ?_, Own.map_mk (hv v) (by rw [Array.toList_modify]; exact born_modify hbn j _ (fun _ => rfl)) ho2⟩
  simp [Instr.entryStore, MapKept.run_getObj_map hb, MapKept.run_setObj_map _ hb, Result.andThen, asInt, ha, hf, setO]
theorem step_open (E : KE P k enc ok) {t e : TypeId} (ht : P.underlying t = some (.map k e)) {z : Value} (hz : ∀ w, (zeroValue e).run P w = .ok z w) {ops : Array Oper} {o : Oper} {a : Act} {K' : Act → World → Prop} {Q : Exit → Act → World → Prop} {E' : Prop}
    {w0 w : World} {b : Nat} {m : List (K × Value)} {R : HProp} (hown : Own w0 (Mp enc ok b m * R) w) {x : K} (hx : ok x)
    (hg : o.guard = none) (mo xo : Operand) (hop : o.op = Op.mapEntry t mo xo) (hm : a.eval mo = .map (some b)) (hxo : a.eval xo = enc x)
    (hK : ∀ w' s, Own w0 (MpE enc ok b m x s * R) w' → K' (a.put o.dst (.tuple #[(mget m x).getD z, s])) w') : if Region.wanted o (yielded ops a.tmps) = true then Oper.wp P o a w K' Q else E' := by
  have hw : Region.wanted o (yielded ops a.tmps) = true := by simp [Region.wanted, hg]
  rw [if_pos hw]
  obtain ⟨w', s, hrun, ho⟩ := hown.map_open E ht hz hx
  unfold Oper.wp
  simp [execOp, hop, hm, hxo, hrun, Result.andThen]
  exact hK w' s ho
theorem step_open2 (E : KE P k enc ok) {t e : TypeId} (ht : P.underlying t = some (.map k e)) {z : Value} (hz : ∀ w, (zeroValue e).run P w = .ok z w) {ops : Array Oper} {o : Oper} {a : Act} {K' : Act → World → Prop} {Q : Exit → Act → World → Prop} {E' : Prop}
    {w0 w : World} {b : Nat} {m : List (K × Value)} {R : HProp} (hown : Own w0 (Mp enc ok b m * R) w) {x : K} (hx : ok x)
    (hg : o.guard = none) (mo xo : Operand) (hop : o.op = Op.mapEntry t mo xo) (hm : a.eval mo = .map (some b)) (hxo : a.eval xo = enc x)
    (hK : ∀ w' s, Own w0 (MpE enc ok b m x s * R) w' → Own w0 (Mp enc ok b (mput m x ((mget m x).getD z)) * R) w' → K' (a.put o.dst (.tuple #[(mget m x).getD z, s])) w') : if Region.wanted o (yielded ops a.tmps) = true then Oper.wp P o a w K' Q else E' := by
  have hw : Region.wanted o (yielded ops a.tmps) = true := by simp [Region.wanted, hg]
  rw [if_pos hw]
  obtain ⟨w', s, hrun, ho, ho2⟩ := hown.map_open2 E ht hz hx
  unfold Oper.wp
  simp [execOp, hop, hm, hxo, hrun, Result.andThen]
  exact hK w' s ho ho2
theorem wpList_fill {t : TypeId} {ops : Array Oper} {rest : List Oper} {o : Oper} {a : Act} {Q : Exit → Act → World → Prop}
    {w0 w : World} {b : Nat} {m : List (K × Value)} {x : K} {s : Value} {R : HProp} (hown : Own w0 (MpE enc ok b m x s * R) w)
    (hg : o.guard = none) (mo so vo : Operand) (hop : o.op = Op.entryStore t mo so vo) (hm : a.eval mo = .map (some b)) (hso : a.eval so = s) {v : Value} (hv : a.eval vo = v)
    (hK : ∀ w', Own w0 (Mp enc ok b (mput m x v) * R) w' → wpList P ops Q rest (a.put o.dst undef) w') : wpList P ops Q (o :: rest) a w := by
  refine wpList_plain hg fun K' hK' => ?_
  obtain ⟨w', hrun, ho⟩ := hown.map_fill (P := P) (t := t) v
  unfold Oper.wp
  simp [execOp, hop, hm, hso, hv, hrun, Result.andThen]
  exact hK' _ _ (hK w' ho)
theorem step_fill {t : TypeId} {ops : Array Oper} {o : Oper} {a : Act} {K' : Act → World → Prop} {Q : Exit → Act → World → Prop} {E' : Prop}
    {w0 w : World} {b : Nat} {m : List (K × Value)} {x : K} {s : Value} {R : HProp} (hown : Own w0 (MpE enc ok b m x s * R) w)
    (hg : o.guard = none) (mo so vo : Operand) (hop : o.op = Op.entryStore t mo so vo) (hm : a.eval mo = .map (some b)) (hso : a.eval so = s) {v : Value} (hv : a.eval vo = v)
    (hK : ∀ w', Own w0 (Mp enc ok b (mput m x v) * R) w' → K' (a.put o.dst undef) w') : if Region.wanted o (yielded ops a.tmps) = true then Oper.wp P o a w K' Q else E' := by
  have hw : Region.wanted o (yielded ops a.tmps) = true := by simp [Region.wanted, hg]
  rw [if_pos hw]
  obtain ⟨w', hrun, ho⟩ := hown.map_fill (P := P) (t := t) v
  unfold Oper.wp
  simp [execOp, hop, hm, hso, hv, hrun, Result.andThen]
  exact hK w' ho
/-! ### Maps whose values own -/
variable {α : Type}
def MpS (enc : K → Value) (ok : K → Prop) (f : α → HProp) (val : α → Value) (b : Nat) (m : List (K × α)) : HProp := Mp enc ok b (mvals val m) * starL (fun p : K × α => f p.2) m
theorem starL_mput (f : α → HProp) (m : List (K × α)) (x : K) (a : α) : starL (fun p : K × α => f p.2) (mput m x a) = f a * starL (fun p : K × α => f p.2) (mdel m x) := by
  induction m with
  | nil => simp [mput, mdel, starL]
  | cons p r ih =>
    unfold mput mdel
    by_cases h : p.1 = x
    · rw [if_pos h, if_pos h]; rfl
    · rw [if_neg h, if_neg h]; simp only [starL]; rw [ih]; ac_rfl
theorem starL_mget (f : α → HProp) (m : List (K × α)) (x : K) (n : α) (hn : f n = emp) : starL (fun p : K × α => f p.2) m = f ((mget m x).getD n) * starL (fun p : K × α => f p.2) (mdel m x) := by
  induction m with
  | nil => simp [mget, mdel, starL, hn, emp_star]
  | cons p r ih =>
    unfold mget mdel
    by_cases h : p.1 = x
    · rw [if_pos h, if_pos h]; rfl
    · rw [if_neg h, if_neg h]; simp only [starL]; rw [ih]; ac_rfl
theorem Own.ms_take {f : α → HProp} {val : α → Value} {w0 w : World} {b : Nat} {m : List (K × α)} {R : HProp} (n : α) (hn : f n = emp) (x : K) (h : Own w0 (MpS enc ok f val b m * R) w) :
    Own w0 (f ((mget m x).getD n) * (Mp enc ok b (mvals val m) * (starL (fun p : K × α => f p.2) (mdel m x) * R))) w := by
  refine h.perm ?_
  unfold MpS
  rw [starL_mget f m x n hn]
  ac_rfl
theorem Own.ms_give {f : α → HProp} {val : α → Value} {w0 w : World} {b : Nat} {m : List (K × α)} {R : HProp} (n : α) (hn : f n = emp) (x : K)
    (h : Own w0 (f ((mget m x).getD n) * (Mp enc ok b (mvals val m) * (starL (fun p : K × α => f p.2) (mdel m x) * R))) w) : Own w0 (MpS enc ok f val b m * R) w := by
  refine h.perm ?_
  unfold MpS
  rw [starL_mget f m x n hn]
  ac_rfl
theorem Own.ms_put {f : α → HProp} {val : α → Value} {w0 w : World} {b : Nat} {m : List (K × α)} {R : HProp} {a : α} (x : K) (h : Own w0 (f a * (Mp enc ok b (mput (mvals val m) x (val a)) * (starL (fun p : K × α => f p.2) (mdel m x) * R))) w) :
    Own w0 (MpS enc ok f val b (mput m x a) * R) w := by
  refine h.perm ?_
  unfold MpS
  rw [starL_mput, mput_mvals]
  ac_rfl
theorem mget_val (val : α → Value) (m : List (K × α)) (x : K) (n : α) : (mget (mvals val m) x).getD (val n) = val ((mget m x).getD n) := by
  rw [mget_mvals]; cases mget m x <;> rfl
theorem Own.ms_new {f : α → HProp} {val : α → Value} {w0 w : World} {R : HProp} (h : Own w0 R w) : Own w0 (MpS enc ok f val w.heap.size ([] : List (K × α)) * R) (w.alloc (.map #[] 0)) :=
  (h.map_new (enc := enc) (ok := ok)).perm (by unfold MpS; rw [mvals_nil]; simp only [starL]; rw [star_emp])
end
/-- Rows of ints as a map's values. -/
def nilRow : Value × List Int := (.slice none 0 0, [])
theorem rowP_nil : rowP nilRow = emp := Sl_nil _ _
theorem ints_zero : ∀ w, (zeroValue 30).run Tryz.prog w = .ok (.slice none 0 0) w := fun _ => by kernel_rfl
end Go.Proofs.YtpafhfnimncklaaGreatDoor
/- Package cast: a group as it lies in memory; New. -/
namespace Go.Proofs.YtpafhfnimncklaaGreatDoor
set_option linter.unusedVariables false
set_option linter.unusedSimpArgs false
open Go.RowKit Go.Maps
abbrev CmR := Nat × Ca
def cmV (r : CmR) : Value := .pointer (some ⟨r.1, 0, none⟩)
def cmP (r : CmR) : HProp := CwP r.1 r.2
abbrev SRow := Int × SdR
abbrev sK : Int → Value := fun n => Value.int .i64 n
abbrev csHd (p nb sb : Nat) (mv hv : Value) : HProp := blk p (.cells #[mv, .pointer (some ⟨nb, 0, none⟩), .map (some sb), hv] 67 (0, 0))
def nilSdR : SdR := (.slice none 0 0, nilSd)
theorem sdRow_nil : sdRow nilSdR = emp := Sl_nil _ _
def CsO (p rb off cap nb sb : Nat) (hv : Value) (rs : List CmR) (ss : List SRow) (c : Cs) : HProp :=
  csHd p nb sb (.slice (some ⟨rb, off, none⟩) rs.length cap) hv * (TabO cmP cmV 68 rb off cap rs * (NtP nb c.net * (MpS sK I64 sdRow sdV sb ss * EvSl hv c.hist)))
def csIs (rs : List CmR) (ss : List SRow) (c : Cs) : Prop := rs.map (·.2) = c.mem ∧ mvals (fun r : SdR => r.2) ss = c.said
def CsP (p : Nat) (c : Cs) : HProp := hex fun (x : (Nat × Nat × Nat × Nat × Nat) × Value × List CmR × List SRow) => pur (csIs x.2.2.1 x.2.2.2 c) * CsO p x.1.1 x.1.2.1 x.1.2.2.1 x.1.2.2.2.1 x.1.2.2.2.2 x.2.1 x.2.2.1 x.2.2.2 c
theorem Own.cs_open {w0 w : World} {p : Nat} {c : Cs} {R : HProp} (h : Own w0 (CsP p c * R) w) : ∃ rb off cap nb sb hv rs ss, csIs rs ss c ∧ Own w0 (CsO p rb off cap nb sb hv rs ss c * R) w := by
  obtain ⟨⟨⟨rb, off, cap, nb, sb⟩, hv, rs, ss⟩, h⟩ := Own.ex h
  rw [star_assoc] at h
  obtain ⟨he, h⟩ := Own.pur_out h
  exact ⟨rb, off, cap, nb, sb, hv, rs, ss, he, h⟩
theorem Own.cs_close {w0 w : World} {p rb off cap nb sb : Nat} {hv : Value} {rs : List CmR} {ss : List SRow} {c : Cs} {R : HProp} (he : csIs rs ss c) (h : Own w0 (CsO p rb off cap nb sb hv rs ss c * R) w) : Own w0 (CsP p c * R) w := by
  refine Own.ex_mk ((rb, off, cap, nb, sb), hv, rs, ss) ?_
  rw [star_assoc]
  exact Own.pur_mk he h
section
variable {w0 w : World} {p rb off cap nb sb : Nat} {hv : Value} {rs : List CmR} {ss : List SRow} {c : Cs} {R : HProp}
theorem Own.cs_blk (h : Own w0 (CsO p rb off cap nb sb hv rs ss c * R) w) : Own w0 (csHd p nb sb (.slice (some ⟨rb, off, none⟩) rs.length cap) hv * (TabO cmP cmV 68 rb off cap rs * (NtP nb c.net * (MpS sK I64 sdRow sdV sb ss * (EvSl hv c.hist * R))))) w := h.perm (by unfold CsO; ac_rfl)
theorem Own.cs_tab (h : Own w0 (CsO p rb off cap nb sb hv rs ss c * R) w) : Own w0 (TabO cmP cmV 68 rb off cap rs * (csHd p nb sb (.slice (some ⟨rb, off, none⟩) rs.length cap) hv * (NtP nb c.net * (MpS sK I64 sdRow sdV sb ss * (EvSl hv c.hist * R))))) w := h.perm (by unfold CsO; ac_rfl)
theorem Own.cs_net (h : Own w0 (CsO p rb off cap nb sb hv rs ss c * R) w) : Own w0 (NtP nb c.net * (csHd p nb sb (.slice (some ⟨rb, off, none⟩) rs.length cap) hv * (TabO cmP cmV 68 rb off cap rs * (MpS sK I64 sdRow sdV sb ss * (EvSl hv c.hist * R))))) w := h.perm (by unfold CsO; ac_rfl)
theorem Own.cs_map (h : Own w0 (CsO p rb off cap nb sb hv rs ss c * R) w) : Own w0 (MpS sK I64 sdRow sdV sb ss * (csHd p nb sb (.slice (some ⟨rb, off, none⟩) rs.length cap) hv * (TabO cmP cmV 68 rb off cap rs * (NtP nb c.net * (EvSl hv c.hist * R))))) w := h.perm (by unfold CsO; ac_rfl)
theorem Own.cs_hist (h : Own w0 (CsO p rb off cap nb sb hv rs ss c * R) w) : Own w0 (EvSl hv c.hist * (csHd p nb sb (.slice (some ⟨rb, off, none⟩) rs.length cap) hv * (TabO cmP cmV 68 rb off cap rs * (NtP nb c.net * (MpS sK I64 sdRow sdV sb ss * R))))) w := h.perm (by unfold CsO; ac_rfl)
theorem Own.cs_facts (h : Own w0 (CsO p rb off cap nb sb hv rs ss c * R) w) :
    w.cell? ⟨p, 0, none⟩ = some (.slice (some ⟨rb, off, none⟩) rs.length cap) ∧ w.cell? ⟨p, 1, none⟩ = some (.pointer (some ⟨nb, 0, none⟩)) ∧ w.cell? ⟨p, 2, none⟩ = some (.map (some sb)) ∧ w.cell? ⟨p, 3, none⟩ = some hv ∧ (∀ i s, w.frozen? ⟨p, i, s⟩ = false) ∧
    (∀ (i : Nat) r, rs[i]? = some r → w.cell? ⟨rb, off + i, none⟩ = some (cmV r)) ∧ rs.length ≤ cap ∧ cap ≤ maxLen := by
  have h2 := h.cs_tab.tab_facts
  exact ⟨by rw [h.cs_blk.cell]; rfl, by rw [h.cs_blk.cell]; rfl, by rw [h.cs_blk.cell]; rfl, by rw [h.cs_blk.cell]; rfl, fun i s => h.cs_blk.free i s, h2.1, h2.2.2.1, h2.2.2.2⟩
end
theorem csIs_len {rs : List CmR} {ss : List SRow} {c : Cs} (he : csIs rs ss c) : rs.length = c.mem.length := by rw [← he.1, List.length_map]
theorem mapsd_made : ∀ w, (Instr.makeMap 64 none).run Tryz.prog w = .ok (.map (some w.heap.size)) (w.alloc (.map #[] 0)) := fun _ => by kernel_rfl
theorem mapsd_kind : Tryz.prog.underlying 64 = some (.map 3 51) := by kernel_rfl
theorem sd_zero : ∀ w, (zeroValue 51).run Tryz.prog w = .ok (sdV nilSdR) w := fun _ => by kernel_rfl
theorem info_cm : (Tryz.prog.info? 68).map (fun i => (i.zero, i.size, i.bytes)) = some (some (.pointer none), 1, 8) := by kernel_rfl
/-- A group in the making. -/
def CsNn (p nb sb : Nat) (mv : Value) (rs : List CmR) : HProp := csHd p nb sb mv (.slice none 0 0) * (Sl 68 1 mv rs.length (rs.map cmV) * (starL cmP rs * (NtP nb ⟨[], []⟩ * MpS sK I64 sdRow sdV sb [])))
def isGrp (n : Int) : Bool := decide (2 ≤ n) && decide (n ≤ 5)
set_option maxRecDepth 100000 in
set_option maxHeartbeats 4000000 in
theorem castGroup_any (n : Int) (w : World) :
    Calls Tryz.prog 21 #[.int .i64 n] w fun e w' => e = .returned (.bool (isGrp n)) ∧ w = w' := by
  unfold isGrp
  by_cases h1 : 2 ≤ n
  · have t1 : decide ((2 : Int) ≤ n) = true := decide_eq_true h1
    rw [t1, Bool.true_and]
    go_enter Tryz.func21, Tryz.ntmps21
    go_wp2
    go_ret
    exact ⟨rfl, rfl⟩
  · have t1 : decide ((2 : Int) ≤ n) = false := decide_eq_false h1
    rw [t1, Bool.false_and]
    go_enter Tryz.func21, Tryz.ntmps21
    go_wp2
    go_ret
    exact ⟨rfl, rfl⟩
section
variable {w0 w : World} {p nb sb : Nat} {mv : Value} {rs : List CmR} {R : HProp}
theorem csN_open (h : Own w0 (CsNn p nb sb mv rs * R) w) : Own w0 (csHd p nb sb mv (.slice none 0 0) * (Sl 68 1 mv rs.length (rs.map cmV) * (starL cmP rs * (NtP nb ⟨[], []⟩ * (MpS sK I64 sdRow sdV sb [] * R))))) w := h.perm (by unfold CsNn; ac_rfl)
theorem csN_app {q : Nat} {m : Ca} (h : Own w0 (CwP q m * (CsNn p nb sb mv rs * R)) w) : Own w0 (Sl 68 1 mv rs.length (rs.map cmV) * (csHd p nb sb mv (.slice none 0 0) * (starL cmP rs * (NtP nb ⟨[], []⟩ * (MpS sK I64 sdRow sdV sb [] * (CwP q m * R)))))) w := h.perm (by unfold CsNn; ac_rfl)
theorem csN_push {q : Nat} {m : Ca} {v' : Value}
    (h : Own w0 (Sl 68 1 v' (rs.length + 1) (rs.map cmV ++ [.pointer (some ⟨q, 0, none⟩)]) * (csHd p nb sb mv (.slice none 0 0) * (starL cmP rs * (NtP nb ⟨[], []⟩ * (MpS sK I64 sdRow sdV sb [] * (CwP q m * R)))))) w) :
    Own w0 (CsNn p nb sb v' (rs ++ [(q, m)]) * R) (w.setCell ⟨p, 0, none⟩ v') := by
  have h1 := h.second.setCell (i := 0) (v := v')
  refine h1.perm ?_
  unfold CsNn csHd
  rw [starL_snoc, List.length_append, List.map_append]
  simp only [List.length_singleton, List.map_cons, List.map_nil]
  show (blk p (.cells #[v', .pointer (some ⟨nb, 0, none⟩), .map (some sb), .slice none 0 0] 67 (0, 0)) * _ : HProp) = _
  unfold cmV
  rw [show cmP (q, m) = CwP q m from rfl]
  ac_rfl
theorem csN_done {n : Nat} (hn : 0 < rs.length) (hl : rs.map (·.2) = (List.range n).map fun i : Nat => caNew (i : Int)) (h : Own w0 (CsNn p nb sb mv rs * R) w) : Own w0 (CsP p (csNew n) * R) w := by
  obtain ⟨b, off, cap, rfl, h2⟩ := (csN_open h).second.slAt (by simpa using hn)
  refine Own.cs_close (rb := b) (off := off) (cap := cap) (nb := nb) (sb := sb) (hv := .slice none 0 0) (rs := rs) (ss := []) ⟨hl, rfl⟩ ((h2.sl_nil 40 3).perm ?_)
  unfold CsO TabO csHd EvSl
  show _ = _ * (_ * (NtP nb ⟨[], []⟩ * (_ * Sl 40 3 (.slice none 0 0) 0 []))) * R
  ac_rfl
end
set_option maxRecDepth 100000 in
set_option maxHeartbeats 4000000 in
theorem csNew_no (n : Int) (w : World) (h : isGrp n = false) :
    Calls Tryz.prog 5 #[.int .i64 n] w fun e w' => e = .returned (.tuple #[.pointer none, errV 1]) ∧ w = w' := by
  have H := Lib.hid h
  clear h
  go_enter Tryz.func5, Tryz.ntmps5
  go_wp2_with fail
  refine (castGroup_any _ _).mono ?_
  rintro e w' ⟨rfl, rfl⟩
  rw [H.out]
  go_wp2
  go_ret2
  exact ⟨rfl, rfl⟩
set_option maxRecDepth 100000 in
set_option maxHeartbeats 4000000 in
theorem csNew_yes {w0 w : World} {R : HProp} (n : Nat) (hg : isGrp n = true) (h : Own w0 R w) :
    Calls Tryz.prog 5 #[.int .i64 n] w fun e w' => ∃ p, e = .returned (.tuple #[.pointer (some ⟨p, 0, none⟩), errV 0]) ∧ Own w0 (CsP p (csNew n) * R) w' := by
  have hn5 : 2 ≤ n ∧ n ≤ 5 := by simp [isGrp] at hg; omega
  have hm1 := mapsd_made
  have HG := Lib.hid hg; have H := Lib.hid h
  clear hg h
  go_enter Tryz.func5, Tryz.ntmps5
  go_wp2_with fail
  refine (castGroup_any _ _).mono ?_
  rintro e w' ⟨rfl, rfl⟩
  rw [HG.out]
  go_wp2_with fail
  refine (ntNew_any H.out).mono ?_
  rintro e w1 ⟨nb, rfl, ho⟩
  have h1 := ho.ms_new (enc := sK) (ok := I64) (f := sdRow) (val := sdV)
  obtain ⟨sb, hsb⟩ : ∃ b, b = w1.heap.size := ⟨_, rfl⟩
  rw [← hsb] at h1
  have h2 := h1.alloc (.cells #[.slice none 0 0, .pointer (some ⟨nb, 0, none⟩), .map (some sb), .slice none 0 0] 67)
  obtain ⟨p, hp⟩ : ∃ b, b = sb + 1 := ⟨_, rfl⟩
  rw [World.size_alloc, ← hsb, ← hp] at h2
  have HN : Hid (Own w0 (CsNn p nb sb (.slice none 0 0) [] * R) ((w1.alloc (.map #[] 0)).alloc (.cells #[.slice none 0 0, .pointer (some ⟨nb, 0, none⟩), .map (some sb), .slice none 0 0] 67))) := Lib.hid ((h2.sl_nil 68 1).perm (by
    unfold CsNn csHd
    simp only [starL, List.length_nil, List.map_nil]
    rw [emp_star]
    ac_rfl))
  clear h1 h2 ho
  have HSB := Lib.hid hsb; have HP := Lib.hid hp
  clear hsb hp
  go_upto_block 0 with fail
  rw [← HSB.out, show sb + 1 = p from HP.out.symm]
  go_wp2_with fail
  go_loopw [17] (fun iv wr => ∃ (k : Nat) (mv : Value) (rs : List CmR), k ≤ n ∧ iv = .int .i64 k ∧ Hid (rs.length = k ∧ rs.map (·.2) = (List.range k).map fun i : Nat => caNew (i : Int)) ∧ Hid (Own w0 (CsNn p nb sb mv rs * R) wr)) (fun iv _ => n - (intOf iv).toNat)
  case atStart => exact ⟨0, _, [], Nat.zero_le _, rfl, Lib.hid ⟨rfl, rfl⟩, HN⟩
  case round =>
    clear HN
    obtain ⟨k, mv, rs, hk, rfl, HRS, HPP⟩ := hrel
    by_cases hlt : k < n
    rotate_left
    · have hkn : k = n := by omega
      subst hkn
      go_wp2
      go_ret2
      exact ⟨_, rfl, csN_done (by have := HRS.out.1; omega) HRS.out.2 HPP.out⟩
    have hm : isMember (k : Int) = true := by simp [isMember]; omega
    have hrl : rs.length = k := HRS.out.1
    have HM := Lib.hid hm; have HRL := Lib.hid hrl
    clear hm hrl
    go_wp2_with fail
    refine (cwNew_yes (k : Int) HM.out HPP.out).mono ?_
    rintro e w2 ⟨q, rfl, ho⟩
    rw [errV0]
    have h1 := csN_app ho
    have c1 : w2.cell? ⟨p, 0, none⟩ = some mv := (h1.second.cell 0).trans rfl
    obtain ⟨ad, cp, hmv, _⟩ := Own.rd h1
    subst hmv
    have HAP := Lib.hid h1
    clear h1 ho
    go_wp2_with (at_builtin; refine wpList_app rfl _ _ 65 rfl 68 1 8 _ info_cm Tryz.underlying65 rfl (by decide) rfl (HAP.out.alloc' _) rfl (by rfl) (Rd_lit (by simp) (by unfold maxLen; omega)) (by intro u hu; simp at hu; subst hu; rfl) (by have := HRL.out; unfold maxLen; omega) (by have := HRL.out; omega) ?_; intro v' w3 ho3; obtain ⟨ad', cp', hv', _⟩ := Own.rd ho3; subst hv'; have g1 := ho3.second.cell 0; have g2 := ho3.second.free 0 none; have HW := Lib.hid (csN_push ho3); clear ho3)
    go_round
    case rel =>
      refine ⟨k + 1, _, _, by omega, by go_num, Lib.hid ⟨by simp [HRL.out], ?_⟩, HW⟩
      rw [List.map_append, HRS.out.2, List.range_succ, List.map_append]
      rfl
    case measure => simp [intOf]; omega
end Go.Proofs.YtpafhfnimncklaaGreatDoor
/- slices.Clone of events. -/
namespace Go.Proofs.YtpafhfnimncklaaGreatDoor
set_option linter.unusedVariables false
set_option linter.unusedSimpArgs false
open Go.RowKit Go.Maps
set_option maxRecDepth 100000 in
set_option maxHeartbeats 4000000 in
theorem cloneEv_any {w0 w : World} {R : HProp} (v : Value) (l : List Ev) (hl : Evs w v l) (hb : l.length ≤ 1000000) (h : Own w0 R w) :
    Calls Tryz.prog 31 #[v] w fun e w' => ∃ v', e = .returned v' ∧ Own w0 (EvSl v' l * R) w' := by
  obtain ⟨⟨ad, cap, rfl, hlc, hcap, hn, hc⟩, hi⟩ := id hl
  cases ad with
  | none =>
    have h0 := hn rfl
    subst h0
    have hl0 : l = [] := List.eq_nil_of_length_eq_zero (by omega)
    subst hl0
    clear hn hc hi hl hlc hcap hb
    have hnil := fun (w : World) => Lib.run_eql_slice_nil (P := Tryz.prog) w 34 40 none 0 0 0 0 Tryz.underlying34
    go_enter Tryz.func31, Tryz.ntmps31
    go_wp2
    go_ret
    exact ⟨_, rfl, h.sl_nil _ _⟩
  | some a =>
    have hnil := fun (w : World) => Lib.run_eql_slice_nil (P := Tryz.prog) w 34 40 (some a) l.length cap 0 0 Tryz.underlying34
    have H := Lib.hid h
    have HL := Lib.hid hl
    have HS : Hid (Own w0 (Sl 40 3 (.slice (some ⟨w.heap.size, 0, none⟩) 0 0) 0 [] * R) (w.alloc (.cells #[] 40))) := Lib.hid (Own.sl_mk (cs := #[]) (Nat.le_refl _) (Nat.zero_le _) rfl (Nat.le_refl _) (fun i hi => by simp at hi) (h.alloc _))
    clear hn hc hi hl h
    go_enter Tryz.func31, Tryz.ntmps31
    go_wp2_with (at_builtin; refine wpList_app rfl _ _ 34 rfl 40 3 24 _ info_ev Tryz.underlying34 rfl (by decide) rfl HS.out rfl (cells_len evCells 3 (fun _ => rfl) _) ((HL.out.1).alloc _) (ev_one _) (by unfold maxLen; omega) (by omega) ?_; intro v' w1 hown')
    go_ret
    exact ⟨_, rfl, by unfold EvSl; simpa using hown'⟩
end Go.Proofs.YtpafhfnimncklaaGreatDoor
/- Contracts of package cast, continued: OnWay, History, Drop, Twice. -/
namespace Go.Proofs.YtpafhfnimncklaaGreatDoor
set_option linter.unusedVariables false
set_option linter.unusedSimpArgs false
open Go.RowKit Go.Maps
section
variable {w0 w : World} {p rb off cap nb sb : Nat} {hv : Value} {rs : List CmR} {ss : List SRow} {c : Cs} {R : HProp}
/-- A net put back. -/
theorem Own.cs_net_put {nt : Nt} (h : Own w0 (NtP nb nt * (csHd p nb sb (.slice (some ⟨rb, off, none⟩) rs.length cap) hv * (TabO cmP cmV 68 rb off cap rs * (MpS sK I64 sdRow sdV sb ss * (EvSl hv c.hist * R))))) w) : Own w0 (CsO p rb off cap nb sb hv rs ss { c with net := nt } * R) w := h.perm (by unfold CsO; ac_rfl)
end
set_option maxRecDepth 100000 in
set_option maxHeartbeats 4000000 in
theorem csHistory_any {w0 w : World} {R : HProp} (p : Nat) (c : Cs) (hI : CsI c) (hb : c.hist.length ≤ 100000) (h : Own w0 (CsP p c * R) w) :
    Calls Tryz.prog 8 #[.pointer (some ⟨p, 0, none⟩)] w fun e w' => ∃ v', e = .returned v' ∧ Own w0 (EvSl v' c.hist * (CsP p c * R)) w' := by
  obtain ⟨rb, off, cap, nb, sb, hv, rs, ss, he, ho⟩ := h.cs_open
  obtain ⟨c0, c1, c2, c3, _⟩ := ho.cs_facts
  have hev : Evs w hv c.hist := EvSl_reads hI.hist _ ho.cs_hist
  obtain ⟨ad, cp, hvs, _, _⟩ := hev.shape
  have HEV := Lib.hid hev
  subst hvs
  clear he ho hev
  have H := Lib.hid h; have HI := Lib.hid hI
  clear h hI
  go_enter Tryz.func8, Tryz.ntmps8
  go_wp2_with fail
  refine (cloneEv_any _ c.hist HEV.out (by omega) H.out).mono ?_
  rintro e w2 ⟨v', rfl, ho⟩
  have HO2 := Lib.hid ho
  clear ho c0 c1 c2 c3
  go_wp2
  go_ret
  exact ⟨v', rfl, HO2.out⟩
end Go.Proofs.YtpafhfnimncklaaGreatDoor
/- Contracts of package cast, continued: Say. -/
namespace Go.Proofs.YtpafhfnimncklaaGreatDoor
set_option linter.unusedVariables false
set_option linter.unusedSimpArgs false
open Go.RowKit Go.Maps
theorem csPk_succ (n : Nat) (who word : Int) : csPk (n + 1) who word = csPk n who word ++ (if (n : Int) ≠ who then [(who, (n : Int), word)] else []) := by
  unfold csPk
  rw [List.range_succ, List.filter_append, List.map_append]
  congr 1
  by_cases h : (n : Int) ≠ who
  · rw [if_pos h]; simp [h]
  · rw [if_neg h]; simp at h; simp [h]
theorem csPk_le (n : Nat) (who word : Int) : ∀ k, k ≤ n → (csPk k who word).length ≤ (csPk n who word).length := by
  induction n with
  | zero => intro k hk; rw [show k = 0 by omega]; exact Nat.le_refl _
  | succ n ih =>
    intro k hk
    by_cases h : k = n + 1
    · rw [h]; exact Nat.le_refl _
    · refine Nat.le_trans (ih k (by omega)) ?_
      rw [csPk_succ, List.length_append]
      exact Nat.le_add_right _ _
/-- The net while packets of a word are sent. -/
def csNet (c : Cs) (k : Nat) (who word : Int) : Nt := ⟨c.net.all ++ csPk k who word, c.net.cut⟩
theorem csNet_I {c : Cs} (hI : CsI c) {who word : Int} (he : csSayErr c who word = 0) {k : Nat} (hk : k ≤ c.mem.length) : NtI (csNet c k who word) := by
  have h1 := (hI.say who word).net
  unfold csSay at h1
  rw [if_pos he] at h1
  obtain ⟨b1, _, b3, b4, _⟩ := csSayErr0 he
  have hle := csPk_le c.mem.length who word k hk
  refine ⟨?_, fun p hp => ?_, hI.net.nd, hI.net.mem⟩
  · have := h1.len
    simp only [csNet, List.length_append] at this ⊢
    omega
  · rcases List.mem_append.1 hp with hp | hp
    · exact hI.net.ok p hp
    · obtain ⟨d1, d2, d3, d4, d5⟩ := csPk_mem hp
      have := hI.n5
      have hw := (csSayErr0 he).2.1
      refine pkErr_ok ?_ ?_ (by rw [d2]; exact hw) (by rw [d1]; exact fun e => d5 e.symm)
      · rw [d1]; simp [isMember]; omega
      · simp [isMember]; omega
theorem csNet_send {c : Cs} (hI : CsI c) {who word : Int} (he : csSayErr c who word = 0) {k : Nat} (hk : k < c.mem.length) (hne : (k : Int) ≠ who) :
    ntErr (csNet c k who word) (who, (k : Int), word) = 0 ∧ ntSend (csNet c k who word) (who, (k : Int), word) = csNet c (k + 1) who word := by
  have h1 := csNet_I hI he (k := k + 1) (by omega)
  have e : (csNet c (k + 1) who word).all = (csNet c k who word).all ++ [(who, (k : Int), word)] := by
    unfold csNet
    rw [csPk_succ, if_pos hne, List.append_assoc]
  have h2 := h1.len
  rw [e, List.length_append] at h2
  simp only [List.length_singleton] at h2
  have h0 : ntErr (csNet c k who word) (who, (k : Int), word) = 0 := by
    unfold ntErr
    have := h1.ok (who, (k : Int), word) (by rw [e]; simp)
    rw [if_neg (by rw [this]; simp), if_neg (by omega)]
  refine ⟨h0, ?_⟩
  unfold ntSend
  rw [if_pos h0, ← e]
  rfl
theorem csNet_skip {c : Cs} {who word : Int} {k : Nat} (h : (k : Int) = who) : csNet c (k + 1) who word = csNet c k who word := by
  unfold csNet
  rw [csPk_succ, if_neg (by rw [h]; simp), List.append_nil]
section
variable {w0 w : World} {p rb off cap nb sb : Nat} {hv : Value} {rs : List CmR} {ss : List SRow} {c : Cs} {R : HProp}
theorem csIs_some (he : csIs rs ss c) (x : Int) : (mget ss x).isSome = (mget c.said x).isSome := by
  rw [← he.2, mget_mvals]; cases mget ss x <;> rfl
theorem csIs_get (he : csIs rs ss c) (x : Int) : ((mget ss x).getD nilSdR).2 = csSd c x := by
  unfold csSd
  rw [← he.2, mget_mvals]; cases mget ss x <;> rfl
theorem Own.cs_look (h : Own w0 (CsO p rb off cap nb sb hv rs ss c * R) w) (x : Int) (hx : I64 x) (cm : Bool) :
    (Instr.lookup 64 (.map (some sb)) (.int .i64 x) cm).run Tryz.prog w = .ok (if cm then .tuple #[sdV ((mget ss x).getD nilSdR), .bool (mget ss x).isSome] else sdV ((mget ss x).getD nilSdR)) w := by
  have h1 := (h.cs_map.perm (show _ = Mp sK I64 sb (mvals sdV ss) * _ by unfold MpS; rw [star_assoc])).map_look (int_ke int_kind) mapsd_kind sd_zero hx cm
  rw [mget_val sdV ss x nilSdR, mget_mvals, Option.isSome_map] at h1
  exact h1
theorem Own.cs_len (h : Own w0 (CsO p rb off cap nb sb hv rs ss c * R) w) (ty : TypeId) : (Builtin.len_ #[64] ty #[.map (some sb)]).run Tryz.prog w = .ok (.int .i64 ss.length) w := by
  have h1 := (h.cs_map.perm (show _ = Mp sK I64 sb (mvals sdV ss) * _ by unfold MpS; rw [star_assoc])).map_len mapsd_kind ty
  rw [mvals_len] at h1
  exact h1
/-- One member out of its group. -/
def CsX (p rb off cap nb sb : Nat) (hv : Value) (rs : List CmR) (ss : List SRow) (c : Cs) (k : Nat) : HProp :=
  SlAt 68 1 rb off rs.length cap (rs.map cmV) * (starL cmP (rs.eraseIdx k) * (csHd p nb sb (.slice (some ⟨rb, off, none⟩) rs.length cap) hv * (NtP nb c.net * (MpS sK I64 sdRow sdV sb ss * EvSl hv c.hist))))
theorem Own.cs_take {k : Nat} (hk : k < rs.length) (h : Own w0 (CsO p rb off cap nb sb hv rs ss c * R) w) : Own w0 (CwP rs[k].1 rs[k].2 * (CsX p rb off cap nb sb hv rs ss c k * R)) w :=
  (h.cs_tab.tab_take hk).perm (by unfold CsX cmP; ac_rfl)
theorem cs_mem_set {k : Nat} (hk : k < rs.length) (m : Ca) : (rs.set k (rs[k].1, m)).map cmV = rs.map cmV := by
  rw [List.map_set]
  have : cmV (rs[k].1, m) = (rs.map cmV)[k]'(by simpa using hk) := by simp [cmV]
  rw [this, List.set_getElem_self]
end
/-- The store of a word in the group's map. -/
theorem Own.cs_mapput {w0 w : World} {sb : Nat} {ss : List SRow} {x : Int} {r : SdR} {Q : HProp} (hno : mget ss x = none) (h : Own w0 (Mp sK I64 sb (mput (mvals sdV ss) x (sdV r)) * (starL (fun p : Int × SdR => sdRow p.2) ss * (sdRow r * Q))) w) : Own w0 (MpS sK I64 sdRow sdV sb (mput ss x r) * Q) w := by
  refine h.perm ?_
  unfold MpS
  have hm : mput ss x r = ss ++ [(x, r)] := mput_new (mget_none.1 hno)
  rw [mput_mvals, hm, starL_snoc]
  ac_rfl
set_option maxRecDepth 100000 in
set_option maxHeartbeats 4000000 in
theorem csSay_no {w0 w : World} {R : HProp} (p : Nat) (c : Cs) (who word : Int) (hI : CsI c) (hE : csSayErr c who word = 1 ∨ csSayErr c who word = 7) (h : Own w0 (CsP p c * R) w) :
    Calls Tryz.prog 6 #[.pointer (some ⟨p, 0, none⟩), .int .i64 who, .int .i64 word] w fun e w' => e = .returned (errV (csSayErr c who word)) ∧ Own w0 (CsP p c * R) w' := by
  obtain ⟨rb, off, cap, nb, sb, hv, rs, ss, he, ho⟩ := h.cs_open
  obtain ⟨c0, c1, c2, c3, _, _, hc1, hc2⟩ := ho.cs_facts
  have hn2 := hI.n2
  have hn5 := hI.n5
  rw [← csIs_len he] at hn2 hn5
  obtain ⟨N, hN⟩ : ∃ N, N = rs.length := ⟨_, rfl⟩
  rw [← hN] at c0 hn2 hn5 hc1
  have hNm : c.mem.length = N := by rw [← csIs_len he, hN]
  obtain ⟨E, hE'⟩ : ∃ E, E = csSayErr c who word := ⟨_, rfl⟩
  rw [← hE'] at hE ⊢
  unfold csSayErr at hE'
  rw [hNm] at hE'
  by_cases hw0 : who < 0
  · have hE1 : E = 1 := by rw [hE', if_pos (by unfold inR; simp; omega)]
    have t1 : decide (who < 0) = true := decide_eq_true hw0
    subst hE1
    clear hE'
    have H := Lib.hid h; have HI := Lib.hid hI; have HE := Lib.hid hE; have HO := Lib.hid ho; have HE := Lib.hid he; have HN := Lib.hid hN; have HNM := Lib.hid hNm; have HW0 := Lib.hid hw0
    clear h hI hE ho he hN hNm hw0
    go_enter Tryz.func6, Tryz.ntmps6
    go_wp2
    go_ret
    exact ⟨rfl, H.out⟩
  have t1 : decide (who < 0) = false := decide_eq_false hw0
  by_cases hwn : (N : Int) ≤ who
  · have hE1 : E = 1 := by rw [hE', if_pos (by unfold inR; simp; omega)]
    have t2 : decide ((N : Int) ≤ who) = true := decide_eq_true hwn
    subst hE1
    clear hE'
    have H := Lib.hid h; have HI := Lib.hid hI; have HE := Lib.hid hE; have HO := Lib.hid ho; have HE := Lib.hid he; have HN := Lib.hid hN; have HNM := Lib.hid hNm; have HW0 := Lib.hid hw0; have HWN := Lib.hid hwn
    clear h hI hE ho he hN hNm hw0 hwn
    go_enter Tryz.func6, Tryz.ntmps6
    go_wp2
    go_ret
    exact ⟨rfl, H.out⟩
  have t2 : decide ((N : Int) ≤ who) = false := decide_eq_false hwn
  rw [if_neg (by unfold inR; simp; omega)] at hE'
  cases hwd : isWord word
  · rw [if_pos hwd] at hE'
    subst hE'
    have H := Lib.hid h; have HI := Lib.hid hI; have HE := Lib.hid hE; have HO := Lib.hid ho; have HE := Lib.hid he; have HN := Lib.hid hN; have HNM := Lib.hid hNm; have HW0 := Lib.hid hw0; have HWN := Lib.hid hwn; have HWD := Lib.hid hwd
    clear h hI hE ho he hN hNm hw0 hwn hwd
    go_enter Tryz.func6, Tryz.ntmps6
    go_wp2_with fail
    refine (word_any _ _).mono ?_
    rintro e w' ⟨rfl, rfl⟩
    rw [HWD.out]
    go_wp2
    go_ret
    exact ⟨rfl, H.out⟩
  rw [if_neg (by rw [hwd]; simp)] at hE'
  cases hsm : (mget c.said word).isSome
  · rw [hsm, if_neg (by simp)] at hE'
    exfalso
    split at hE' <;> omega
  rw [hsm, if_pos rfl] at hE'
  have hlk := ho.cs_look word (isWord_I64 hwd) true
  rw [csIs_some he, hsm, if_pos rfl] at hlk
  obtain ⟨r, hr⟩ : ∃ r, r = (mget ss word).getD nilSdR := ⟨_, rfl⟩
  rw [← hr] at hlk
  unfold sdV at hlk
  obtain ⟨rv, rsd⟩ := r
  dsimp only at hlk
  have hrow : Own w0 (sdRow ((mget ss word).getD nilSdR) * _) w := (ho.cs_map.ms_take nilSdR sdRow_nil word)
  rw [← hr] at hrow
  obtain ⟨ad, cp, hrv⟩ := Own.int_shape hrow
  dsimp only at hrv
  rw [hrv] at hlk
  subst hE'
  clear hrow hr
  have H := Lib.hid h; have HI := Lib.hid hI; have HE := Lib.hid hE; have HO := Lib.hid ho; have HE := Lib.hid he; have HN := Lib.hid hN; have HNM := Lib.hid hNm; have HW0 := Lib.hid hw0; have HWN := Lib.hid hwn; have HWD := Lib.hid hwd; have HSM := Lib.hid hsm
  clear h hI hE ho he hN hNm hw0 hwn hwd hsm
  go_enter Tryz.func6, Tryz.ntmps6
  go_wp2_with fail
  refine (word_any _ _).mono ?_
  rintro e w' ⟨rfl, rfl⟩
  rw [HWD.out]
  go_wp2
  go_ret
  exact ⟨rfl, H.out.alloc' _⟩
end Go.Proofs.YtpafhfnimncklaaGreatDoor
