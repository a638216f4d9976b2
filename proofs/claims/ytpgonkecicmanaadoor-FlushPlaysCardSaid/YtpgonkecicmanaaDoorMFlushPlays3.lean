/- Rows of records, and tables: a row of slice values each of which owns what it points to. -/
import Derived.Test.YtpgonkecicmanaaDoorMFlushPlays2
import Derived.Test.YtpgonkecicmanaaDoorMFlushPlays1
import Derived.DeepKeys3
import Derived.Deep.LoopGhost
import Derived.StillTailTactics
import Derived.Test.YtpgonkecicmanaaDoorMFlushPlays0
import Derived.Deep.RegionHeld3
namespace Go.Proofs.YtpgonkecicmanaaDoor
set_option linter.unusedVariables false
set_option linter.unusedSimpArgs false
open Go.RowKit
section
variable {α : Type}
theorem cells_len (f : α → List Value) (sz : Nat) (hf : ∀ x, (f x).length = sz) (l : List α) : (l.flatMap f).length = l.length * sz := by
  induction l with
  | nil => simp
  | cons x r ih => rw [List.flatMap_cons, List.length_append, ih, hf, List.length_cons, Nat.add_mul]; omega
theorem cells_get (f : α → List Value) (sz : Nat) (hf : ∀ x, (f x).length = sz) : ∀ (l : List α) (k j : Nat) (hk : k < l.length) (_hj : j < sz), (l.flatMap f)[k * sz + j]? = (f l[k])[j]?
  | x :: r, 0, j, _, hj => by
    rw [List.flatMap_cons, List.getElem?_append_left (by rw [hf]; omega)]; simp
  | x :: r, k + 1, j, hk, hj => by
    rw [List.flatMap_cons, List.getElem?_append_right (by rw [hf, Nat.add_mul]; omega)]
    rw [show (k + 1) * sz + j - (f x).length = k * sz + j from by rw [hf, Nat.add_mul]; omega]
    exact cells_get f sz hf r k j (by simpa using hk) hj
/-- A table: rs.length slots from off on in block rb, slot i holding val rs[i]; f rs[i] owned beside it. -/
def TabO (f : α → HProp) (val : α → Value) (ty : TypeId) (rb off cap : Nat) (rs : List α) : HProp := SlAt ty 1 rb off rs.length cap (rs.map val) * starL f rs
theorem Own.tab_facts {f : α → HProp} {val : α → Value} {ty : TypeId} {w0 w : World} {rb off cap : Nat} {rs : List α} {R : HProp} (h : Own w0 (TabO f val ty rb off cap rs * R) w) :
    (∀ (i : Nat) r, rs[i]? = some r → w.cell? ⟨rb, off + i, none⟩ = some (val r)) ∧ (∀ i s, w.frozen? ⟨rb, i, s⟩ = false) ∧ rs.length ≤ cap ∧ cap ≤ maxLen := by
  have h2 : Own w0 (SlAt ty 1 rb off rs.length cap (rs.map val) * (starL f rs * R)) w := h.perm (by unfold TabO; ac_rfl)
  have h3 := h2.slAt_facts
  exact ⟨fun i r hi => h3.2.2.2.1 i _ (by simp [hi]), h3.2.2.2.2.1, h3.1, h3.2.1⟩
/-- One row out of the table, for the while; and back. -/
theorem Own.tab_take {f : α → HProp} {val : α → Value} {ty : TypeId} {w0 w : World} {rb off cap : Nat} {rs : List α} {R : HProp} (h : Own w0 (TabO f val ty rb off cap rs * R) w) {k : Nat} (hk : k < rs.length) :
    Own w0 (f rs[k] * (SlAt ty 1 rb off rs.length cap (rs.map val) * (starL f (rs.eraseIdx k) * R))) w :=
  h.perm (by unfold TabO; rw [starL_split f rs k hk]; ac_rfl)
theorem Own.tab_give {f : α → HProp} {val : α → Value} {ty : TypeId} {w0 w : World} {rb off cap : Nat} {rs : List α} {R : HProp} {k : Nat} (hk : k < rs.length)
    (h : Own w0 (f rs[k] * (SlAt ty 1 rb off rs.length cap (rs.map val) * (starL f (rs.eraseIdx k) * R))) w) : Own w0 (TabO f val ty rb off cap rs * R) w :=
  h.perm (by unfold TabO; rw [starL_split f rs k hk]; ac_rfl)
theorem Own.tab_put {f : α → HProp} {val : α → Value} {ty : TypeId} {w0 w : World} {rb off cap : Nat} {rs : List α} {R : HProp} {k : Nat} (hk : k < rs.length) {y : α}
    (h : Own w0 (f y * (SlAt ty 1 rb off rs.length cap (rs.map val) * (starL f (rs.eraseIdx k) * R))) w) : Own w0 (TabO f val ty rb off cap (rs.set k y) * R) (w.setCell ⟨rb, off + k, none⟩ (val y)) := by
  have h1 : Own w0 (SlAt ty 1 rb off rs.length cap (rs.map val) * (f y * (starL f (rs.eraseIdx k) * R))) w := h.perm (by ac_rfl)
  exact (h1.slAt_set k (val y) (by simpa using hk)).perm (by unfold TabO; rw [starL_set f rs k hk]; simp only [List.length_set, List.map_set]; ac_rfl)
theorem Own.tab_facts' {val : α → Value} {ty : TypeId} {w0 w : World} {rb off cap : Nat} {rs : List α} {Q R : HProp} (h : Own w0 (Q * (SlAt ty 1 rb off rs.length cap (rs.map val) * R)) w) :
    (∀ (i : Nat) r, rs[i]? = some r → w.cell? ⟨rb, off + i, none⟩ = some (val r)) ∧ (∀ i s, w.frozen? ⟨rb, i, s⟩ = false) ∧ rs.length ≤ cap ∧ cap ≤ maxLen := by
  have h2 : Own w0 (SlAt ty 1 rb off rs.length cap (rs.map val) * (Q * R)) w := h.perm (by ac_rfl)
  have h3 := h2.slAt_facts
  exact ⟨fun i r hi => h3.2.2.2.1 i _ (by simp [hi]), h3.2.2.2.2.1, h3.1, h3.2.1⟩
/-- n empty rows. -/
theorem starL_nils (f : α → HProp) (x : α) (hx : f x = emp) (n : Nat) : starL f (List.replicate n x) = emp := by
  induction n with
  | zero => rfl
  | succ n ih => rw [List.replicate_succ]; show f x * starL f (List.replicate n x) = emp; rw [hx, ih, emp_star]
end
/-- The front cut off. -/
theorem Own.sl_drop {w0 w : World} {ty : TypeId} {size n k : Nat} {b off cap : Nat} {xs : List Value} {R : HProp} (hk : k ≤ n) (h : Own w0 (Sl ty size (.slice (some ⟨b, off, none⟩) n cap) n xs * R) w) :
    Own w0 (Sl ty size (.slice (some ⟨b, off + k * size, none⟩) (n - k) (cap - k)) (n - k) (xs.drop (k * size)) * R) w := by
  rcases h.sl_cases with ⟨h1, _⟩ | ⟨b', off', cap', cs, h1, h2, h3, h4, h5, h6, ho⟩
  · cases h1
  · injection h1 with e1 e2 e3
    injection e1 with e1
    injection e1 with e1 e4
    subst e1; subst e4; subst e3
    have hm : k * size ≤ n * size := Nat.mul_le_mul_right _ hk
    have hm2 : n * size ≤ cap * size := Nat.mul_le_mul_right _ h2
    refine Own.sl_mk (by omega) (by omega) (by rw [List.length_drop, h4, Nat.sub_mul]) (by rw [Nat.sub_mul]; omega) (fun i hi => ?_) ho
    rw [List.length_drop] at hi
    rw [List.getElem?_drop, Nat.add_assoc]
    exact h6 (k * size + i) (by omega)
theorem Own.slAt_ne {w0 w : World} {p b : Nat} {o : Obj} {ty : TypeId} {size off n cap : Nat} {xs : List Value} {R : HProp} (h : Own w0 (blk p o * (SlAt ty size b off n cap xs * R)) w) : p ≠ b := by
  have h1 : Own w0 (SlAt ty size b off n cap xs * (blk p o * R)) w := h.perm (star_left_comm _ _ _)
  have h2 : Own w0 (hex (fun cs : Array Value => blk b (.cells cs ty (0, 0))) * (blk p o * R)) w := h1.cons fun hp hh => by
    obtain ⟨cs, hc⟩ := hh
    exact ⟨cs, hc.2.2.2.2.2⟩
  obtain ⟨cs, h3⟩ := h2.ex
  exact (h3.perm (star_left_comm _ _ _)).ne
section
variable {P : Program}
theorem wpList_slice {w : World} {ops : Array Oper} {rest : List Oper} {o : Oper} {a : Act} {Q : Exit → Act → World → Prop} (v : Value)
    (hg : o.guard = none) (t : TypeId) (x : Operand) (lo hi mx : Option Operand) (hop : o.op = Op.slice t x lo hi mx)
    (hrun : (Instr.sliceAt t (a.eval x) (lo.map a.eval) (hi.map a.eval) (mx.map a.eval)).run P w = .ok v w)
    (hK : wpList P ops Q rest (a.put o.dst v) w) : wpList P ops Q (o :: rest) a w := by
  refine wpList_plain hg fun K' hK' => ?_
  unfold Oper.wp
  simp [execOp, hop, hrun, Result.andThen]
  exact hK' _ _ hK
theorem step_slice {w : World} {ops : Array Oper} {o : Oper} {a : Act} {K : Act → World → Prop} {Q : Exit → Act → World → Prop} {E : Prop} (v : Value)
    (hg : o.guard = none) (t : TypeId) (x : Operand) (lo hi mx : Option Operand) (hop : o.op = Op.slice t x lo hi mx)
    (hrun : (Instr.sliceAt t (a.eval x) (lo.map a.eval) (hi.map a.eval) (mx.map a.eval)).run P w = .ok v w)
    (hK : K (a.put o.dst v) w) : if Region.wanted o (yielded ops a.tmps) = true then Oper.wp P o a w K Q else E := by
  have hw : Region.wanted o (yielded ops a.tmps) = true := by simp [Region.wanted, hg]
  rw [if_pos hw]
  unfold Oper.wp
  simp [execOp, hop, hrun, Result.andThen]
  exact hK
theorem wpList_min {w : World} {ops : Array Oper} {rest : List Oper} {o : Oper} {a : Act} {Q : Exit → Act → World → Prop} (m n : Int)
    (hg : o.guard = none) (x y : Operand) (t u : TypeId) (hop : o.op = Op.call { callee := Callee.builtin Builtin.min, args := #[x, y], argTypes := #[t, u] })
    (hx : a.eval x = .int .i64 m) (hy : a.eval y = .int .i64 n)
    (hK : wpList P ops Q rest (a.put o.dst (.int .i64 (min m n))) w) : wpList P ops Q (o :: rest) a w := by
  refine wpList_plain hg fun K' hK' => ?_
  have hrun : (Builtin.min_ #[t, u] o.type #[.int .i64 m, .int .i64 n]).run P w = .ok (.int .i64 (min m n)) w := by
    simp [Builtin.min_, Builtin.min2]
    split <;> omega
  unfold Oper.wp
  simp [execOp, hop, hx, hy, resolve, invoke, builtin, hrun, Result.andThen]
  exact hK' _ _ hK
end
/-- What a slice of ints is, cut at n. -/
def cutA (ad : Option Addr) (cp n : Nat) : Option Addr := if cp = n then ad else ad.map (·.add n)
def cutV (ad : Option Addr) (len cp n : Nat) : Value := .slice (cutA ad cp n) (len - n) (cp - n)
theorem cut_front {P : Program} {t e : TypeId} (ht : P.underlying t = some (.slice e)) (hs : ∀ w, (sizeOf e).run P w = .ok 1 w) {ad : Option Addr} {len cp n : Nat} (h1 : n ≤ len) (h2 : len ≤ cp) (w : World) :
    (Instr.sliceAt t (.slice ad len cp) (some (.int .i64 n)) none none).run P w = .ok (cutV ad len cp n) w := by
  simp [Instr.sliceAt, Instr.slice, Instr.sliceBounds, Instr.sliceBound, asIntOf, run_underlying ht, hs, h1, cutV, cutA, Result.andThen]
theorem cut_back {P : Program} {t e : TypeId} (ht : P.underlying t = some (.slice e)) (hs : ∀ w, (sizeOf e).run P w = .ok 1 w) {ad : Option Addr} {len cp n : Nat} (h1 : n ≤ len) (h2 : len ≤ cp) (w : World) :
    (Instr.sliceAt t (.slice ad len cp) none (some (.int .i64 n)) none).run P w = .ok (.slice ad n cp) w := by
  have h3 : n ≤ cp := by omega
  simp [Instr.sliceAt, Instr.slice, Instr.sliceBounds, Instr.sliceBound, asIntOf, run_underlying ht, hs, h3, Result.andThen]
  intro _
  cases ad <;> simp [Addr.add]
theorem Own.sl_cut {w0 w : World} {ty : TypeId} {len cp n : Nat} {ad : Option Addr} {xs : List Value} {R : HProp} (hk : n ≤ len) (h : Own w0 (Sl ty 1 (.slice ad len cp) len xs * R) w) :
    Own w0 (Sl ty 1 (cutV ad len cp n) (len - n) (xs.drop n) * R) w := by
  rcases h.sl_cases with ⟨h1, h2, h3, ho⟩ | ⟨b', off', cap', cs, h1, h2, h3, h4, h5, h6, ho⟩
  · injection h1 with e1 e2 e3
    subst e1; subst e2; subst e3; subst h3
    have : n = 0 := by omega
    subst this
    simpa [cutV, cutA] using ho.sl_nil ty 1
  · injection h1 with e1 e2 e3
    subst e1; subst e3
    unfold cutV cutA
    by_cases hc : cp = n
    · have hl : len = n := by omega
      subst hl
      rw [if_pos hc]
      have hx : xs.drop len = [] := List.drop_eq_nil_of_le (by omega)
      rw [hx]
      refine Own.sl_mk (by omega) (by omega) (by simp) ?_ (fun i hi => by simp at hi) ho
      omega
    · rw [if_neg hc]
      have := h.sl_drop hk
      rw [Nat.mul_one] at this
      rw [Option.map_some, Addr.add_lit]
      exact this
end Go.Proofs.YtpgonkecicmanaaDoor
/- Contracts of package fifo. -/
namespace Go.Proofs.YtpgonkecicmanaaDoor
set_option linter.unusedVariables false
set_option linter.unusedSimpArgs false
open Go.RowKit Go.Maps
def ikv (n : Int) : Value := .int .i64 n
/-- A place: whose a word is, and which. -/
def plV (x : Int × Int) : Value := .agg #[.int .i64 x.1, .int .i64 x.2]
def plOk (x : Int × Int) : Prop := I64 x.1 ∧ I64 x.2
structure Fi where
  next : List Int
  waits : List ((Int × Int) × Int)
abbrev PMp (mb : Nat) (m : List ((Int × Int) × Int)) : HProp := Mp plV plOk mb (mvals ikv m)
def fiCells (f : Fi) (mb : Nat) : List Value := f.next.map (.int .i64) ++ [.map (some mb)]
def fiN (f : Fi) (who : Int) : Int := f.next.getD who.toNat 0
def fiHas (f : Fi) (who n : Int) : Bool := (mget f.waits (who, n)).isSome || decide (n < fiN f who)
/-- The words that are ready, from the number n on: these, the next number, what waits. -/
def fiDrain (who : Int) : Nat → Int → List ((Int × Int) × Int) → List Int × Int × List ((Int × Int) × Int)
  | 0, n, m => ([], n, m)
  | k + 1, n, m => match mget m (who, n) with
    | none => ([], n, m)
    | some x => let r := fiDrain who k (n + 1) (mdel m (who, n)); (x :: r.1, r.2.1, r.2.2)
def fiErr (f : Fi) (who n word : Int) : Nat :=
  if isMember who = false then 1 else if n < 1 then 1 else if 1000000 < n then 1 else if isWord word = false then 1 else if fiHas f who n = true then 7
  else if n ≠ fiN f who ∧ 40 ≤ f.waits.length then 4 else 0
def fiEnd (f : Fi) (who n word : Int) : List Int × Int × List ((Int × Int) × Int) := fiDrain who (mput f.waits (who, n) word).length (fiN f who) (mput f.waits (who, n) word)
def fiOut (f : Fi) (who n word : Int) : List Int := if fiErr f who n word = 0 then (fiEnd f who n word).1 else []
def fiTake (f : Fi) (who n word : Int) : Fi := if fiErr f who n word = 0 then ⟨f.next.set who.toNat (fiEnd f who n word).2.1, (fiEnd f who n word).2.2⟩ else f
def fiFit (f : Fi) : Prop := f.next.length = 5 ∧ (∀ x ∈ f.next, 1 ≤ x ∧ x ≤ 1000001) ∧ f.waits.length ≤ 40 ∧ (∀ p ∈ f.waits, 1 ≤ p.1.2 ∧ p.1.2 ≤ 1000000 ∧ 1 ≤ p.2 ∧ p.2 ≤ 30)
def fiNew : Fi := ⟨[1, 1, 1, 1, 1], []⟩
theorem fi_zero : ∀ w, (zeroValue 3).run Tryd.prog w = .ok (.int .i64 0) w := fun _ => by kernel_rfl
theorem mput_len_le (m : List ((Int × Int) × Int)) (x : Int × Int) (v : Int) : (mput m x v).length ≤ m.length + 1 := by
  have := congrArg List.length (mput_keys m x v)
  simp only [List.length_map] at this
  rw [this]
  split <;> simp
theorem mget_mem {m : List ((Int × Int) × Int)} {x : Int × Int} {v : Int} (h : mget m x = some v) : (x, v) ∈ m := by
  induction m with
  | nil => simp [mget] at h
  | cons p r ih =>
    unfold mget at h
    by_cases e : p.1 = x
    · rw [if_pos e] at h; injection h with h
      exact List.mem_cons.2 (.inl (by rw [← e, ← h]))
    · rw [if_neg e] at h; exact List.mem_cons.2 (.inr (ih h))
theorem fi_errV1 : errV 1 = .iface 125 (.int .i64 1) := rfl
end Go.Proofs.YtpgonkecicmanaaDoor
/- Sets of ints as maps; where an int is in a list; parts of a list of ints. -/
namespace Go.Proofs.YtpgonkecicmanaaDoor
set_option linter.unusedVariables false
set_option linter.unusedSimpArgs false
open Go.RowKit
def setM (ss : List Int) : List (Int × Value) := ss.map fun x => (x, Value.bool true)
theorem mget_setM (ss : List Int) (x : Int) : (mget (setM ss) x).getD (.bool false) = .bool (decide (x ∈ ss)) := by
  induction ss with
  | nil => rfl
  | cons y r ih =>
    unfold setM at ih ⊢
    rw [List.map_cons]; unfold mget
    by_cases h : y = x
    · simp [h]
    · rw [if_neg h, ih]
      have h' : ¬ x = y := fun e => h e.symm
      simp [h']
theorem mput_setM {ss : List Int} {x : Int} (h : x ∉ ss) : mput (setM ss) x (.bool true) = setM (ss ++ [x]) := by
  unfold setM
  rw [mput_new (by intro p hp e; obtain ⟨y, hy, rfl⟩ := List.mem_map.1 hp; simp at e; exact h (e ▸ hy)), List.map_append]; rfl
abbrev IMp := Mp (fun n : Int => Value.int .i64 n) I64
theorem mapint_made : ∀ w, (Instr.makeMap 133 none).run Tryd.prog w = .ok (.map (some w.heap.size)) (w.alloc (.map #[] 0)) := fun _ => by kernel_rfl
theorem bool_zero : ∀ w, (zeroValue 4).run Tryd.prog w = .ok (.bool false) w := fun _ => by kernel_rfl
theorem int_kind : Tryd.prog.underlying 3 = some (.int .i64) := by kernel_rfl
theorem mapint_kind : Tryd.prog.underlying 133 = some (.map 3 4) := by kernel_rfl
theorem int_info : (Tryd.prog.info? 3).map (fun i => (i.zero, i.size, i.bytes)) = some (some (.int .i64 0), 1, 8) := by kernel_rfl
theorem isWord_I64 {x : Int} (h : isWord x = true) : I64 x := by simp [isWord] at h; unfold I64; omega
theorem mput_setM_old {ss : List Int} {x : Int} (h : x ∈ ss) : mput (setM ss) x (.bool true) = setM ss := by
  induction ss with
  | nil => cases h
  | cons y r ih =>
    unfold setM at ih ⊢
    rw [List.map_cons]; unfold mput
    by_cases e : y = x
    · simp [e]
    · rw [if_neg e, ih (by rcases List.mem_cons.1 h with h | h
                           · exact absurd h.symm e
                           · exact h)]
/-- x put into a set. -/
def setPut (ss : List Int) (x : Int) : List Int := if x ∈ ss then ss else ss ++ [x]
theorem mput_setPut (ss : List Int) (x : Int) : mput (setM ss) x (.bool true) = setM (setPut ss x) := by
  unfold setPut
  by_cases h : x ∈ ss
  · rw [if_pos h, mput_setM_old h]
  · rw [if_neg h, mput_setM h]
theorem mem_setPut {ss : List Int} {x y : Int} : y ∈ setPut ss x ↔ y ∈ ss ∨ y = x := by
  unfold setPut
  by_cases h : x ∈ ss
  · rw [if_pos h]; exact ⟨.inl, fun hh => hh.elim id (fun e => e ▸ h)⟩
  · rw [if_neg h]; simp
/-- A part of a list of ints. -/
theorem Ints.mid {w : World} {ad : Option Addr} {len cp lo hi : Nat} {l : List Int} (h : Ints w (.slice ad len cp) l) (h1 : lo ≤ hi) (h2 : hi ≤ len) : Ints w (.slice (cutA ad cp lo) (hi - lo) (cp - lo)) ((l.take hi).drop lo) := by
  obtain ⟨⟨ad', cap', e, h3, h4, h5, hc⟩, hi'⟩ := h
  injection e with e1 e2 e3
  subst e1; subst e2; subst e3
  refine ⟨⟨cutA ad cp lo, cp - lo, ?_, ?_, by omega, ?_, fun i u hu => ?_⟩, fun x hx => hi' x (List.mem_of_mem_take (List.mem_of_mem_drop hx))⟩
  · congr 1; simp; omega
  · simp; omega
  · intro hn; unfold cutA at hn; split at hn
    · omega
    · cases ad with
      | none => have := h5 rfl; omega
      | some a => cases hn
  · have hlt : i < hi - lo := by
      rcases Nat.lt_or_ge i (hi - lo) with h | h
      · exact h
      · rw [List.getElem?_eq_none (by simp; omega)] at hu; cases hu
    have hu2 : (l.map (Value.int .i64))[lo + i]? = some u := by
      rw [← hu]; simp [List.getElem?_map, List.getElem?_drop, List.getElem?_take, show lo + i < hi from by omega]
    obtain ⟨a, ha, hcell⟩ := hc _ _ hu2
    subst ha
    have hne : ¬ cp = lo := by omega
    refine ⟨a.add lo, by unfold cutA; rw [if_neg hne]; rfl, ?_⟩
    have : (a.add lo).add i = a.add (lo + i) := by
      unfold Addr.add
      by_cases e1 : lo = 0
      · subst e1; simp
      · by_cases e2 : i = 0
        · subst e2; simp [e1]
        · have : ¬ lo + i = 0 := by omega
          simp [e1, e2, this]; omega
    rw [this]; exact hcell
theorem slice_mid {P : Program} {t e : TypeId} (ht : P.underlying t = some (.slice e)) (hs : ∀ w, (sizeOf e).run P w = .ok 1 w) {ad : Option Addr} {len cp lo hi : Nat} (h1 : lo ≤ hi) (h2 : hi ≤ len) (h3 : len ≤ cp) (w : World) :
    (Instr.sliceAt t (.slice ad len cp) (some (.int .i64 lo)) (some (.int .i64 hi)) none).run P w = .ok (.slice (cutA ad cp lo) (hi - lo) (cp - lo)) w := by
  have h4 : hi ≤ cp := by omega
  have h5 : lo ≤ cp := by omega
  simp [Instr.sliceAt, Instr.slice, Instr.sliceBounds, Instr.sliceBound, asIntOf, run_underlying ht, hs, h1, h4, cutA, Result.andThen]
theorem int_size1 : ∀ w, (sizeOf 3).run Tryd.prog w = .ok 1 w := fun _ => by kernel_rfl
set_option maxRecDepth 100000 in
set_option maxHeartbeats 4000000 in
theorem indexInt_any (v : Value) (l : List Int) (x : Int) (w : World) (hl : Ints w v l) :
    Calls Tryd.prog 111 #[v, .int .i64 x] w fun e w' => e = .returned (.int .i64 (whereIs (fun n => decide (n = x)) l)) ∧ w = w' := by
  obtain ⟨ad, cap, rfl, hlc, hcap⟩ := hl.shape
  have HL := Lib.hid hl
  clear hl
  go_enter Tryd.func111, Tryd.ntmps111
  go_wp2
  go_loop [8] (fun i => ∃ k : Nat, k ≤ l.length ∧ i = .int .i64 k ∧ Hid (∀ j (h : j < k) (h' : j < l.length), decide (l[j] = x) = false)) (fun i => l.length - (intOf i).toNat)
  case atStart => exact ⟨0, Nat.zero_le _, rfl, fun j h => by omega⟩
  case round =>
    obtain ⟨k, hk, rfl, hp⟩ := hrel
    by_cases hlt : k < l.length
    · obtain ⟨a, rfl, hc⟩ := HL.out.at k hlt
      obtain ⟨y, hy⟩ : ∃ y, y = l[k] := ⟨_, rfl⟩
      rw [← hy] at hc
      by_cases hb : x = y
      · have hb' : (x == y) = true := by simp [hb]
        have HB := Lib.hid hb; have HY := Lib.hid hy
        clear hb hy
        go_wp2
        go_ret
        exact ⟨ret_int (whereIs_hit _ l k hlt (fun j h => hp.out j h (by omega)) (by rw [← HY.out, HB.out]; simp)).symm, rfl⟩
      · have hb' : (x == y) = false := by simp [hb]
        have HB := Lib.hid hb; have HY := Lib.hid hy
        clear hb hy
        go_wp2
        go_round
        case rel => exact ⟨k + 1, by omega, by go_num, fun j h h' => by
          by_cases hj : j < k
          · exact hp.out j hj h'
          · have : j = k := by omega
            subst this; rw [← HY.out]; simp; exact fun e => HB.out e.symm⟩
        case measure => simp [intOf]; omega
    · go_wp2
      go_ret
      exact ⟨ret_int (whereIs_miss _ l (fun j h => hp.out j (by omega) h)).symm, rfl⟩
set_option maxRecDepth 100000 in
set_option maxHeartbeats 4000000 in
theorem containsInt_any (v : Value) (l : List Int) (x : Int) (w : World) (hl : Ints w v l) :
    Calls Tryd.prog 67 #[v, .int .i64 x] w fun e w' => e = .returned (.bool (decide (x ∈ l))) ∧ w = w' := by
  have hw := whereIs_neg (fun n => decide (n = x)) l
  have HL := Lib.hid hl; have HW := Lib.hid hw
  clear hl hw
  go_enter Tryd.func67, Tryd.ntmps67
  go_wp2_with fail
  refine (indexInt_any _ l x _ HL.out).mono ?_
  rintro e w' ⟨rfl, rfl⟩
  go_wp2
  go_ret
  refine ⟨ret_bool ?_, rfl⟩
  have h1 := HW.out
  have h2 : (l.any fun n => decide (n = x)) = decide (x ∈ l) := by
    rw [Bool.eq_iff_iff]; simp
  rw [h2] at h1
  by_cases h : x ∈ l
  · simp [h] at h1 ⊢; omega
  · simp [h] at h1 ⊢; omega
/-- The beginning of a list of ints. -/
theorem Ints.front {w : World} {ad : Option Addr} {len cp hi : Nat} {l : List Int} (h : Ints w (.slice ad len cp) l) (h2 : hi ≤ len) : Ints w (.slice ad hi cp) (l.take hi) := by
  have hmi := Ints.mid h (Nat.zero_le _) h2
  have hcut : cutA ad cp 0 = ad := by
    unfold cutA
    split
    · rfl
    · cases ad <;> simp [Addr.add]
  rwa [hcut, List.drop_zero, Nat.sub_zero, Nat.sub_zero] at hmi
/-- A row of a list of lists. -/
theorem Rows2.at {w : World} {ad : Option Addr} {n cap : Nat} {ll : List (List Int)} (h : Rows2 w (.slice ad n cap) ll) (k : Nat) (hk : k < ll.length) :
    ∃ (a : Addr) (ad' : Option Addr) (cap' : Nat), ad = some a ∧ w.cell? (a.add k) = some (.slice ad' ll[k].length cap') ∧ Ints w (.slice ad' ll[k].length cap') ll[k] := by
  obtain ⟨rs, h1, ⟨ad', cap', e, _, _, _, hc⟩, h3⟩ := h
  injection e with e1 e2 e3
  subst e1
  have hr : rs[k]? = some (rs[k]'(by omega)) := by simp [h1, hk]
  obtain ⟨a, ha, hcell⟩ := hc k _ hr
  have hi := h3 k _ ll[k] hr (by simp [hk])
  obtain ⟨ad2, cap2, e2, _, _⟩ := hi.shape
  rw [e2] at hi hcell
  exact ⟨a, ad2, cap2, ha, hcell, hi⟩
theorem Rows2.at_later {w0 : World} {ad : Option Addr} {n cap : Nat} {ll : List (List Int)} (h : Rows2 w0 (.slice ad n cap) ll) (k : Nat) (hk : k < ll.length) :
    ∃ (a : Addr) (ad' : Option Addr) (cap' : Nat), ad = some a ∧ Ints w0 (.slice ad' ll[k].length cap') ll[k] ∧ ∀ (w : World) (P : HProp), Own w0 P w → w.cell? (a.add k) = some (.slice ad' ll[k].length cap') := by
  obtain ⟨a, ad', cap', e, hc, hi⟩ := h.at k hk
  refine ⟨a, ad', cap', e, hi, fun w P ho => ?_⟩
  have hlt : a.block < w0.heap.size := by
    have := World.block_lt_of_cell? _ _ hc
    simpa [Addr.add] using (by unfold Addr.add at this; split at this <;> exact this)
  rw [ho.below.cell (p := a.add k) (by unfold Addr.add; split <;> exact hlt)]; exact hc
theorem Ints.at_later {w0 : World} {ad : Option Addr} {n cap : Nat} {l : List Int} (h : Ints w0 (.slice ad n cap) l) (k : Nat) (hk : k < l.length) :
    ∃ a : Addr, ad = some a ∧ ∀ (w : World) (P : HProp), Own w0 P w → w.cell? (a.add k) = some (.int .i64 l[k]) := by
  obtain ⟨a, e, hc⟩ := h.at k hk
  refine ⟨a, e, fun w P ho => ?_⟩
  obtain ⟨a', e', hc'⟩ := (h.later ho).at k hk
  rw [e] at e'
  injection e' with e'
  rw [e']; exact hc'
theorem Rows2.shape {w : World} {v : Value} {ll : List (List Int)} (h : Rows2 w v ll) : ∃ ad cap, v = .slice ad ll.length cap ∧ ll.length ≤ cap ∧ cap ≤ 9223372036854775807 := by
  obtain ⟨rs, h1, ⟨ad', cap', e, h2, h3, _, hc⟩, _⟩ := h
  exact ⟨_, _, e, h2, by simpa [maxLen] using h3⟩
/-- Distinct numbers from 1 to n: at most n. -/
theorem distinct_le (n : Nat) : ∀ (l : List Int), l.Nodup → (∀ x ∈ l, 1 ≤ x ∧ x ≤ (n : Int)) → l.length ≤ n := by
  induction n with
  | zero =>
    intro l _ h
    cases l with
    | nil => exact Nat.le_refl _
    | cons x r => have := h x (by simp); omega
  | succ n ih =>
    intro l hn h
    by_cases hm : ((n + 1 : Nat) : Int) ∈ l
    · have h1 := ih (l.erase ((n + 1 : Nat) : Int)) (hn.erase _) (fun x hx => by
        have h2 := (hn.mem_erase_iff).1 hx
        have := h x h2.2
        have := h2.1
        omega)
      rw [List.length_erase_of_mem hm] at h1
      omega
    · have := ih l hn (fun x hx => by
        have h2 := h x hx
        have : x ≠ ((n + 1 : Nat) : Int) := fun e => hm (e ▸ hx)
        omega)
      omega
def begins (a b : List Int) : Bool := decide (a.length ≤ b.length) && (a == b.take a.length)
end Go.Proofs.YtpgonkecicmanaaDoor
/- A law for a drawn region: the first n operations read, the others come in a given order; slots may be moved early. -/
namespace Go.Proofs.YtpgonkecicmanaaDoor
set_option linter.unusedVariables false
set_option linter.unusedSimpArgs false
open Go.RowKit
section
variable {P : Program} {ops : Array Oper} {md : Region.Mode}

/-- Each operation behind n waits for one from n on. -/
def linkB (md : Region.Mode) (ops : Array Oper) (n : Nat) : Bool :=
  (List.range ops.size).all fun t => decide (t ≤ n) || (List.range t).any fun s => decide (n ≤ s) && Region.waitsFor md ops t s

theorem none_ahead {n : Nat} {listed : Array Bool} (hs : Region.sinkB md ops n = true) (hl : linkB md ops n = true) (inv : HeadInv md ops n listed) {i : Nat} (hi : i < n) (hun : listed.getD i true = false) :
    ∀ t, n ≤ t → t ∉ Region.ready md ops listed := by
  have key : ∀ (d i : Nat), n - i = d → i < n → listed.getD i true = false → n ∉ Region.ready md ops listed := by
    intro d
    induction d using Nat.strongRecOn with
    | _ d ih =>
      intro i hd hi hun hr
      obtain ⟨_, on, hon, hall⟩ := mem_ready.1 hr
      obtain ⟨j, hj, hj2⟩ := List.any_eq_true.1 (List.all_eq_true.1 hs i (List.mem_range.2 hi))
      simp only [Bool.and_eq_true, decide_eq_true_eq] at hj2
      obtain ⟨oj, hoj, e, he, hb, heon⟩ := Region.waitsFor_spec hj2.2
      have hjn := List.mem_range.1 hj
      have huni := getD_both hun
      by_cases hjt : j = n
      · subst hjt
        rw [hoj] at hon; cases hon
        have := hall e he hb
        rw [heon, huni] at this; cases this
      · cases hlj : listed.getD j false with
        | true =>
          have := inv.closed j oj hoj hlj e he hb
          rw [heon, huni] at this; cases this
        | false => exact ih (n - j) (by omega) j rfl (by omega) (getD_in (by rw [inv.size]; exact (Array.getElem?_eq_some_iff.1 hoj).1) hlj) hr
  intro t ht hr
  rcases Nat.eq_or_lt_of_le ht with rfl | hlt
  · exact key _ i rfl hi hun hr
  · obtain ⟨_, ot, hot, hall⟩ := mem_ready.1 hr
    have htlt : t < ops.size := (Array.getElem?_eq_some_iff.1 hot).1
    have h1 := List.all_eq_true.1 hl t (List.mem_range.2 htlt)
    simp only [Bool.or_eq_true, decide_eq_true_eq] at h1
    rcases h1 with h1 | h1
    · omega
    · obtain ⟨s, hs1, hs2⟩ := List.any_eq_true.1 h1
      simp only [Bool.and_eq_true, decide_eq_true_eq] at hs2
      have hst := List.mem_range.1 hs1
      obtain ⟨o', ho', e, he, hb, heon⟩ := Region.waitsFor_spec hs2.2
      rw [hot] at ho'; cases ho'
      have := hall e he hb
      rw [heon, getD_both (inv.tail s hs2.1 (by omega))] at this
      cases this

/-- The first n operations only read: whichever comes up first, the values are those of the text's order. -/
theorem head_take {w : World} {n i : Nat} {oi : Oper} {v : Value} {L : Array Bool → Act → Prop} (hi : ops[i]? = some oi) (hsel : Region.noSelect ops = true)
    (hs : Region.sinkB md ops n = true) (hl : linkB md ops n = true) (hin : i < n) (hdone : ∀ listed a, L listed a → ∀ j ∈ Region.ready md ops listed, n ≤ j) :
    ∀ (f : Nat) (listed : Array Bool) (a : Act), HeadInv md ops n listed →
      (∀ j oj, ops[j]? = some oj → j ≠ i → listed.getD j true = false → (∀ e ∈ oj.after, Region.binds md e = true → e.on ≠ i) → oi.apart ops oj = true) →
      i ∈ Region.ready md ops listed → YieldsAt P ops w oi v a →
      wpAnyL P md ops w n L f (listed.setIfInBounds i true) (a.put oi.dst v) → wpAnyL P md ops w n L (f + 1) listed a := by
  have sel := Region.noSelect_spec hsel
  intro f
  induction f with
  | zero =>
    intro listed a inv _ hr hy H
    have hun := (mem_ready.1 hr).1
    refine ⟨List.ne_nil_of_mem hr, fun j hj => ?_⟩
    have hjn : j < n := Nat.lt_of_not_le fun h => none_ahead hs hl inv hin hun j h hj
    by_cases hji : j = i
    · subst hji; exact ⟨hjn, hy.stOp hi H⟩
    · have := hdone _ _ H j (ready_mono hj hji)
      omega
  | succ f ih =>
    intro listed a inv hfree hr hy H
    have hun := (mem_ready.1 hr).1
    refine ⟨List.ne_nil_of_mem hr, fun j hj => ?_⟩
    have hjn : j < n := Nat.lt_of_not_le fun h => none_ahead hs hl inv hin hun j h hj
    refine ⟨hjn, ?_⟩
    by_cases hji : j = i
    · subst hji; exact hy.stOp hi H
    obtain ⟨hjun, oj, hoj, hall⟩ := mem_ready.1 hj
    have hnot : ∀ e ∈ oj.after, Region.binds md e = true → e.on ≠ i := fun e he hb heq => by
      have h1 := hall e he hb
      rw [heq, getD_both hun] at h1
      cases h1
    have h2 := stOp_put hoj (hfree j oj hoj hji hjun hnot) (sel i oi · · hi) (sel j oj · · hoj) hy (H.2 j (ready_mono hj hji)).2
    refine stOp_mono (fun a' h3 => ih _ a' (inv.set hj hjn) (fun k ok hk hki hun' hno => hfree k ok hk hki ?_ hno) (ready_mono hr (Ne.symm hji)) h3.1 ?_) h2
    · by_cases hjk : j = k
      · subst hjk; exact hjun
      · rwa [getD_set_ne true hjk] at hun'
    · rw [Array.setIfInBounds_comm _ _ hji]
      exact h3.2

theorem asks_move {o : Oper} (hm : (match o.op with | .move _ => true | .assign _ => true | _ => false) = true) {a : Act} {w : World} : ¬ o.asks P a w := by
  obtain ⟨dst, op, ty, pos, after, guard⟩ := o
  intro h
  cases op <;> simp at hm <;> exact absurd h.1 (by simp [execOp]; exact nofun)

def isMv (o : Oper) : Bool := match o.op with | .move _ => true | .assign _ => true | _ => false
/-- An order of what is left: each is the only one that may come up, or moves a slot and may come first. -/
def ordB (md : Region.Mode) (ops : Array Oper) : List Nat → Array Bool → Bool
  | [], listed => (Region.ready md ops listed).isEmpty
  | k :: r, listed => (decide (Region.ready md ops listed = [k]) || ((Region.ready md ops listed).contains k && Region.free md ops listed k && ((ops[k]?).map isMv).getD false)) && ordB md ops r (listed.setIfInBounds k true)
def pick (l : List Oper) : List Nat → List Oper
  | [] => []
  | k :: r => (l[k]?).toList ++ pick l r

theorem wpAny_of_ord {l : List Oper} {Q : Exit → Act → World → Prop} (hsel : Region.noSelect l.toArray = true) (hQ : ∀ d v c a w, Q (.panic c) (Act.put a d v) w → Q (.panic c) a w) :
    ∀ (r : List Nat) (listed : Array Bool) (a : Act) (w : World), ordB md l.toArray r listed = true → wpList P l.toArray Q (pick l r) a w → wpAny P md l.toArray Q r.length listed a w
  | [], _, _, _, hB, h => ⟨by simpa [ordB] using hB, h⟩
  | k :: r, listed, a, w, hB, h => by
    simp only [ordB, Bool.and_eq_true, Bool.or_eq_true, decide_eq_true_eq] at hB
    obtain ⟨hk, hB⟩ := hB
    cases ho : l[k]? with
    | none =>
      exfalso
      rcases hk with hk | hk
      · have : k ∈ Region.ready md l.toArray listed := by rw [hk]; simp
        obtain ⟨_, o, h2, _⟩ := mem_ready.1 this
        simp [ho] at h2
      · simp [ho] at hk
    | some o =>
      have ho' : l.toArray[k]? = some o := by simpa using ho
      simp only [pick, ho, Option.toList, List.cons_append, List.nil_append] at h
      rcases hk with hk | ⟨⟨hk1, hk2⟩, hk3⟩
      · refine ⟨fun h1 => (by rw [hk] at h1; cases h1), fun i hi => ?_⟩
        rw [hk] at hi
        have hik : i = k := by simpa using hi
        subst hik
        refine wpOp_mono (K := wpList P l.toArray Q (pick l r)) (fun a' w' h' => wpAny_of_ord hsel hQ r _ a' w' hB h') ?_
        unfold wpOp; simp only [ho']; exact h
      · have hmv : isMv o = true := by simpa [ho] using hk3
        unfold wpList at h
        have step : ∀ v, Yields P l.toArray o v a → wpList P l.toArray Q (pick l r) (a.put o.dst v) w → wpAny P md l.toArray Q (r.length + 1) listed a w := fun v hy hw =>
          wpAny_take ho' hsel hk2 hk1 (fun c a w => hQ o.dst v c a w) hy (wpAny_of_ord hsel hQ r _ _ w hB hw)
        by_cases hw : Region.wanted o (yielded l.toArray a.tmps) = true
        · rw [if_pos hw] at h
          rcases h with h | h
          · obtain ⟨dst, op, ty, pos, after, guard⟩ := o
            cases op <;> simp [isMv] at hmv
            · exact step _ (.inl ⟨hw, fun _ => rfl⟩) h
            · exact step _ (.inl ⟨hw, fun _ => rfl⟩) h
          · exact absurd h.1 (asks_move hmv)
        · rw [if_neg hw] at h
          exact step _ (.inr ⟨by simpa using hw, rfl⟩) h

/-- The order is one for what is behind the first n. -/
def headB (md : Region.Mode) (ops : Array Oper) (r : List Nat) : Nat → Nat → Array Bool → Bool
  | 0, _, listed => ordB md ops r listed
  | f + 1, k, listed => (Region.ready md ops listed).contains k && Region.free md ops listed k && headB md ops r f (k + 1) (listed.setIfInBounds k true)
/-- How a drawn region may be walked: the first n read, then the others in the order r. -/
def planB (ops : Array Oper) (n : Nat) (r : List Nat) : Bool :=
  Region.noSelect ops && decide (n < ops.size) && decide (n + r.length = ops.size) && Region.sinkB .any ops n && linkB .any ops n && r.all (fun k => decide (n ≤ k)) && headB .any ops r n 0 (Array.replicate ops.size false)

theorem ordB_ready {n : Nat} {r : List Nat} {listed : Array Bool} (h : ordB md ops r listed = true) (inv : ∀ i < n, listed.getD i true = true) : ∀ j ∈ Region.ready md ops listed, n ≤ j := by
  intro j hj
  refine Nat.le_of_not_lt fun hlt => ?_
  have := (mem_ready.1 hj).1
  rw [inv j hlt] at this
  cases this

theorem wpAnyL_plan {w : World} {n : Nat} {r : List Nat} {Lq : Act → Prop} (hsel : Region.noSelect ops = true) (hs : Region.sinkB md ops n = true) (hl : linkB md ops n = true) (hn : n < ops.size) :
    ∀ (l : List Oper) (k : Nat) (listed : Array Bool) (a : Act), (∀ j, j < l.length → l[j]? = ops[k + j]?) → k + l.length = n → HeadInv md ops n listed → (∀ i < k, listed.getD i true = true) →
    headB md ops r l.length k listed = true → wpStill P ops w Lq l a →
    wpAnyL P md ops w n (fun listed' a' => ((∀ i < n, listed'.getD i true = true) ∧ ordB md ops r listed' = true) ∧ Lq a') l.length listed a
  | [], k, listed, a, _, hk, _, hdn, hB, h => by
    have : k = n := by simpa using hk
    subst this
    exact ⟨⟨hdn, by simpa [headB] using hB⟩, h⟩
  | o :: l, k, listed, a, hll, hk, inv, hdn, hB, h => by
    have h0 : ops[k]? = some o := by simpa using (hll 0 (by simp)).symm
    simp only [List.length_cons, headB, Bool.and_eq_true] at hB
    obtain ⟨⟨hr, hf⟩, hB'⟩ := hB
    have hkn : k < n := by simp only [List.length_cons] at hk; omega
    have hr' : k ∈ Region.ready md ops listed := by simpa using hr
    have hst : stOp P ops w k (wpStill P ops w Lq l) a := by unfold stOp; simp only [h0]; exact h
    obtain ⟨v, hy, hK⟩ := yieldsAt_of_stOp h0 hst
    refine head_take h0 hsel hs hl hkn (fun listed' a' hL => ordB_ready hL.1.2 hL.1.1) l.length listed a inv (Region.free_spec h0 hf) hr' hy ?_
    refine wpAnyL_plan hsel hs hl hn l (k + 1) _ _ (fun j hj => by have := hll (j + 1) (by simp; omega); simpa [Nat.add_assoc, Nat.add_comm 1 j] using this) (by simp only [List.length_cons] at hk; omega) (inv.set hr' hkn) (fun i hi => ?_) hB' hK
    by_cases hik : k = i
    · subst hik
      have hlt : k < listed.size := by rw [inv.size]; omega
      simp [hlt]
    · rw [getD_set_ne true hik]; exact hdn i (by omega)

/-- A drawn region by a plan: the first n operations read; the others come in the order r. -/
theorem wp_region_plan0 {id : Nat} {Q : Exit → Act → World → Prop} {a : Act} {w : World} {l : List Oper} (n : Nat) (r : List Nat) (hm : P.follows .mixedOrders = true) (hB : planB l.toArray n r = true)
    (hQ : ∀ d v c a w, Q (.panic c) (Act.put a d v) w → Q (.panic c) a w)
    (h : wpStill P l.toArray w.drew (fun a' => wpList P l.toArray Q (pick l r) a' w.drew) (l.take n) a) : (Code.region id l.toArray true).wp P Q a w := by
  simp only [planB, Bool.and_eq_true, decide_eq_true_eq] at hB
  obtain ⟨⟨⟨⟨⟨⟨hsel, hn⟩, hsz⟩, hs⟩, hl⟩, _⟩, hh⟩ := hB
  have hn' : n < l.length := by simpa using hn
  have htl : (l.take n).length = n := by simp; omega
  have inv0 : HeadInv .any l.toArray n (Array.replicate l.toArray.size false) :=
    ⟨by simp, fun j oj _ hl => (by rw [getD_replicate_false] at hl; cases hl), fun t _ ht => getD_in (by simpa using ht) (getD_replicate_false _ _)⟩
  have H := wpAnyL_plan (md := .any) (r := r) hsel hs hl hn (l.take n) 0 _ a (fun j hj => by
    have hj' : j < n := by rw [htl] at hj; exact hj
    simp [hj']) (by simpa using htl) inv0 (fun i hi => absurd hi (Nat.not_lt_zero _)) (by rw [htl]; exact hh) h
  refine wp_region_any hm ?_
  have := wpAny_of_head (Q' := Q) (g := r.length) (fun listed a' hL => wpAny_of_ord hsel hQ r listed a' _ hL.1.2 hL.2) _ _ _ H
  rw [htl, hsz] at this
  exact this
/-- The same, where the region is shown not to panic: behind it 'NoPanic.normal' gives the post back. -/
theorem wp_region_plan {id : Nat} {Q : Exit → Act → World → Prop} {a : Act} {w : World} {l : List Oper} (n : Nat) (r : List Nat) (hm : P.follows .mixedOrders = true) (hB : planB l.toArray n r = true)
    (h : wpStill P l.toArray w.drew (fun a' => wpList P l.toArray (NoPanic Q) (pick l r) a' w.drew) (l.take n) a) : (Code.region id l.toArray true).wp P Q a w :=
  wp_region_noPanic (wp_region_plan0 n r hm hB (fun _ _ _ _ _ h => h.elim) h)
end
end Go.Proofs.YtpgonkecicmanaaDoor
