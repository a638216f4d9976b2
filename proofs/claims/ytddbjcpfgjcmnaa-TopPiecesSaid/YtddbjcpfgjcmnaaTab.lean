/- Rows of records, and tables: a row of slice values each of which owns what it points to. -/
import Derived.Test.YtddbjcpfgjcmnaaVec
namespace Go.Proofs.Ytddbjcpfgjcmnaa
set_option linter.unusedVariables false
set_option linter.unusedSimpArgs false
open Go.RowKit
section
variable {α : Type}
theorem cells_len (f : α → List Value) (sz : Nat) (hf : ∀ x, (f x).length = sz) (l : List α) : (l.flatMap f).length = l.length * sz := by
  induction l with
  | nil => simp
  | cons x r ih => rw [List.flatMap_cons, List.length_append, ih, hf, List.length_cons, Nat.add_mul]; omega
theorem cells_get (f : α → List Value) (sz : Nat) (hf : ∀ x, (f x).length = sz) : ∀ (l : List α) (k j : Nat) (hk : k < l.length) (_hj : j < sz), (l.flatMap f)[k * sz + j]? = (f l[k])[j]?
  | x :: r, 0, j, _, hj => by
    rw [List.flatMap_cons, List.getElem?_append_left (by rw [hf]; omega)]; simp
  | x :: r, k + 1, j, hk, hj => by
    rw [List.flatMap_cons, List.getElem?_append_right (by rw [hf, Nat.add_mul]; omega)]
    rw [show (k + 1) * sz + j - (f x).length = k * sz + j from by rw [hf, Nat.add_mul]; omega]
    exact cells_get f sz hf r k j (by simpa using hk) hj
/-- A table: rs.length slots from off on in block rb, slot i holding val rs[i]; f rs[i] owned beside it. -/
def TabO (f : α → HProp) (val : α → Value) (ty : TypeId) (rb off cap : Nat) (rs : List α) : HProp := SlAt ty 1 rb off rs.length cap (rs.map val) * starL f rs
theorem Own.tab_facts {f : α → HProp} {val : α → Value} {ty : TypeId} {w0 w : World} {rb off cap : Nat} {rs : List α} {R : HProp} (h : Own w0 (TabO f val ty rb off cap rs * R) w) :
    (∀ (i : Nat) r, rs[i]? = some r → w.cell? ⟨rb, off + i, none⟩ = some (val r)) ∧ (∀ i s, w.frozen? ⟨rb, i, s⟩ = false) ∧ rs.length ≤ cap ∧ cap ≤ maxLen := by
  have h2 : Own w0 (SlAt ty 1 rb off rs.length cap (rs.map val) * (starL f rs * R)) w := h.perm (by unfold TabO; ac_rfl)
  have h3 := h2.slAt_facts
  exact ⟨fun i r hi => h3.2.2.2.1 i _ (by simp [hi]), h3.2.2.2.2.1, h3.1, h3.2.1⟩
/-- One row out of the table, for the while; and back. -/
theorem Own.tab_take {f : α → HProp} {val : α → Value} {ty : TypeId} {w0 w : World} {rb off cap : Nat} {rs : List α} {R : HProp} (h : Own w0 (TabO f val ty rb off cap rs * R) w) {k : Nat} (hk : k < rs.length) :
    Own w0 (f rs[k] * (SlAt ty 1 rb off rs.length cap (rs.map val) * (starL f (rs.eraseIdx k) * R))) w :=
  h.perm (by unfold TabO; rw [starL_split f rs k hk]; ac_rfl)
theorem Own.tab_give {f : α → HProp} {val : α → Value} {ty : TypeId} {w0 w : World} {rb off cap : Nat} {rs : List α} {R : HProp} {k : Nat} (hk : k < rs.length)
    (h : Own w0 (f rs[k] * (SlAt ty 1 rb off rs.length cap (rs.map val) * (starL f (rs.eraseIdx k) * R))) w) : Own w0 (TabO f val ty rb off cap rs * R) w :=
  h.perm (by unfold TabO; rw [starL_split f rs k hk]; ac_rfl)
theorem Own.tab_put {f : α → HProp} {val : α → Value} {ty : TypeId} {w0 w : World} {rb off cap : Nat} {rs : List α} {R : HProp} {k : Nat} (hk : k < rs.length) {y : α}
    (h : Own w0 (f y * (SlAt ty 1 rb off rs.length cap (rs.map val) * (starL f (rs.eraseIdx k) * R))) w) : Own w0 (TabO f val ty rb off cap (rs.set k y) * R) (w.setCell ⟨rb, off + k, none⟩ (val y)) := by
  have h1 : Own w0 (SlAt ty 1 rb off rs.length cap (rs.map val) * (f y * (starL f (rs.eraseIdx k) * R))) w := h.perm (by ac_rfl)
  exact (h1.slAt_set k (val y) (by simpa using hk)).perm (by unfold TabO; rw [starL_set f rs k hk]; simp only [List.length_set, List.map_set]; ac_rfl)
theorem Own.tab_facts' {val : α → Value} {ty : TypeId} {w0 w : World} {rb off cap : Nat} {rs : List α} {Q R : HProp} (h : Own w0 (Q * (SlAt ty 1 rb off rs.length cap (rs.map val) * R)) w) :
    (∀ (i : Nat) r, rs[i]? = some r → w.cell? ⟨rb, off + i, none⟩ = some (val r)) ∧ (∀ i s, w.frozen? ⟨rb, i, s⟩ = false) ∧ rs.length ≤ cap ∧ cap ≤ maxLen := by
  have h2 : Own w0 (SlAt ty 1 rb off rs.length cap (rs.map val) * (Q * R)) w := h.perm (by ac_rfl)
  have h3 := h2.slAt_facts
  exact ⟨fun i r hi => h3.2.2.2.1 i _ (by simp [hi]), h3.2.2.2.2.1, h3.1, h3.2.1⟩
/-- n empty rows. -/
theorem starL_nils (f : α → HProp) (x : α) (hx : f x = emp) (n : Nat) : starL f (List.replicate n x) = emp := by
  induction n with
  | zero => rfl
  | succ n ih => rw [List.replicate_succ]; show f x * starL f (List.replicate n x) = emp; rw [hx, ih, emp_star]
end
/-- The front cut off. -/
theorem Own.sl_drop {w0 w : World} {ty : TypeId} {size n k : Nat} {b off cap : Nat} {xs : List Value} {R : HProp} (hk : k ≤ n) (h : Own w0 (Sl ty size (.slice (some ⟨b, off, none⟩) n cap) n xs * R) w) :
    Own w0 (Sl ty size (.slice (some ⟨b, off + k * size, none⟩) (n - k) (cap - k)) (n - k) (xs.drop (k * size)) * R) w := by
  rcases h.sl_cases with ⟨h1, _⟩ | ⟨b', off', cap', cs, h1, h2, h3, h4, h5, h6, ho⟩
  · cases h1
  · injection h1 with e1 e2 e3
    injection e1 with e1
    injection e1 with e1 e4
    subst e1; subst e4; subst e3
    have hm : k * size ≤ n * size := Nat.mul_le_mul_right _ hk
    have hm2 : n * size ≤ cap * size := Nat.mul_le_mul_right _ h2
    refine Own.sl_mk (by omega) (by omega) (by rw [List.length_drop, h4, Nat.sub_mul]) (by rw [Nat.sub_mul]; omega) (fun i hi => ?_) ho
    rw [List.length_drop] at hi
    rw [List.getElem?_drop, Nat.add_assoc]
    exact h6 (k * size + i) (by omega)
theorem Own.slAt_ne {w0 w : World} {p b : Nat} {o : Obj} {ty : TypeId} {size off n cap : Nat} {xs : List Value} {R : HProp} (h : Own w0 (blk p o * (SlAt ty size b off n cap xs * R)) w) : p ≠ b := by
  have h1 : Own w0 (SlAt ty size b off n cap xs * (blk p o * R)) w := h.perm (star_left_comm _ _ _)
  have h2 : Own w0 (hex (fun cs : Array Value => blk b (.cells cs ty (0, 0))) * (blk p o * R)) w := h1.cons fun hp hh => by
    obtain ⟨cs, hc⟩ := hh
    exact ⟨cs, hc.2.2.2.2.2⟩
  obtain ⟨cs, h3⟩ := h2.ex
  exact (h3.perm (star_left_comm _ _ _)).ne
section
variable {P : Program}
theorem wpList_slice {w : World} {ops : Array Oper} {rest : List Oper} {o : Oper} {a : Act} {Q : Exit → Act → World → Prop} (v : Value)
    (hg : o.guard = none) (t : TypeId) (x : Operand) (lo hi mx : Option Operand) (hop : o.op = Op.slice t x lo hi mx)
    (hrun : (Instr.sliceAt t (a.eval x) (lo.map a.eval) (hi.map a.eval) (mx.map a.eval)).run P w = .ok v w)
    (hK : wpList P ops Q rest (a.put o.dst v) w) : wpList P ops Q (o :: rest) a w := by
  refine wpList_plain hg fun K' hK' => ?_
  unfold Oper.wp
  simp [execOp, hop, hrun, Result.andThen]
  exact hK' _ _ hK
theorem step_slice {w : World} {ops : Array Oper} {o : Oper} {a : Act} {K : Act → World → Prop} {Q : Exit → Act → World → Prop} {E : Prop} (v : Value)
    (hg : o.guard = none) (t : TypeId) (x : Operand) (lo hi mx : Option Operand) (hop : o.op = Op.slice t x lo hi mx)
    (hrun : (Instr.sliceAt t (a.eval x) (lo.map a.eval) (hi.map a.eval) (mx.map a.eval)).run P w = .ok v w)
    (hK : K (a.put o.dst v) w) : if Region.wanted o (yielded ops a.tmps) = true then Oper.wp P o a w K Q else E := by
  have hw : Region.wanted o (yielded ops a.tmps) = true := by simp [Region.wanted, hg]
  rw [if_pos hw]
  unfold Oper.wp
  simp [execOp, hop, hrun, Result.andThen]
  exact hK
theorem wpList_min {w : World} {ops : Array Oper} {rest : List Oper} {o : Oper} {a : Act} {Q : Exit → Act → World → Prop} (m n : Int)
    (hg : o.guard = none) (x y : Operand) (t u : TypeId) (hop : o.op = Op.call { callee := Callee.builtin Builtin.min, args := #[x, y], argTypes := #[t, u] })
    (hx : a.eval x = .int .i64 m) (hy : a.eval y = .int .i64 n)
    (hK : wpList P ops Q rest (a.put o.dst (.int .i64 (min m n))) w) : wpList P ops Q (o :: rest) a w := by
  refine wpList_plain hg fun K' hK' => ?_
  have hrun : (Builtin.min_ #[t, u] o.type #[.int .i64 m, .int .i64 n]).run P w = .ok (.int .i64 (min m n)) w := by
    simp [Builtin.min_, Builtin.min2]
    split <;> omega
  unfold Oper.wp
  simp [execOp, hop, hx, hy, resolve, invoke, builtin, hrun, Result.andThen]
  exact hK' _ _ hK
end
/-- What a slice of ints is, cut at n. -/
def cutA (ad : Option Addr) (cp n : Nat) : Option Addr := if cp = n then ad else ad.map (·.add n)
def cutV (ad : Option Addr) (len cp n : Nat) : Value := .slice (cutA ad cp n) (len - n) (cp - n)
theorem cut_front {P : Program} {t e : TypeId} (ht : P.underlying t = some (.slice e)) (hs : ∀ w, (sizeOf e).run P w = .ok 1 w) {ad : Option Addr} {len cp n : Nat} (h1 : n ≤ len) (h2 : len ≤ cp) (w : World) :
    (Instr.sliceAt t (.slice ad len cp) (some (.int .i64 n)) none none).run P w = .ok (cutV ad len cp n) w := by
  simp [Instr.sliceAt, Instr.slice, Instr.sliceBounds, Instr.sliceBound, asIntOf, run_underlying ht, hs, h1, cutV, cutA, Result.andThen]
theorem cut_back {P : Program} {t e : TypeId} (ht : P.underlying t = some (.slice e)) (hs : ∀ w, (sizeOf e).run P w = .ok 1 w) {ad : Option Addr} {len cp n : Nat} (h1 : n ≤ len) (h2 : len ≤ cp) (w : World) :
    (Instr.sliceAt t (.slice ad len cp) none (some (.int .i64 n)) none).run P w = .ok (.slice ad n cp) w := by
  have h3 : n ≤ cp := by omega
  simp [Instr.sliceAt, Instr.slice, Instr.sliceBounds, Instr.sliceBound, asIntOf, run_underlying ht, hs, h3, Result.andThen]
  intro _
  cases ad <;> simp [Addr.add]
theorem Own.sl_cut {w0 w : World} {ty : TypeId} {len cp n : Nat} {ad : Option Addr} {xs : List Value} {R : HProp} (hk : n ≤ len) (h : Own w0 (Sl ty 1 (.slice ad len cp) len xs * R) w) :
    Own w0 (Sl ty 1 (cutV ad len cp n) (len - n) (xs.drop n) * R) w := by
  rcases h.sl_cases with ⟨h1, h2, h3, ho⟩ | ⟨b', off', cap', cs, h1, h2, h3, h4, h5, h6, ho⟩
  · injection h1 with e1 e2 e3
    subst e1; subst e2; subst e3; subst h3
    have : n = 0 := by omega
    subst this
    simpa [cutV, cutA] using ho.sl_nil ty 1
  · injection h1 with e1 e2 e3
    subst e1; subst e3
    unfold cutV cutA
    by_cases hc : cp = n
    · have hl : len = n := by omega
      subst hl
      rw [if_pos hc]
      have hx : xs.drop len = [] := List.drop_eq_nil_of_le (by omega)
      rw [hx]
      refine Own.sl_mk (by omega) (by omega) (by simp) ?_ (fun i hi => by simp at hi) ho
      omega
    · rw [if_neg hc]
      have := h.sl_drop hk
      rw [Nat.mul_one] at this
      rw [Option.map_some, Addr.add_lit]
      exact this
end Go.Proofs.Ytddbjcpfgjcmnaa
