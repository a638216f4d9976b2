/- The reference's Fifo: it takes a word as the program's fifo does. -/
import Derived.Test.YteelldblfmhjlaaDoorFifo
import Derived.Test.YteelldblfmhjlaaDoorTold
namespace Go.Proofs.YteelldblfmhjlaaDoor
set_option linter.unusedVariables false
set_option linter.unusedSimpArgs false
open Go.RowKit
theorem info_came : (Tryd.prog.info? 72).map (fun i => (i.zero, i.size, i.bytes)) = some (some (.agg #[.int .i64 0, .int .i64 0, .int .i64 0]), 3, 24) := by kernel_rfl
theorem came_size : ∀ w, (sizeOf 72).run Tryd.prog w = .ok 3 w := fun _ => by kernel_rfl
def cmCells (x : (Int × Int) × Int) : List Value := [.int .i64 x.1.1, .int .i64 x.1.2, .int .i64 x.2]
def CmSl (v : Value) (m : List ((Int × Int) × Int)) : HProp := Sl 72 3 v m.length (m.flatMap cmCells)
theorem cm_len (l : List ((Int × Int) × Int)) : (l.flatMap cmCells).length = l.length * 3 := cells_len cmCells 3 (fun _ => rfl) l
theorem cm_one (l : List ((Int × Int) × Int)) : ∀ u ∈ l.flatMap cmCells, u.oneCell' = true := by
  intro u hu
  obtain ⟨p, _, hp⟩ := List.mem_flatMap.1 hu
  simp [cmCells] at hp
  rcases hp with rfl | rfl | rfl <;> rfl
def rfCells (f : Fi) (v : Value) : List Value := (f.next.map fun x => .int .i64 (x - 1)) ++ [v]
def RfO (p : Nat) (v : Value) (f : Fi) : HProp := blk p (.cells (rfCells f v).toArray 54 (0, 0)) * CmSl v f.waits
def RfP (p : Nat) (f : Fi) : HProp := hex fun v => RfO p v f
theorem Own.rf_open {w0 w : World} {p : Nat} {f : Fi} {R : HProp} (h : Own w0 (RfP p f * R) w) : ∃ v, Own w0 (RfO p v f * R) w := Own.ex h
theorem Own.rf_close {w0 w : World} {p : Nat} {v : Value} {f : Fi} {R : HProp} (h : Own w0 (RfO p v f * R) w) : Own w0 (RfP p f * R) w := Own.ex_mk v h
theorem Own.rf_blk {w0 w : World} {p : Nat} {v : Value} {f : Fi} {R : HProp} (h : Own w0 (RfO p v f * R) w) : Own w0 (blk p (.cells (rfCells f v).toArray 54 (0, 0)) * (CmSl v f.waits * R)) w := h.perm (by unfold RfO; ac_rfl)
theorem Own.rf_sl {w0 w : World} {p : Nat} {v : Value} {f : Fi} {R : HProp} (h : Own w0 (RfO p v f * R) w) : Own w0 (CmSl v f.waits * (blk p (.cells (rfCells f v).toArray 54 (0, 0)) * R)) w := h.perm (by unfold RfO; ac_rfl)
theorem Own.rf_facts {w0 w : World} {p : Nat} {v : Value} {f : Fi} {R : HProp} (h5 : f.next.length = 5) (h : Own w0 (RfO p v f * R) w) :
    (∀ k, k < 5 → w.cell? ⟨p, k, none⟩ = some (.int .i64 (f.next.getD k 0 - 1))) ∧ w.cell? ⟨p, 5, none⟩ = some v ∧ (∀ i s, w.frozen? ⟨p, i, s⟩ = false) := by
  refine ⟨fun k hk => ?_, ?_, fun i s => h.rf_blk.free i s⟩
  · rw [h.rf_blk.cell]
    have hk' : k < f.next.length := by omega
    simp [rfCells, hk', List.getElem?_append]
  · rw [h.rf_blk.cell]
    simp [rfCells, h5, List.getElem?_append]
theorem Own.rf_shape {w0 w : World} {p : Nat} {v : Value} {f : Fi} {R : HProp} (h : Own w0 (RfO p v f * R) w) : ∃ ad cap, v = .slice ad f.waits.length cap ∧ f.waits.length ≤ cap ∧ cap ≤ 9223372036854775807 := by
  obtain ⟨ad, cap, e, h1, h2, _⟩ := Own.rd h.rf_sl
  exact ⟨ad, cap, e, h1, by simpa [maxLen] using h2⟩
theorem Own.rf_at {w0 w : World} {p : Nat} {v : Value} {f : Fi} {R : HProp} (h : Own w0 (RfO p v f * R) w) (hl : 0 < f.waits.length) :
    ∃ b off cap, v = .slice (some ⟨b, off, none⟩) f.waits.length cap ∧ f.waits.length ≤ cap ∧ ∀ k (hk : k < f.waits.length), w.cell? ⟨b, off + k * 3, none⟩ = some (.int .i64 f.waits[k].1.1) ∧ w.cell? ⟨b, off + k * 3 + 1, none⟩ = some (.int .i64 f.waits[k].1.2) ∧ w.cell? ⟨b, off + k * 3 + 2, none⟩ = some (.int .i64 f.waits[k].2) := by
  obtain ⟨b, off, cap, e, h1, h2, hc, _⟩ := Own.sl_at h.rf_sl (by rw [cm_len]; omega)
  refine ⟨b, off, cap, e, h1, fun k hk => ⟨?_, ?_, ?_⟩⟩
  · have := cells_get cmCells 3 (fun _ => rfl) f.waits k 0 hk (by omega)
    exact hc (k * 3) (.int .i64 f.waits[k].1.1) (by simpa [cmCells] using this)
  · have := cells_get cmCells 3 (fun _ => rfl) f.waits k 1 hk (by omega)
    have h3 := hc (k * 3 + 1) (.int .i64 f.waits[k].1.2) (by simpa [cmCells] using this)
    rw [Nat.add_assoc]; exact h3
  · have := cells_get cmCells 3 (fun _ => rfl) f.waits k 2 hk (by omega)
    have h3 := hc (k * 3 + 2) (.int .i64 f.waits[k].2) (by simpa [cmCells] using this)
    rw [Nat.add_assoc]; exact h3
theorem Own.rf_set {w0 w : World} {p k : Nat} {v : Value} {f : Fi} {R : HProp} (h5 : f.next.length = 5) (hk : k < 5) (x : Int) (h : Own w0 (RfO p v f * R) w) :
    Own w0 (RfO p v ⟨f.next.set k (x + 1), f.waits⟩ * R) (w.setCell ⟨p, k, none⟩ (.int .i64 x)) := by
  have h1 := h.rf_blk.setCell (i := k) (v := .int .i64 x)
  refine h1.perm ?_
  have e : (rfCells f v).toArray.setIfInBounds k (.int .i64 x) = (rfCells ⟨f.next.set k (x + 1), f.waits⟩ v).toArray := by
    have hk' : k < f.next.length := by omega
    simp [rfCells, List.set_append, hk', List.map_set]
  rw [e]; unfold RfO; ac_rfl
/-- A new list of what waits. -/
theorem Own.rf_put {w0 w : World} {p : Nat} {v v' : Value} {f : Fi} {m : List ((Int × Int) × Int)} {R : HProp} (h5 : f.next.length = 5) (h : Own w0 (CmSl v' m * (RfO p v f * R)) w) :
    Own w0 (RfO p v' ⟨f.next, m⟩ * R) (w.setCell ⟨p, 5, none⟩ v') := by
  have h0 : Own w0 (CmSl v f.waits * (blk p (.cells (rfCells f v).toArray 54 (0, 0)) * (CmSl v' m * R))) w := h.perm (by unfold RfO; ac_rfl)
  have h1 := h0.drop.setCell (i := 5) (v := v')
  refine h1.perm ?_
  have e : (rfCells f v).toArray.setIfInBounds 5 v' = (rfCells ⟨f.next, m⟩ v').toArray := by
    simp [rfCells, h5, List.set_append]
  rw [e]; unfold RfO; ac_rfl
/-- The same, where the new list stands in the place of the old one's slice. -/
theorem Own.rf_put' {w0 w : World} {p : Nat} {v v' : Value} {f : Fi} {m : List ((Int × Int) × Int)} {R : HProp} (h5 : f.next.length = 5) (h : Own w0 (CmSl v' m * (blk p (.cells (rfCells f v).toArray 54 (0, 0)) * R)) w) :
    Own w0 (RfO p v' ⟨f.next, m⟩ * R) (w.setCell ⟨p, 5, none⟩ v') := by
  have h1 := (h.perm (star_left_comm _ _ _)).setCell (i := 5) (v := v')
  refine h1.perm ?_
  have e : (rfCells f v).toArray.setIfInBounds 5 v' = (rfCells ⟨f.next, m⟩ v').toArray := by
    simp [rfCells, h5, List.set_append]
  rw [e]; unfold RfO; ac_rfl
theorem Own.rf_mid {w0 w : World} {p : Nat} {v : Value} {f : Fi} {Q R : HProp} (h5 : f.next.length = 5) (h : Own w0 (Q * (blk p (.cells (rfCells f v).toArray 54 (0, 0)) * R)) w) : w.cell? ⟨p, 5, none⟩ = some v ∧ w.frozen? ⟨p, 5, none⟩ = false := by
  have h1 := h.perm (star_left_comm _ _ _)
  refine ⟨?_, h1.free 5 none⟩
  rw [h1.cell]
  simp [rfCells, h5, List.getElem?_append]
theorem cm_snoc {w0 w : World} {R : HProp} {v : Value} {l : List ((Int × Int) × Int)} {x : (Int × Int) × Int} {cs : List Value} (hc : cs = cmCells x) (h : Own w0 (Sl 72 3 v (l.length + 1) (l.flatMap cmCells ++ cs) * R) w) : Own w0 (CmSl v (l ++ [x]) * R) w := by
  subst hc
  unfold CmSl
  simpa [List.flatMap_append] using h
theorem cm_join {w0 w : World} {R : HProp} {v : Value} {a b : List ((Int × Int) × Int)} {n m : Nat} (hn : n = a.length) (hm : m = b.length) (h : Own w0 (Sl 72 3 v (n + m) (a.flatMap cmCells ++ b.flatMap cmCells) * R) w) : Own w0 (CmSl v (a ++ b) * R) w := by
  subst hn hm
  unfold CmSl
  simpa [List.flatMap_append] using h
theorem sl_shape {w0 w : World} {ty : TypeId} {size : Nat} {v : Value} {n : Nat} {xs : List Value} {R : HProp} (h : Own w0 (Sl ty size v n xs * R) w) : ∃ ad L cp, v = .slice ad L cp := by
  obtain ⟨ad, cp, e, _⟩ := Own.rd h
  exact ⟨ad, n, cp, e⟩
theorem cm_first {w0 w : World} {R : HProp} {v : Value} {a : List ((Int × Int) × Int)} {n : Nat} (hn : a.length = n) (h : Own w0 (Sl 72 3 v (0 + n) ([] ++ a.flatMap cmCells) * R) w) : Own w0 (CmSl v a * R) w := by
  subst hn
  unfold CmSl
  simpa using h
/-! ## Slices of records, cut -/
def cutA3 (ad : Option Addr) (cp n : Nat) : Option Addr := if cp = n then ad else ad.map (·.add (n * 3))
theorem cut3_front {ad : Option Addr} {len cp n : Nat} (h1 : n ≤ len) (h2 : len ≤ cp) (w : World) :
    (Instr.sliceAt 52 (.slice ad len cp) (some (.int .i64 n)) none none).run Tryd.prog w = .ok (.slice (cutA3 ad cp n) (len - n) (cp - n)) w := by
  simp [Instr.sliceAt, Instr.slice, Instr.sliceBounds, Instr.sliceBound, asIntOf, run_underlying Tryd.underlying52, came_size, h1, cutA3, Result.andThen]
theorem cut3_back {ad : Option Addr} {len cp n : Nat} (h1 : n ≤ len) (h2 : len ≤ cp) (w : World) :
    (Instr.sliceAt 52 (.slice ad len cp) none (some (.int .i64 n)) none).run Tryd.prog w = .ok (.slice ad n cp) w := by
  have h3 : n ≤ cp := by omega
  simp [Instr.sliceAt, Instr.slice, Instr.sliceBounds, Instr.sliceBound, asIntOf, run_underlying Tryd.underlying52, came_size, h3, Result.andThen]
  intro _
  cases ad <;> simp [Addr.add]
theorem Rd.front3 {w : World} {ad : Option Addr} {len cp n : Nat} {m : List ((Int × Int) × Int)} (h : Rd w (.slice ad len cp) len (m.flatMap cmCells)) (hn : n ≤ len) : Rd w (.slice ad n cp) n ((m.take n).flatMap cmCells) := by
  obtain ⟨ad', cp', e, h1, h2, h3, h4⟩ := h
  injection e with e1 e2 e3
  subst e1; subst e3
  refine ⟨ad, cp, rfl, by omega, h2, h3, fun i u hi => h4 i u ?_⟩
  obtain ⟨r, hr⟩ : ∃ r, m.flatMap cmCells = (m.take n).flatMap cmCells ++ r := ⟨(m.drop n).flatMap cmCells, by rw [← List.flatMap_append, List.take_append_drop]⟩
  have hlt : i < ((m.take n).flatMap cmCells).length := by
    rcases Nat.lt_or_ge i ((m.take n).flatMap cmCells).length with h | h
    · exact h
    · rw [List.getElem?_eq_none h] at hi; cases hi
  rw [hr, List.getElem?_append_left hlt]; exact hi
theorem flatMap_drop3 (m : List ((Int × Int) × Int)) (n : Nat) (hn : n ≤ m.length) : (m.drop n).flatMap cmCells = (m.flatMap cmCells).drop (n * 3) := by
  have h1 : m.flatMap cmCells = (m.take n).flatMap cmCells ++ (m.drop n).flatMap cmCells := by rw [← List.flatMap_append, List.take_append_drop]
  have h2 : ((m.take n).flatMap cmCells).length = n * 3 := by rw [cm_len, List.length_take, Nat.min_eq_left hn]
  conv => rhs; rw [h1]
  rw [List.drop_append_of_le_length (by omega), show ((m.take n).flatMap cmCells).drop (n * 3) = [] from List.drop_of_length_le (by omega), List.nil_append]
theorem Rd.back3 {w : World} {b off len cp n : Nat} {m : List ((Int × Int) × Int)} (hm : m.length = len) (h : Rd w (.slice (some ⟨b, off, none⟩) len cp) len (m.flatMap cmCells)) (hn : n ≤ len) :
    Rd w (.slice (cutA3 (some ⟨b, off, none⟩) cp n) (len - n) (cp - n)) (len - n) ((m.drop n).flatMap cmCells) := by
  obtain ⟨ad', cp', e, h1, h2, h3, h4⟩ := h
  injection e with e1 e2 e3
  subst e1; subst e3
  refine ⟨_, _, rfl, by omega, by omega, fun hc => ?_, fun i u hi => ?_⟩
  · unfold cutA3 at hc; split at hc <;> cases hc
  · rw [flatMap_drop3 m n (by omega), List.getElem?_drop] at hi
    obtain ⟨a, ha, hc⟩ := h4 _ _ hi
    cases ha
    by_cases hcn : cp = n
    · have : (m.flatMap cmCells).length ≤ n * 3 + i := by rw [cm_len]; omega
      rw [List.getElem?_eq_none this] at hi; cases hi
    · refine ⟨⟨b, off + n * 3, none⟩, by unfold cutA3; rw [if_neg hcn]; simp [Addr.add_lit], ?_⟩
      rw [Addr.add_lit] at hc ⊢
      rw [Nat.add_assoc]; exact hc
/-! ## The one that is deleted -/
theorem mdel_idx : ∀ (m : List ((Int × Int) × Int)) (x : Int × Int) (i : Nat) (hi : i < m.length), (∀ j (_ : j < i) (hj : j < m.length), m[j].1 ≠ x) → m[i].1 = x → mdel m x = m.take i ++ m.drop (i + 1) ∧ mget m x = some m[i].2
  | [], _, i, hi, _, _ => by simp at hi
  | p :: r, x, 0, _, _, h => by
    simp only [List.getElem_cons_zero] at h
    simp [mdel, mget, h]
  | p :: r, x, i + 1, hi, hj, h => by
    have h0 : p.1 ≠ x := by have := hj 0 (by omega) (by simp); simpa using this
    have ih := mdel_idx r x i (by simpa using hi) (fun j h1 h2 => by have := hj (j + 1) (by omega) (by simpa using h2); simpa using this) (by simpa using h)
    simp [mdel, mget, h0, ih.1, ih.2]
theorem mget_none_at {m : List ((Int × Int) × Int)} {x : Int × Int} (h : ∀ j (hj : j < m.length), m[j].1 ≠ x) : mget m x = none := by
  refine mget_none.2 fun p hp => ?_
  obtain ⟨j, hj, rfl⟩ := List.mem_iff_getElem.1 hp
  exact h j hj
/-- What is left to do: the drain, begun at what was heard. -/
def RfInv (f : Fi) (k : Nat) (n word : Int) (out : List Int) (hx : Int) (m : List ((Int × Int) × Int)) : Prop :=
  (∀ q ∈ m, q.1.2 ≤ 1000000) ∧ fiEnd f k n word = (out ++ (fiDrain k m.length (hx + 1) m).1, (fiDrain k m.length (hx + 1) m).2.1, (fiDrain k m.length (hx + 1) m).2.2)
theorem RfInv.done {f : Fi} {k : Nat} {n word : Int} {out : List Int} {hx : Int} {m : List ((Int × Int) × Int)} (h : RfInv f k n word out hx m) (h2 : mget m ((k : Int), hx + 1) = none) : fiEnd f k n word = (out, hx + 1, m) := by
  have e : fiDrain k m.length (hx + 1) m = ([], hx + 1, m) := by
    cases m.length with
    | zero => rfl
    | succ j => unfold fiDrain; rw [h2]
  rw [h.2, e, List.append_nil]
theorem RfInv.step {f : Fi} {k : Nat} {n word : Int} {out : List Int} {hx x : Int} {m : List ((Int × Int) × Int)} (h : RfInv f k n word out hx m) (h2 : mget m ((k : Int), hx + 1) = some x) :
    RfInv f k n word (out ++ [x]) (hx + 1) (mdel m ((k : Int), hx + 1)) ∧ hx + 1 ≤ 1000000 ∧ (mdel m ((k : Int), hx + 1)).length + 1 = m.length := by
  have hl : (mdel m ((k : Int), hx + 1)).length + 1 = m.length := mdel_len h2
  refine ⟨⟨fun q hq => h.1 q (mem_mdel hq), ?_⟩, h.1 _ (mget_mem h2), hl⟩
  have e : fiDrain k m.length (hx + 1) m = (x :: (fiDrain k (mdel m ((k : Int), hx + 1)).length (hx + 1 + 1) (mdel m ((k : Int), hx + 1))).1, (fiDrain k (mdel m ((k : Int), hx + 1)).length (hx + 1 + 1) (mdel m ((k : Int), hx + 1))).2.1, (fiDrain k (mdel m ((k : Int), hx + 1)).length (hx + 1 + 1) (mdel m ((k : Int), hx + 1))).2.2) := by
    rw [← hl, fiDrain, h2]
  rw [h.2, e]
  simp
end Go.Proofs.YteelldblfmhjlaaDoor
