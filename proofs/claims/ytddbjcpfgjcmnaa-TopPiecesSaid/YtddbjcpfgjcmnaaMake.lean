/- make of a slice of a variable length, for own rows; a table of own rows of bools. -/
import Derived.Test.YtddbjcpfgjcmnaaTab
import Derived.Test.YtddbjcpfgjcmnaaVec2
import Derived.OwnWalk
namespace Go.Proofs.Ytddbjcpfgjcmnaa
set_option linter.unusedVariables false
set_option linter.unusedSimpArgs false
open Go.RowKit
theorem wpList_mk {P : Program} {w0 w : World} {R : HProp} {ops : Array Oper} {rest : List Oper} {o : Oper} {a : Act} {Q : Exit → Act → World → Prop}
    (hg : o.guard = none) (l c : Operand) (t : TypeId) (hop : o.op = Op.makeSlice t l c) (e : TypeId) (bytes : Nat) (z : Value) (ht : P.underlying t = some (.slice e)) (hinf : (P.info? e).map (fun i => (i.zero, i.size, i.bytes)) = some (some z, 1, bytes)) (hzs : z.cells = #[z])
    (n : Nat) (hl : a.eval l = .int .i64 (n : Int)) (hc : a.eval c = .int .i64 (n : Int)) (hn : n ≤ 100000) (hb : bytes ≤ 100) (h : Own w0 R w)
    (hK : ∀ b w', Own w0 (SlAt e 1 b 0 n n (List.replicate n z) * R) w' → wpList P ops Q rest (a.put o.dst (.slice (some ⟨b, 0, none⟩) n n)) w') :
    wpList P ops Q (o :: rest) a w := by
  obtain ⟨i, hi, hz, hsize, hby⟩ := info_parts hinf
  have hb2 : i.bytes * n ≤ 281474976710656 := by
    rw [hby]
    exact Nat.le_trans (Nat.mul_le_mul hb hn) (by decide)
  have hm : n ≤ maxLen := by unfold maxLen; omega
  refine wpList_plain hg fun K hK' => ?_
  obtain ⟨w', hrun, r1, r2⟩ := run_make_full (P := P) w w.heap.size t e i z 1 ht hi hz hsize .i64 .i64 n hb2 hm (Nat.le_refl _)
  unfold Oper.wp
  simp [execOp, hop, hl, hc, hrun, Result.andThen]
  refine hK' _ _ (hK _ w' ?_)
  obtain ⟨hxl, h1 | ⟨g, cap, cur, hv, hbg, hh, h3, h4, h5, h6⟩⟩ := r1
  · simp at h1
  · injection hv with e1 e2 e3
    injection e1 with e1
    injection e1 with e1 _ _
    subst e1
    subst e3
    have hx : (madeCells z.cells (n * 1)).toList = List.replicate n z := by
      rw [hzs]
      apply List.ext_getElem
      · simp [madeCells]
      · intro j h1 h2
        simp [madeCells, Nat.mod_one]
    rw [hx] at h6
    have ho := h.new (o := .cells cur e (0, 0)) r2.os r2.tape r2.output r2.size (fun k hk => r2.block k hk (by simp)) hh
    refine ho.cons fun x hx => ⟨cur, Nat.le_refl _, hm, by simp, by rw [h5]; omega, fun j hj => ?_, hx⟩
    rw [← h6, List.getElem?_take, if_pos (by simpa using hj)]
    simp
theorem bool_info : (Try.prog.info? 4).map (fun i => (i.zero, i.size, i.bytes)) = some (some (.bool false), 1, 1) := by kernel_rfl
/-- An owned slice of bools. -/
def BoolSl (v : Value) (l : List Bool) : HProp := Sl 4 1 v l.length (l.map Value.bool)
def BRow (r : Value × List Bool) : HProp := BoolSl r.1 r.2
def BTab (rb n : Nat) (rs : List (Value × List Bool)) : HProp := TabO BRow (·.1) 59 rb 0 n rs
theorem Own.bt_slot {w0 w : World} {rb n k : Nat} {rs : List (Value × List Bool)} {R : HProp} (h : Own w0 (BTab rb n rs * R) w) (hk : k < rs.length) : w.cell? ⟨rb, k, none⟩ = some rs[k].1 := by
  have := (Own.tab_facts h).1 k rs[k] (List.getElem?_eq_getElem hk)
  simpa using this
theorem Own.bt_row {w0 w : World} {rb n k : Nat} {rs : List (Value × List Bool)} {R : HProp} (h : Own w0 (BTab rb n rs * R) w) (hk : k < rs.length) (hp : 0 < rs[k].2.length) :
    ∃ b o cap, rs[k].1 = .slice (some ⟨b, o, none⟩) rs[k].2.length cap ∧ rs[k].2.length ≤ cap ∧ cap ≤ 9223372036854775807 ∧ (∀ i s, w.frozen? ⟨b, i, s⟩ = false) ∧ (∀ j (hj : j < rs[k].2.length), w.cell? ⟨b, o + j, none⟩ = some (.bool rs[k].2[j])) ∧
      ∀ j x, j < rs[k].2.length → Own w0 (BTab rb n (rs.set k (rs[k].1, rs[k].2.set j x)) * R) (w.setCell ⟨b, o + j, none⟩ (.bool x)) := by
  have h1 := Own.tab_take h hk
  obtain ⟨b, o, cap, e1, h2⟩ := Own.slAt h1 (by simpa using hp)
  have f := h2.slAt_facts
  refine ⟨b, o, cap, e1, f.1, f.2.1, fun i s => f.2.2.2.2.1 i s, fun j hj => f.2.2.2.1 j _ (by simp [hj]), fun j x hj => ?_⟩
  have h3 := h2.slAt_set j (.bool x) (by simpa using hj)
  have h4 := h3.sl_of_at
  have h5 : Own w0 (BRow (rs[k].1, rs[k].2.set j x) * (SlAt 59 1 rb 0 rs.length n (rs.map (·.1)) * (starL BRow (rs.eraseIdx k) * R))) (w.setCell ⟨b, o + j, none⟩ (.bool x)) := by
    refine h4.perm ?_
    congr 1
    unfold BRow BoolSl
    simp only [List.map_set, List.length_set]
    rw [← e1]
  unfold BTab TabO
  refine h5.perm ?_
  rw [starL_set BRow rs k hk]
  have : (rs.set k (rs[k].1, rs[k].2.set j x)).map (·.1) = rs.map (·.1) := by
    apply List.ext_getElem
    · simp
    · intro m h1 h2
      simp only [List.getElem_map, List.getElem_set]
      split
      · rename_i hm; subst hm; rfl
      · rfl
  rw [this, List.length_set]
  ac_rfl
end Go.Proofs.Ytddbjcpfgjcmnaa
