/- The reference's token passes on as the program's token does. -/
import Derived.Test.YteelldblfmhjlaaDoorToken3
import Derived.Test.YteelldblfmhjlaaDoorPlan2
namespace Go.Proofs.YteelldblfmhjlaaDoor
set_option linter.unusedVariables false
set_option linter.unusedSimpArgs false
open Go.RowKit
def rtSaid (said : List Int) : List Value := (List.range 31).map fun w : Nat => Value.bool (decide ((w : Int) ∈ said))
def rtHead (t : Tok) : List Value := [.int .i64 t.waits.length, .int .i64 t.most, .int .i64 t.holder, .int .i64 t.placed]
theorem rtHead_len (t : Tok) : (rtHead t).length = 4 := rfl
def rtCells (t : Tok) (rs : List (Value × List Int)) : List Value := rtHead t ++ (rs.map (·.1) ++ rtSaid t.said)
def RtO (q : Nat) (t : Tok) (rs : List (Value × List Int)) : HProp := blk q (.cells (rtCells t rs).toArray 79 (0, 0)) * starL rowP rs
def rtRows (t : Tok) : List (List Int) := t.waits ++ List.replicate (5 - t.waits.length) []
def RtP (q : Nat) (t : Tok) : HProp := hex fun rs => pur (rs.map (·.2) = rtRows t) * RtO q t rs
theorem Own.rt_open {w0 w : World} {q : Nat} {t : Tok} {R : HProp} (h : Own w0 (RtP q t * R) w) : ∃ rs, rs.map (·.2) = rtRows t ∧ Own w0 (RtO q t rs * R) w := by
  obtain ⟨rs, h⟩ := Own.ex h
  rw [star_assoc] at h
  obtain ⟨he, h⟩ := Own.pur_out h
  exact ⟨rs, he, h⟩
theorem Own.rt_close {w0 w : World} {q : Nat} {t : Tok} {rs : List (Value × List Int)} {R : HProp} (he : rs.map (·.2) = rtRows t) (h : Own w0 (RtO q t rs * R) w) : Own w0 (RtP q t * R) w := by
  refine Own.ex_mk rs ?_
  rw [star_assoc]
  exact Own.pur_mk he h
theorem rt_len {t : Tok} {rs : List (Value × List Int)} (h5 : t.waits.length ≤ 5) (he : rs.map (·.2) = rtRows t) : rs.length = 5 := by
  have := congrArg List.length he
  simp [rtRows] at this
  omega
theorem Own.rt_blk {w0 w : World} {q : Nat} {t : Tok} {rs : List (Value × List Int)} {R : HProp} (h : Own w0 (RtO q t rs * R) w) : Own w0 (blk q (.cells (rtCells t rs).toArray 79 (0, 0)) * (starL rowP rs * R)) w := h.perm (by unfold RtO; ac_rfl)
theorem rt_cells {w0 w : World} {q : Nat} {t : Tok} {rs : List (Value × List Int)} {R : HProp} (h5 : rs.length = 5) (h : Own w0 (blk q (.cells (rtCells t rs).toArray 79 (0, 0)) * R) w) :
    w.cell? ⟨q, 0, none⟩ = some (.int .i64 t.waits.length) ∧ w.cell? ⟨q, 1, none⟩ = some (.int .i64 t.most) ∧ w.cell? ⟨q, 2, none⟩ = some (.int .i64 t.holder) ∧ w.cell? ⟨q, 3, none⟩ = some (.int .i64 t.placed) ∧
    (∀ (k : Nat) (hk : k < rs.length), w.cell? ⟨q, 4 + k, none⟩ = some rs[k].1) ∧ (∀ k : Nat, k < 31 → w.cell? ⟨q, 9 + k, none⟩ = some (.bool (decide ((k : Int) ∈ t.said)))) ∧ (∀ i s, w.frozen? ⟨q, i, s⟩ = false) := by
  refine ⟨by rw [h.cell]; rfl, by rw [h.cell]; rfl, by rw [h.cell]; rfl, by rw [h.cell]; rfl, fun k hk => ?_, fun k hk => ?_, fun i s => h.free i s⟩
  · rw [h.cell]
    simp [rtCells, rtHead_len, hk, List.getElem?_append, show ¬ 4 + k < 4 from by omega]
  · rw [h.cell]
    simp [rtCells, rtHead_len, rtSaid, h5, hk, List.getElem?_append, show ¬ 9 + k < 4 from by omega, show ¬ 9 + k - 4 < 5 from by omega, show 9 + k - 4 - 5 = k from by omega]
theorem Own.rt_facts {w0 w : World} {q : Nat} {t : Tok} {rs : List (Value × List Int)} {R : HProp} (h5 : rs.length = 5) (h : Own w0 (RtO q t rs * R) w) :
    w.cell? ⟨q, 0, none⟩ = some (.int .i64 t.waits.length) ∧ w.cell? ⟨q, 1, none⟩ = some (.int .i64 t.most) ∧ w.cell? ⟨q, 2, none⟩ = some (.int .i64 t.holder) ∧ w.cell? ⟨q, 3, none⟩ = some (.int .i64 t.placed) ∧
    (∀ (k : Nat) (hk : k < rs.length), w.cell? ⟨q, 4 + k, none⟩ = some rs[k].1) ∧ (∀ k : Nat, k < 31 → w.cell? ⟨q, 9 + k, none⟩ = some (.bool (decide ((k : Int) ∈ t.said)))) ∧ (∀ i s, w.frozen? ⟨q, i, s⟩ = false) := rt_cells h5 h.rt_blk
theorem Own.rt_setplaced {w0 w : World} {q : Nat} {t : Tok} {rs : List (Value × List Int)} {R : HProp} (m : Nat) (h : Own w0 (RtO q t rs * R) w) : Own w0 (RtO q { t with placed := m } rs * R) (w.setCell ⟨q, 3, none⟩ (.int .i64 m)) := by
  refine (h.rt_blk.setCell (i := 3) (v := .int .i64 m)).perm ?_
  have e : (rtCells t rs).toArray.setIfInBounds 3 (.int .i64 m) = (rtCells { t with placed := m } rs).toArray := by simp [rtCells, rtHead]
  rw [e]; unfold RtO; ac_rfl
theorem Own.rt_setholder {w0 w : World} {q : Nat} {t : Tok} {rs : List (Value × List Int)} {R : HProp} (m : Nat) (h : Own w0 (RtO q t rs * R) w) : Own w0 (RtO q { t with holder := m } rs * R) (w.setCell ⟨q, 2, none⟩ (.int .i64 m)) := by
  refine (h.rt_blk.setCell (i := 2) (v := .int .i64 m)).perm ?_
  have e : (rtCells t rs).toArray.setIfInBounds 2 (.int .i64 m) = (rtCells { t with holder := m } rs).toArray := by simp [rtCells, rtHead]
  rw [e]; unfold RtO; ac_rfl
theorem Own.rt_setsaid {w0 w : World} {q k : Nat} {t : Tok} {rs : List (Value × List Int)} {R : HProp} (h5 : rs.length = 5) (hk : k < 31) (h : Own w0 (RtO q t rs * R) w) : Own w0 (RtO q { t with said := t.said ++ [(k : Int)] } rs * R) (w.setCell ⟨q, 9 + k, none⟩ (.bool true)) := by
  refine (h.rt_blk.setCell (i := 9 + k) (v := .bool true)).perm ?_
  have e : (rtCells t rs).toArray.setIfInBounds (9 + k) (.bool true) = (rtCells { t with said := t.said ++ [(k : Int)] } rs).toArray := by
    simp only [rtCells, List.setIfInBounds_toArray]
    congr 1
    rw [List.set_append, if_neg (by rw [rtHead_len]; omega), List.set_append, if_neg (by rw [rtHead_len, List.length_map, h5]; omega)]
    show _ = rtHead t ++ (rs.map (·.1) ++ rtSaid (t.said ++ [(k : Int)]))
    congr 2
    unfold rtSaid
    apply List.ext_getElem?
    intro i
    rw [List.getElem?_set]
    have hi : 9 + k - (rtHead t).length - (rs.map (·.1)).length = k := by simp [h5, rtHead_len]; omega
    rw [hi]
    by_cases h1 : k = i
    · subst h1; simp [hk]
    · rw [if_neg h1]
      simp only [List.getElem?_map]
      cases hr : (List.range 31)[i]? with
      | none => rfl
      | some j =>
        have hj : j = i := by
          rw [List.getElem?_eq_some_iff] at hr
          obtain ⟨_, hr⟩ := hr
          simpa using hr.symm
        subst hj
        have : ¬ (j : Int) = k := by omega
        simp [this]
  rw [e]; unfold RtO; ac_rfl
/-- Row k out; and a row k in. -/
theorem Own.rt_row {w0 w : World} {q : Nat} {t : Tok} {rs : List (Value × List Int)} {R : HProp} (h : Own w0 (RtO q t rs * R) w) {k : Nat} (hk : k < rs.length) :
    Own w0 (IntSl rs[k].1 rs[k].2 * (blk q (.cells (rtCells t rs).toArray 79 (0, 0)) * (starL rowP (rs.eraseIdx k) * R))) w :=
  h.perm (by unfold RtO; rw [starL_split rowP rs k hk]; unfold rowP; ac_rfl)
theorem Own.rt_putrow {w0 w : World} {q : Nat} {t : Tok} {rs : List (Value × List Int)} {R : HProp} {k : Nat} (hk : k < rs.length) (h5 : rs.length = 5) {v : Value} {l : List Int} (hkt : k < t.waits.length) (he : rs.map (·.2) = rtRows t)
    (h : Own w0 (IntSl v l * (blk q (.cells (rtCells t rs).toArray 79 (0, 0)) * (starL rowP (rs.eraseIdx k) * R))) w) :
    Own w0 (RtP q { t with waits := t.waits.set k l } * R) (w.setCell ⟨q, 4 + k, none⟩ v) := by
  have h1 := (h.perm (star_left_comm _ _ _)).setCell (i := 4 + k) (v := v)
  have e : (rtCells t rs).toArray.setIfInBounds (4 + k) v = (rtCells { t with waits := t.waits.set k l } (rs.set k (v, l))).toArray := by
    simp only [rtCells, List.setIfInBounds_toArray]
    congr 1
    rw [List.set_append, if_neg (by rw [rtHead_len]; omega), List.set_append, if_pos (by rw [rtHead_len, List.length_map]; omega)]
    simp [List.map_set, rtHead]
  rw [e] at h1
  refine Own.rt_close (rs := rs.set k (v, l)) ?_ (h1.perm ?_)
  · unfold rtRows
    rw [List.map_set, he]
    simp only [List.length_set]
    unfold rtRows
    rw [List.set_append_left _ _ hkt]
  · unfold RtO
    rw [starL_set rowP rs k hk]
    unfold rowP
    ac_rfl
theorem rt_rowof {t : Tok} {rs : List (Value × List Int)} (he : rs.map (·.2) = rtRows t) {k : Nat} (hk : k < rs.length) (hkt : k < t.waits.length) : rs[k].2 = t.waits.getD k [] := by
  have : (rs.map (·.2))[k]? = (rtRows t)[k]? := by rw [he]
  unfold rtRows at this
  rw [List.getElem?_append_left hkt] at this
  simp [hk, hkt] at this
  simp [this, hkt]
/-- A token that passed j words so far. -/
def tokMid (t : Tok) (j : Nat) : Tok := { t with waits := t.waits.set t.holder ((tokRow t).drop j), placed := t.placed + j }
theorem tokMid_zero (t : Tok) (h : t.holder < t.waits.length) : tokMid t 0 = t := by
  unfold tokMid tokRow
  have : t.waits.set t.holder (t.waits.getD t.holder []) = t.waits := by
    apply List.ext_getElem?
    intro i
    rw [List.getElem?_set]
    by_cases hi : t.holder = i
    · subst hi; simp [h]
    · rw [if_neg hi]
  rw [List.drop_zero, this, Nat.add_zero]
theorem tokMid_row (t : Tok) (j : Nat) (h : t.holder < t.waits.length) : (tokMid t j).waits.getD t.holder [] = (tokRow t).drop j := by
  unfold tokMid; simp [h]
theorem tokMid_len (t : Tok) (j : Nat) : (tokMid t j).waits.length = t.waits.length := by unfold tokMid; simp
theorem tokMid_succ (t : Tok) (j : Nat) : { tokMid t j with waits := (tokMid t j).waits.set t.holder ((tokRow t).drop (j + 1)), placed := t.placed + (j + 1) } = tokMid t (j + 1) := by
  unfold tokMid; simp
theorem tokMid_end (t : Tok) : { tokMid t (tokN t) with holder := (t.holder + 1) % t.waits.length } = tokPass t := by
  unfold tokMid tokPass; rfl
theorem rt_step {w0 w : World} {q k j : Nat} {t : Tok} {rs : List (Value × List Int)} {R : HProp} {v : Value} {a : Option Addr} {m cp : Nat} (hkt : k = t.holder) (hkw : k < t.waits.length) (hk : k < rs.length) (h5 : rs.length = 5) (he : rs.map (·.2) = rtRows (tokMid t j))
    (hs : rs[k].1 = .slice a m cp) (hm : m = rs[k].2.length) (hm1 : 1 ≤ m) (hj : j < (tokRow t).length)
    (h : Own w0 (Sl 93 2 v (((List.range j).map (passAt t)).length + 1) (((List.range j).map (passAt t)).flatMap plCells ++ [Value.int .i64 ((t.placed : Int) + j), Value.int .i64 ((tokRow t).getD j 0)]) * (RtO q (tokMid t j) rs * R)) w) :
    Own w0 (PlSl v ((List.range (j + 1)).map (passAt t)) * (RtP q (tokMid t (j + 1)) * R)) ((w.setCell ⟨q, 4 + k, none⟩ (.slice (cutA a cp 1) (m - 1) (cp - 1))).setCell ⟨q, 3, none⟩ (.int .i64 ((t.placed : Int) + j + 1))) := by
  have hrow : rs[k].2 = (tokRow t).drop j := by rw [rt_rowof he hk (by rw [tokMid_len]; exact hkw), hkt, tokMid_row t j (by omega)]
  have h1 := pl_snoc (x := passAt t j) (by simp [plCells, passAt]) h
  have h2 : Own w0 (RtO q (tokMid t j) rs * (PlSl v ((List.range j).map (passAt t) ++ [passAt t j]) * R)) w := h1.perm (by ac_rfl)
  have h3 := h2.rt_row hk
  unfold IntSl at h3
  rw [hs, ← hm] at h3
  have h4 := h3.sl_cut hm1
  have e2 : (List.map (Value.int .i64) rs[k].2).drop 1 = ((tokRow t).drop (j + 1)).map (Value.int .i64) := by rw [hrow, ← List.map_drop, List.drop_drop]
  have e3 : m - 1 = ((tokRow t).drop (j + 1)).length := by rw [hm, hrow]; simp; omega
  rw [e2, e3] at h4
  have h5' : Own w0 (IntSl (cutV a m cp 1) ((tokRow t).drop (j + 1)) * (blk q (.cells (rtCells (tokMid t j) rs).toArray 79 (0, 0)) * (starL rowP (rs.eraseIdx k) * (PlSl v ((List.range j).map (passAt t) ++ [passAt t j]) * R)))) w := h4
  have h6 := Own.rt_putrow hk h5 (by rw [tokMid_len]; exact hkw) he h5'
  obtain ⟨rs2, he2, h7⟩ := h6.rt_open
  have h8 := h7.rt_setplaced (t.placed + (j + 1))
  have e4 : ((t.placed + (j + 1) : Nat) : Int) = (t.placed : Int) + j + 1 := by omega
  rw [e4] at h8
  have h9 := Own.rt_close (t := tokMid t (j + 1)) (by rw [he2, ← tokMid_succ, ← hkt]; rfl) (by rw [← tokMid_succ, ← hkt]; exact h8)
  rw [passOut_succ]
  exact h9.perm (star_left_comm _ _ _)
theorem rt_end {w0 w : World} {q k j n : Nat} {t : Tok} {R : HProp} {v : Value} (hkt : k = t.holder) (hn : n = t.waits.length) (hj : j = tokN t) (hk : k + 1 < n)
    (h : Own w0 (PlSl v ((List.range j).map (passAt t)) * (RtP q (tokMid t j) * R)) w) : Own w0 (PlSl v (passOut t) * (RtP q (tokPass t) * R)) (w.setCell ⟨q, 2, none⟩ (.int .i64 ((k : Int) + 1))) := by
  subst hj
  obtain ⟨rs, he, ho⟩ := (h.perm (star_left_comm _ _ _)).rt_open
  have h1 := ho.rt_setholder (k + 1)
  have e : k + 1 = (t.holder + 1) % t.waits.length := by rw [← hkt, ← hn, Nat.mod_eq_of_lt hk]
  refine (Own.rt_close (t := tokPass t) he ?_).perm (star_left_comm _ _ _)
  rw [← tokMid_end, ← e]
  unfold passOut
  simpa using h1
theorem rt_end0 {w0 w : World} {q k j n : Nat} {t : Tok} {R : HProp} {v : Value} (hkt : k = t.holder) (hn : n = t.waits.length) (hj : j = tokN t) (hk : k + 1 = n)
    (h : Own w0 (PlSl v ((List.range j).map (passAt t)) * (RtP q (tokMid t j) * R)) w) : Own w0 (PlSl v (passOut t) * (RtP q (tokPass t) * R)) ((w.setCell ⟨q, 2, none⟩ (.int .i64 ((k : Int) + 1))).setCell ⟨q, 2, none⟩ (.int .i64 0)) := by
  subst hj
  obtain ⟨rs, he, ho⟩ := (h.perm (star_left_comm _ _ _)).rt_open
  have h1 := (ho.rt_setholder (k + 1)).rt_setholder 0
  have e : 0 = (t.holder + 1) % t.waits.length := by rw [← hkt, ← hn, hk, Nat.mod_self]
  refine (Own.rt_close (t := tokPass t) he ?_).perm (star_left_comm _ _ _)
  rw [← tokMid_end, ← e]
  unfold passOut
  simpa using h1
set_option maxRecDepth 100000 in
set_option maxHeartbeats 4000000 in
theorem refPass_any {w0 w : World} {R : HProp} (q : Nat) (t : Tok) (hfit : tokFit t) (h : Own w0 (RtP q t * R) w) :
    Calls Tryd.prog 41 #[.pointer (some ⟨q, 0, none⟩)] w fun e w' => ∃ v, e = .returned v ∧ Own w0 (PlSl v (passOut t) * (RtP q (tokPass t) * R)) w' := by
  obtain ⟨⟨f1, f2⟩, f3, ⟨f4, f5⟩, f6, f7⟩ := hfit
  obtain ⟨k, hkh⟩ : ∃ k, k = t.holder := ⟨_, rfl⟩
  obtain ⟨n, hn⟩ : ∃ n, n = t.waits.length := ⟨_, rfl⟩
  obtain ⟨M, hM⟩ : ∃ n, n = t.most := ⟨_, rfl⟩
  obtain ⟨B, hB⟩ : ∃ n, n = t.placed := ⟨_, rfl⟩
  obtain ⟨L, hL⟩ : ∃ n, n = (tokRow t).length := ⟨_, rfl⟩
  have hL2 : L ≤ 10000 := by
    rw [hL]; unfold tokRow
    have hm : t.waits.getD t.holder [] ∈ t.waits := by simp [f3]
    exact (f6 _ hm).1
  have H0 : Hid (Own w0 (RtP q (tokMid t 0) * R) w) := Lib.hid (by rw [tokMid_zero t f3]; exact h)
  have hMin : tokN t = min L M := by unfold tokN; rw [hL, hM]
  rw [← hkh, ← hn] at f3
  rw [← hn] at f1 f2
  rw [← hM] at f4 f5
  rw [← hB] at f7
  have F6 := Lib.hid f6; have HKH := Lib.hid hkh; have HN := Lib.hid hn; have HM := Lib.hid hM; have HB := Lib.hid hB; have HL := Lib.hid hL; have HMIN := Lib.hid hMin
  clear f6 hkh hn hM hB hL hMin
  clear h
  go_enter Tryd.func41, Tryd.ntmps41
  go_wp2_with fail
  go_loopw [3, 4] (fun v i wr => ∃ j : Nat, j ≤ M ∧ j ≤ L ∧ i = .int .i64 j ∧ Hid (Own w0 (PlSl v ((List.range j).map (passAt t)) * (RtP q (tokMid t j) * R)) wr)) (fun _ i _ => M - (intOf i).toNat)
  case atStart => exact ⟨0, Nat.zero_le _, Nat.zero_le _, rfl, Lib.hid (H0.out.sl_nil _ _)⟩
  case round =>
    obtain ⟨j, hjM, hjL, rfl, hp⟩ := hrel
    obtain ⟨rs, he, ho⟩ := (hp.out.perm (star_left_comm _ _ _)).rt_open
    have hlen5 := rt_len (by rw [tokMid_len, ← HN.out]; exact f2) he
    have hk : k < rs.length := by omega
    obtain ⟨c0, c1, c2, c3, c4, _, c6⟩ := ho.rt_facts hlen5
    have c4k := c4 k hk
    obtain ⟨a, cp, hsh, hle, hcp, had, hcell⟩ := Own.rd (ho.rt_row hk)
    have hrow : rs[k].2 = (tokRow t).drop j := by rw [rt_rowof he hk (by rw [tokMid_len, ← HN.out]; exact f3), HKH.out, tokMid_row t j (by rw [← HKH.out, ← HN.out]; exact f3)]
    obtain ⟨m, hm⟩ : ∃ m, m = rs[k].2.length := ⟨_, rfl⟩
    have hmL : m + j = L := by rw [hm, hrow, HL.out]; simp; rw [HL.out] at hjL; omega
    rw [hsh, ← hm] at c4k
    rw [← hm] at hsh hle
    have d0 : wr.cell? ⟨q, 0, none⟩ = some (.int .i64 n) := by rw [HN.out, ← tokMid_len t j]; exact c0
    have d1 : wr.cell? ⟨q, 1, none⟩ = some (.int .i64 M) := by rw [HM.out]; exact c1
    have d2 : wr.cell? ⟨q, 2, none⟩ = some (.int .i64 k) := by rw [HKH.out]; exact c2
    have d3 : wr.cell? ⟨q, 3, none⟩ = some (.int .i64 ((B : Int) + j)) := by rw [HB.out, c3]; simp [tokMid]
    have i0 : (0 : Int) ≤ (k : Int) := by omega
    have i5 : (k : Int) < 5 := by omega
    have i2 : ¬ (k : Int) < 0 := by omega
    have HO := Lib.hid ho
    have HC6 := Lib.hid c6
    have HAD := Lib.hid had; have HCELL := Lib.hid hcell; have HROW := Lib.hid hrow; have HE := Lib.hid he; have HLEN5 := Lib.hid hlen5; have HSH := Lib.hid hsh; have HM := Lib.hid hm
    clear had hcell hrow he hlen5 hsh hm
    clear ho c0 c1 c2 c3 c4 c6 H0
    have fin : ¬ (j < M ∧ 0 < m) → j = tokN t := fun h => by rw [HMIN.out]; omega
    have g1 : ∀ u, (wr.setCell ⟨q, 2, none⟩ u).cell? ⟨q, 0, none⟩ = some (.int .i64 n) := fun u => (World.cell?_setCell_other wr ⟨q, 2, none⟩ ⟨q, 0, none⟩ u (by intro e; injection e with e1 e2; omega)).trans d0
    have e2 := HC6.out 2 none
    have FIN := Lib.hid fin
    clear fin
    by_cases h12 : j < M ∧ 0 < m
    rotate_left
    · have hj := FIN.out h12
      have ex : (decide (j < M) = false) ∨ (decide (j < M) = true ∧ m = 0) := by
        by_cases h1 : j < M
        · exact .inr ⟨by simpa using h1, by omega⟩
        · exact .inl (by simpa using h1)
      have H12 := Lib.hid h12; have HJ := Lib.hid hj
      clear h12 hj
      rcases (show (((k : Int) + 1 == (n : Int)) = true ∧ k + 1 = n) ∨ (((k : Int) + 1 == (n : Int)) = false ∧ k + 1 < n) from by
        by_cases e : k + 1 = n
        · exact .inl ⟨by rw [beq_iff_eq]; omega, e⟩
        · exact .inr ⟨by rw [beq_eq_false_iff_ne]; omega, by omega⟩) with ⟨t9, hkn⟩ | ⟨t9, hkn⟩
      · rcases ex with t1 | ⟨t1, rfl⟩
        all_goals
          have HKN := Lib.hid hkn
          clear hkn
          go_wp2_with fail
          go_quiet (fail)
          go_wp2_with fail
          go_quiet (fail)
          go_wp2_with fail
          go_ret
          exact ⟨_, rfl, (rt_end0 HKH.out HN.out HJ.out HKN.out hp.out).same rfl rfl rfl rfl⟩
      · rcases ex with t1 | ⟨t1, rfl⟩
        all_goals
          have HKN := Lib.hid hkn
          clear hkn
          go_wp2_with fail
          go_quiet (fail)
          go_wp2_with fail
          go_quiet (fail)
          go_wp2_with fail
          go_ret
          exact ⟨_, rfl, (rt_end HKH.out HN.out HJ.out (by have := HKN.out; omega) hp.out).same rfl rfl rfl rfl⟩
    obtain ⟨h1, h2⟩ := h12
    clear g1 e2
    have t1 : decide (j < M) = true := by simp; omega
    have t2 : decide (0 < m) = true := by simp; omega
    obtain ⟨x, hx⟩ : ∃ x, x = (tokRow t).getD j 0 := ⟨_, rfl⟩
    obtain ⟨a2, rfl, hc0⟩ := HCELL.out 0 (.int .i64 x) (by
      have hjl : j < (tokRow t).length := by rw [← HL.out]; omega
      rw [HROW.out, hx]; simp [hjl])
    have hc0' : wr.cell? a2 = some (.int .i64 x) := by simpa [Addr.add] using hc0
    have hcf := cut_front (P := Tryd.prog) (e := 3) Tryd.underlying22 int_size (ad := some a2) (len := m) (cp := cp) (n := 1) (by omega) hle
    have hcf' : ∀ w, (Instr.sliceAt 22 (.slice (some a2) m cp) (some (.int .i64 1)) none none).run Tryd.prog w = .ok (.slice (cutA (some a2) cp 1) (m - 1) (cp - 1)) w := hcf
    obtain ⟨a3, ha3⟩ : ∃ a, a = cutA (some a2) cp 1 := ⟨_, rfl⟩
    rw [← ha3] at hcf'
    have HX := Lib.hid hx; have HC0 := Lib.hid hc0; have HCF := Lib.hid hcf; have HA3 := Lib.hid ha3
    clear hx hc0 hcf ha3
    go_wp2_with fail
    go_quiet (fail)
    go_wp2_with fail
    refine wp_region_planX 17 [0] [17, 18, 19] (by kernel_rfl) (by kernel_rfl) ?_
    simp only [List.range_succ, List.range_zero, List.nil_append, List.filter_cons, List.filter_nil, List.filter_append, List.contains_cons, List.contains_nil, Nat.reduceBEq, Bool.or_false, Bool.or_true, Bool.not_false, Bool.not_true, if_true, if_false, Bool.false_eq_true, ↓reduceIte, pick, List.getElem?_cons_succ, List.getElem?_cons_zero, Option.toList, List.cons_append, List.nil_append]
    repeat (refine wpPure_step ?_ rfl ?_ ?_; rotate_left; (focus (intro _; first | with_reducible rfl | (go_simp; done) | (go_simp; with_reducible rfl) | rfl)); go_simp)
    refine wpPure_nil ?_
    repeat still_step
    refine wpStill_nil ?_
    go_wp2_with (at_builtin; refine wpList_app rfl _ _ 82 rfl 93 2 16 _ info_pl Tryd.underlying82 rfl (by decide) rfl ((HO.out.perm (star_left_comm _ _ _)).drewN _ |>.drew.alloc' _) rfl (by rfl) (Rd_lit rfl (by unfold maxLen; omega)) (by intro u hu; simp at hu; rcases hu with rfl | rfl <;> rfl) (by unfold maxLen; simp; omega) (by simp; omega) ?_; intro v' w1 hown'; have g := hown'.drop.rt_facts HLEN5.out; have e2 : w1.cell? ⟨q, 2, none⟩ = some (.int .i64 k) := (by rw [HKH.out]; exact g.2.2.1); have e4 : w1.cell? ⟨q, 4 + k, none⟩ = some (.slice (some a2) m cp) := (by rw [g.2.2.2.2.1 k hk, HSH.out]); have e3 : ∀ u, (w1.setCell ⟨q, 4 + k, none⟩ u).cell? ⟨q, 3, none⟩ = some (.int .i64 ((B : Int) + j)) := (fun u => (World.cell?_setCell_other w1 ⟨q, 4 + k, none⟩ ⟨q, 3, none⟩ u (by intro e; injection e with e1 e2; omega)).trans (by rw [g.2.2.2.1, HB.out]; simp [tokMid])); have e5 : w1.frozen? ⟨q, 4 + k, none⟩ = false := g.2.2.2.2.2.2 _ _; have e6 : w1.frozen? ⟨q, 3, none⟩ = false := g.2.2.2.2.2.2 _ _; have HW := Lib.hid hown'; clear hown' g)
    refine NoPanic.normal ?_
    go_wp2_with fail
    refine wp_region_tail 18 (by kernel_rfl) (by kernel_rfl) ?_
    simp only [List.take_succ_cons, List.take_zero, List.drop_succ_cons, List.drop_zero]
    repeat still_step
    refine wpStill_nil ?_
    go_wp2_with fail
    exact ⟨⟨j + 1, by omega, by omega, by go_num, Lib.hid (by
      have h9 := rt_step (q := q) (k := k) (j := j) (t := t) (rs := rs) (R := R) (v := v') (a := some a2) (m := m) (cp := cp) HKH.out (by rw [← HN.out]; exact f3) hk HLEN5.out HE.out HSH.out HM.out (by omega) (by rw [← HL.out]; omega) (w0 := w0) (w := w1) (by rw [← HB.out, ← HX.out]; exact HW.out)
      rw [← HB.out, ← HA3.out] at h9
      exact h9.drew)⟩, by simp [intOf]; omega⟩
end Go.Proofs.YteelldblfmhjlaaDoor
