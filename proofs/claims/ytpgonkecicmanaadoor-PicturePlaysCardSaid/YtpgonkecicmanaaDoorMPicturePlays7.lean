/- Contracts of package picture: what it owns; has, check, Done, Gold. -/
import Derived.Test.YtpgonkecicmanaaDoorMPicturePlays3
import Derived.Test.YtpgonkecicmanaaDoorMPicturePlays4
import Derived.Test.YtpgonkecicmanaaDoorMPicturePlays5
import Derived.Test.YtpgonkecicmanaaDoorMPicturePlays6
import Derived.Deep.DeepCutAuto
import Derived.Deep.CutBlock
namespace Go.Proofs.YtpgonkecicmanaaDoor
set_option linter.unusedVariables false
set_option linter.unusedSimpArgs false
open Go.RowKit Go.Maps
theorem pway_lits (n : Nat) (a b : Int) (ha : I64 a) (hb : I64 b) : Tryd.prog.keyLits (n + 2) 154 [.int .i64 a, .int .i64 b] = some [.int .i64 a, .int .i64 b] := by
  have h1 : Tryd.prog.cellsOf 154 = 2 := by kernel_rfl
  have h2 : Tryd.prog.cellsOf 3 = 1 := by kernel_rfl
  simp [Program.keyLits, Tryd.underlying154, Tryd.underlying3, h1, h2, I64_wf ha, I64_wf hb]
theorem pway_ke : KE Tryd.prog 154 plV plOk where
  keyed := Keyed.of_law (deep_law (m := 2) (by omega) (by kernel_rfl) (by kernel_rfl) (by rw [Tryd.underlying154]))
  has := fun x hx => by
    have h1 : Tryd.prog.cellsOf 154 = 2 := by kernel_rfl
    have h2 : Tryd.prog.keyType 154 = true := by kernel_rfl
    have h3 : 0 < Tryd.prog.types.size := of_decide_eq_true (by kernel_rfl)
    obtain ⟨m, hm⟩ := Nat.exists_eq_succ_of_ne_zero (Nat.ne_of_gt h3)
    refine ⟨.string (keyBytes [.int .i64 x.1, .int .i64 x.2]), ?_⟩
    unfold keyOf
    rw [Tryd.underlying154]
    simp [h2, hm, plV, Value.formed, Tryd.underlying154, h1, Value.cells, pway_lits m _ _ hx.1 hx.2]
  inj := fun x y h => by
    unfold plV at h
    simp at h
    exact Prod.ext h.1 h.2
abbrev WRow := (Int × Int) × (Value × List Int)
def iV (x : Int) : Value := .int .i64 x
theorem mapw_kind : Tryd.prog.underlying 148 = some (.map 154 38) := by kernel_rfl
theorem mapo_kind : Tryd.prog.underlying 150 = some (.map 154 3) := by kernel_rfl
theorem mapgi_kind : Tryd.prog.underlying 149 = some (.map 3 3) := by kernel_rfl
theorem i_zero : ∀ w, (zeroValue 3).run Tryd.prog w = .ok (.int .i64 0) w := fun _ => by kernel_rfl
abbrev picB (p mb1 mb2 mb3 gb go gc n : Nat) (bg : Bool) (on : Int) : HProp := blk p (.cells #[.slice (some ⟨gb, go, none⟩) n gc, .map (some mb1), .bool bg, .map (some mb2), .map (some mb3), .int .i64 on] 152 (0, 0))
abbrev goldS (gb go gc n : Nat) (l : List Int) : HProp := SlAt 3 1 gb go n gc (l.map (Value.int .i64))
abbrev waysS (mb1 : Nat) (m : List WRow) : HProp := MpS plV plOk rowP Prod.fst mb1 m
abbrev wroteS (mb2 : Nat) (l : List (Int × Int)) : HProp := Mp (fun n : Int => Value.int .i64 n) I64 mb2 (mvals iV l)
abbrev opnS (mb3 : Nat) (l : List ((Int × Int) × Int)) : HProp := Mp plV plOk mb3 (mvals iV l)
def PicO (p mb1 mb2 mb3 gb go gc n : Nat) (m : List WRow) (s : Pic) : HProp :=
  picB p mb1 mb2 mb3 gb go gc n s.begun s.onWay * (goldS gb go gc n s.gold * (waysS mb1 m * (wroteS mb2 s.wrote * opnS mb3 s.opn)))
def PicA (p mb1 mb2 mb3 gb go gc n : Nat) (s : Pic) : HProp := hex fun m : List WRow => pur (mvals Prod.snd m = s.ways) * PicO p mb1 mb2 mb3 gb go gc n m s
section
variable {w0 w : World} {p mb1 mb2 mb3 gb go gc n : Nat} {m : List WRow} {s : Pic} {R : HProp}
theorem Own.pic_open (h : Own w0 (PicA p mb1 mb2 mb3 gb go gc n s * R) w) : ∃ m, mvals Prod.snd m = s.ways ∧ Own w0 (PicO p mb1 mb2 mb3 gb go gc n m s * R) w := by
  obtain ⟨m, h⟩ := Own.ex h
  rw [star_assoc] at h
  obtain ⟨he, h⟩ := Own.pur_out h
  exact ⟨m, he, h⟩
theorem Own.pic_close (he : mvals Prod.snd m = s.ways) (h : Own w0 (PicO p mb1 mb2 mb3 gb go gc n m s * R) w) : Own w0 (PicA p mb1 mb2 mb3 gb go gc n s * R) w := by
  refine Own.ex_mk m ?_
  rw [star_assoc]
  exact Own.pur_mk he h
theorem Own.pic_blk (h : Own w0 (PicO p mb1 mb2 mb3 gb go gc n m s * R) w) : Own w0 (picB p mb1 mb2 mb3 gb go gc n s.begun s.onWay * (goldS gb go gc n s.gold * (waysS mb1 m * (wroteS mb2 s.wrote * (opnS mb3 s.opn * R))))) w := h.perm (by unfold PicO; ac_rfl)
theorem Own.pic_gold (h : Own w0 (PicO p mb1 mb2 mb3 gb go gc n m s * R) w) : Own w0 (goldS gb go gc n s.gold * (picB p mb1 mb2 mb3 gb go gc n s.begun s.onWay * (waysS mb1 m * (wroteS mb2 s.wrote * (opnS mb3 s.opn * R))))) w := h.perm (by unfold PicO; ac_rfl)
theorem Own.pic_ways (h : Own w0 (PicO p mb1 mb2 mb3 gb go gc n m s * R) w) : Own w0 (waysS mb1 m * (picB p mb1 mb2 mb3 gb go gc n s.begun s.onWay * (goldS gb go gc n s.gold * (wroteS mb2 s.wrote * (opnS mb3 s.opn * R))))) w := h.perm (by unfold PicO; ac_rfl)
theorem Own.pic_wrote (h : Own w0 (PicO p mb1 mb2 mb3 gb go gc n m s * R) w) : Own w0 (wroteS mb2 s.wrote * (picB p mb1 mb2 mb3 gb go gc n s.begun s.onWay * (goldS gb go gc n s.gold * (waysS mb1 m * (opnS mb3 s.opn * R))))) w := h.perm (by unfold PicO; ac_rfl)
theorem Own.pic_opn (h : Own w0 (PicO p mb1 mb2 mb3 gb go gc n m s * R) w) : Own w0 (opnS mb3 s.opn * (picB p mb1 mb2 mb3 gb go gc n s.begun s.onWay * (goldS gb go gc n s.gold * (waysS mb1 m * (wroteS mb2 s.wrote * R))))) w := h.perm (by unfold PicO; ac_rfl)
theorem Own.pic_facts (h : Own w0 (PicO p mb1 mb2 mb3 gb go gc n m s * R) w) :
    w.cell? ⟨p, 0, none⟩ = some (.slice (some ⟨gb, go, none⟩) n gc) ∧ w.cell? ⟨p, 1, none⟩ = some (.map (some mb1)) ∧ w.cell? ⟨p, 2, none⟩ = some (.bool s.begun) ∧ w.cell? ⟨p, 3, none⟩ = some (.map (some mb2)) ∧ w.cell? ⟨p, 4, none⟩ = some (.map (some mb3)) ∧ w.cell? ⟨p, 5, none⟩ = some (.int .i64 s.onWay) ∧ (∀ i t, w.frozen? ⟨p, i, t⟩ = false) :=
  ⟨(h.pic_blk.cell 0).trans rfl, (h.pic_blk.cell 1).trans rfl, (h.pic_blk.cell 2).trans rfl, (h.pic_blk.cell 3).trans rfl, (h.pic_blk.cell 4).trans rfl, (h.pic_blk.cell 5).trans rfl, fun i t => h.pic_blk.free i t⟩
theorem Own.pic_n (h : Own w0 (PicO p mb1 mb2 mb3 gb go gc n m s * R) w) : s.gold.length = n ∧ n ≤ gc ∧ gc ≤ maxLen ∧ (∀ i t, w.frozen? ⟨gb, i, t⟩ = false) := by
  obtain ⟨h1, h2, h3, _, h5, _⟩ := h.pic_gold.slAt_facts
  exact ⟨by simpa using h3, h1, h2, h5⟩
theorem Own.pic_at (h : Own w0 (PicO p mb1 mb2 mb3 gb go gc n m s * R) w) {who : Int} (hw : pcHas s who = true) : w.cell? ⟨gb, go + who.toNat, none⟩ = some (.int .i64 (pcG s who)) := by
  have hb := pcHas_bd hw
  obtain ⟨_, _, _, h4, _⟩ := h.pic_gold.slAt_facts
  refine h4 who.toNat _ ?_
  rw [List.getElem?_map, List.getElem?_eq_getElem (by omega)]
  unfold pcG gAt
  rw [if_pos hb.1, List.getD_eq_getElem?_getD, List.getElem?_eq_getElem (by omega)]
  rfl
/-- What the map of rows gives at a way. -/
theorem Own.pic_row (h : Own w0 (PicO p mb1 mb2 mb3 gb go gc n m s * R) w) (x : Int × Int) (hx : plOk x) :
    (Instr.lookup 148 (.map (some mb1)) (.agg #[.int .i64 x.1, .int .i64 x.2]) false).run Tryd.prog w = .ok ((mget m x).getD nilRow).1 w := by
  have h1 := (h.pic_ways.ms_take nilRow rowP_nil x).drop.map_look pway_ke mapw_kind ints_zero hx false
  rw [if_neg (by decide)] at h1
  have h2 := mget_val Prod.fst m x nilRow
  rw [show (nilRow).1 = Value.slice none 0 0 from rfl] at h2
  rw [h2] at h1
  exact h1
theorem Own.pic_lw (h : Own w0 (PicO p mb1 mb2 mb3 gb go gc n m s * R) w) (x : Int) (hx : I64 x) :
    (Instr.lookup 149 (.map (some mb2)) (.int .i64 x) true).run Tryd.prog w = .ok (.tuple #[.int .i64 ((mget s.wrote x).getD 0), .bool (mget s.wrote x).isSome]) w := by
  have h1 := h.pic_wrote.map_look (int_ke int_kind) mapgi_kind i_zero hx true
  rw [mget_mvals] at h1
  cases hg : mget s.wrote x <;> rw [hg] at h1 <;> exact h1
theorem Own.pic_lo (h : Own w0 (PicO p mb1 mb2 mb3 gb go gc n m s * R) w) (x : Int × Int) (hx : plOk x) :
    (Instr.lookup 150 (.map (some mb3)) (.agg #[.int .i64 x.1, .int .i64 x.2]) false).run Tryd.prog w = .ok (.int .i64 ((mget s.opn x).getD 0)) w := by
  have h1 := h.pic_opn.map_look pway_ke mapo_kind i_zero hx false
  rw [mget_mvals, if_neg (by decide)] at h1
  cases hg : mget s.opn x <;> rw [hg] at h1 <;> exact h1
theorem Own.pic_lo2 (h : Own w0 (PicO p mb1 mb2 mb3 gb go gc n m s * R) w) (x : Int × Int) (hx : plOk x) :
    (Instr.lookup 150 (.map (some mb3)) (.agg #[.int .i64 x.1, .int .i64 x.2]) true).run Tryd.prog w = .ok (.tuple #[.int .i64 ((mget s.opn x).getD 0), .bool (mget s.opn x).isSome]) w := by
  have h1 := h.pic_opn.map_look pway_ke mapo_kind i_zero hx true
  rw [mget_mvals] at h1
  cases hg : mget s.opn x <;> rw [hg] at h1 <;> exact h1
end
theorem pcRow_of {s : Pic} {m : List WRow} (he : mvals Prod.snd m = s.ways) (a b : Int) : ((mget m (a, b)).getD nilRow).2 = pcRow s a b := by
  unfold pcRow; rw [← he, mget_mvals]; cases mget m (a, b) <;> rfl
/-- What fits: for the walks. -/
structure PicOk (s : Pic) : Prop where
  n5 : s.gold.length ≤ 5
  gold : ∀ a, 0 ≤ pcG s a ∧ pcG s a ≤ 1000000
  on : 0 ≤ s.onWay ∧ s.onWay ≤ 1000000
  row : ∀ a b, (pcRow s a b).length ≤ 1000 ∧ ∀ y ∈ pcRow s a b, 0 ≤ y ∧ y ≤ 1000000
  opn : ∀ a b, 0 ≤ (mget s.opn (a, b)).getD 0 ∧ (mget s.opn (a, b)).getD 0 ≤ 1000000
  wrote : ∀ p ∈ s.wrote, 0 ≤ p.2 ∧ p.2 ≤ 1000000
  few : s.wrote.length ≤ 5
theorem Own.pic_rd {w0 w : World} {p mb1 mb2 mb3 gb go gc n : Nat} {m : List WRow} {s : Pic} {R : HProp} (he : mvals Prod.snd m = s.ways) (h : Own w0 (PicO p mb1 mb2 mb3 gb go gc n m s * R) w) (a b : Int) (hI : ∀ y ∈ pcRow s a b, I64 y) : Ints w ((mget m (a, b)).getD nilRow).1 (pcRow s a b) := by
  have h1 := h.pic_ways.ms_take nilRow rowP_nil (a, b)
  have h2 : Own w0 (IntSl ((mget m (a, b)).getD nilRow).1 ((mget m (a, b)).getD nilRow).2 * _) w := h1
  rw [pcRow_of he] at h2
  exact IntSl_reads hI _ h2
set_option maxRecDepth 100000 in
set_option maxHeartbeats 4000000 in
theorem pHas_any {w0 w : World} {R : HProp} {p mb1 mb2 mb3 gb go gc n : Nat} {m : List WRow} (s : Pic) (who : Int) (h : Own w0 (PicO p mb1 mb2 mb3 gb go gc n m s * R) w) :
    Calls Tryd.prog 79 #[.pointer (some ⟨p, 0, none⟩), .int .i64 who] w fun e w' => e = .returned (.bool (pcHas s who)) ∧ w = w' := by
  obtain ⟨c0, _⟩ := h.pic_facts
  obtain ⟨hn, _⟩ := h.pic_n
  obtain ⟨D1, hD1⟩ : ∃ D, D = decide (0 ≤ who) := ⟨_, rfl⟩
  obtain ⟨D2, hD2⟩ : ∃ D, D = decide (who < (n : Int)) := ⟨_, rfl⟩
  have hP : pcHas s who = (D1 && D2) := by unfold pcHas; rw [hD1, hD2, hn]
  rw [hP]
  have t1 := hD1.symm
  have t2 := hD2.symm
  have H := Lib.hid h; have HN := Lib.hid hn; have HD1 := Lib.hid hD1; have HD2 := Lib.hid hD2; have HP := Lib.hid hP
  clear h hn hD1 hD2 hP
  go_enter Tryd.func79, Tryd.ntmps79
  cases D1
  · go_wp2
    go_ret
    exact ⟨rfl, rfl⟩
  · go_wp2
    go_ret
    exact ⟨rfl, rfl⟩
set_option maxRecDepth 100000 in
set_option maxHeartbeats 4000000 in
theorem pCheck_any {w0 w : World} {R : HProp} {p mb1 mb2 mb3 gb go gc n : Nat} (s : Pic) (a b : Int) (h : Own w0 (PicA p mb1 mb2 mb3 gb go gc n s * R) w) :
    Calls Tryd.prog 77 #[.pointer (some ⟨p, 0, none⟩), .agg #[.int .i64 a, .int .i64 b]] w fun e w' => e = .returned (errV (pcWay s a b)) ∧ Own w0 (PicA p mb1 mb2 mb3 gb go gc n s * R) w' := by
  obtain ⟨m, hm, ho⟩ := h.pic_open
  obtain ⟨b1, hb_b1⟩ : ∃ zz_, zz_ = (w).heap.size := ⟨_, rfl⟩
  obtain ⟨w1, hw_w1⟩ : ∃ zz_, zz_ = (w).alloc (.cells #[.int .i64 a, .int .i64 b] 154 (0, 0)) := ⟨_, rfl⟩
  have h_HO1 := (ho).alloc (.cells #[.int .i64 a, .int .i64 b] 154 (0, 0))
  rw [← hb_b1, ← hw_w1] at h_HO1
  have HO1 := Lib.hid h_HO1
  clear h_HO1
  have x0 : w1.cell? ⟨b1, 0, none⟩ = some (.int .i64 a) := (HO1.out.cell 0).trans rfl
  have x1 : w1.cell? ⟨b1, 1, none⟩ = some (.int .i64 b) := (HO1.out.cell 1).trans rfl
  have HP1 : Hid (Own w0 (PicO p mb1 mb2 mb3 gb go gc n m s * R) w1) := Lib.hid HO1.out.drop
  obtain ⟨E, hE⟩ : ∃ E, E = pcWay s a b := ⟨_, rfl⟩
  rw [← hE]
  unfold pcWay at hE
  have H := Lib.hid h; have HO := Lib.hid ho; have HM := Lib.hid hm
  clear h ho hm
  cases h1 : pcHas s a
  · rw [if_pos h1] at hE
    subst hE
    have H1 := Lib.hid h1
    clear h1
    go_enter Tryd.func77, Tryd.ntmps77
    go_upto_block 0 with fail
    rw [← hb_b1, ← hw_w1]
    clear hb_b1 hw_w1
    go_wp2_with fail
    refine (pHas_any s a HP1.out).mono ?_
    rintro e w' ⟨rfl, rfl⟩
    rw [H1.out]
    go_wp2
    go_ret
    exact ⟨rfl, HP1.out.pic_close HM.out⟩
  rw [if_neg (by rw [h1]; simp)] at hE
  cases h2 : pcHas s b
  · rw [if_pos h2] at hE
    subst hE
    have H1 := Lib.hid h1; have H2 := Lib.hid h2
    clear h1 h2
    go_enter Tryd.func77, Tryd.ntmps77
    go_upto_block 0 with fail
    rw [← hb_b1, ← hw_w1]
    clear hb_b1 hw_w1
    go_wp2_with fail
    refine (pHas_any s a HP1.out).mono ?_
    rintro e w' ⟨rfl, rfl⟩
    rw [H1.out]
    go_wp2_with fail
    refine (pHas_any s b HP1.out).mono ?_
    rintro e w' ⟨rfl, rfl⟩
    rw [H2.out]
    go_wp2
    go_ret
    exact ⟨rfl, HP1.out.pic_close HM.out⟩
  rw [if_neg (by rw [h2]; simp)] at hE
  by_cases hab : a = b
  · subst hab
    rw [if_pos rfl] at hE
    subst hE
    have H1 := Lib.hid h1; have H2 := Lib.hid h2
    clear h1 h2
    go_enter Tryd.func77, Tryd.ntmps77
    go_upto_block 0 with fail
    rw [← hb_b1, ← hw_w1]
    clear hb_b1 hw_w1
    go_wp2_with fail
    refine (pHas_any s a HP1.out).mono ?_
    rintro e w' ⟨rfl, rfl⟩
    rw [H1.out]
    go_wp2_with fail
    refine (pHas_any s a HP1.out).mono ?_
    rintro e w' ⟨rfl, rfl⟩
    rw [H2.out]
    go_wp2
    go_ret
    exact ⟨rfl, HP1.out.pic_close HM.out⟩
  · rw [if_neg hab] at hE
    subst hE
    have t1 : (a == b) = false := by rw [beq_eq_false_iff_ne]; exact hab
    have H1 := Lib.hid h1; have H2 := Lib.hid h2; have HAB := Lib.hid hab
    clear h1 h2 hab
    go_enter Tryd.func77, Tryd.ntmps77
    go_upto_block 0 with fail
    rw [← hb_b1, ← hw_w1]
    clear hb_b1 hw_w1
    go_wp2_with fail
    refine (pHas_any s a HP1.out).mono ?_
    rintro e w' ⟨rfl, rfl⟩
    rw [H1.out]
    go_wp2_with fail
    refine (pHas_any s b HP1.out).mono ?_
    rintro e w' ⟨rfl, rfl⟩
    rw [H2.out]
    go_wp2
    go_ret
    exact ⟨rfl, HP1.out.pic_close HM.out⟩
set_option maxRecDepth 100000 in
set_option maxHeartbeats 4000000 in
theorem pGold_any {w0 w : World} {R : HProp} {p mb1 mb2 mb3 gb go gc n : Nat} (s : Pic) (who : Int) (h : Own w0 (PicA p mb1 mb2 mb3 gb go gc n s * R) w) :
    Calls Tryd.prog 26 #[.pointer (some ⟨p, 0, none⟩), .int .i64 who] w fun e w' => e = .returned (.tuple #[.int .i64 (if pcHas s who = true then pcG s who else 0), errV (if pcHas s who = true then 0 else 1)]) ∧ Own w0 (PicA p mb1 mb2 mb3 gb go gc n s * R) w' := by
  obtain ⟨m, hm, ho⟩ := h.pic_open
  obtain ⟨c0, _⟩ := ho.pic_facts
  obtain ⟨hn, hnc, hcm, _⟩ := ho.pic_n
  cases h1 : pcHas s who
  · rw [if_neg (by simp), if_neg (by simp)]
    have H := Lib.hid h; have HO := Lib.hid ho; have HM := Lib.hid hm; have H1 := Lib.hid h1; have HN := Lib.hid hn
    clear h ho hm h1 hn
    go_enter Tryd.func26, Tryd.ntmps26
    go_wp2_with fail
    refine (pHas_any s who HO.out).mono ?_
    rintro e w' ⟨rfl, rfl⟩
    rw [H1.out]
    go_wp2
    go_ret2
    exact ⟨rfl, H.out⟩
  · have hb := pcHas_bd h1
    have hc := ho.pic_at h1
    rw [hn] at hb
    obtain ⟨k, rfl⟩ : ∃ k : Nat, who = k := ⟨who.toNat, by omega⟩
    rw [Int.toNat_natCast] at hc
    obtain ⟨x, hx⟩ : ∃ x, x = pcG s k := ⟨_, rfl⟩
    rw [← hx] at hc
    rw [if_pos rfl, if_pos rfl, ← hx]
    have hk : k < n := by omega
    have H := Lib.hid h; have HO := Lib.hid ho; have HM := Lib.hid hm; have H1 := Lib.hid h1; have HN := Lib.hid hn; have HX := Lib.hid hx; have HB := Lib.hid hb
    clear h ho hm h1 hn hx hb
    go_enter Tryd.func26, Tryd.ntmps26
    go_wp2_with fail
    refine (pHas_any s k HO.out).mono ?_
    rintro e w' ⟨rfl, rfl⟩
    rw [H1.out]
    go_wp2
    go_ret2
    exact ⟨rfl, H.out⟩
set_option maxRecDepth 100000 in
set_option maxHeartbeats 4000000 in
theorem pDone_any {w0 w : World} {R : HProp} {p mb1 mb2 mb3 gb go gc n : Nat} (s : Pic) (h : Own w0 (PicA p mb1 mb2 mb3 gb go gc n s * R) w) :
    Calls Tryd.prog 30 #[.pointer (some ⟨p, 0, none⟩)] w fun e w' => e = .returned (.bool (pcDone s)) ∧ Own w0 (PicA p mb1 mb2 mb3 gb go gc n s * R) w' := by
  obtain ⟨m, hm, ho⟩ := h.pic_open
  obtain ⟨c0, _, _, c3, c4, _⟩ := ho.pic_facts
  obtain ⟨hn, _⟩ := ho.pic_n
  have l1 := fun k => (ho.drewN k).pic_wrote.map_len mapgi_kind 3
  have l2 := fun k => (ho.drewN k).pic_opn.map_len mapo_kind 3
  simp only [mvals_len] at l1 l2
  obtain ⟨x, hx⟩ : ∃ x, x = s.wrote.length := ⟨_, rfl⟩
  obtain ⟨y, hy⟩ : ∃ x, x = s.opn.length := ⟨_, rfl⟩
  simp only [← hx] at l1
  simp only [← hy] at l2
  obtain ⟨D1, hD1⟩ : ∃ D, D = ((x : Int) == (n : Int)) := ⟨_, rfl⟩
  obtain ⟨D2, hD2⟩ : ∃ D, D = ((y : Int) == 0) := ⟨_, rfl⟩
  have hP : pcDone s = (D1 && D2) := by
    unfold pcDone
    rw [hD1, hD2, ← hx, ← hy, hn]
    congr 1 <;> rw [eq_comm, Bool.eq_iff_iff] <;> simp <;> omega
  rw [hP]
  have t1 := hD1.symm
  have t2 := hD2.symm
  have H := Lib.hid h; have HO := Lib.hid ho; have HM := Lib.hid hm; have HN := Lib.hid hn; have HX := Lib.hid hx; have HY := Lib.hid hy; have HD1 := Lib.hid hD1; have HD2 := Lib.hid hD2; have HP := Lib.hid hP
  clear h ho hm hn hx hy hD1 hD2 hP
  go_enter Tryd.func30, Tryd.ntmps30
  cases D1
  · go_wp2_with fail
    go_quiet (fail)
    go_wp2_with fail
    go_ret
    exact ⟨rfl, H.out.drewN _⟩
  · go_wp2_with fail
    go_quiet (fail)
    go_wp2_with fail
    go_ret
    exact ⟨rfl, H.out.drewN _⟩
end Go.Proofs.YtpgonkecicmanaaDoor
/- Contracts of package picture: write, mark. -/
namespace Go.Proofs.YtpgonkecicmanaaDoor
set_option linter.unusedVariables false
set_option linter.unusedSimpArgs false
open Go.RowKit Go.Maps
def pcOuts (s : Pic) (who : Int) (k : Nat) : Pic := (memN k).foldl (pcOut who) (pcWrite0 s who)
theorem pcOuts_next (s : Pic) (who : Int) (k : Nat) : pcOuts s who (k + 1) = pcOut who (pcOuts s who k) k := by unfold pcOuts; rw [memN_snoc, List.foldl_append]; rfl
theorem pcHas_small {s : Pic} {a : Int} (hok : s.gold.length ≤ 5) (h : pcHas s a = true) : I64 a := by have := pcHas_bd h; unfold I64; omega
theorem Own.pic_wrote_put {w0 w : World} {p mb1 mb2 mb3 gb go gc n : Nat} {m : List WRow} {s : Pic} {R : HProp} {who g : Int} (h : Own w0 (wroteS mb2 (mput s.wrote who g) * (picB p mb1 mb2 mb3 gb go gc n s.begun s.onWay * (goldS gb go gc n s.gold * (waysS mb1 m * (opnS mb3 s.opn * R))))) w) : Own w0 (PicO p mb1 mb2 mb3 gb go gc n m { s with wrote := mput s.wrote who g } * R) w := h.perm (by unfold PicO; ac_rfl)
theorem Own.pic_ways_put {w0 w : World} {p mb1 mb2 mb3 gb go gc n : Nat} {m : List WRow} {s : Pic} {R : HProp} {W : List ((Int × Int) × List Int)} (h : Own w0 (waysS mb1 m * (picB p mb1 mb2 mb3 gb go gc n s.begun s.onWay * (goldS gb go gc n s.gold * (wroteS mb2 s.wrote * (opnS mb3 s.opn * R))))) w) : Own w0 (PicO p mb1 mb2 mb3 gb go gc n m { s with ways := W } * R) w := h.perm (by unfold PicO; ac_rfl)
theorem Own.pic_opn_put {w0 w : World} {p mb1 mb2 mb3 gb go gc n : Nat} {m : List WRow} {s : Pic} {R : HProp} {o : List ((Int × Int) × Int)} (h : Own w0 (opnS mb3 o * (picB p mb1 mb2 mb3 gb go gc n s.begun s.onWay * (goldS gb go gc n s.gold * (waysS mb1 m * (wroteS mb2 s.wrote * R))))) w) : Own w0 (PicO p mb1 mb2 mb3 gb go gc n m { s with opn := o } * R) w := h.perm (by unfold PicO; ac_rfl)
set_option maxRecDepth 100000 in
set_option maxHeartbeats 4000000 in
theorem pWrite_any {w0 w : World} {R : HProp} {p mb1 mb2 mb3 gb go gc n : Nat} (s : Pic) (who : Int) (hw : pcHas s who = true) (hok : PicOk s) (h : Own w0 (PicA p mb1 mb2 mb3 gb go gc n s * R) w) :
    Calls Tryd.prog 80 #[.pointer (some ⟨p, 0, none⟩), .int .i64 who] w fun e w' => e = .returned (.tuple #[]) ∧ Own w0 (PicA p mb1 mb2 mb3 gb go gc n (pcWrite s who) * R) w' := by
  obtain ⟨m, hm, ho⟩ := h.pic_open
  obtain ⟨c0, _, _, c3, _, _, _⟩ := ho.pic_facts
  obtain ⟨hn, hnc, hcm, _⟩ := ho.pic_n
  have hb := pcHas_bd hw
  have hc := ho.pic_at hw
  have h5 := hok.n5
  rw [hn] at hb h5
  obtain ⟨q, rfl⟩ : ∃ k : Nat, who = k := ⟨who.toNat, by omega⟩
  rw [Int.toNat_natCast] at hc
  obtain ⟨g, hg⟩ : ∃ x, x = pcG s q := ⟨_, rfl⟩
  rw [← hg] at hc
  have hq : q < n := by omega
  have hqI : I64 (q : Int) := by unfold I64; omega
  have q0 : (0 : Int) ≤ (q : Int) := by omega
  have qn : (q : Int) < (n : Int) := by omega
  have hrow : ∀ i, (pcRow s q i).length ≤ 1000 := fun i => (hok.row q i).1
  clear h hok
  have HO := Lib.hid ho; have HM := Lib.hid hm; have HW := Lib.hid hw; have HN := Lib.hid hn; have HG := Lib.hid hg; have HB := Lib.hid hb; have HQI := Lib.hid hqI; have HROW := Lib.hid hrow
  clear ho hm hw hn hg hb hqI hrow
  go_enter Tryd.func80, Tryd.ntmps80
  go_upto_region 0 with fail
  refine wp_region_planH 12 [] [(true, 0), (true, 1), (true, 2), (true, 3), (true, 4), (true, 5), (true, 6), (true, 7), (true, 8), (true, 9), (true, 10), (true, 11)] [12] (fun wS => wS.cell? ⟨p, 3, none⟩ = some (.map (some mb2)) ∧ wS.cell? ⟨p, 0, none⟩ = some (.slice (some ⟨gb, go, none⟩) n gc) ∧ wS.cell? ⟨gb, go + q, none⟩ = some (.int .i64 g)) (by kernel_rfl) (by kernel_rfl) (⟨c3, c0, hc⟩) ?_
  simp only [pickH, pick, List.getElem?_cons_succ, List.getElem?_cons_zero, Option.toList, Option.map_some, List.cons_append, List.nil_append]
  repeat (refine wpPure_step ?_ rfl ?_ ?_; rotate_left; (focus (intro _; first | with_reducible rfl | (go_simp; done) | (go_simp; with_reducible rfl) | rfl)); go_simp)
  refine wpPure_nil ?_
  repeat (refine wpMix_read ?_ rfl ?_ ?_; rotate_left; (focus (intro _ hS; obtain ⟨s1, s2, s3⟩ := hS; first | with_reducible rfl | (go_simp; done) | (go_simp; with_reducible rfl) | rfl)); go_simp)
  refine wpMix_nil ?_
  clear c0 c3 hc
  go_wp2_with (at_mapUpdate; refine wpList_put (v := .int .i64 g) (x := (q : Int)) (int_ke int_kind) mapgi_kind HO.out.drew.pic_wrote HQI.out rfl _ _ _ rfl rfl rfl rfl ?_; intro w1 ho1; have HO1 : Hid (Own w0 (PicA p mb1 mb2 mb3 gb go gc n (pcWrite0 s q) * R) w1) := Lib.hid ((Own.pic_wrote_put (who := (q : Int)) (g := g) (ho1.perm (by rw [show (Value.int .i64 g) = iV g from rfl, mput_mvals]))).pic_close (by rw [HM.out]) |>.perm (by unfold pcWrite0; rw [HG.out])); clear ho1)
  refine NoPanic.normal ?_
  have HST : Hid (Own w0 (PicA p mb1 mb2 mb3 gb go gc n (pcOuts s q 0) * R) w1) := HO1
  clear HO1
  obtain ⟨m1, hm1, ho1⟩ := HST.out.pic_open
  obtain ⟨c0, _⟩ := ho1.pic_facts
  have HM1 := Lib.hid hm1; have HO1 := Lib.hid ho1
  clear hm1 ho1
  go_upto_block 0 with fail
  go_wp2_with fail
  clear c0 HM1 HO1
  go_loopw [23] (fun iv wr => ∃ k : Nat, k ≤ n ∧ iv = .int .i64 k ∧ Hid (Own w0 (PicA p mb1 mb2 mb3 gb go gc n (pcOuts s q k) * R) wr)) (fun iv _ => n - (intOf iv).toNat)
  case atStart => exact ⟨0, Nat.zero_le _, rfl, HST⟩
  case round =>
    clear HST
    obtain ⟨k, hk, rfl, HP⟩ := hrel
    by_cases hlt : k < n
    rotate_left
    · have hkn : k = n := by omega
      subst hkn
      go_wp2
      refine bodyPost_end (results_none rfl _ _ _) rfl ⟨rfl, ?_⟩
      have := HP.out
      unfold pcWrite
      rw [HN.out]
      exact this
    by_cases hkq : k = q
    · have t1 : ((k : Int) == (q : Int)) = true := by rw [beq_iff_eq]; omega
      have hnx : pcOuts s q (k + 1) = pcOuts s q k := by rw [pcOuts_next]; unfold pcOut; rw [if_pos (by omega)]
      have HNX := Lib.hid hnx; have HKQ := Lib.hid hkq
      clear hnx hkq
      go_wp2
      go_round
      case rel => exact ⟨k + 1, by omega, by go_num, by rw [HNX.out]; exact HP⟩
      case measure => simp [intOf]; omega
    have t1 : ((k : Int) == (q : Int)) = false := by rw [beq_eq_false_iff_ne]; omega
    obtain ⟨T, hT⟩ : ∃ T, T = pcOuts s q k := ⟨_, rfl⟩
    have hnx : pcOuts s q (k + 1) = { T with ways := mput T.ways ((q : Int), (k : Int)) (pcRow T q k ++ [0]), opn := mput T.opn ((k : Int), (q : Int)) 0 } := by rw [pcOuts_next, ← hT]; unfold pcOut; rw [if_neg (by omega)]
    have hkI : I64 (k : Int) := by unfold I64; omega
    have hrl : (pcRow T q k).length ≤ 1000 := by
      have h1 := (out_k (pcWrite0 s q) q k).row q k
      rw [if_neg (by omega)] at h1
      rw [hT]
      show (pcRow ((memN k).foldl (pcOut q) (pcWrite0 s q)) q k).length ≤ 1000
      rw [h1]
      exact HROW.out k
    rw [← hT] at HP
    obtain ⟨m, hm, ho⟩ := HP.out.pic_open
    have hx : plOk ((q : Int), (k : Int)) := ⟨HQI.out, hkI⟩
    have hx2 : plOk ((k : Int), (q : Int)) := ⟨hkI, HQI.out⟩
    obtain ⟨b1, hb_b1⟩ : ∃ zz_, zz_ = (wr).heap.size := ⟨_, rfl⟩
    obtain ⟨w1, hw_w1⟩ : ∃ zz_, zz_ = (wr).alloc (.cells #[.int .i64 q, .int .i64 k] 154 (0, 0)) := ⟨_, rfl⟩
    have h_HO1 := (ho).alloc (.cells #[.int .i64 q, .int .i64 k] 154 (0, 0))
    rw [← hb_b1, ← hw_w1] at h_HO1
    have HO1 := Lib.hid h_HO1
    clear h_HO1
    have x0 : w1.cell? ⟨b1, 0, none⟩ = some (.int .i64 q) := (HO1.out.cell 0).trans rfl
    have x1 : w1.cell? ⟨b1, 1, none⟩ = some (.int .i64 k) := (HO1.out.cell 1).trans rfl
    obtain ⟨_, c1, _⟩ := HO1.out.drop.pic_facts
    obtain ⟨L, hL⟩ : ∃ L, L = pcRow T q k := ⟨_, rfl⟩
    obtain ⟨V, hV⟩ : ∃ V, V = ((mget m ((q : Int), (k : Int))).getD nilRow).1 := ⟨_, rfl⟩
    obtain ⟨X, hFX⟩ : ∃ X, X = picB p mb1 mb2 mb3 gb go gc n T.begun T.onWay * (goldS gb go gc n T.gold * (wroteS mb2 T.wrote * (opnS mb3 T.opn * R))) := ⟨_, rfl⟩
    have HO1' : Hid (Own w0 (waysS mb1 m * (blk b1 (.cells #[.int .i64 q, .int .i64 k] 154 (0, 0)) * X)) w1) := Lib.hid (HO1.out.perm (by rw [hFX]; unfold PicO; ac_rfl))
    have HXC : Hid (∀ w', Own w0 X w' → w'.cell? ⟨p, 1, none⟩ = some (.map (some mb1))) := Lib.hid (fun w' h => by rw [hFX] at h; exact (h.cell 1).trans rfl)
    have HO2 := Lib.hid (HO1'.out.ms_take nilRow rowP_nil ((q : Int), (k : Int)))
    rw [← hL] at hrl hnx
    clear HO1 HP
    have HO := Lib.hid ho; have HM := Lib.hid hm; have HX := Lib.hid hx; have HX2 := Lib.hid hx2; have HKI := Lib.hid hkI; have HRL := Lib.hid hrl; have HV := Lib.hid hV; have HL := Lib.hid hL; have HFX := Lib.hid hFX; have HNX := Lib.hid hnx; have HKQ := Lib.hid hkq; have HT := Lib.hid hT
    clear ho hm hx hx2 hkI hrl hV hL hFX hnx hkq hT
    go_upto_region 6 with fail
    rw [← hb_b1, ← hw_w1]
    clear hb_b1 hw_w1
    refine wp_region_planH 10 [] [(true, 0), (true, 1), (true, 2), (true, 3), (true, 4), (false, 5), (false, 6), (true, 7), (true, 9), (false, 8)] [10] (fun wS => wS.cell? ⟨p, 1, none⟩ = some (.map (some mb1)) ∧ wS.cell? ⟨b1, 0, none⟩ = some (.int .i64 q) ∧ wS.cell? ⟨b1, 1, none⟩ = some (.int .i64 k)) (by kernel_rfl) (by kernel_rfl) (⟨c1, x0, x1⟩) ?_
    simp only [pickH, pick, List.getElem?_cons_succ, List.getElem?_cons_zero, Option.toList, Option.map_some, List.cons_append, List.nil_append]
    repeat (refine wpPure_step ?_ rfl ?_ ?_; rotate_left; (focus (intro _; first | with_reducible rfl | (go_simp; done) | (go_simp; with_reducible rfl) | rfl)); go_simp)
    refine wpPure_nil ?_
    repeat (refine wpMix_read ?_ rfl ?_ ?_; rotate_left; (focus (intro _ hS; obtain ⟨s1, s2, s3⟩ := hS; first | with_reducible rfl | (go_simp; done) | (go_simp; with_reducible rfl) | rfl)); go_simp)
    refine wpMix_write (fun K hK => ?_)
    go_simp
    obtain ⟨b2, hb_b2⟩ : ∃ zz_, zz_ = (w1).heap.size := ⟨_, rfl⟩
    obtain ⟨w2, hw_w2⟩ : ∃ zz_, zz_ = (w1).alloc (.cells #[.int .i64 0] 3 (0, 0)) := ⟨_, rfl⟩
    have h_HO3 := (HO2.out).alloc (.cells #[.int .i64 0] 3 (0, 0))
    rw [← hb_b2, ← hw_w2] at h_HO3
    have HO3 := Lib.hid h_HO3
    clear h_HO3
    rw [← hb_b2, ← hw_w2]
    clear hb_b2 hw_w2
    have c4' : w2.drew.cell? ⟨p, 1, none⟩ = some (.map (some mb1)) := HXC.out _ HO3.out.drew.drop.drop.drop.drop.drop
    have x0' : w2.drew.cell? ⟨b1, 0, none⟩ = some (.int .i64 q) := (HO3.out.drew.drop.drop.drop.drop.cell 0).trans rfl
    have x1' : w2.drew.cell? ⟨b1, 1, none⟩ = some (.int .i64 k) := (HO3.out.drew.drop.drop.drop.drop.cell 1).trans rfl
    refine hK _ _ ⟨⟨c4', x0', x1'⟩, ?_⟩
    clear hK K
    go_simp
    clear c4' x0' x1' c1 x0 x1
    refine wpMix_write (fun K hK => ?_)
    refine step_open pway_ke mapw_kind ints_zero HO3.out.drew.third HX.out rfl _ _ rfl rfl rfl ?_
    intro w3 st ho3
    have hval := mget_val Prod.fst m ((q : Int), (k : Int)) nilRow
    rw [show (nilRow).1 = Value.slice none 0 0 from rfl, ← HV.out] at hval
    rw [hval]
    clear hval
    have HO4 : Hid (Own w0 (IntSl V L * (IntSl (.slice (some ⟨b2, 0, none⟩) 1 1) [0] * (MpE plV plOk mb1 (mvals Prod.fst m) ((q : Int), (k : Int)) st * (starL (fun p : WRow => rowP p.2) (mdel m ((q : Int), (k : Int))) * (blk b1 (.cells #[.int .i64 q, .int .i64 k] 154 (0, 0)) * X))))) w3) := Lib.hid (by
      have h4 : Own w0 (IntSl ((mget m ((q : Int), (k : Int))).getD nilRow).1 ((mget m ((q : Int), (k : Int))).getD nilRow).2 * _) w3 := ho3.third
      rw [pcRow_of HM.out, ← HL.out, ← HV.out] at h4
      have h5 := h4.third
      exact (Own.litI [0] 1 rfl (by omega) h5).second)
    clear ho3
    have c4' : w3.cell? ⟨p, 1, none⟩ = some (.map (some mb1)) := HXC.out _ HO4.out.drop.drop.drop.drop.drop
    have x0' : w3.cell? ⟨b1, 0, none⟩ = some (.int .i64 q) := (HO4.out.drop.drop.drop.drop.cell 0).trans rfl
    have x1' : w3.cell? ⟨b1, 1, none⟩ = some (.int .i64 k) := (HO4.out.drop.drop.drop.drop.cell 1).trans rfl
    refine hK _ _ ⟨⟨c4', x0', x1'⟩, ?_⟩
    clear hK K
    go_simp
    clear c4' x0' x1'
    repeat (refine wpMix_read ?_ rfl ?_ ?_; rotate_left; (focus (intro _ hS; obtain ⟨s1, s2, s3⟩ := hS; first | with_reducible rfl | (go_simp; done) | (go_simp; with_reducible rfl) | rfl)); go_simp)
    refine wpMix_write (fun K hK => ?_)
    refine step_app rfl _ _ 38 rfl 3 1 8 _ info_int Tryd.underlying38 rfl (by decide) (by rfl) HO4.out (by rfl) (by rfl) (Own.rd HO4.out.drop) (int_one _) (by have := HRL.out; unfold maxLen; rw [List.length_singleton]; omega) (by have := HRL.out; rw [List.length_singleton]; omega) ?_
    intro v5 w5 ho5
    have HO5 : Hid (Own w0 (MpE plV plOk mb1 (mvals Prod.fst m) ((q : Int), (k : Int)) st * (IntSl v5 (L ++ [0]) * (starL (fun p : WRow => rowP p.2) (mdel m ((q : Int), (k : Int))) * (IntSl (.slice (some ⟨b2, 0, none⟩) 1 1) [0] * (blk b1 (.cells #[.int .i64 q, .int .i64 k] 154 (0, 0)) * X))))) w5) := Lib.hid (by
      have h5 : Own w0 (IntSl v5 (L ++ [0]) * _) w5 := ho5.perm (show _ = IntSl v5 (L ++ [0]) * _ by unfold IntSl; rw [List.length_append, List.map_append])
      exact h5.perm (by unfold IntSl; ac_rfl))
    clear ho5
    have c4' : w5.cell? ⟨p, 1, none⟩ = some (.map (some mb1)) := HXC.out _ HO5.out.drop.drop.drop.drop.drop
    have x0' : w5.cell? ⟨b1, 0, none⟩ = some (.int .i64 q) := (HO5.out.drop.drop.drop.drop.cell 0).trans rfl
    have x1' : w5.cell? ⟨b1, 1, none⟩ = some (.int .i64 k) := (HO5.out.drop.drop.drop.drop.cell 1).trans rfl
    refine hK _ _ ⟨⟨c4', x0', x1'⟩, ?_⟩
    clear hK K
    go_simp
    clear c4' x0' x1'
    refine wpMix_nil ?_
    go_wp2_with (refine wpList_fill HO5.out rfl _ _ _ rfl rfl rfl rfl ?_; intro w6 ho6; have HO6 := Lib.hid ho6; clear ho6)
    refine NoPanic.normal ?_
    obtain ⟨m2, hm2⟩ : ∃ m2, m2 = mput m ((q : Int), (k : Int)) (v5, L ++ [0]) := ⟨_, rfl⟩
    obtain ⟨T2, hT2⟩ : ∃ T2 : Pic, T2 = { T with ways := mput T.ways ((q : Int), (k : Int)) (L ++ [0]) } := ⟨_, rfl⟩
    have hmv : mvals Prod.snd m2 = T2.ways := by rw [hm2, hT2, ← mput_mvals, HM.out]
    have HO7 : Hid (Own w0 (PicO p mb1 mb2 mb3 gb go gc n m2 T2 * R) w6) := Lib.hid (by
      have h7 := (HO6.out.second.perm (show _ = rowP (v5, L ++ [0]) * _ from rfl)).ms_put (f := rowP) (val := Prod.fst) ((q : Int), (k : Int))
      have h8 := h7.second.drop.second.drop
      rw [HFX.out] at h8
      rw [hm2, hT2]
      exact Own.pic_ways_put h8)
    clear HO6
    obtain ⟨_, _, _, _, c4, _⟩ := HO7.out.pic_facts
    have HM2 := Lib.hid hm2; have HT2 := Lib.hid hT2; have HMV := Lib.hid hmv
    clear hm2 hT2 hmv
    go_wp2_with (at_mapUpdate; refine wpList_put (v := .int .i64 0) (x := ((k : Int), (q : Int))) pway_ke mapo_kind HO7.out.pic_opn HX2.out rfl _ _ _ rfl rfl rfl rfl ?_; intro w7 ho7; have HO8 : Hid (Own w0 (PicA p mb1 mb2 mb3 gb go gc n (pcOuts s q (k + 1)) * R) w7) := Lib.hid (by rw [HNX.out]; exact (Own.pic_opn_put (s := T2) (o := mput T2.opn ((k : Int), (q : Int)) 0) (ho7.perm (by rw [show (Value.int .i64 0) = iV 0 from rfl, mput_mvals]))).pic_close (by rw [HMV.out]) |>.perm (by rw [HT2.out])); clear ho7)
    go_round
    case rel => exact ⟨k + 1, by omega, by go_num, HO8⟩
    case measure => simp [intOf]; omega
end Go.Proofs.YtpgonkecicmanaaDoor
/- Contracts of package view: what is wrong with members, and with a view. -/
namespace Go.Proofs.YtpgonkecicmanaaDoor
set_option linter.unusedVariables false
set_option linter.unusedSimpArgs false
open Go.RowKit
def memGo : Int → List Int → Nat
  | _, [] => 0
  | last, m :: r => if isMember m = false then 1 else if m ≤ last then 3 else memGo m r
def memErr (l : List Int) : Nat := if l = [] then 5 else memGo (-1) l
def viewErr (n : Int) (l : List Int) : Nat := if isCount n = false then 1 else memErr l
set_option maxRecDepth 100000 in
set_option maxHeartbeats 4000000 in
theorem members_any (v : Value) (l : List Int) (w : World) (hl : Ints w v l) :
    Calls Tryd.prog 116 #[v] w fun e w' => e = .returned (errV (memErr l)) ∧ w = w' := by
  obtain ⟨ad, cap, rfl, hlc, hcap⟩ := hl.shape
  have HL := Lib.hid hl
  clear hl
  by_cases h0 : l = []
  · have he : memErr l = 5 := by unfold memErr; rw [if_pos h0]
    have hl0 : l.length = 0 := by rw [h0]; rfl
    have t1 : ((l.length : Int) == 0) = true := by rw [beq_iff_eq]; omega
    have HE := Lib.hid he; have H0 := Lib.hid h0; have HL0 := Lib.hid hl0
    clear he h0 hl0
    go_enter Tryd.func116, Tryd.ntmps116
    go_wp2
    go_ret
    exact ⟨by rw [HE.out]; rfl, rfl⟩
  have hpos : 0 < l.length := by cases l with | nil => exact absurd rfl h0 | cons a r => simp
  have t1 : ((l.length : Int) == 0) = false := by rw [beq_eq_false_iff_ne]; omega
  have he : memErr l = memGo (-1) l := by unfold memErr; rw [if_neg h0]
  have HE := Lib.hid he; have H0 := Lib.hid h0
  clear he h0
  go_enter Tryd.func116, Tryd.ntmps116
  go_wp2_with fail
  go_loop [3, 12] (fun a i => ∃ (k : Nat) (last : Int), k ≤ l.length ∧ i = .int .i64 k ∧ a = .int .i64 last ∧ Hid (memGo last (l.drop k) = memErr l)) (fun _ i => l.length - (intOf i).toNat)
  case atStart => exact ⟨0, -1, Nat.zero_le _, rfl, rfl, Lib.hid HE.out.symm⟩
  case round =>
    obtain ⟨k, last, hk, rfl, rfl, hp⟩ := hrel
    by_cases hlt : k < l.length
    rotate_left
    · have hfin : memErr l = 0 := by
        have := hp.out
        rw [List.drop_of_length_le (by omega)] at this
        exact this.symm
      have HFIN := Lib.hid hfin
      clear hfin
      go_wp2
      go_ret
      exact ⟨by rw [HFIN.out]; rfl, rfl⟩
    obtain ⟨aa, rfl, hca⟩ := HL.out.at k hlt
    obtain ⟨x, hx⟩ : ∃ x, x = l[k] := ⟨_, rfl⟩
    rw [← hx] at hca
    have hd : l.drop k = x :: l.drop (k + 1) := by rw [hx]; exact List.drop_eq_getElem_cons hlt
    have hg := hp.out
    rw [hd, memGo] at hg
    cases hm : isMember x
    · rw [if_pos hm] at hg
      have HM := Lib.hid hm; have HG := Lib.hid hg; have HX := Lib.hid hx; have HD := Lib.hid hd
      clear hm hg hx hd
      go_wp2_with fail
      refine (member_any _ _).mono ?_
      rintro e w' ⟨rfl, rfl⟩
      rw [HM.out]
      go_wp2
      go_ret
      exact ⟨by rw [← HG.out]; rfl, rfl⟩
    rw [if_neg (by rw [hm]; simp)] at hg
    by_cases hle : x ≤ last
    · rw [if_pos hle] at hg
      have t2 : decide (x ≤ last) = true := by simpa using hle
      have HM := Lib.hid hm; have HG := Lib.hid hg; have HX := Lib.hid hx; have HD := Lib.hid hd
      clear hm hg hx hd
      go_wp2_with fail
      refine (member_any _ _).mono ?_
      rintro e w' ⟨rfl, rfl⟩
      rw [HM.out]
      go_wp2
      go_ret
      exact ⟨by rw [← HG.out]; rfl, rfl⟩
    · rw [if_neg hle] at hg
      have t2 : decide (x ≤ last) = false := by simpa using hle
      have HM := Lib.hid hm; have HG := Lib.hid hg; have HX := Lib.hid hx; have HD := Lib.hid hd
      clear hm hg hx hd
      go_wp2_with fail
      refine (member_any _ _).mono ?_
      rintro e w' ⟨rfl, rfl⟩
      rw [HM.out]
      go_wp2
      go_round
      case rel => exact ⟨k + 1, x, by omega, by go_num, rfl, HG⟩
      case measure => simp [intOf]; omega
set_option maxRecDepth 100000 in
set_option maxHeartbeats 4000000 in
theorem viewCheck_any {w0 w : World} {R : HProp} (n : Int) (v : Value) (l : List Int) (h : Own w0 R w) (hv : Reads w0 R v l) :
    Calls Tryd.prog 115 #[.agg #[.int .i64 n, v]] w fun e w' => e = .returned (errV (viewErr n l)) ∧ Own w0 R w' := by
  obtain ⟨ad, cap, hs, hlc, hcap⟩ := (hv _ h).shape
  subst hs
  have ho := h.alloc (.cells #[.int .i64 n, .slice ad l.length cap] 87)
  obtain ⟨b, hb⟩ : ∃ b, b = w.heap.size := ⟨_, rfl⟩
  obtain ⟨w1, hw1⟩ : ∃ w1, w1 = w.alloc (.cells #[.int .i64 n, .slice ad l.length cap] 87) := ⟨_, rfl⟩
  rw [← hb, ← hw1] at ho
  have hl1 : Ints w1 (.slice ad l.length cap) l := hv.more _ ho
  have c0 : w1.cell? ⟨b, 0, none⟩ = some (.int .i64 n) := by rw [ho.cell]; rfl
  have c1 : w1.cell? ⟨b, 1, none⟩ = some (.slice ad l.length cap) := by rw [ho.cell]; rfl
  have H := Lib.hid h; have HV := Lib.hid hv; have HL1 := Lib.hid hl1; have HO := Lib.hid ho
  clear h hv hl1 ho
  go_enter Tryd.func115, Tryd.ntmps115
  go_upto_region 1 with fail
  rw [← hb, ← hw1]
  clear hb hw1
  cases hc : isCount n
  · have he : viewErr n l = 1 := by unfold viewErr; rw [if_pos hc]
    have HC := Lib.hid hc; have HE := Lib.hid he
    clear hc he
    go_wp2_with fail
    refine (count_any _ _).mono ?_
    rintro e w' ⟨rfl, rfl⟩
    rw [HC.out]
    go_wp2
    go_ret
    exact ⟨by rw [HE.out]; rfl, HO.out.drop⟩
  · have he : viewErr n l = memErr l := by unfold viewErr; rw [if_neg (by rw [hc]; simp)]
    have HC := Lib.hid hc; have HE := Lib.hid he
    clear hc he
    go_wp2_with fail
    refine (count_any _ _).mono ?_
    rintro e w' ⟨rfl, rfl⟩
    rw [HC.out]
    go_wp2_with fail
    refine (members_any _ l _ HL1.out).mono ?_
    rintro e w' ⟨rfl, rfl⟩
    go_wp2
    go_ret
    exact ⟨by rw [HE.out]; rfl, HO.out.drop⟩
end Go.Proofs.YtpgonkecicmanaaDoor
