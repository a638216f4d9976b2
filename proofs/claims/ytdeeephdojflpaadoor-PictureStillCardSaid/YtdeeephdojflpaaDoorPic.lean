/- Contracts of package picture: what it owns; has, check, Done, Gold. -/
import Derived.Test.YtdeeephdojflpaaDoorPicR
import Derived.Test.YtdeeephdojflpaaDoorMapOpen
import Derived.Test.YtdeeephdojflpaaDoorFifo
import Derived.Test.YtdeeephdojflpaaDoorSet
import Derived.Test.YtdeeephdojflpaaDoorHeld
import Derived.Test.YtdeeephdojflpaaDoorStable2
import Derived.Test.YtdeeephdojflpaaDoorStar
import Derived.Deep.DeepCutAuto
import Derived.Deep.CutBlock
namespace Go.Proofs.YtdeeephdojflpaaDoor
set_option linter.unusedVariables false
set_option linter.unusedSimpArgs false
open Go.RowKit Go.Maps
theorem pway_lits (n : Nat) (a b : Int) (ha : I64 a) (hb : I64 b) : Tryd.prog.keyLits (n + 2) 158 [.int .i64 a, .int .i64 b] = some [.int .i64 a, .int .i64 b] := by
  have h1 : Tryd.prog.cellsOf 158 = 2 := by kernel_rfl
  have h2 : Tryd.prog.cellsOf 3 = 1 := by kernel_rfl
  simp [Program.keyLits, Tryd.underlying158, Tryd.underlying3, h1, h2, I64_wf ha, I64_wf hb]
theorem pway_ke : KE Tryd.prog 158 plV plOk where
  keyed := Keyed.of_law (deep_law (m := 2) (by omega) (by kernel_rfl) (by kernel_rfl) (by rw [Tryd.underlying158]))
  has := fun x hx => by
    have h1 : Tryd.prog.cellsOf 158 = 2 := by kernel_rfl
    have h2 : Tryd.prog.keyType 158 = true := by kernel_rfl
    have h3 : 0 < Tryd.prog.types.size := of_decide_eq_true (by kernel_rfl)
    obtain ⟨m, hm⟩ := Nat.exists_eq_succ_of_ne_zero (Nat.ne_of_gt h3)
    refine ⟨.string (keyBytes [.int .i64 x.1, .int .i64 x.2]), ?_⟩
    unfold keyOf
    rw [Tryd.underlying158]
    simp [h2, hm, plV, Value.formed, Tryd.underlying158, h1, Value.cells, pway_lits m _ _ hx.1 hx.2]
  inj := fun x y h => by
    unfold plV at h
    simp at h
    exact Prod.ext h.1 h.2
abbrev WRow := (Int × Int) × (Value × List Int)
def iV (x : Int) : Value := .int .i64 x
theorem mapw_kind : Tryd.prog.underlying 152 = some (.map 158 43) := by kernel_rfl
theorem mapo_kind : Tryd.prog.underlying 154 = some (.map 158 3) := by kernel_rfl
theorem mapgi_kind : Tryd.prog.underlying 153 = some (.map 3 3) := by kernel_rfl
theorem i_zero : ∀ w, (zeroValue 3).run Tryd.prog w = .ok (.int .i64 0) w := fun _ => by kernel_rfl
abbrev picB (p mb1 mb2 mb3 gb go gc n : Nat) (bg : Bool) (on : Int) : HProp := blk p (.cells #[.slice (some ⟨gb, go, none⟩) n gc, .map (some mb1), .bool bg, .map (some mb2), .map (some mb3), .int .i64 on] 156 (0, 0))
abbrev goldS (gb go gc n : Nat) (l : List Int) : HProp := SlAt 3 1 gb go n gc (l.map (Value.int .i64))
abbrev waysS (mb1 : Nat) (m : List WRow) : HProp := MpS plV plOk rowP Prod.fst mb1 m
abbrev wroteS (mb2 : Nat) (l : List (Int × Int)) : HProp := Mp (fun n : Int => Value.int .i64 n) I64 mb2 (mvals iV l)
abbrev opnS (mb3 : Nat) (l : List ((Int × Int) × Int)) : HProp := Mp plV plOk mb3 (mvals iV l)
def PicO (p mb1 mb2 mb3 gb go gc n : Nat) (m : List WRow) (s : Pic) : HProp :=
  picB p mb1 mb2 mb3 gb go gc n s.begun s.onWay * (goldS gb go gc n s.gold * (waysS mb1 m * (wroteS mb2 s.wrote * opnS mb3 s.opn)))
def PicA (p mb1 mb2 mb3 gb go gc n : Nat) (s : Pic) : HProp := hex fun m : List WRow => pur (mvals Prod.snd m = s.ways) * PicO p mb1 mb2 mb3 gb go gc n m s
section
variable {w0 w : World} {p mb1 mb2 mb3 gb go gc n : Nat} {m : List WRow} {s : Pic} {R : HProp}
theorem Own.pic_open (h : Own w0 (PicA p mb1 mb2 mb3 gb go gc n s * R) w) : ∃ m, mvals Prod.snd m = s.ways ∧ Own w0 (PicO p mb1 mb2 mb3 gb go gc n m s * R) w := by
  obtain ⟨m, h⟩ := Own.ex h
  rw [star_assoc] at h
  obtain ⟨he, h⟩ := Own.pur_out h
  exact ⟨m, he, h⟩
theorem Own.pic_close (he : mvals Prod.snd m = s.ways) (h : Own w0 (PicO p mb1 mb2 mb3 gb go gc n m s * R) w) : Own w0 (PicA p mb1 mb2 mb3 gb go gc n s * R) w := by
  refine Own.ex_mk m ?_
  rw [star_assoc]
  exact Own.pur_mk he h
theorem Own.pic_blk (h : Own w0 (PicO p mb1 mb2 mb3 gb go gc n m s * R) w) : Own w0 (picB p mb1 mb2 mb3 gb go gc n s.begun s.onWay * (goldS gb go gc n s.gold * (waysS mb1 m * (wroteS mb2 s.wrote * (opnS mb3 s.opn * R))))) w := h.perm (by unfold PicO; ac_rfl)
theorem Own.pic_gold (h : Own w0 (PicO p mb1 mb2 mb3 gb go gc n m s * R) w) : Own w0 (goldS gb go gc n s.gold * (picB p mb1 mb2 mb3 gb go gc n s.begun s.onWay * (waysS mb1 m * (wroteS mb2 s.wrote * (opnS mb3 s.opn * R))))) w := h.perm (by unfold PicO; ac_rfl)
theorem Own.pic_ways (h : Own w0 (PicO p mb1 mb2 mb3 gb go gc n m s * R) w) : Own w0 (waysS mb1 m * (picB p mb1 mb2 mb3 gb go gc n s.begun s.onWay * (goldS gb go gc n s.gold * (wroteS mb2 s.wrote * (opnS mb3 s.opn * R))))) w := h.perm (by unfold PicO; ac_rfl)
theorem Own.pic_wrote (h : Own w0 (PicO p mb1 mb2 mb3 gb go gc n m s * R) w) : Own w0 (wroteS mb2 s.wrote * (picB p mb1 mb2 mb3 gb go gc n s.begun s.onWay * (goldS gb go gc n s.gold * (waysS mb1 m * (opnS mb3 s.opn * R))))) w := h.perm (by unfold PicO; ac_rfl)
theorem Own.pic_opn (h : Own w0 (PicO p mb1 mb2 mb3 gb go gc n m s * R) w) : Own w0 (opnS mb3 s.opn * (picB p mb1 mb2 mb3 gb go gc n s.begun s.onWay * (goldS gb go gc n s.gold * (waysS mb1 m * (wroteS mb2 s.wrote * R))))) w := h.perm (by unfold PicO; ac_rfl)
theorem Own.pic_facts (h : Own w0 (PicO p mb1 mb2 mb3 gb go gc n m s * R) w) :
    w.cell? ⟨p, 0, none⟩ = some (.slice (some ⟨gb, go, none⟩) n gc) ∧ w.cell? ⟨p, 1, none⟩ = some (.map (some mb1)) ∧ w.cell? ⟨p, 2, none⟩ = some (.bool s.begun) ∧ w.cell? ⟨p, 3, none⟩ = some (.map (some mb2)) ∧ w.cell? ⟨p, 4, none⟩ = some (.map (some mb3)) ∧ w.cell? ⟨p, 5, none⟩ = some (.int .i64 s.onWay) ∧ (∀ i t, w.frozen? ⟨p, i, t⟩ = false) :=
  ⟨(h.pic_blk.cell 0).trans rfl, (h.pic_blk.cell 1).trans rfl, (h.pic_blk.cell 2).trans rfl, (h.pic_blk.cell 3).trans rfl, (h.pic_blk.cell 4).trans rfl, (h.pic_blk.cell 5).trans rfl, fun i t => h.pic_blk.free i t⟩
theorem Own.pic_n (h : Own w0 (PicO p mb1 mb2 mb3 gb go gc n m s * R) w) : s.gold.length = n ∧ n ≤ gc ∧ gc ≤ maxLen ∧ (∀ i t, w.frozen? ⟨gb, i, t⟩ = false) := by
  obtain ⟨h1, h2, h3, _, h5, _⟩ := h.pic_gold.slAt_facts
  exact ⟨by simpa using h3, h1, h2, h5⟩
theorem Own.pic_at (h : Own w0 (PicO p mb1 mb2 mb3 gb go gc n m s * R) w) {who : Int} (hw : pcHas s who = true) : w.cell? ⟨gb, go + who.toNat, none⟩ = some (.int .i64 (pcG s who)) := by
  have hb := pcHas_bd hw
  obtain ⟨_, _, _, h4, _⟩ := h.pic_gold.slAt_facts
  refine h4 who.toNat _ ?_
  rw [List.getElem?_map, List.getElem?_eq_getElem (by omega)]
  unfold pcG gAt
  rw [if_pos hb.1, List.getD_eq_getElem?_getD, List.getElem?_eq_getElem (by omega)]
  rfl
/-- What the map of rows gives at a way. -/
theorem Own.pic_row (h : Own w0 (PicO p mb1 mb2 mb3 gb go gc n m s * R) w) (x : Int × Int) (hx : plOk x) :
    (Instr.lookup 152 (.map (some mb1)) (.agg #[.int .i64 x.1, .int .i64 x.2]) false).run Tryd.prog w = .ok ((mget m x).getD nilRow).1 w := by
  have h1 := (h.pic_ways.ms_take nilRow rowP_nil x).drop.map_look pway_ke mapw_kind ints_zero hx false
  rw [if_neg (by decide)] at h1
  have h2 := mget_val Prod.fst m x nilRow
  rw [show (nilRow).1 = Value.slice none 0 0 from rfl] at h2
  rw [h2] at h1
  exact h1
theorem Own.pic_lw (h : Own w0 (PicO p mb1 mb2 mb3 gb go gc n m s * R) w) (x : Int) (hx : I64 x) :
    (Instr.lookup 153 (.map (some mb2)) (.int .i64 x) true).run Tryd.prog w = .ok (.tuple #[.int .i64 ((mget s.wrote x).getD 0), .bool (mget s.wrote x).isSome]) w := by
  have h1 := h.pic_wrote.map_look (int_ke int_kind) mapgi_kind i_zero hx true
  rw [mget_mvals] at h1
  cases hg : mget s.wrote x <;> rw [hg] at h1 <;> exact h1
theorem Own.pic_lo (h : Own w0 (PicO p mb1 mb2 mb3 gb go gc n m s * R) w) (x : Int × Int) (hx : plOk x) :
    (Instr.lookup 154 (.map (some mb3)) (.agg #[.int .i64 x.1, .int .i64 x.2]) false).run Tryd.prog w = .ok (.int .i64 ((mget s.opn x).getD 0)) w := by
  have h1 := h.pic_opn.map_look pway_ke mapo_kind i_zero hx false
  rw [mget_mvals, if_neg (by decide)] at h1
  cases hg : mget s.opn x <;> rw [hg] at h1 <;> exact h1
theorem Own.pic_lo2 (h : Own w0 (PicO p mb1 mb2 mb3 gb go gc n m s * R) w) (x : Int × Int) (hx : plOk x) :
    (Instr.lookup 154 (.map (some mb3)) (.agg #[.int .i64 x.1, .int .i64 x.2]) true).run Tryd.prog w = .ok (.tuple #[.int .i64 ((mget s.opn x).getD 0), .bool (mget s.opn x).isSome]) w := by
  have h1 := h.pic_opn.map_look pway_ke mapo_kind i_zero hx true
  rw [mget_mvals] at h1
  cases hg : mget s.opn x <;> rw [hg] at h1 <;> exact h1
end
theorem pcRow_of {s : Pic} {m : List WRow} (he : mvals Prod.snd m = s.ways) (a b : Int) : ((mget m (a, b)).getD nilRow).2 = pcRow s a b := by
  unfold pcRow; rw [← he, mget_mvals]; cases mget m (a, b) <;> rfl
/-- What fits: for the walks. -/
structure PicOk (s : Pic) : Prop where
  n5 : s.gold.length ≤ 5
  gold : ∀ a, 0 ≤ pcG s a ∧ pcG s a ≤ 1000000
  on : 0 ≤ s.onWay ∧ s.onWay ≤ 1000000
  row : ∀ a b, (pcRow s a b).length ≤ 1000 ∧ ∀ y ∈ pcRow s a b, 0 ≤ y ∧ y ≤ 1000000
  opn : ∀ a b, 0 ≤ (mget s.opn (a, b)).getD 0 ∧ (mget s.opn (a, b)).getD 0 ≤ 1000000
  wrote : ∀ p ∈ s.wrote, 0 ≤ p.2 ∧ p.2 ≤ 1000000
  few : s.wrote.length ≤ 5
theorem Own.pic_rd {w0 w : World} {p mb1 mb2 mb3 gb go gc n : Nat} {m : List WRow} {s : Pic} {R : HProp} (he : mvals Prod.snd m = s.ways) (h : Own w0 (PicO p mb1 mb2 mb3 gb go gc n m s * R) w) (a b : Int) (hI : ∀ y ∈ pcRow s a b, I64 y) : Ints w ((mget m (a, b)).getD nilRow).1 (pcRow s a b) := by
  have h1 := h.pic_ways.ms_take nilRow rowP_nil (a, b)
  have h2 : Own w0 (IntSl ((mget m (a, b)).getD nilRow).1 ((mget m (a, b)).getD nilRow).2 * _) w := h1
  rw [pcRow_of he] at h2
  exact IntSl_reads hI _ h2
set_option maxRecDepth 100000 in
set_option maxHeartbeats 4000000 in
theorem pHas_any {w0 w : World} {R : HProp} {p mb1 mb2 mb3 gb go gc n : Nat} {m : List WRow} (s : Pic) (who : Int) (h : Own w0 (PicO p mb1 mb2 mb3 gb go gc n m s * R) w) :
    Calls Tryd.prog 90 #[.pointer (some ⟨p, 0, none⟩), .int .i64 who] w fun e w' => e = .returned (.bool (pcHas s who)) ∧ w = w' := by
  obtain ⟨c0, _⟩ := h.pic_facts
  obtain ⟨hn, _⟩ := h.pic_n
  obtain ⟨D1, hD1⟩ : ∃ D, D = decide (0 ≤ who) := ⟨_, rfl⟩
  obtain ⟨D2, hD2⟩ : ∃ D, D = decide (who < (n : Int)) := ⟨_, rfl⟩
  have hP : pcHas s who = (D1 && D2) := by unfold pcHas; rw [hD1, hD2, hn]
  rw [hP]
  have t1 := hD1.symm
  have t2 := hD2.symm
  have H := Lib.hid h; have HN := Lib.hid hn; have HD1 := Lib.hid hD1; have HD2 := Lib.hid hD2; have HP := Lib.hid hP
  clear h hn hD1 hD2 hP
  go_enter Tryd.func90, Tryd.ntmps90
  cases D1
  · go_wp2
    go_ret
    exact ⟨rfl, rfl⟩
  · go_wp2
    go_ret
    exact ⟨rfl, rfl⟩
set_option maxRecDepth 100000 in
set_option maxHeartbeats 4000000 in
theorem pCheck_any {w0 w : World} {R : HProp} {p mb1 mb2 mb3 gb go gc n : Nat} (s : Pic) (a b : Int) (h : Own w0 (PicA p mb1 mb2 mb3 gb go gc n s * R) w) :
    Calls Tryd.prog 92 #[.pointer (some ⟨p, 0, none⟩), .agg #[.int .i64 a, .int .i64 b]] w fun e w' => e = .returned (errV (pcWay s a b)) ∧ Own w0 (PicA p mb1 mb2 mb3 gb go gc n s * R) w' := by
  obtain ⟨m, hm, ho⟩ := h.pic_open
  obtain ⟨b1, hb_b1⟩ : ∃ zz_, zz_ = (w).heap.size := ⟨_, rfl⟩
  obtain ⟨w1, hw_w1⟩ : ∃ zz_, zz_ = (w).alloc (.cells #[.int .i64 a, .int .i64 b] 158 (0, 0)) := ⟨_, rfl⟩
  have h_HO1 := (ho).alloc (.cells #[.int .i64 a, .int .i64 b] 158 (0, 0))
  rw [← hb_b1, ← hw_w1] at h_HO1
  have HO1 := Lib.hid h_HO1
  clear h_HO1
  have x0 : w1.cell? ⟨b1, 0, none⟩ = some (.int .i64 a) := (HO1.out.cell 0).trans rfl
  have x1 : w1.cell? ⟨b1, 1, none⟩ = some (.int .i64 b) := (HO1.out.cell 1).trans rfl
  have HP1 : Hid (Own w0 (PicO p mb1 mb2 mb3 gb go gc n m s * R) w1) := Lib.hid HO1.out.drop
  obtain ⟨E, hE⟩ : ∃ E, E = pcWay s a b := ⟨_, rfl⟩
  rw [← hE]
  unfold pcWay at hE
  have H := Lib.hid h; have HO := Lib.hid ho; have HM := Lib.hid hm
  clear h ho hm
  cases h1 : pcHas s a
  · rw [if_pos h1] at hE
    subst hE
    have H1 := Lib.hid h1
    clear h1
    go_enter Tryd.func92, Tryd.ntmps92
    go_upto_block 0 with fail
    rw [← hb_b1, ← hw_w1]
    clear hb_b1 hw_w1
    go_wp2_with fail
    refine (pHas_any s a HP1.out).mono ?_
    rintro e w' ⟨rfl, rfl⟩
    rw [H1.out]
    go_wp2
    go_ret
    exact ⟨rfl, HP1.out.pic_close HM.out⟩
  rw [if_neg (by rw [h1]; simp)] at hE
  cases h2 : pcHas s b
  · rw [if_pos h2] at hE
    subst hE
    have H1 := Lib.hid h1; have H2 := Lib.hid h2
    clear h1 h2
    go_enter Tryd.func92, Tryd.ntmps92
    go_upto_block 0 with fail
    rw [← hb_b1, ← hw_w1]
    clear hb_b1 hw_w1
    go_wp2_with fail
    refine (pHas_any s a HP1.out).mono ?_
    rintro e w' ⟨rfl, rfl⟩
    rw [H1.out]
    go_wp2_with fail
    refine (pHas_any s b HP1.out).mono ?_
    rintro e w' ⟨rfl, rfl⟩
    rw [H2.out]
    go_wp2
    go_ret
    exact ⟨rfl, HP1.out.pic_close HM.out⟩
  rw [if_neg (by rw [h2]; simp)] at hE
  by_cases hab : a = b
  · subst hab
    rw [if_pos rfl] at hE
    subst hE
    have H1 := Lib.hid h1; have H2 := Lib.hid h2
    clear h1 h2
    go_enter Tryd.func92, Tryd.ntmps92
    go_upto_block 0 with fail
    rw [← hb_b1, ← hw_w1]
    clear hb_b1 hw_w1
    go_wp2_with fail
    refine (pHas_any s a HP1.out).mono ?_
    rintro e w' ⟨rfl, rfl⟩
    rw [H1.out]
    go_wp2_with fail
    refine (pHas_any s a HP1.out).mono ?_
    rintro e w' ⟨rfl, rfl⟩
    rw [H2.out]
    go_wp2
    go_ret
    exact ⟨rfl, HP1.out.pic_close HM.out⟩
  · rw [if_neg hab] at hE
    subst hE
    have t1 : (a == b) = false := by rw [beq_eq_false_iff_ne]; exact hab
    have H1 := Lib.hid h1; have H2 := Lib.hid h2; have HAB := Lib.hid hab
    clear h1 h2 hab
    go_enter Tryd.func92, Tryd.ntmps92
    go_upto_block 0 with fail
    rw [← hb_b1, ← hw_w1]
    clear hb_b1 hw_w1
    go_wp2_with fail
    refine (pHas_any s a HP1.out).mono ?_
    rintro e w' ⟨rfl, rfl⟩
    rw [H1.out]
    go_wp2_with fail
    refine (pHas_any s b HP1.out).mono ?_
    rintro e w' ⟨rfl, rfl⟩
    rw [H2.out]
    go_wp2
    go_ret
    exact ⟨rfl, HP1.out.pic_close HM.out⟩
set_option maxRecDepth 100000 in
set_option maxHeartbeats 4000000 in
theorem pGold_any {w0 w : World} {R : HProp} {p mb1 mb2 mb3 gb go gc n : Nat} (s : Pic) (who : Int) (h : Own w0 (PicA p mb1 mb2 mb3 gb go gc n s * R) w) :
    Calls Tryd.prog 60 #[.pointer (some ⟨p, 0, none⟩), .int .i64 who] w fun e w' => e = .returned (.tuple #[.int .i64 (if pcHas s who = true then pcG s who else 0), errV (if pcHas s who = true then 0 else 1)]) ∧ Own w0 (PicA p mb1 mb2 mb3 gb go gc n s * R) w' := by
  obtain ⟨m, hm, ho⟩ := h.pic_open
  obtain ⟨c0, _⟩ := ho.pic_facts
  obtain ⟨hn, hnc, hcm, _⟩ := ho.pic_n
  cases h1 : pcHas s who
  · rw [if_neg (by simp), if_neg (by simp)]
    have H := Lib.hid h; have HO := Lib.hid ho; have HM := Lib.hid hm; have H1 := Lib.hid h1; have HN := Lib.hid hn
    clear h ho hm h1 hn
    go_enter Tryd.func60, Tryd.ntmps60
    go_wp2_with fail
    refine (pHas_any s who HO.out).mono ?_
    rintro e w' ⟨rfl, rfl⟩
    rw [H1.out]
    go_wp2
    go_ret2
    exact ⟨rfl, H.out⟩
  · have hb := pcHas_bd h1
    have hc := ho.pic_at h1
    rw [hn] at hb
    obtain ⟨k, rfl⟩ : ∃ k : Nat, who = k := ⟨who.toNat, by omega⟩
    rw [Int.toNat_natCast] at hc
    obtain ⟨x, hx⟩ : ∃ x, x = pcG s k := ⟨_, rfl⟩
    rw [← hx] at hc
    rw [if_pos rfl, if_pos rfl, ← hx]
    have hk : k < n := by omega
    have H := Lib.hid h; have HO := Lib.hid ho; have HM := Lib.hid hm; have H1 := Lib.hid h1; have HN := Lib.hid hn; have HX := Lib.hid hx; have HB := Lib.hid hb
    clear h ho hm h1 hn hx hb
    go_enter Tryd.func60, Tryd.ntmps60
    go_wp2_with fail
    refine (pHas_any s k HO.out).mono ?_
    rintro e w' ⟨rfl, rfl⟩
    rw [H1.out]
    go_wp2
    go_ret2
    exact ⟨rfl, H.out⟩
set_option maxRecDepth 100000 in
set_option maxHeartbeats 4000000 in
theorem pDone_any {w0 w : World} {R : HProp} {p mb1 mb2 mb3 gb go gc n : Nat} (s : Pic) (h : Own w0 (PicA p mb1 mb2 mb3 gb go gc n s * R) w) :
    Calls Tryd.prog 57 #[.pointer (some ⟨p, 0, none⟩)] w fun e w' => e = .returned (.bool (pcDone s)) ∧ Own w0 (PicA p mb1 mb2 mb3 gb go gc n s * R) w' := by
  obtain ⟨m, hm, ho⟩ := h.pic_open
  obtain ⟨c0, _, _, c3, c4, _⟩ := ho.pic_facts
  obtain ⟨hn, _⟩ := ho.pic_n
  have l1 := fun k => (ho.drewN k).pic_wrote.map_len mapgi_kind 3
  have l2 := fun k => (ho.drewN k).pic_opn.map_len mapo_kind 3
  simp only [mvals_len] at l1 l2
  obtain ⟨x, hx⟩ : ∃ x, x = s.wrote.length := ⟨_, rfl⟩
  obtain ⟨y, hy⟩ : ∃ x, x = s.opn.length := ⟨_, rfl⟩
  simp only [← hx] at l1
  simp only [← hy] at l2
  obtain ⟨D1, hD1⟩ : ∃ D, D = ((x : Int) == (n : Int)) := ⟨_, rfl⟩
  obtain ⟨D2, hD2⟩ : ∃ D, D = ((y : Int) == 0) := ⟨_, rfl⟩
  have hP : pcDone s = (D1 && D2) := by
    unfold pcDone
    rw [hD1, hD2, ← hx, ← hy, hn]
    congr 1 <;> rw [eq_comm, Bool.eq_iff_iff] <;> simp <;> omega
  rw [hP]
  have t1 := hD1.symm
  have t2 := hD2.symm
  have H := Lib.hid h; have HO := Lib.hid ho; have HM := Lib.hid hm; have HN := Lib.hid hn; have HX := Lib.hid hx; have HY := Lib.hid hy; have HD1 := Lib.hid hD1; have HD2 := Lib.hid hD2; have HP := Lib.hid hP
  clear h ho hm hn hx hy hD1 hD2 hP
  go_enter Tryd.func57, Tryd.ntmps57
  cases D1
  · go_wp2_with fail
    go_quiet (fail)
    go_wp2_with fail
    go_ret
    exact ⟨rfl, H.out.drewN _⟩
  · go_wp2_with fail
    go_quiet (fail)
    go_wp2_with fail
    go_ret
    exact ⟨rfl, H.out.drewN _⟩
end Go.Proofs.YtdeeephdojflpaaDoor
