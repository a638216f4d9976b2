/- Contracts of package picture: mark. -/
import Derived.Test.YtdeeephdojflpaaDoorPic2
namespace Go.Proofs.YtdeeephdojflpaaDoor
set_option linter.unusedVariables false
set_option linter.unusedSimpArgs false
open Go.RowKit Go.Maps
theorem markW_opn {s : Pic} (hok : PicOk s) (b x y : Int) : (0 ≤ (mget (pcMarkW s b).opn (x, y)).getD 0 ∧ (mget (pcMarkW s b).opn (x, y)).getD 0 ≤ 1000000) ∧ (pcMarkW s b).onWay = s.onWay := by
  unfold pcMarkW
  split
  · exact ⟨hok.opn x y, rfl⟩
  · have h := write_out s b
    refine ⟨?_, h.on⟩
    rw [h.opn]
    split
    · exact ⟨by simp, by simp⟩
    · exact hok.opn x y
theorem Own.pic_on_put {w0 w : World} {p mb1 mb2 mb3 gb go gc n : Nat} {m : List WRow} {s : Pic} {R : HProp} {v : Int} (h : Own w0 (PicO p mb1 mb2 mb3 gb go gc n m s * R) w) : Own w0 (PicO p mb1 mb2 mb3 gb go gc n m { s with onWay := v } * R) (w.setCell ⟨p, 5, none⟩ (.int .i64 v)) :=
  (h.pic_blk.setCell (i := 5) (v := .int .i64 v)).perm (by unfold PicO; show (picB p mb1 mb2 mb3 gb go gc n s.begun v * _ : HProp) = _; ac_rfl)
set_option maxRecDepth 100000 in
set_option maxHeartbeats 4000000 in
theorem pMark_any {w0 w : World} {R : HProp} {p mb1 mb2 mb3 gb go gc n : Nat} (s : Pic) (a b : Int) (ha : pcHas s a = true) (hb : pcHas s b = true) (hok : PicOk s) (h : Own w0 (PicA p mb1 mb2 mb3 gb go gc n s * R) w) :
    Calls Tryd.prog 93 #[.pointer (some ⟨p, 0, none⟩), .agg #[.int .i64 a, .int .i64 b]] w fun e w' => e = .returned (.tuple #[]) ∧ Own w0 (PicA p mb1 mb2 mb3 gb go gc n (pcMark s a b) * R) w' := by
  have haI := pcHas_small hok.n5 ha
  have hbI := pcHas_small hok.n5 hb
  have hx : plOk (a, b) := ⟨haI, hbI⟩
  obtain ⟨b1, hb_b1⟩ : ∃ zz_, zz_ = (w).heap.size := ⟨_, rfl⟩
  obtain ⟨w1, hw_w1⟩ : ∃ zz_, zz_ = (w).alloc (.cells #[.int .i64 a, .int .i64 b] 158 (0, 0)) := ⟨_, rfl⟩
  have h_HO1 := (h).alloc (.cells #[.int .i64 a, .int .i64 b] 158 (0, 0))
  rw [← hb_b1, ← hw_w1] at h_HO1
  have HO1 := Lib.hid h_HO1
  clear h_HO1
  obtain ⟨Y, hY⟩ : ∃ Y, Y = blk b1 (.cells #[.int .i64 a, .int .i64 b] 158 (0, 0)) * R := ⟨_, rfl⟩
  have HYC : Hid (∀ w', Own w0 Y w' → w'.cell? ⟨b1, 0, none⟩ = some (.int .i64 a) ∧ w'.cell? ⟨b1, 1, none⟩ = some (.int .i64 b)) := Lib.hid (fun w' h => by rw [hY] at h; exact ⟨(h.cell 0).trans rfl, (h.cell 1).trans rfl⟩)
  have HP : Hid (Own w0 (PicA p mb1 mb2 mb3 gb go gc n s * Y) w1) := Lib.hid (by rw [hY]; exact HO1.out.second)
  clear HO1 h
  obtain ⟨m, hm, ho⟩ := HP.out.pic_open
  obtain ⟨c0, _, _, c3, _⟩ := ho.drew.pic_facts
  obtain ⟨x0, x1⟩ := HYC.out _ ho.drop.drew
  have hlk := ho.drew.pic_lw b hbI
  obtain ⟨D, hD⟩ : ∃ D, D = (mget s.wrote b).isSome := ⟨_, rfl⟩
  obtain ⟨g, hg⟩ : ∃ D, D = (mget s.wrote b).getD 0 := ⟨_, rfl⟩
  rw [← hD, ← hg] at hlk
  obtain ⟨t, ht⟩ : ∃ t, t = pcMarkW s b := ⟨_, rfl⟩
  have ht1 : D = true → t = s := fun h => by rw [ht]; unfold pcMarkW; rw [if_pos (by rw [← hD]; exact h)]
  have ht2 : D = false → t = pcWrite s b := fun h => by rw [ht]; unfold pcMarkW; rw [if_neg (by rw [← hD, h]; simp)]
  obtain ⟨⟨hz1, hz2⟩, hon⟩ := markW_opn hok b a b
  have hon2 := hok.on
  rw [← ht] at hz1 hz2 hon
  have HO := Lib.hid ho; have HM := Lib.hid hm; have HAI := Lib.hid haI; have HBI := Lib.hid hbI; have HX := Lib.hid hx; have HY := Lib.hid hY; have HD := Lib.hid hD; have HG := Lib.hid hg; have HT := Lib.hid ht; have HT1 := Lib.hid ht1; have HT2 := Lib.hid ht2; have HA := Lib.hid ha; have HB := Lib.hid hb; have HOK := Lib.hid hok; have HON := Lib.hid hon; have HON2 := Lib.hid hon2
  clear ho hm haI hbI hx hY hD hg ht ht1 ht2 ha hb hok hon hon2
  go_enter Tryd.func93, Tryd.ntmps93
  go_upto_region 1 with fail
  rw [← hb_b1, ← hw_w1]
  clear hb_b1 hw_w1
  refine wp_region_planH 11 [] [(true, 0), (true, 1), (true, 2), (true, 3), (true, 4), (true, 5), (true, 6), (true, 7), (true, 8), (true, 9), (false, 10)] [11] (fun wS => wS = w1.drew) (by kernel_rfl) (by kernel_rfl) (rfl) ?_
  simp only [pickH, pick, List.getElem?_cons_succ, List.getElem?_cons_zero, Option.toList, Option.map_some, List.cons_append, List.nil_append]
  repeat (refine wpPure_step ?_ rfl ?_ ?_; rotate_left; (focus (intro _; first | with_reducible rfl | (go_simp; done) | (go_simp; with_reducible rfl) | rfl)); go_simp)
  refine wpPure_nil ?_
  repeat (refine wpMix_read ?_ rfl ?_ ?_; rotate_left; (focus (intro _ hS; obtain rfl := hS; first | with_reducible rfl | (go_simp; done) | (go_simp; with_reducible rfl) | rfl)); go_simp)
  refine wpMix_write (fun K hK => ?_)
  go_simp
  refine hK _ _ ⟨rfl, ?_⟩
  clear hK K
  go_simp
  repeat (refine wpMix_read ?_ rfl ?_ ?_; rotate_left; (focus (intro _ hS; obtain rfl := hS; first | with_reducible rfl | (go_simp; done) | (go_simp; with_reducible rfl) | rfl)); go_simp)
  refine wpMix_nil ?_
  go_wp2_with fail
  refine NoPanic.normal ?_
  clear c0 c3 x0 x1 hlk
  obtain ⟨x0, x1⟩ := HYC.out _ HO.out.drop.drew
  go_upto_if 17 with fail
  go_cut [] (fun wx => Own w0 (PicA p mb1 mb2 mb3 gb go gc n t * Y) wx)
  case first =>
    cases D
    · go_wp2_with fail
      refine (pWrite_any s b HB.out HOK.out HP.out.drew).mono ?_
      rintro e w2 ⟨rfl, ho2⟩
      rw [← HT2.out (by simp)] at ho2
      have HO2 := Lib.hid ho2
      clear ho2
      go_wp2_with fail
      go_meet
      exact HO2.out
    · go_wp2_with fail
      go_meet
      rw [HT1.out (by simp)]
      exact HP.out.drew
  case rest =>
  clear x0 x1
  have HQ := Lib.hid hcut
  clear hcut HO HM HP
  obtain ⟨m, hm, ho⟩ := HQ.out.pic_open
  obtain ⟨_, _, _, _, c4, c5, cf⟩ := ho.drew.pic_facts
  obtain ⟨x0, x1⟩ := HYC.out _ ho.drop.drew
  have hlk := ho.drew.pic_lo (a, b) HX.out
  simp only at hlk
  have f5 := cf 5 none
  obtain ⟨z, hz⟩ : ∃ z, z = (mget t.opn (a, b)).getD 0 := ⟨_, rfl⟩
  obtain ⟨o, hoo⟩ : ∃ z, z = t.onWay := ⟨_, rfl⟩
  rw [← hz] at hlk hz1 hz2
  rw [← hoo] at c5
  have ho1 : 0 ≤ o ∧ o ≤ 1000000 := by rw [hoo, HON.out]; exact HON2.out
  have hwr : IntKind.i64.wrap (o + z) = o + z := by rw [IntKind.wrap_i64]; omega
  have HS : Hid (Own w0 (PicO p mb1 mb2 mb3 gb go gc n m { t with onWay := o + z } * Y) ((wc.setCell ⟨p, 5, none⟩ (.int .i64 (o + z))).drew)) := Lib.hid ho.pic_on_put.drew
  clear cf
  have HO := Lib.hid ho; have HM := Lib.hid hm; have HZ := Lib.hid hz; have HOO := Lib.hid hoo
  clear ho hm hz hoo
  go_upto_region 4 with fail
  refine wp_region_planH 13 [] [(true, 0), (true, 1), (true, 2), (true, 3), (true, 4), (true, 5), (true, 6), (true, 7), (true, 8), (true, 9), (true, 10), (true, 11), (true, 12)] [13] (fun wS => wS = wc.drew) (by kernel_rfl) (by kernel_rfl) (rfl) ?_
  simp only [pickH, pick, List.getElem?_cons_succ, List.getElem?_cons_zero, Option.toList, Option.map_some, List.cons_append, List.nil_append]
  repeat (refine wpPure_step ?_ rfl ?_ ?_; rotate_left; (focus (intro _; first | with_reducible rfl | (go_simp; done) | (go_simp; with_reducible rfl) | rfl)); go_simp)
  refine wpPure_nil ?_
  repeat (refine wpMix_read ?_ rfl ?_ ?_; rotate_left; (focus (intro _ hS; obtain rfl := hS; first | with_reducible rfl | (go_simp; done) | (go_simp; with_reducible rfl) | rfl)); go_simp)
  refine wpMix_nil ?_
  go_wp2_with fail
  refine NoPanic.normal ?_
  obtain ⟨t2, ht2⟩ : ∃ t2 : Pic, t2 = { t with onWay := o + z } := ⟨_, rfl⟩
  obtain ⟨w4, hw4⟩ : ∃ w4, w4 = (wc.setCell ⟨p, 5, none⟩ (.int .i64 (o + z))).drew := ⟨_, rfl⟩
  rw [← ht2, ← hw4] at HS
  rw [← hw4]
  clear c4 c5 x0 x1 hlk f5 hwr
  obtain ⟨_, _, _, _, c4, _⟩ := HS.out.drew.pic_facts
  obtain ⟨x0, x1⟩ := HYC.out _ HS.out.drop.drew
  have hmv : mvals Prod.snd m = t2.ways := by rw [ht2]; exact HM.out
  have hfin : pcMark s a b = { t2 with opn := mdel t2.opn (a, b) } := by
    unfold pcMark
    rw [← HT.out, ht2]
    unfold pcMarkO
    rw [← HZ.out, ← HOO.out]
  have HT2 := Lib.hid ht2; have HW4 := Lib.hid hw4; have HMV := Lib.hid hmv; have HFIN := Lib.hid hfin
  clear ht2 hw4 hmv hfin
  go_upto_region 5 with fail
  refine wp_region_planH 5 [] [(true, 0), (true, 1), (true, 2), (true, 3), (true, 4)] [5] (fun wS => wS = w4.drew) (by kernel_rfl) (by kernel_rfl) (rfl) ?_
  simp only [pickH, pick, List.getElem?_cons_succ, List.getElem?_cons_zero, Option.toList, Option.map_some, List.cons_append, List.nil_append]
  repeat (refine wpPure_step ?_ rfl ?_ ?_; rotate_left; (focus (intro _; first | with_reducible rfl | (go_simp; done) | (go_simp; with_reducible rfl) | rfl)); go_simp)
  refine wpPure_nil ?_
  repeat (refine wpMix_read ?_ rfl ?_ ?_; rotate_left; (focus (intro _ hS; obtain rfl := hS; first | with_reducible rfl | (go_simp; done) | (go_simp; with_reducible rfl) | rfl)); go_simp)
  refine wpMix_nil ?_
  go_wp2_with (at_delete; refine wpList_del pway_ke mapo_kind HS.out.drew.pic_opn (x := (a, b)) HX.out rfl _ _ rfl rfl rfl ?_; intro w5 ho5; rw [mdel_mvals] at ho5; have HO5 := Lib.hid ho5; clear ho5)
  refine NoPanic.normal ?_
  go_wp2
  refine bodyPost_end (results_none rfl _ _ _) rfl ⟨rfl, ?_⟩
  rw [HFIN.out]
  have h9 : Own w0 (PicA p mb1 mb2 mb3 gb go gc n { t2 with opn := mdel t2.opn (a, b) } * Y) w5 := (Own.pic_opn_put (s := t2) (o := mdel t2.opn (a, b)) HO5.out).pic_close HMV.out
  rw [HY.out] at h9
  exact h9.second.drop
end Go.Proofs.YtdeeephdojflpaaDoor
