/- Contracts of package picture: Come. -/
import Derived.Test.YtdeeephdojflpaaDoorPic4
namespace Go.Proofs.YtdeeephdojflpaaDoor
set_option linter.unusedVariables false
set_option linter.unusedSimpArgs false
open Go.RowKit Go.Maps
set_option maxRecDepth 100000 in
set_option maxHeartbeats 4000000 in
theorem pCome_any {w0 w : World} {R : HProp} {p mb1 mb2 mb3 gb go gc n : Nat} (s : Pic) (a b : Int) (hok : PicOk s) (hok2 : PicOk (pcPop s a b)) (h : Own w0 (PicA p mb1 mb2 mb3 gb go gc n s * R) w) :
    Calls Tryd.prog 55 #[.pointer (some ⟨p, 0, none⟩), .int .i64 a, .int .i64 b] w fun e w' => e = .returned (.tuple #[.int .i64 (pcComeVal s a b), errV (pcComeErr s a b)]) ∧ Own w0 (PicA p mb1 mb2 mb3 gb go gc n (pcCome s a b) * R) w' := by
  obtain ⟨b1, hb_b1⟩ : ∃ zz_, zz_ = (w).heap.size := ⟨_, rfl⟩
  obtain ⟨w1, hw_w1⟩ : ∃ zz_, zz_ = (w).alloc (.cells #[.int .i64 a, .int .i64 b] 158 (0, 0)) := ⟨_, rfl⟩
  have h_HO1 := (h).alloc (.cells #[.int .i64 a, .int .i64 b] 158 (0, 0))
  rw [← hb_b1, ← hw_w1] at h_HO1
  have HO1 := Lib.hid h_HO1
  clear h_HO1
  obtain ⟨Y, hY⟩ : ∃ Y, Y = blk b1 (.cells #[.int .i64 a, .int .i64 b] 158 (0, 0)) * R := ⟨_, rfl⟩
  have HYC : Hid (∀ w', Own w0 Y w' → w'.cell? ⟨b1, 0, none⟩ = some (.int .i64 a) ∧ w'.cell? ⟨b1, 1, none⟩ = some (.int .i64 b)) := Lib.hid (fun w' h => by rw [hY] at h; exact ⟨(h.cell 0).trans rfl, (h.cell 1).trans rfl⟩)
  have HYD : Hid (∀ s' w', Own w0 (PicA p mb1 mb2 mb3 gb go gc n s' * Y) w' → Own w0 (PicA p mb1 mb2 mb3 gb go gc n s' * R) w') := Lib.hid (fun s' w' h => by rw [hY] at h; exact h.second.drop)
  have HP : Hid (Own w0 (PicA p mb1 mb2 mb3 gb go gc n s * Y) w1) := Lib.hid (by rw [hY]; exact HO1.out.second)
  obtain ⟨x0, x1⟩ := HYC.out _ HP.out.drop
  clear HO1 h
  by_cases hc : pcWay s a b = 0
  rotate_left
  · have hE : pcComeErr s a b = pcWay s a b := by unfold pcComeErr; rw [if_pos hc]
    have hV : pcComeVal s a b = 0 := by unfold pcComeVal; rw [if_neg (by rw [hE]; exact hc)]
    have hS : pcCome s a b = s := by unfold pcCome; rw [if_neg (by rw [hE]; exact hc)]
    obtain ⟨mm, hmm⟩ := errV_some hc
    rw [hE, hV, hS, hmm]
    have HE := Lib.hid hE; have HV := Lib.hid hV; have HS := Lib.hid hS; have HC := Lib.hid hc; have HMM := Lib.hid hmm; have HY := Lib.hid hY; have HOK := Lib.hid hok; have HOK2 := Lib.hid hok2
    clear hE hV hS hc hmm hY hok hok2
    go_enter Tryd.func55, Tryd.ntmps55
    go_upto_region 2 with fail
    rw [← hb_b1, ← hw_w1]
    clear hb_b1 hw_w1
    go_wp2_with fail
    refine (pCheck_any s a b HP.out).mono ?_
    rintro e w' ⟨rfl, ho⟩
    have HF := Lib.hid (HYD.out _ _ ho)
    clear ho
    rw [HMM.out]
    go_wp2
    go_ret2
    exact ⟨rfl, HF.out⟩
  have hway := pcWay0.1 hc
  have ha : pcHas s a = true := pcHas_mem.2 hway.1
  have hb : pcHas s b = true := pcHas_mem.2 hway.2.1
  have haI := pcHas_small hok.n5 ha
  have hbI := pcHas_small hok.n5 hb
  have hx : plOk (a, b) := ⟨haI, hbI⟩
  have hrl := hok.row a b
  obtain ⟨L, hL⟩ : ∃ L, L = pcRow s a b := ⟨_, rfl⟩
  rw [← hL] at hrl
  have hRowI : ∀ y ∈ L, I64 y := fun y hy => by have := hrl.2 y hy; unfold I64; omega
  by_cases hnil : L = []
  · have hE : pcComeErr s a b = 5 := by unfold pcComeErr; rw [if_neg (by rw [hc]; simp), ← hL, if_pos hnil]
    have hV : pcComeVal s a b = 0 := by unfold pcComeVal; rw [if_neg (by rw [hE]; decide)]
    have hS : pcCome s a b = s := by unfold pcCome; rw [if_neg (by rw [hE]; decide)]
    rw [hE, hV, hS]
    subst hnil
    have HE := Lib.hid hE; have HV := Lib.hid hV; have HS := Lib.hid hS; have HC := Lib.hid hc; have HY := Lib.hid hY; have HOK := Lib.hid hok; have HOK2 := Lib.hid hok2; have HWAY := Lib.hid hway; have HA := Lib.hid ha; have HB := Lib.hid hb; have HAI := Lib.hid haI; have HBI := Lib.hid hbI; have HX := Lib.hid hx; have HRL := Lib.hid hrl; have HL := Lib.hid hL; have HROWI := Lib.hid hRowI
    clear hE hV hS hc hY hok hok2 hway ha hb haI hbI hx hrl hL hRowI
    go_enter Tryd.func55, Tryd.ntmps55
    go_upto_region 2 with fail
    rw [← hb_b1, ← hw_w1]
    clear hb_b1 hw_w1
    go_wp2_with fail
    refine (pCheck_any s a b HP.out).mono ?_
    rintro e w2 ⟨rfl, ho⟩
    rw [HC.out, errV0]
    obtain ⟨m, hm, hq⟩ := ho.pic_open
    obtain ⟨c0, c1, _⟩ := hq.drew.pic_facts
    clear x0 x1
    obtain ⟨x0, x1⟩ := HYC.out _ ho.drop.drew
    have hlk := hq.drew.pic_row (a, b) HX.out
    have hrd := hq.drew.pic_rd hm a b (by rw [← HL.out]; exact HROWI.out)
    obtain ⟨V, hV⟩ : ∃ V, V = ((mget m (a, b)).getD nilRow).1 := ⟨_, rfl⟩
    rw [← hV] at hlk hrd
    rw [← HL.out] at hrd
    simp only at hlk
    obtain ⟨va, vc, hvs, _, _⟩ := hrd.shape
    rw [show ([] : List Int).length = 0 from rfl] at hvs
    subst hvs
    have HF := Lib.hid (HYD.out _ _ ho).drew
    clear ho
    have HM := Lib.hid hm; have HQ := Lib.hid hq; have HV := Lib.hid hV; have HRD := Lib.hid hrd
    clear hm hq hV hrd
    go_upto_region 5 with fail
    refine wp_region_planH 7 [] [(true, 0), (true, 1), (true, 2), (true, 3), (true, 4), (true, 5), (true, 6)] [7] (fun wS => wS = w2.drew) (by kernel_rfl) (by kernel_rfl) (rfl) ?_
    simp only [pickH, pick, List.getElem?_cons_succ, List.getElem?_cons_zero, Option.toList, Option.map_some, List.cons_append, List.nil_append]
    repeat (refine wpPure_step ?_ rfl ?_ ?_; rotate_left; (focus (intro _; first | with_reducible rfl | (go_simp; done) | (go_simp; with_reducible rfl) | rfl)); go_simp)
    refine wpPure_nil ?_
    repeat (refine wpMix_read ?_ rfl ?_ ?_; rotate_left; (focus (intro _ hS; obtain rfl := hS; first | with_reducible rfl | (go_simp; done) | (go_simp; with_reducible rfl) | rfl)); go_simp)
    refine wpMix_nil ?_
    clear hlk c0 c1 x0 x1
    go_wp2_with fail
    refine NoPanic.normal ?_
    go_wp2
    go_ret2
    exact ⟨rfl, HF.out⟩
  obtain ⟨n0, r, hnr⟩ : ∃ n0 r, L = n0 :: r := by cases L with | nil => exact absurd rfl hnil | cons x r => exact ⟨x, r, rfl⟩
  have hE : pcComeErr s a b = 0 := by unfold pcComeErr; rw [if_neg (by rw [hc]; simp), ← hL, if_neg hnil]
  have hV : pcComeVal s a b = n0 := by unfold pcComeVal; rw [if_pos hE, ← hL, hnr]; rfl
  have hS : pcCome s a b = if n0 = 0 then pcMark (pcPop s a b) a b else pcGet2 (pcGet1 (pcPop s a b) b n0) a b n0 := by unfold pcCome; rw [if_pos hE, hV]
  obtain ⟨S, hSS⟩ : ∃ S, S = pcCome s a b := ⟨_, rfl⟩
  rw [← hSS] at hS
  rw [hE, hV, ← hSS, errV0]
  have hpop : pcPop s a b = { s with ways := mput s.ways (a, b) r } := by unfold pcPop; rw [← hL, hnr]; rfl
  have hn0 : 0 ≤ n0 ∧ n0 ≤ 1000000 := hrl.2 n0 (by rw [hnr]; simp)
  obtain ⟨lr, hlr⟩ : ∃ lr, lr = r.length := ⟨_, rfl⟩
  have hlr2 : lr ≤ 1000 := by have := hrl.1; rw [hnr, List.length_cons] at this; omega
  clear hnil
  have HE := Lib.hid hE; have HV := Lib.hid hV; have HS := Lib.hid hS; have HC := Lib.hid hc; have HY := Lib.hid hY; have HOK := Lib.hid hok; have HOK2 := Lib.hid hok2; have HWAY := Lib.hid hway; have HA := Lib.hid ha; have HB := Lib.hid hb; have HAI := Lib.hid haI; have HBI := Lib.hid hbI; have HX := Lib.hid hx; have HRL := Lib.hid hrl; have HL := Lib.hid hL; have HROWI := Lib.hid hRowI; have HSS := Lib.hid hSS; have HPOP := Lib.hid hpop; have HN0 := Lib.hid hn0; have HNR := Lib.hid hnr; have HLR := Lib.hid hlr
  clear hE hV hS hc hY hok hok2 hway ha hb haI hbI hx hrl hL hRowI hSS hpop hn0 hnr hlr
  go_enter Tryd.func55, Tryd.ntmps55
  go_upto_region 2 with fail
  rw [← hb_b1, ← hw_w1]
  clear hb_b1 hw_w1
  go_wp2_with fail
  refine (pCheck_any s a b HP.out).mono ?_
  rintro e w2 ⟨rfl, ho⟩
  rw [HC.out, errV0]
  obtain ⟨m, hm, hq⟩ := ho.pic_open
  clear x0 x1
  have hrd := hq.pic_rd hm a b (by rw [← HL.out]; exact HROWI.out)
  obtain ⟨V, hV⟩ : ∃ V, V = ((mget m (a, b)).getD nilRow).1 := ⟨_, rfl⟩
  rw [← hV] at hrd
  rw [← HL.out] at hrd
  obtain ⟨va, vc, hvs, hvc, _⟩ := hrd.shape
  rw [HNR.out, List.length_cons, ← HLR.out] at hvs hvc
  have hVS : Hid ((.slice va (lr + 1) vc : Value) = ((mget m (a, b)).getD nilRow).1) := Lib.hid (by rw [← hvs, hV])
  rw [hvs] at hrd
  have htk : Own w0 (IntSl (.slice va (lr + 1) vc) (n0 :: r) * (Mp plV plOk mb1 (mvals Prod.fst m) * (starL (fun p : WRow => rowP p.2) (mdel m (a, b)) * (picB p mb1 mb2 mb3 gb go gc n s.begun s.onWay * (goldS gb go gc n s.gold * (wroteS mb2 s.wrote * (opnS mb3 s.opn * Y))))))) w2 := by
    have h1 := hq.pic_ways.ms_take nilRow rowP_nil (a, b)
    have h2 : Own w0 (IntSl ((mget m (a, b)).getD nilRow).1 ((mget m (a, b)).getD nilRow).2 * _) w2 := h1
    rw [pcRow_of hm, ← HL.out, ← hVS.out, HNR.out] at h2
    exact h2
  obtain ⟨rb, ro, rc, hsv, _⟩ := Own.slAt htk (by simp)
  injection hsv with e1 e2 e3
  subst e1; subst e3
  clear e2
  have hc0 : w2.cell? ⟨rb, ro, none⟩ = some (.int .i64 n0) := by
    obtain ⟨aa, haa, hcc⟩ := hrd.at 0 (by rw [HNR.out]; simp)
    cases haa
    rw [Addr.add_lit] at hcc
    simpa [HNR.out] using hcc
  have HLK : Hid (∀ w', Own w0 (PicO p mb1 mb2 mb3 gb go gc n m s * Y) w' → (Instr.lookup 152 (.map (some mb1)) (.agg #[.int .i64 a, .int .i64 b]) false).run Tryd.prog w' = .ok (.slice (some ⟨rb, ro, none⟩) (lr + 1) vc) w') := Lib.hid (fun w' h => by rw [hVS.out]; exact h.pic_row (a, b) HX.out)
  have HF := Lib.hid ho
  clear ho hvs hV
  have HM := Lib.hid hm; have HQ := Lib.hid hq; have HRD := Lib.hid hrd; have HTK := Lib.hid htk
  clear hm hq hrd htk
  obtain ⟨c0, c1, _⟩ := HQ.out.drew.pic_facts
  obtain ⟨x0, x1⟩ := HYC.out _ HF.out.drop.drew
  have hlk := HLK.out _ HQ.out.drew
  have l1 : ((lr : Int) + 1 == 0) = false := by rw [beq_eq_false_iff_ne]; omega
  go_upto_region 5 with fail
  refine wp_region_planH 7 [] [(true, 0), (true, 1), (true, 2), (true, 3), (true, 4), (true, 5), (true, 6)] [7] (fun wS => wS = w2.drew) (by kernel_rfl) (by kernel_rfl) (rfl) ?_
  simp only [pickH, pick, List.getElem?_cons_succ, List.getElem?_cons_zero, Option.toList, Option.map_some, List.cons_append, List.nil_append]
  repeat (refine wpPure_step ?_ rfl ?_ ?_; rotate_left; (focus (intro _; first | with_reducible rfl | (go_simp; done) | (go_simp; with_reducible rfl) | rfl)); go_simp)
  refine wpPure_nil ?_
  repeat (refine wpMix_read ?_ rfl ?_ ?_; rotate_left; (focus (intro _ hS; obtain rfl := hS; first | with_reducible rfl | (go_simp; done) | (go_simp; with_reducible rfl) | rfl)); go_simp)
  refine wpMix_nil ?_
  clear hlk c0 c1 x0 x1
  go_wp2_with fail
  refine NoPanic.normal ?_
  have HF1 := Lib.hid HF.out.drew
  have HTK1 := Lib.hid HTK.out.drew
  have hc1 : w2.drew.cell? ⟨rb, ro, none⟩ = some (.int .i64 n0) := hc0
  obtain ⟨w3, hw3⟩ : ∃ w3, w3 = w2.drew := ⟨_, rfl⟩
  have HQ1 : Hid (Own w0 (PicO p mb1 mb2 mb3 gb go gc n m s * Y) w3) := Lib.hid (by rw [hw3]; exact HQ.out.drew)
  rw [← hw3] at HF1 HTK1 hc1
  rw [← hw3]
  clear hw3 HF HQ HTK hc0 HRD HP
  obtain ⟨c0, c1, _⟩ := HQ1.out.drew.pic_facts
  obtain ⟨x0, x1⟩ := HYC.out _ HF1.out.drop.drew
  have hlk := HLK.out _ HQ1.out.drew
  have hc2 : w3.drew.cell? ⟨rb, ro, none⟩ = some (.int .i64 n0) := hc1
  have l2 : (0 : Int) < (lr : Int) + 1 := by omega
  go_upto_region 7 with fail
  refine wp_region_planH 8 [] [(true, 0), (true, 1), (true, 2), (true, 3), (true, 4), (true, 5), (true, 6), (true, 7)] [8] (fun wS => wS = w3.drew) (by kernel_rfl) (by kernel_rfl) (rfl) ?_
  simp only [pickH, pick, List.getElem?_cons_succ, List.getElem?_cons_zero, Option.toList, Option.map_some, List.cons_append, List.nil_append]
  repeat (refine wpPure_step ?_ rfl ?_ ?_; rotate_left; (focus (intro _; first | with_reducible rfl | (go_simp; done) | (go_simp; with_reducible rfl) | rfl)); go_simp)
  refine wpPure_nil ?_
  repeat (refine wpMix_read ?_ rfl ?_ ?_; rotate_left; (focus (intro _ hS; obtain rfl := hS; first | with_reducible rfl | (go_simp; done) | (go_simp; with_reducible rfl) | rfl)); go_simp)
  refine wpMix_nil ?_
  clear hlk c0 c1 x0 x1
  go_wp2_with fail
  refine NoPanic.normal ?_
  obtain ⟨w4, hw4⟩ : ∃ w4, w4 = w3.drew := ⟨_, rfl⟩
  have HQ2 : Hid (Own w0 (PicO p mb1 mb2 mb3 gb go gc n m s * Y) w4) := Lib.hid (by rw [hw4]; exact HQ1.out.drew)
  have HTK2 := Lib.hid HTK1.out.drew
  rw [← hw4] at HTK2 hc2
  rw [← hw4]
  clear hw4 HF1 HQ1 HTK1 hc1
  obtain ⟨c0, c1, _⟩ := HQ2.out.drew.pic_facts
  obtain ⟨x0, x1⟩ := HYC.out _ HQ2.out.drew.drop
  have hlk := HLK.out _ HQ2.out.drew
  obtain ⟨CV, hCV⟩ : ∃ CV, CV = cutV (some ⟨rb, ro, none⟩) (lr + 1) vc 1 := ⟨_, rfl⟩
  have hcut : ∀ w, (Instr.sliceAt 43 (.slice (some ⟨rb, ro, none⟩) (lr + 1) vc) (some (.int .i64 1)) none none).run Tryd.prog w = .ok CV w := fun w => by
    rw [hCV]
    exact cut_front (n := 1) Tryd.underlying43 (fun w => by kernel_rfl) (by omega) hvc w
  have HCO : Hid (Own w0 (IntSl CV r * (Mp plV plOk mb1 (mvals Prod.fst m) * (starL (fun p : WRow => rowP p.2) (mdel m (a, b)) * (picB p mb1 mb2 mb3 gb go gc n s.begun s.onWay * (goldS gb go gc n s.gold * (wroteS mb2 s.wrote * (opnS mb3 s.opn * Y))))))) w4.drew) := Lib.hid (by
    have h1 := Own.sl_cut (n := 1) (by omega) (show Own w0 (Sl 3 1 (.slice (some ⟨rb, ro, none⟩) (lr + 1) vc) (lr + 1) ((n0 :: r).map (Value.int .i64)) * _) w4.drew from HTK2.out.drew.perm (by unfold IntSl; rw [List.length_cons, ← HLR.out]))
    rw [hCV]
    unfold IntSl
    rw [← HLR.out]
    exact h1)
  have HCV := Lib.hid hCV
  clear hCV
  go_upto_region 8 with fail
  refine wp_region_planH 12 [] [(true, 0), (true, 1), (true, 2), (true, 3), (true, 4), (true, 5), (true, 6), (true, 7), (true, 8), (true, 9), (true, 10), (true, 11)] [12] (fun wS => wS = w4.drew) (by kernel_rfl) (by kernel_rfl) (rfl) ?_
  simp only [pickH, pick, List.getElem?_cons_succ, List.getElem?_cons_zero, Option.toList, Option.map_some, List.cons_append, List.nil_append]
  repeat (refine wpPure_step ?_ rfl ?_ ?_; rotate_left; (focus (intro _; first | with_reducible rfl | (go_simp; done) | (go_simp; with_reducible rfl) | rfl)); go_simp)
  refine wpPure_nil ?_
  repeat (refine wpMix_read ?_ rfl ?_ ?_; rotate_left; (focus (intro _ hS; obtain rfl := hS; first | with_reducible rfl | (go_simp; done) | (go_simp; with_reducible rfl) | rfl)); go_simp)
  refine wpMix_nil ?_
  clear hlk c0 c1 x0 x1 hcut hc2 HTK2
  obtain ⟨m2, hm2⟩ : ∃ m2, m2 = mput m (a, b) (CV, r) := ⟨_, rfl⟩
  obtain ⟨T, hT⟩ : ∃ T, T = pcPop s a b := ⟨_, rfl⟩
  have hTm : mvals Prod.snd m2 = T.ways := by rw [hm2, hT, HPOP.out, ← mput_mvals, HM.out]
  have HPUT : Hid (∀ w5, Own w0 (Mp plV plOk mb1 (mput (mvals Prod.fst m) (a, b) CV) * (IntSl CV r * (starL (fun p : WRow => rowP p.2) (mdel m (a, b)) * (picB p mb1 mb2 mb3 gb go gc n s.begun s.onWay * (goldS gb go gc n s.gold * (wroteS mb2 s.wrote * (opnS mb3 s.opn * Y))))))) w5 → Own w0 (PicO p mb1 mb2 mb3 gb go gc n m2 T * Y) w5) := Lib.hid (fun w5 ho5 => by
    have h7 := (ho5.second.perm (show _ = rowP (CV, r) * _ from rfl)).ms_put (f := rowP) (val := Prod.fst) (a, b)
    rw [hm2, hT, HPOP.out]
    exact Own.pic_ways_put h7)
  have hb2 := pcHas_bd HB.out
  obtain ⟨kb, hkb⟩ : ∃ k : Nat, b = k := ⟨b.toNat, by omega⟩
  have hwb : pcHas T b = true := by rw [hT]; exact HB.out
  have hwa : pcHas T a = true := by rw [hT]; exact HA.out
  have hokT : PicOk T := by rw [hT]; exact HOK2.out
  have hgb : pcG T b = pcG s b := by rw [hT]; rfl
  have hST : S = if n0 = 0 then pcMark T a b else pcGet2 (pcGet1 T b n0) a b n0 := by rw [HS.out, hT]
  clear hm2
  have HT := Lib.hid hT; have HTM := Lib.hid hTm; have HWA := Lib.hid hwa; have HWB := Lib.hid hwb; have HOKT := Lib.hid hokT; have HST := Lib.hid hST; have HGB := Lib.hid hgb; have HB2 := Lib.hid hb2; have HKB := Lib.hid hkb
  clear hT hTm hwa hwb hokT hST hgb hb2 hkb
  go_wp2_with (at_mapUpdate; refine wpList_put (v := CV) (x := (a, b)) pway_ke mapw_kind HCO.out.second HX.out rfl _ _ _ rfl rfl rfl rfl ?_; intro w5 ho5; have HO5 := Lib.hid (HPUT.out _ ho5); clear ho5)
  refine NoPanic.normal ?_
  obtain ⟨x0, x1⟩ := HYC.out _ HO5.out.drop
  clear HCO HQ2 HPUT
  by_cases hz : n0 = 0
  · subst hz
    have hs5 : S = pcMark T a b := by rw [HST.out, if_pos rfl]
    have HO6 := Lib.hid (HO5.out.pic_close HTM.out)
    have HS5 := Lib.hid hs5
    clear hs5
    go_wp2_with fail
    refine (pMark_any T a b HWA.out HWB.out HOKT.out HO6.out).mono ?_
    rintro e w6 ⟨rfl, ho⟩
    rw [← HS5.out] at ho
    have HF6 := Lib.hid (HYD.out _ _ ho)
    clear ho
    go_wp2
    go_ret2
    exact ⟨rfl, HF6.out⟩
  have tz : (n0 == 0) = false := by rw [beq_eq_false_iff_ne]; exact hz
  have hs5 : S = pcGet2 (pcGet1 T b n0) a b n0 := by rw [HST.out, if_neg hz]
  obtain ⟨c0, _⟩ := HO5.out.pic_facts
  obtain ⟨hn, hnc, hcm, hgf⟩ := HO5.out.pic_n
  have hc' := HO5.out.pic_at HWB.out
  have hkb := HKB.out
  subst hkb
  rw [Int.toNat_natCast] at hc'
  obtain ⟨g, hg⟩ : ∃ g, g = pcG T kb := ⟨_, rfl⟩
  rw [← hg] at hc'
  have hgd := HOKT.out.gold kb
  rw [← hg] at hgd
  have hf' := hgf (go + kb) none
  have hbT := pcHas_bd HWB.out
  have hkn : kb < n := by omega
  have hn0 := HN0.out
  have hwr : IntKind.i64.wrap (g + n0) = g + n0 := by rw [IntKind.wrap_i64]; omega
  obtain ⟨T2, hT2⟩ : ∃ T2 : Pic, T2 = pcGet1 T kb n0 := ⟨_, rfl⟩
  rw [← hT2] at hs5
  have hT2' : T2 = { T with gold := T.gold.set kb (g + n0) } := by rw [hT2]; unfold pcGet1; rw [Int.toNat_natCast, ← hg]
  have HO6 : Hid (Own w0 (PicO p mb1 mb2 mb3 gb go gc n m2 T2 * Y) (w5.setCell ⟨gb, go + kb, none⟩ (.int .i64 (g + n0)))) := Lib.hid (by rw [hT2']; exact Own.pic_gold_put (k := kb) (x := g + n0) (by omega) HO5.out)
  have hm6 : mvals Prod.snd m2 = T2.ways := by rw [hT2']; exact HTM.out
  have hopn : T2.opn = T.opn := by rw [hT2']
  have hopb := HOKT.out.opn a kb
  obtain ⟨w6, hw6⟩ : ∃ w6, w6 = w5.setCell ⟨gb, go + kb, none⟩ (.int .i64 (g + n0)) := ⟨_, rfl⟩
  rw [← hw6] at HO6
  clear hgf
  have HS5 := Lib.hid hs5; have HN := Lib.hid hn; have HG := Lib.hid hg; have HGD := Lib.hid hgd; have HBT := Lib.hid hbT; have HN0 := Lib.hid hn0; have HT2 := Lib.hid hT2; have HT2' := Lib.hid hT2'; have HM6 := Lib.hid hm6; have HOPN := Lib.hid hopn; have HOPB := Lib.hid hopb; have HZ := Lib.hid hz
  clear hs5 hn hg hgd hbT hn0 hT2 hT2' hm6 hopn hopb hz
  go_upto_region 13 with fail
  rw [← hw6]
  clear hw6 HO5 c0 hc' hf' x0 x1
  obtain ⟨_, _, _, _, c4, _⟩ := HO6.out.drew.pic_facts
  obtain ⟨x0, x1⟩ := HYC.out _ HO6.out.drop.drew
  have hlk := HO6.out.drew.pic_lo2 (a, (kb : Int)) HX.out
  obtain ⟨D, hD⟩ : ∃ D, D = (mget T2.opn (a, (kb : Int))).isSome := ⟨_, rfl⟩
  obtain ⟨z, hz⟩ : ∃ D, D = (mget T2.opn (a, (kb : Int))).getD 0 := ⟨_, rfl⟩
  rw [← hD, ← hz] at hlk
  simp only at hlk
  have HD := Lib.hid hD; have HZ := Lib.hid hz
  clear hD hz
  refine wp_region_planH 10 [] [(true, 0), (true, 1), (true, 2), (true, 3), (true, 4), (true, 5), (true, 6), (true, 7), (true, 8), (false, 9)] [10] (fun wS => wS = w6.drew) (by kernel_rfl) (by kernel_rfl) (rfl) ?_
  simp only [pickH, pick, List.getElem?_cons_succ, List.getElem?_cons_zero, Option.toList, Option.map_some, List.cons_append, List.nil_append]
  repeat (refine wpPure_step ?_ rfl ?_ ?_; rotate_left; (focus (intro _; first | with_reducible rfl | (go_simp; done) | (go_simp; with_reducible rfl) | rfl)); go_simp)
  refine wpPure_nil ?_
  repeat (refine wpMix_read ?_ rfl ?_ ?_; rotate_left; (focus (intro _ hS; obtain rfl := hS; first | with_reducible rfl | (go_simp; done) | (go_simp; with_reducible rfl) | rfl)); go_simp)
  refine wpMix_write (fun K hK => ?_)
  go_simp
  refine hK _ _ ⟨rfl, ?_⟩
  clear hK K
  go_simp
  repeat (refine wpMix_read ?_ rfl ?_ ?_; rotate_left; (focus (intro _ hS; obtain rfl := hS; first | with_reducible rfl | (go_simp; done) | (go_simp; with_reducible rfl) | rfl)); go_simp)
  refine wpMix_nil ?_
  go_wp2_with fail
  refine NoPanic.normal ?_
  clear hlk c4 x0 x1
  cases D
  · have hs6 : S = T2 := by rw [HS5.out]; unfold pcGet2; rw [if_neg (by rw [← HD.out]; simp)]
    have HF7 := Lib.hid (HYD.out _ _ (HO6.out.pic_close HM6.out).drew)
    have HS6 := Lib.hid hs6
    clear hs6
    go_wp2
    go_ret2
    exact ⟨rfl, by rw [HS6.out]; exact HF7.out⟩
  have hs6 : S = { T2 with opn := mput T2.opn (a, (kb : Int)) (z + n0) } := by rw [HS5.out]; unfold pcGet2; rw [if_pos (by rw [← HD.out]), ← HZ.out]
  have hzb : 0 ≤ z ∧ z ≤ 1000000 := by rw [HZ.out, HOPN.out]; exact HOPB.out
  have hn0 := HN0.out
  have hwz : IntKind.i64.wrap (z + n0) = z + n0 := by rw [IntKind.wrap_i64]; omega
  obtain ⟨w7, hw7⟩ : ∃ w7, w7 = w6.drew := ⟨_, rfl⟩
  have HO7 : Hid (Own w0 (PicO p mb1 mb2 mb3 gb go gc n m2 T2 * Y) w7) := Lib.hid (by rw [hw7]; exact HO6.out.drew)
  rw [← hw7]
  clear HO6 hw7
  obtain ⟨_, _, _, _, c4, _⟩ := HO7.out.drew.pic_facts
  obtain ⟨x0, x1⟩ := HYC.out _ HO7.out.drop.drew
  have hlk := HO7.out.drew.pic_lo (a, (kb : Int)) HX.out
  rw [← HZ.out] at hlk
  simp only at hlk
  have HXC : Hid (∀ w', Own w0 (picB p mb1 mb2 mb3 gb go gc n T2.begun T2.onWay * (goldS gb go gc n T2.gold * (waysS mb1 m2 * (wroteS mb2 T2.wrote * Y)))) w' → w'.cell? ⟨p, 4, none⟩ = some (.map (some mb3)) ∧ w'.cell? ⟨b1, 0, none⟩ = some (.int .i64 a) ∧ w'.cell? ⟨b1, 1, none⟩ = some (.int .i64 kb)) := Lib.hid (fun w' h => ⟨(h.cell 4).trans rfl, HYC.out _ h.drop.drop.drop.drop⟩)
  have HS6 := Lib.hid hs6; have HZB := Lib.hid hzb; have HN0 := Lib.hid hn0
  clear hs6 hzb hn0
  go_upto_region 15 with fail
  refine wp_region_planH 10 [] [(true, 0), (true, 1), (true, 2), (true, 3), (true, 4), (true, 5), (true, 6), (true, 7), (false, 8), (true, 9)] [10] (fun wS => (wS.cell? ⟨p, 4, none⟩ = some (.map (some mb3)) ∧ wS.cell? ⟨b1, 0, none⟩ = some (.int .i64 a) ∧ wS.cell? ⟨b1, 1, none⟩ = some (.int .i64 kb)) ∧ (Instr.lookup 154 (.map (some mb3)) (.agg #[.int .i64 a, .int .i64 kb]) false).run Tryd.prog wS = .ok (.int .i64 z) wS) (by kernel_rfl) (by kernel_rfl) (⟨⟨c4, x0, x1⟩, hlk⟩) ?_
  simp only [pickH, pick, List.getElem?_cons_succ, List.getElem?_cons_zero, Option.toList, Option.map_some, List.cons_append, List.nil_append]
  repeat (refine wpPure_step ?_ rfl ?_ ?_; rotate_left; (focus (intro _; first | with_reducible rfl | (go_simp; done) | (go_simp; with_reducible rfl) | rfl)); go_simp)
  refine wpPure_nil ?_
  repeat (refine wpMix_read ?_ rfl ?_ ?_; rotate_left; (focus (intro _ hS; obtain ⟨⟨s1, s2, s3⟩, s4⟩ := hS; first | with_reducible rfl | (go_simp; done) | (go_simp; with_reducible rfl) | rfl)); go_simp)
  clear c4 x0 x1 hlk
  refine wpMix_write (fun K hK => ?_)
  refine step_open2 pway_ke mapo_kind i_zero HO7.out.drew.pic_opn HX.out rfl _ _ rfl rfl rfl ?_
  intro w8 st ho8 hs8
  have k4 := HXC.out _ ho8.drop
  have hlk : (Instr.lookup 154 (.map (some mb3)) (.agg #[.int .i64 a, .int .i64 kb]) false).run Tryd.prog w8 = .ok (.int .i64 z) w8 := by
    have h1 := hs8.map_look pway_ke mapo_kind i_zero HX.out false
    rw [if_neg (by decide), mget_mput, if_pos rfl, mget_mvals] at h1
    rw [HZ.out]
    cases hg : mget T2.opn (a, (kb : Int)) <;> rw [hg] at h1 <;> exact h1
  have HO8 := Lib.hid ho8
  clear ho8 hs8
  refine hK _ _ ⟨⟨k4, hlk⟩, ?_⟩
  clear hK K
  go_simp
  clear k4 hlk
  repeat (refine wpMix_read ?_ rfl ?_ ?_; rotate_left; (focus (intro _ hS; obtain ⟨⟨s1, s2, s3⟩, s4⟩ := hS; first | with_reducible rfl | (go_simp; done) | (go_simp; with_reducible rfl) | rfl)); go_simp)
  refine wpMix_nil ?_
  go_wp2_with (refine wpList_fill (v := .int .i64 (z + n0)) HO8.out rfl _ _ _ rfl rfl rfl rfl ?_; intro w9 ho9; have HO9 := Lib.hid ho9; clear ho9)
  refine NoPanic.normal ?_
  go_wp2
  go_ret2
  refine ⟨rfl, ?_⟩
  rw [HS6.out]
  refine HYD.out _ _ ?_
  have h9 : Own w0 (opnS mb3 (mput T2.opn (a, (kb : Int)) (z + n0)) * _) w9 := HO9.out.perm (by rw [show (Value.int .i64 (z + n0)) = iV (z + n0) from rfl, mput_mvals])
  exact (Own.pic_opn_put h9).pic_close HM6.out
end Go.Proofs.YtdeeephdojflpaaDoor
