/- Contracts of package picture: write, mark. -/
import Derived.Test.YtdeeephdojflpaaDoorPic
namespace Go.Proofs.YtdeeephdojflpaaDoor
set_option linter.unusedVariables false
set_option linter.unusedSimpArgs false
open Go.RowKit Go.Maps
def pcOuts (s : Pic) (who : Int) (k : Nat) : Pic := (memN k).foldl (pcOut who) (pcWrite0 s who)
theorem pcOuts_next (s : Pic) (who : Int) (k : Nat) : pcOuts s who (k + 1) = pcOut who (pcOuts s who k) k := by unfold pcOuts; rw [memN_snoc, List.foldl_append]; rfl
theorem pcHas_small {s : Pic} {a : Int} (hok : s.gold.length ≤ 5) (h : pcHas s a = true) : I64 a := by have := pcHas_bd h; unfold I64; omega
theorem Own.pic_wrote_put {w0 w : World} {p mb1 mb2 mb3 gb go gc n : Nat} {m : List WRow} {s : Pic} {R : HProp} {who g : Int} (h : Own w0 (wroteS mb2 (mput s.wrote who g) * (picB p mb1 mb2 mb3 gb go gc n s.begun s.onWay * (goldS gb go gc n s.gold * (waysS mb1 m * (opnS mb3 s.opn * R))))) w) : Own w0 (PicO p mb1 mb2 mb3 gb go gc n m { s with wrote := mput s.wrote who g } * R) w := h.perm (by unfold PicO; ac_rfl)
theorem Own.pic_ways_put {w0 w : World} {p mb1 mb2 mb3 gb go gc n : Nat} {m : List WRow} {s : Pic} {R : HProp} {W : List ((Int × Int) × List Int)} (h : Own w0 (waysS mb1 m * (picB p mb1 mb2 mb3 gb go gc n s.begun s.onWay * (goldS gb go gc n s.gold * (wroteS mb2 s.wrote * (opnS mb3 s.opn * R))))) w) : Own w0 (PicO p mb1 mb2 mb3 gb go gc n m { s with ways := W } * R) w := h.perm (by unfold PicO; ac_rfl)
theorem Own.pic_opn_put {w0 w : World} {p mb1 mb2 mb3 gb go gc n : Nat} {m : List WRow} {s : Pic} {R : HProp} {o : List ((Int × Int) × Int)} (h : Own w0 (opnS mb3 o * (picB p mb1 mb2 mb3 gb go gc n s.begun s.onWay * (goldS gb go gc n s.gold * (waysS mb1 m * (wroteS mb2 s.wrote * R))))) w) : Own w0 (PicO p mb1 mb2 mb3 gb go gc n m { s with opn := o } * R) w := h.perm (by unfold PicO; ac_rfl)
set_option maxRecDepth 100000 in
set_option maxHeartbeats 4000000 in
theorem pWrite_any {w0 w : World} {R : HProp} {p mb1 mb2 mb3 gb go gc n : Nat} (s : Pic) (who : Int) (hw : pcHas s who = true) (hok : PicOk s) (h : Own w0 (PicA p mb1 mb2 mb3 gb go gc n s * R) w) :
    Calls Tryd.prog 91 #[.pointer (some ⟨p, 0, none⟩), .int .i64 who] w fun e w' => e = .returned (.tuple #[]) ∧ Own w0 (PicA p mb1 mb2 mb3 gb go gc n (pcWrite s who) * R) w' := by
  obtain ⟨m, hm, ho⟩ := h.pic_open
  obtain ⟨c0, _, _, c3, _, _, _⟩ := ho.pic_facts
  obtain ⟨hn, hnc, hcm, _⟩ := ho.pic_n
  have hb := pcHas_bd hw
  have hc := ho.pic_at hw
  have h5 := hok.n5
  rw [hn] at hb h5
  obtain ⟨q, rfl⟩ : ∃ k : Nat, who = k := ⟨who.toNat, by omega⟩
  rw [Int.toNat_natCast] at hc
  obtain ⟨g, hg⟩ : ∃ x, x = pcG s q := ⟨_, rfl⟩
  rw [← hg] at hc
  have hq : q < n := by omega
  have hqI : I64 (q : Int) := by unfold I64; omega
  have q0 : (0 : Int) ≤ (q : Int) := by omega
  have qn : (q : Int) < (n : Int) := by omega
  have hrow : ∀ i, (pcRow s q i).length ≤ 1000 := fun i => (hok.row q i).1
  clear h hok
  have HO := Lib.hid ho; have HM := Lib.hid hm; have HW := Lib.hid hw; have HN := Lib.hid hn; have HG := Lib.hid hg; have HB := Lib.hid hb; have HQI := Lib.hid hqI; have HROW := Lib.hid hrow
  clear ho hm hw hn hg hb hqI hrow
  go_enter Tryd.func91, Tryd.ntmps91
  go_upto_region 0 with fail
  refine wp_region_planH 12 [] [(true, 0), (true, 1), (true, 2), (true, 3), (true, 4), (true, 5), (true, 6), (true, 7), (true, 8), (true, 9), (true, 10), (true, 11)] [12] (fun wS => wS.cell? ⟨p, 3, none⟩ = some (.map (some mb2)) ∧ wS.cell? ⟨p, 0, none⟩ = some (.slice (some ⟨gb, go, none⟩) n gc) ∧ wS.cell? ⟨gb, go + q, none⟩ = some (.int .i64 g)) (by kernel_rfl) (by kernel_rfl) (⟨c3, c0, hc⟩) ?_
  simp only [pickH, pick, List.getElem?_cons_succ, List.getElem?_cons_zero, Option.toList, Option.map_some, List.cons_append, List.nil_append]
  repeat (refine wpPure_step ?_ rfl ?_ ?_; rotate_left; (focus (intro _; first | with_reducible rfl | (go_simp; done) | (go_simp; with_reducible rfl) | rfl)); go_simp)
  refine wpPure_nil ?_
  repeat (refine wpMix_read ?_ rfl ?_ ?_; rotate_left; (focus (intro _ hS; obtain ⟨s1, s2, s3⟩ := hS; first | with_reducible rfl | (go_simp; done) | (go_simp; with_reducible rfl) | rfl)); go_simp)
  refine wpMix_nil ?_
  clear c0 c3 hc
  go_wp2_with (at_mapUpdate; refine wpList_put (v := .int .i64 g) (x := (q : Int)) (int_ke int_kind) mapgi_kind HO.out.drew.pic_wrote HQI.out rfl _ _ _ rfl rfl rfl rfl ?_; intro w1 ho1; have HO1 : Hid (Own w0 (PicA p mb1 mb2 mb3 gb go gc n (pcWrite0 s q) * R) w1) := Lib.hid ((Own.pic_wrote_put (who := (q : Int)) (g := g) (ho1.perm (by rw [show (Value.int .i64 g) = iV g from rfl, mput_mvals]))).pic_close (by rw [HM.out]) |>.perm (by unfold pcWrite0; rw [HG.out])); clear ho1)
  refine NoPanic.normal ?_
  have HST : Hid (Own w0 (PicA p mb1 mb2 mb3 gb go gc n (pcOuts s q 0) * R) w1) := HO1
  clear HO1
  obtain ⟨m1, hm1, ho1⟩ := HST.out.pic_open
  obtain ⟨c0, _⟩ := ho1.pic_facts
  have HM1 := Lib.hid hm1; have HO1 := Lib.hid ho1
  clear hm1 ho1
  go_upto_block 0 with fail
  go_wp2_with fail
  clear c0 HM1 HO1
  go_loopw [23] (fun iv wr => ∃ k : Nat, k ≤ n ∧ iv = .int .i64 k ∧ Hid (Own w0 (PicA p mb1 mb2 mb3 gb go gc n (pcOuts s q k) * R) wr)) (fun iv _ => n - (intOf iv).toNat)
  case atStart => exact ⟨0, Nat.zero_le _, rfl, HST⟩
  case round =>
    clear HST
    obtain ⟨k, hk, rfl, HP⟩ := hrel
    by_cases hlt : k < n
    rotate_left
    · have hkn : k = n := by omega
      subst hkn
      go_wp2
      refine bodyPost_end (results_none rfl _ _ _) rfl ⟨rfl, ?_⟩
      have := HP.out
      unfold pcWrite
      rw [HN.out]
      exact this
    by_cases hkq : k = q
    · have t1 : ((k : Int) == (q : Int)) = true := by rw [beq_iff_eq]; omega
      have hnx : pcOuts s q (k + 1) = pcOuts s q k := by rw [pcOuts_next]; unfold pcOut; rw [if_pos (by omega)]
      have HNX := Lib.hid hnx; have HKQ := Lib.hid hkq
      clear hnx hkq
      go_wp2
      go_round
      case rel => exact ⟨k + 1, by omega, by go_num, by rw [HNX.out]; exact HP⟩
      case measure => simp [intOf]; omega
    have t1 : ((k : Int) == (q : Int)) = false := by rw [beq_eq_false_iff_ne]; omega
    obtain ⟨T, hT⟩ : ∃ T, T = pcOuts s q k := ⟨_, rfl⟩
    have hnx : pcOuts s q (k + 1) = { T with ways := mput T.ways ((q : Int), (k : Int)) (pcRow T q k ++ [0]), opn := mput T.opn ((k : Int), (q : Int)) 0 } := by rw [pcOuts_next, ← hT]; unfold pcOut; rw [if_neg (by omega)]
    have hkI : I64 (k : Int) := by unfold I64; omega
    have hrl : (pcRow T q k).length ≤ 1000 := by
      have h1 := (out_k (pcWrite0 s q) q k).row q k
      rw [if_neg (by omega)] at h1
      rw [hT]
      show (pcRow ((memN k).foldl (pcOut q) (pcWrite0 s q)) q k).length ≤ 1000
      rw [h1]
      exact HROW.out k
    rw [← hT] at HP
    obtain ⟨m, hm, ho⟩ := HP.out.pic_open
    have hx : plOk ((q : Int), (k : Int)) := ⟨HQI.out, hkI⟩
    have hx2 : plOk ((k : Int), (q : Int)) := ⟨hkI, HQI.out⟩
    obtain ⟨b1, hb_b1⟩ : ∃ zz_, zz_ = (wr).heap.size := ⟨_, rfl⟩
    obtain ⟨w1, hw_w1⟩ : ∃ zz_, zz_ = (wr).alloc (.cells #[.int .i64 q, .int .i64 k] 158 (0, 0)) := ⟨_, rfl⟩
    have h_HO1 := (ho).alloc (.cells #[.int .i64 q, .int .i64 k] 158 (0, 0))
    rw [← hb_b1, ← hw_w1] at h_HO1
    have HO1 := Lib.hid h_HO1
    clear h_HO1
    have x0 : w1.cell? ⟨b1, 0, none⟩ = some (.int .i64 q) := (HO1.out.cell 0).trans rfl
    have x1 : w1.cell? ⟨b1, 1, none⟩ = some (.int .i64 k) := (HO1.out.cell 1).trans rfl
    obtain ⟨_, c1, _⟩ := HO1.out.drop.pic_facts
    obtain ⟨L, hL⟩ : ∃ L, L = pcRow T q k := ⟨_, rfl⟩
    obtain ⟨V, hV⟩ : ∃ V, V = ((mget m ((q : Int), (k : Int))).getD nilRow).1 := ⟨_, rfl⟩
    obtain ⟨X, hFX⟩ : ∃ X, X = picB p mb1 mb2 mb3 gb go gc n T.begun T.onWay * (goldS gb go gc n T.gold * (wroteS mb2 T.wrote * (opnS mb3 T.opn * R))) := ⟨_, rfl⟩
    have HO1' : Hid (Own w0 (waysS mb1 m * (blk b1 (.cells #[.int .i64 q, .int .i64 k] 158 (0, 0)) * X)) w1) := Lib.hid (HO1.out.perm (by rw [hFX]; unfold PicO; ac_rfl))
    have HXC : Hid (∀ w', Own w0 X w' → w'.cell? ⟨p, 1, none⟩ = some (.map (some mb1))) := Lib.hid (fun w' h => by rw [hFX] at h; exact (h.cell 1).trans rfl)
    have HO2 := Lib.hid (HO1'.out.ms_take nilRow rowP_nil ((q : Int), (k : Int)))
    rw [← hL] at hrl hnx
    clear HO1 HP
    have HO := Lib.hid ho; have HM := Lib.hid hm; have HX := Lib.hid hx; have HX2 := Lib.hid hx2; have HKI := Lib.hid hkI; have HRL := Lib.hid hrl; have HV := Lib.hid hV; have HL := Lib.hid hL; have HFX := Lib.hid hFX; have HNX := Lib.hid hnx; have HKQ := Lib.hid hkq; have HT := Lib.hid hT
    clear ho hm hx hx2 hkI hrl hV hL hFX hnx hkq hT
    go_upto_region 6 with fail
    rw [← hb_b1, ← hw_w1]
    clear hb_b1 hw_w1
    refine wp_region_planH 10 [] [(true, 0), (true, 1), (true, 2), (true, 3), (true, 4), (false, 5), (false, 6), (true, 7), (true, 9), (false, 8)] [10] (fun wS => wS.cell? ⟨p, 1, none⟩ = some (.map (some mb1)) ∧ wS.cell? ⟨b1, 0, none⟩ = some (.int .i64 q) ∧ wS.cell? ⟨b1, 1, none⟩ = some (.int .i64 k)) (by kernel_rfl) (by kernel_rfl) (⟨c1, x0, x1⟩) ?_
    simp only [pickH, pick, List.getElem?_cons_succ, List.getElem?_cons_zero, Option.toList, Option.map_some, List.cons_append, List.nil_append]
    repeat (refine wpPure_step ?_ rfl ?_ ?_; rotate_left; (focus (intro _; first | with_reducible rfl | (go_simp; done) | (go_simp; with_reducible rfl) | rfl)); go_simp)
    refine wpPure_nil ?_
    repeat (refine wpMix_read ?_ rfl ?_ ?_; rotate_left; (focus (intro _ hS; obtain ⟨s1, s2, s3⟩ := hS; first | with_reducible rfl | (go_simp; done) | (go_simp; with_reducible rfl) | rfl)); go_simp)
    refine wpMix_write (fun K hK => ?_)
    go_simp
    obtain ⟨b2, hb_b2⟩ : ∃ zz_, zz_ = (w1).heap.size := ⟨_, rfl⟩
    obtain ⟨w2, hw_w2⟩ : ∃ zz_, zz_ = (w1).alloc (.cells #[.int .i64 0] 3 (0, 0)) := ⟨_, rfl⟩
    have h_HO3 := (HO2.out).alloc (.cells #[.int .i64 0] 3 (0, 0))
    rw [← hb_b2, ← hw_w2] at h_HO3
    have HO3 := Lib.hid h_HO3
    clear h_HO3
    rw [← hb_b2, ← hw_w2]
    clear hb_b2 hw_w2
    have c4' : w2.drew.cell? ⟨p, 1, none⟩ = some (.map (some mb1)) := HXC.out _ HO3.out.drew.drop.drop.drop.drop.drop
    have x0' : w2.drew.cell? ⟨b1, 0, none⟩ = some (.int .i64 q) := (HO3.out.drew.drop.drop.drop.drop.cell 0).trans rfl
    have x1' : w2.drew.cell? ⟨b1, 1, none⟩ = some (.int .i64 k) := (HO3.out.drew.drop.drop.drop.drop.cell 1).trans rfl
    refine hK _ _ ⟨⟨c4', x0', x1'⟩, ?_⟩
    clear hK K
    go_simp
    clear c4' x0' x1' c1 x0 x1
    refine wpMix_write (fun K hK => ?_)
    refine step_open pway_ke mapw_kind ints_zero HO3.out.drew.third HX.out rfl _ _ rfl rfl rfl ?_
    intro w3 st ho3
    have hval := mget_val Prod.fst m ((q : Int), (k : Int)) nilRow
    rw [show (nilRow).1 = Value.slice none 0 0 from rfl, ← HV.out] at hval
    rw [hval]
    clear hval
    have HO4 : Hid (Own w0 (IntSl V L * (IntSl (.slice (some ⟨b2, 0, none⟩) 1 1) [0] * (MpE plV plOk mb1 (mvals Prod.fst m) ((q : Int), (k : Int)) st * (starL (fun p : WRow => rowP p.2) (mdel m ((q : Int), (k : Int))) * (blk b1 (.cells #[.int .i64 q, .int .i64 k] 158 (0, 0)) * X))))) w3) := Lib.hid (by
      have h4 : Own w0 (IntSl ((mget m ((q : Int), (k : Int))).getD nilRow).1 ((mget m ((q : Int), (k : Int))).getD nilRow).2 * _) w3 := ho3.third
      rw [pcRow_of HM.out, ← HL.out, ← HV.out] at h4
      have h5 := h4.third
      exact (Own.litI [0] 1 rfl (by omega) h5).second)
    clear ho3
    have c4' : w3.cell? ⟨p, 1, none⟩ = some (.map (some mb1)) := HXC.out _ HO4.out.drop.drop.drop.drop.drop
    have x0' : w3.cell? ⟨b1, 0, none⟩ = some (.int .i64 q) := (HO4.out.drop.drop.drop.drop.cell 0).trans rfl
    have x1' : w3.cell? ⟨b1, 1, none⟩ = some (.int .i64 k) := (HO4.out.drop.drop.drop.drop.cell 1).trans rfl
    refine hK _ _ ⟨⟨c4', x0', x1'⟩, ?_⟩
    clear hK K
    go_simp
    clear c4' x0' x1'
    repeat (refine wpMix_read ?_ rfl ?_ ?_; rotate_left; (focus (intro _ hS; obtain ⟨s1, s2, s3⟩ := hS; first | with_reducible rfl | (go_simp; done) | (go_simp; with_reducible rfl) | rfl)); go_simp)
    refine wpMix_write (fun K hK => ?_)
    refine step_app rfl _ _ 43 rfl 3 1 8 _ info_int Tryd.underlying43 rfl (by decide) (by rfl) HO4.out (by rfl) (by rfl) (Own.rd HO4.out.drop) (int_one _) (by have := HRL.out; unfold maxLen; rw [List.length_singleton]; omega) (by have := HRL.out; rw [List.length_singleton]; omega) ?_
    intro v5 w5 ho5
    have HO5 : Hid (Own w0 (MpE plV plOk mb1 (mvals Prod.fst m) ((q : Int), (k : Int)) st * (IntSl v5 (L ++ [0]) * (starL (fun p : WRow => rowP p.2) (mdel m ((q : Int), (k : Int))) * (IntSl (.slice (some ⟨b2, 0, none⟩) 1 1) [0] * (blk b1 (.cells #[.int .i64 q, .int .i64 k] 158 (0, 0)) * X))))) w5) := Lib.hid (by
      have h5 : Own w0 (IntSl v5 (L ++ [0]) * _) w5 := ho5.perm (show _ = IntSl v5 (L ++ [0]) * _ by unfold IntSl; rw [List.length_append, List.map_append])
      exact h5.perm (by unfold IntSl; ac_rfl))
    clear ho5
    have c4' : w5.cell? ⟨p, 1, none⟩ = some (.map (some mb1)) := HXC.out _ HO5.out.drop.drop.drop.drop.drop
    have x0' : w5.cell? ⟨b1, 0, none⟩ = some (.int .i64 q) := (HO5.out.drop.drop.drop.drop.cell 0).trans rfl
    have x1' : w5.cell? ⟨b1, 1, none⟩ = some (.int .i64 k) := (HO5.out.drop.drop.drop.drop.cell 1).trans rfl
    refine hK _ _ ⟨⟨c4', x0', x1'⟩, ?_⟩
    clear hK K
    go_simp
    clear c4' x0' x1'
    refine wpMix_nil ?_
    go_wp2_with (refine wpList_fill HO5.out rfl _ _ _ rfl rfl rfl rfl ?_; intro w6 ho6; have HO6 := Lib.hid ho6; clear ho6)
    refine NoPanic.normal ?_
    obtain ⟨m2, hm2⟩ : ∃ m2, m2 = mput m ((q : Int), (k : Int)) (v5, L ++ [0]) := ⟨_, rfl⟩
    obtain ⟨T2, hT2⟩ : ∃ T2 : Pic, T2 = { T with ways := mput T.ways ((q : Int), (k : Int)) (L ++ [0]) } := ⟨_, rfl⟩
    have hmv : mvals Prod.snd m2 = T2.ways := by rw [hm2, hT2, ← mput_mvals, HM.out]
    have HO7 : Hid (Own w0 (PicO p mb1 mb2 mb3 gb go gc n m2 T2 * R) w6) := Lib.hid (by
      have h7 := (HO6.out.second.perm (show _ = rowP (v5, L ++ [0]) * _ from rfl)).ms_put (f := rowP) (val := Prod.fst) ((q : Int), (k : Int))
      have h8 := h7.second.drop.second.drop
      rw [HFX.out] at h8
      rw [hm2, hT2]
      exact Own.pic_ways_put h8)
    clear HO6
    obtain ⟨_, _, _, _, c4, _⟩ := HO7.out.pic_facts
    have HM2 := Lib.hid hm2; have HT2 := Lib.hid hT2; have HMV := Lib.hid hmv
    clear hm2 hT2 hmv
    go_wp2_with (at_mapUpdate; refine wpList_put (v := .int .i64 0) (x := ((k : Int), (q : Int))) pway_ke mapo_kind HO7.out.pic_opn HX2.out rfl _ _ _ rfl rfl rfl rfl ?_; intro w7 ho7; have HO8 : Hid (Own w0 (PicA p mb1 mb2 mb3 gb go gc n (pcOuts s q (k + 1)) * R) w7) := Lib.hid (by rw [HNX.out]; exact (Own.pic_opn_put (s := T2) (o := mput T2.opn ((k : Int), (q : Int)) 0) (ho7.perm (by rw [show (Value.int .i64 0) = iV 0 from rfl, mput_mvals]))).pic_close (by rw [HMV.out]) |>.perm (by rw [HT2.out])); clear ho7)
    go_round
    case rel => exact ⟨k + 1, by omega, by go_num, HO8⟩
    case measure => simp [intOf]; omega
end Go.Proofs.YtdeeephdojflpaaDoor
