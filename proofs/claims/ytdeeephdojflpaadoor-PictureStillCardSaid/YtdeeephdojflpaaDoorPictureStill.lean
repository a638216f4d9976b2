/- PictureStill: where nothing moves it shows what there is. -/
import Derived.Test.YtdeeephdojflpaaDoorPicStillP
import Derived.Test.YtdeeephdojflpaaDoorTold
import Derived.Test.YtdeeephdojflpaaDoorStable2
namespace Go.Proofs.YtdeeephdojflpaaDoor
set_option linter.unusedVariables false
set_option linter.unusedSimpArgs false
open Go.RowKit Go.Maps
/-- How far it has come. -/
structure StI (gold : List Int) (v : PV) (s : Pic) : Prop where
  inv : PcInv gold.sum s
  view : pvOf s = v
theorem StI.ok {gold : List Int} {v : PV} {s : Pic} (h : StI gold v s) (hs : gold.sum ≤ 5000) : PicOk s := picOk_of h.inv (by omega)
theorem StI.to {gold : List Int} {v v' : PV} {s : Pic} (h : StI gold v s) (e : v' = v) : StI gold v' s := ⟨h.inv, h.view.trans e.symm⟩
set_option maxRecDepth 100000 in
set_option maxHeartbeats 4000000 in
theorem pictureStill_law (w : World) (hg : As.Handle w) (vg : Value) (gold : List Int) (hvg : Ints w vg gold) (who : Int) (_hwho : I64 who) :
    Calls Tryd.prog 12 #[vg, .int .i64 who] w fun e w' => e = .returned (.bool true) ∧ Below w.heap.size w w' := by
  obtain ⟨gad, gcap, rfl, hgc1, hgc2⟩ := hvg.shape
  obtain ⟨n, hN⟩ : ∃ N, N = gold.length := ⟨_, rfl⟩
  rw [← hN] at hvg hgc1 ⊢
  cases hb : newBad gold
  rotate_left
  · obtain ⟨mm, hmm⟩ := errV_some (n := 1) (by decide)
    have HG := Lib.hid hg; have HVG := Lib.hid hvg; have HN := Lib.hid hN; have HB := Lib.hid hb; have HMM := Lib.hid hmm
    clear hg hvg hN hb hmm
    go_enter Tryd.func12, Tryd.ntmps12
    go_wp2_with fail
    refine (pNew_no _ gold HVG.out HB.out).mono ?_
    rintro e w8 ⟨rfl, rfl⟩
    rw [HMM.out]
    go_wp2
    go_ret
    exact ⟨rfl, Below.refl _ _⟩
  obtain ⟨⟨h2, h5⟩, hgx⟩ := newBad_no hb
  have hall := gold_small hgx h5
  have hpi : PcInv gold.sum (pcNew gold) := pcInv_new gold ⟨h2, h5⟩ hgx
  rw [← hN] at h2 h5
  have hok0 := picOk_of hpi (by omega)
  by_cases hw : 0 ≤ who ∧ who < gold.length
  rotate_left
  · have he : pcBeginErr (pcNew gold) who = 1 := by
      have hh : pcHas (pcNew gold) who = false := by
        unfold pcHas
        show (decide (0 ≤ who) && decide (who < (gold.length : Int))) = false
        rw [Bool.and_eq_false_iff, decide_eq_false_iff_not, decide_eq_false_iff_not]
        omega
      unfold pcBeginErr; rw [if_pos hh]
    obtain ⟨mm, hmm⟩ := errV_some (n := 1) (by decide)
    rw [← hN] at hw
    by_cases hw0 : who < 0
    · have t1 : decide (who < 0) = true := decide_eq_true hw0
      have HG := Lib.hid hg; have HVG := Lib.hid hvg; have HN := Lib.hid hN; have HMM := Lib.hid hmm; have HGX := Lib.hid hgx; have HALL := Lib.hid hall; have HPI := Lib.hid hpi; have HOK0 := Lib.hid hok0; have HW := Lib.hid hw; have HW0 := Lib.hid hw0; have HE := Lib.hid he
      clear hg hvg hN hmm hgx hall hpi hok0 hw hw0 he
      go_enter Tryd.func12, Tryd.ntmps12
      go_wp2_with fail
      refine (pNew_yes _ gold (Own.start w) HVG.out.reads hb).mono ?_
      rintro e w8 ⟨p, mb1, mb2, mb3, gb, go, gc, n2, rfl, hn3, ho⟩
      rw [errV0]
      have HO1 := Lib.hid ho
      clear ho hn3
      go_wp2_with fail
      refine (pBegin_any (pcNew gold) who HOK0.out HO1.out).mono ?_
      rintro e w9 ⟨rfl, ho⟩
      rw [HE.out, HMM.out]
      have HO2 := Lib.hid ho
      clear ho
      go_wp2
      go_ret
      exact ⟨rfl, HO2.out.below⟩
    · have t1 : decide (who < 0) = false := decide_eq_false hw0
      have t2 : decide ((n : Int) ≤ who) = true := decide_eq_true (by omega)
      have HG := Lib.hid hg; have HVG := Lib.hid hvg; have HN := Lib.hid hN; have HMM := Lib.hid hmm; have HGX := Lib.hid hgx; have HALL := Lib.hid hall; have HPI := Lib.hid hpi; have HOK0 := Lib.hid hok0; have HW := Lib.hid hw; have HW0 := Lib.hid hw0; have HE := Lib.hid he
      clear hg hvg hN hmm hgx hall hpi hok0 hw hw0 he
      go_enter Tryd.func12, Tryd.ntmps12
      go_wp2_with fail
      refine (pNew_yes _ gold (Own.start w) HVG.out.reads hb).mono ?_
      rintro e w8 ⟨p, mb1, mb2, mb3, gb, go, gc, n2, rfl, hn3, ho⟩
      rw [errV0]
      have HO1 := Lib.hid ho
      clear ho hn3
      go_wp2_with fail
      refine (pBegin_any (pcNew gold) who HOK0.out HO1.out).mono ?_
      rintro e w9 ⟨rfl, ho⟩
      rw [HE.out, HMM.out]
      have HO2 := Lib.hid ho
      clear ho
      go_wp2
      go_ret
      exact ⟨rfl, HO2.out.below⟩
  obtain ⟨he, hv0⟩ := still_begin hw
  have hi0 : StI gold (stV1 gold who 0) (pcBegin (pcNew gold) who) := ⟨hpi.begin who, hv0⟩
  obtain ⟨q, rfl⟩ : ∃ q : Nat, who = q := ⟨who.toNat, by omega⟩
  have hqn : q < n := by omega
  have HG := Lib.hid hg; have HVG := Lib.hid hvg; have HN := Lib.hid hN; have HGX := Lib.hid hgx; have HALL := Lib.hid hall; have HPI := Lib.hid hpi; have HOK0 := Lib.hid hok0; have HW := Lib.hid hw; have HE := Lib.hid he; have HV0 := Lib.hid hv0; have HI0 := Lib.hid hi0
  clear hg hvg hN hgx hall hpi hok0 hw he hv0 hi0
  go_enter Tryd.func12, Tryd.ntmps12
  go_wp2_with fail
  refine (pNew_yes _ gold (Own.start w) HVG.out.reads hb).mono ?_
  rintro e w8 ⟨p, mb1, mb2, mb3, gb, go, gc, n2, rfl, hn3, ho⟩
  rw [errV0]
  have hnn : n2 = n := hn3.trans HN.out.symm
  subst hnn
  have HO1 := Lib.hid ho
  clear ho hn3 hb
  go_wp2_with fail
  refine (pBegin_any (pcNew gold) q HOK0.out HO1.out).mono ?_
  rintro e w9 ⟨rfl, ho⟩
  rw [HE.out, errV0]
  have HO2 := Lib.hid ho
  clear ho HO1
  go_upto_block 0 with fail
  go_cut [] (fun wx => ∃ s, StI gold (stV2 gold q 0 0) s ∧ Own w (PicA p mb1 mb2 mb3 gb go gc n2 s * emp) wx)
  case first =>
    go_wp2_with fail
    go_loopw [8] (fun iv wr => ∃ (k : Nat) (s : Pic), k ≤ n2 ∧ iv = .int .i64 k ∧ Hid (StI gold (stV1 gold q k) s) ∧ Hid (Own w (PicA p mb1 mb2 mb3 gb go gc n2 s * emp) wr)) (fun iv _ => n2 - (intOf iv).toNat)
    case atStart => exact ⟨0, _, Nat.zero_le _, rfl, HI0, HO2⟩
    case round =>
      clear HO2
      obtain ⟨k, s, hk, rfl, HI, HP⟩ := hrel
      by_cases h1 : k < n2
      rotate_left
      · have hkn : (k : Int) = gold.length := by have := HN.out; omega
        have hi2 : StI gold (stV2 gold q 0 0) s := HI.out.to (by rw [← still_turn, hkn])
        have HKN := Lib.hid hkn; have HI2 := Lib.hid hi2
        clear hkn hi2
        go_wp2_with fail
        go_meet
        exact ⟨s, HI2.out, HP.out⟩
      by_cases hkq : k = q
      · have t1 : ((k : Int) != (q : Int)) = false := by rw [bne_eq_false_iff_eq]; omega
        have hi2 : StI gold (stV1 gold q (k + 1)) s := HI.out.to (by rw [hkq]; exact still_skip gold q)
        have HKQ := Lib.hid hkq; have HI2 := Lib.hid hi2
        clear hkq hi2
        go_wp2_with fail
        go_roundw
        case rel => exact ⟨k + 1, s, by omega, by go_num, HI2, HP⟩
        case measure => simp [intOf]; omega
      have t1 : ((k : Int) != (q : Int)) = true := by rw [bne_iff_ne]; omega
      obtain ⟨e1, e2, e3⟩ := still_one (k := k) HI.out.inv HI.out.view HW.out ⟨by omega, by have := HN.out; omega⟩ (by omega)
      have hi2 : StI gold (stV1 gold q (k + 1)) (pcCome s q k) := ⟨HI.out.inv.come q k, e3⟩
      have hok := HI.out.ok HALL.out.2
      have HKQ := Lib.hid hkq; have E1 := Lib.hid e1; have E2 := Lib.hid e2; have E3 := Lib.hid e3; have HI2 := Lib.hid hi2; have HOK := Lib.hid hok
      clear hkq e1 e2 e3 hi2 hok
      go_wp2_with fail
      refine (pCome_any s q k HOK.out (picOk_pop HOK.out q k) HP.out).mono ?_
      rintro e w3 ⟨rfl, ho⟩
      rw [E1.out, E2.out, errV0]
      have HO := Lib.hid ho
      clear ho
      go_wp2_with fail
      go_roundw
      case rel => exact ⟨k + 1, _, by omega, by go_num, HI2, HO⟩
      case measure => simp [intOf]; omega
  case rest =>
  obtain ⟨s0, hi, ho⟩ := hcut
  have HJ := Lib.hid hi
  have HO3 := Lib.hid ho
  clear hi ho HO2
  go_upto_block 2 with fail
  go_cut [] (fun wx => ∃ s, StI gold (stV2 gold q gold.length 0) s ∧ Own w (PicA p mb1 mb2 mb3 gb go gc n2 s * emp) wx)
  case first =>
    go_wp2_with fail
    go_loopw [11] (fun iv wr => ∃ (k : Nat) (s : Pic), k ≤ n2 ∧ iv = .int .i64 k ∧ Hid (StI gold (stV2 gold q k 0) s) ∧ Hid (Own w (PicA p mb1 mb2 mb3 gb go gc n2 s * emp) wr)) (fun iv _ => n2 - (intOf iv).toNat)
    case atStart => exact ⟨0, s0, Nat.zero_le _, rfl, HJ, HO3⟩
    case round =>
      clear HO3 HJ
      obtain ⟨k, s, hk, rfl, HI, HP⟩ := hrel
      by_cases h1 : k < n2
      rotate_left
      · have hkn : (k : Int) = gold.length := by have := HN.out; omega
        have hi2 : StI gold (stV2 gold q gold.length 0) s := HI.out.to (by rw [hkn])
        have HKN := Lib.hid hkn; have HI2 := Lib.hid hi2
        clear hkn hi2
        go_wp2_with fail
        go_meet
        exact ⟨s, HI2.out, HP.out⟩
      go_upto_block 4 with fail
      go_wp2_with fail
      go_loopw [12] (fun jv wq => ∃ (j : Nat) (s : Pic), j ≤ n2 ∧ jv = .int .i64 j ∧ Hid (StI gold (stV2 gold q k j) s) ∧ Hid (Own w (PicA p mb1 mb2 mb3 gb go gc n2 s * emp) wq)) (fun jv _ => n2 - (intOf jv).toNat)
      case atStart => exact ⟨0, s, Nat.zero_le _, rfl, HI, HP⟩
      case round =>
        clear HP HI
        obtain ⟨j, t, hj, rfl, HI, HP⟩ := hrel
        by_cases h2' : j < n2
        rotate_left
        · have hjn : (j : Int) = gold.length := by have := HN.out; omega
          have hi2 : StI gold (stV2 gold q (k + 1) 0) t := HI.out.to (by rw [hjn, ← still_row])
          have HJN := Lib.hid hjn; have HI2 := Lib.hid hi2
          clear hjn hi2
          go_wp2_with fail
          go_roundw
          case rel => exact ⟨k + 1, t, by omega, by go_num, HI2, HP⟩
          case measure => simp [intOf]; omega
        by_cases hkq : k = q
        · have t1 : ((k : Int) != (q : Int)) = false := by rw [bne_eq_false_iff_eq]; omega
          have hi2 : StI gold (stV2 gold q k (j + 1)) t := HI.out.to (still_pass (.inl (by omega)))
          have HKQ := Lib.hid hkq; have HI2 := Lib.hid hi2
          clear hkq hi2
          go_wp2_with fail
          go_roundw
          case rel => exact ⟨j + 1, t, by omega, by go_num, HI2, HP⟩
          case measure => simp [intOf]; omega
        have t1 : ((k : Int) != (q : Int)) = true := by rw [bne_iff_ne]; omega
        by_cases hjk : j = k
        · have t2 : ((j : Int) != (k : Int)) = false := by rw [bne_eq_false_iff_eq]; omega
          have hi2 : StI gold (stV2 gold q k (j + 1)) t := HI.out.to (still_pass (.inr (by omega)))
          have HKQ := Lib.hid hkq; have HJK := Lib.hid hjk; have HI2 := Lib.hid hi2
          clear hkq hjk hi2
          go_wp2_with fail
          go_roundw
          case rel => exact ⟨j + 1, t, by omega, by go_num, HI2, HP⟩
          case measure => simp [intOf]; omega
        have t2 : ((j : Int) != (k : Int)) = true := by rw [bne_iff_ne]; omega
        obtain ⟨e1, e2, e3⟩ := still_two (i := k) (m := j) HI.out.inv HI.out.view ⟨by omega, by have := HN.out; omega⟩ ⟨by omega, by have := HN.out; omega⟩ (by omega) (by omega)
        have hi2 : StI gold (stV2 gold q k (j + 1)) (pcCome t k j) := ⟨HI.out.inv.come k j, e3⟩
        have hok := HI.out.ok HALL.out.2
        have HKQ := Lib.hid hkq; have HJK := Lib.hid hjk; have E1 := Lib.hid e1; have E2 := Lib.hid e2; have E3 := Lib.hid e3; have HI2 := Lib.hid hi2; have HOK := Lib.hid hok
        clear hkq hjk e1 e2 e3 hi2 hok
        go_wp2_with fail
        refine (pCome_any t k j HOK.out (picOk_pop HOK.out k j) HP.out).mono ?_
        rintro e w3 ⟨rfl, ho⟩
        rw [E1.out, E2.out, errV0]
        have HO := Lib.hid ho
        clear ho
        go_wp2_with fail
        go_roundw
        case rel => exact ⟨j + 1, _, by omega, by go_num, HI2, HO⟩
        case measure => simp [intOf]; omega
  case rest =>
  obtain ⟨s, hi, ho⟩ := hcut
  have HO4 := Lib.hid ho
  obtain ⟨e1, e2, e3, e4⟩ := still_end hi.inv hi.view HW.out
  have hok := hi.ok HALL.out.2
  clear hi ho HO3 HJ
  obtain ⟨all, hal⟩ : ∃ a, a = gold.sum := ⟨_, rfl⟩
  rw [← hal] at e2
  have HGL : Hid (∀ k, k < n2 → ∃ a : Addr, gad = some a ∧ ∀ w' (P : HProp), Own w P w' → w'.cell? (a.add k) = some (.int .i64 (pcG (pcNew gold) k))) := Lib.hid (fun k hk => by
    have hkl : k < gold.length := by rw [← HN.out]; exact hk
    obtain ⟨a, rfl, _⟩ := HVG.out.at k hkl
    refine ⟨a, rfl, fun w' P ho => ?_⟩
    obtain ⟨a', e, hc⟩ := (HVG.out.later ho).at k hkl
    cases e
    rw [hc]
    unfold pcG gAt
    rw [if_pos (by omega), Int.toNat_natCast, show (pcNew gold).gold = gold from rfl, List.getD_eq_getElem?_getD, List.getElem?_eq_getElem hkl]
    rfl)
  have HTS : Hid (∀ k, k < n2 → (gold.take (k + 1)).sum = (gold.take k).sum + pcG (pcNew gold) k) := Lib.hid (fun k hk => gold_take (pcNew gold) k (by show k < gold.length; rw [← HN.out]; exact hk))
  have HTB := Lib.hid (take_sum_bd (l := gold) (fun x hx => by have := HGX.out x hx; omega))
  have HGB : Hid (∀ k : Nat, k < n2 → 0 ≤ pcG (pcNew gold) k ∧ pcG (pcNew gold) k ≤ 1000000) := Lib.hid (fun k _ => HOK0.out.gold k)
  have E1 := Lib.hid e1; have E2 := Lib.hid e2; have E3 := Lib.hid e3; have E4 := Lib.hid e4; have HOK := Lib.hid hok; have HAL := Lib.hid hal
  clear e1 e2 e3 e4 hok hal
  go_upto_block 6 with fail
  go_cut [15] (fun sv wx => sv = .int .i64 all ∧ wx = wc)
  case first =>
    go_wp2_with fail
    go_loop [16, 15] (fun iv sv => ∃ k : Nat, k ≤ n2 ∧ iv = .int .i64 k ∧ sv = .int .i64 (gold.take k).sum) (fun iv _ => n2 - (intOf iv).toNat)
    case atStart => exact ⟨0, Nat.zero_le _, rfl, rfl⟩
    case round =>
      obtain ⟨k, hk, rfl, rfl⟩ := hrel
      by_cases h1 : k < n2
      rotate_left
      · have hkn : gold.take k = gold := List.take_of_length_le (by rw [← HN.out]; omega)
        rw [hkn, ← HAL.out]
        have HKN := Lib.hid hkn
        clear hkn
        go_wp2_with fail
        go_meet
        exact ⟨rfl, rfl⟩
      obtain ⟨a, rfl, hc⟩ := HGL.out k h1
      have hc1 := hc _ _ HO4.out
      have hnx := HTS.out k h1
      have hs1 := HTB.out k
      have hg := HGB.out k h1
      obtain ⟨A, hA⟩ : ∃ A, A = (gold.take k).sum := ⟨_, rfl⟩
      obtain ⟨g, hgg⟩ : ∃ A, A = pcG (pcNew gold) k := ⟨_, rfl⟩
      rw [← hA, ← hgg] at hnx
      rw [← hA] at hs1
      rw [← hgg] at hg hc1
      rw [← hA]
      have hwr : IntKind.i64.wrap (A + g) = A + g := by rw [IntKind.wrap_i64]; omega
      clear hc
      have HNX := Lib.hid hnx; have HS1 := Lib.hid hs1; have HA := Lib.hid hA; have HGG := Lib.hid hgg; have HG := Lib.hid hg
      clear hnx hs1 hA hgg hg
      go_wp2
      go_round
      case rel => exact ⟨k + 1, by omega, by go_num, by rw [HNX.out]⟩
      case measure => simp [intOf]; omega
  case rest =>
  obtain ⟨rfl, rfl⟩ := hcut
  clear HGL HTS HTB HGB
  go_wp2_with fail
  refine (pSum_any s HOK.out HO4.out).mono ?_
  rintro e w5 ⟨rfl, ho⟩
  rw [E1.out, if_pos rfl, if_pos rfl, if_pos rfl, E2.out, E3.out, errV0]
  obtain ⟨bs, hb_bs⟩ : ∃ zz_, zz_ = (w5).heap.size := ⟨_, rfl⟩
  obtain ⟨ws, hw_ws⟩ : ∃ zz_, zz_ = (w5).alloc (.cells #[.int .i64 all, .int .i64 0] 108 (0, 0)) := ⟨_, rfl⟩
  have h_HO5 := (ho).alloc (.cells #[.int .i64 all, .int .i64 0] 108 (0, 0))
  rw [← hb_bs, ← hw_ws] at h_HO5
  have HO5 := Lib.hid h_HO5
  clear h_HO5
  have HO6 : Hid (Own w (PicA p mb1 mb2 mb3 gb go gc n2 s * (SumB bs all 0 * emp)) ws) := Lib.hid HO5.out.second
  clear ho HO5 HO4
  have taa : (all == all) = true := by simp
  go_upto_region 28 with fail
  rw [← hb_bs, ← hw_ws]
  clear hb_bs hw_ws
  go_wp2_with fail
  refine (pDone_any s HO6.out).mono ?_
  rintro e wD ⟨rfl, ho⟩
  rw [E1.out]
  have HO7 := Lib.hid ho
  clear ho HO6
  obtain ⟨k0, k1, _⟩ := HO7.out.second.sumb
  go_wp2_with fail
  refine (pBegin_any s q HOK.out HO7.out).mono ?_
  rintro e wE ⟨rfl, ho⟩
  rw [E4.out]
  have HO8 := Lib.hid ho
  clear ho k0 k1
  go_wp2_with fail
  refine (sameErr_any HG.out 6 6 HO8.out).mono ?_
  rintro e wF ⟨rfl, ho⟩
  have HO9 := Lib.hid ho
  clear ho
  go_wp2
  go_ret
  exact ⟨rfl, HO9.out.below⟩
end Go.Proofs.YtdeeephdojflpaaDoor
