/- NetFull: more than may be on the way are refused, till one comes. -/
import Derived.Test.YtldmdenojpnldaaDoorNet3
import Derived.Test.YtldmdenojpnldaaDoorTold
namespace Go.Proofs.YtldmdenojpnldaaDoor
set_option linter.unusedVariables false
set_option linter.unusedSimpArgs false
open Go.RowKit Go.Maps
theorem nf_send {q : Ev} (hq : pkErr q = 0) (k : Nat) (hk : k ≤ 40) : ntErr ⟨List.replicate k q, []⟩ q = (if k < 40 then 0 else 4) ∧ ntSend ⟨List.replicate k q, []⟩ q = ⟨List.replicate (min (k + 1) 40) q, []⟩ := by
  have h1 : ntErr ⟨List.replicate k q, []⟩ q = if k < 40 then 0 else 4 := by
    unfold ntErr
    rw [if_neg (by rw [hq]; simp), List.length_replicate]
    by_cases h : k < 40
    · rw [if_neg (by omega), if_pos h]
    · rw [if_pos (by omega), if_neg h]
  refine ⟨h1, ?_⟩
  unfold ntSend
  rw [h1]
  by_cases h : k < 40
  · rw [if_pos h, if_pos rfl, show min (k + 1) 40 = k + 1 by omega, List.replicate_succ']
  · rw [if_neg h, if_neg (by decide), show min (k + 1) 40 = k by omega]
theorem nf_inv {q : Ev} (hq : pkErr q = 0) (k : Nat) (hk : k ≤ 40) : NtI ⟨List.replicate k q, []⟩ := ⟨by simp [hk], fun p hp => by rw [List.eq_of_mem_replicate hp]; exact hq, List.nodup_nil, by simp⟩
theorem nf_give {q : Ev} (hq : pkErr q = 0) (k : Nat) (h0 : 0 < k) : ntGiveErr ⟨List.replicate k q, []⟩ 0 = 0 ∧ ntGiven ⟨List.replicate k q, []⟩ 0 = q ∧ ntGive ⟨List.replicate k q, []⟩ 0 = ⟨List.replicate (k - 1) q, []⟩ := by
  have hh : ntHas ⟨List.replicate k q, []⟩ 0 = true := ntHas_iff.2 ⟨by omega, by simp; omega⟩
  have h1 : ntGiveErr ⟨List.replicate k q, []⟩ 0 = 0 := by
    unfold ntGiveErr
    rw [hh]
    unfold ntCutAt
    simp
  refine ⟨h1, ?_, ?_⟩
  · unfold ntGiven
    rw [h1, if_pos rfl]
    unfold ntAt
    rw [List.getD_eq_getElem?_getD]
    simp [h0]
  · unfold ntGive
    rw [h1, if_pos rfl]
    unfold ntOut
    congr 1
    obtain ⟨j, rfl⟩ : ∃ j, k = j + 1 := ⟨k - 1, by omega⟩
    rfl
set_option maxRecDepth 100000 in
set_option maxHeartbeats 4000000 in
theorem netFull_law (w : World) (hg : As.Handle w) (v : Value) (q : Ev) (hq : v = evV q ∧ goodEv q) (n : Int) (_hn : I64 n) :
    Calls Tryd.prog 3 #[v, .int .i64 n] w fun e w' => e = .returned (.bool true) ∧ Below w.heap.size w w' := by
  obtain ⟨rfl, hgq⟩ := hq
  obtain ⟨a, b, d⟩ := q
  have HW0 := Lib.hid (Own.start w)
  unfold evV
  dsimp only
  obtain ⟨b1, hb_b1⟩ : ∃ zz_, zz_ = (w).heap.size := ⟨_, rfl⟩
  obtain ⟨w1, hw_w1⟩ : ∃ zz_, zz_ = (w).alloc (.cells #[.int .i64 a, .int .i64 b, .int .i64 d] 23 (0, 0)) := ⟨_, rfl⟩
  have h_HO := (HW0.out).alloc (.cells #[.int .i64 a, .int .i64 b, .int .i64 d] 23 (0, 0))
  rw [← hb_b1, ← hw_w1] at h_HO
  have HO := Lib.hid h_HO
  clear h_HO
  have HO1 : Hid (Own w (PkO b1 (a, b, d) * emp) w1) := HO
  clear HO
  have HNI := Lib.hid NtI.new
  by_cases h1 : n < 1
  · have t1 : decide (n < 1) = true := by simpa using h1
    have HG := Lib.hid hg; have HGQ := Lib.hid hgq; have H1 := Lib.hid h1
    clear hg hgq h1
    go_enter Tryd.func3, Tryd.ntmps3
    go_upto_region 1 with fail
    rw [← hb_b1, ← hw_w1]
    clear hb_b1 hw_w1
    go_wp2_with fail
    refine (ntNew_any HO1.out).mono ?_
    rintro e w2 ⟨p, rfl, ho⟩
    have HO2 := Lib.hid ho
    clear ho
    go_wp2_with fail
    refine (ntAll_any p _ HNI.out HO2.out).mono ?_
    rintro e w3 ⟨v3, rfl, ho⟩
    obtain ⟨ad3, cp3, hv3, _⟩ := Own.rd ho
    subst hv3
    have HO3 := Lib.hid ho.second
    clear ho
    dsimp only [List.length_nil]
    go_wp2_with fail
    refine (ntDrop_any p _ 0 HNI.out HO3.out).mono ?_
    rintro e w4 ⟨rfl, ho⟩
    rw [show ntDropErr ⟨[], []⟩ 0 = 1 from rfl]
    have HO4 := Lib.hid ho
    clear ho
    rw [show errV 1 = .iface 129 (.int .i64 1) from rfl]
    go_wp2
    go_ret
    exact ⟨rfl, HO4.out.below⟩
  have t1 : decide (n < 1) = false := by simpa using h1
  by_cases h2 : 60 < n
  · have t2 : decide (60 < n) = true := by simpa using h2
    have HG := Lib.hid hg; have HGQ := Lib.hid hgq; have H1 := Lib.hid h1; have H2 := Lib.hid h2
    clear hg hgq h1 h2
    go_enter Tryd.func3, Tryd.ntmps3
    go_upto_region 1 with fail
    rw [← hb_b1, ← hw_w1]
    clear hb_b1 hw_w1
    go_wp2_with fail
    refine (ntNew_any HO1.out).mono ?_
    rintro e w2 ⟨p, rfl, ho⟩
    have HO2 := Lib.hid ho
    clear ho
    go_wp2_with fail
    refine (ntAll_any p _ HNI.out HO2.out).mono ?_
    rintro e w3 ⟨v3, rfl, ho⟩
    obtain ⟨ad3, cp3, hv3, _⟩ := Own.rd ho
    subst hv3
    have HO3 := Lib.hid ho.second
    clear ho
    dsimp only [List.length_nil]
    go_wp2_with fail
    refine (ntDrop_any p _ 0 HNI.out HO3.out).mono ?_
    rintro e w4 ⟨rfl, ho⟩
    rw [show ntDropErr ⟨[], []⟩ 0 = 1 from rfl]
    have HO4 := Lib.hid ho
    clear ho
    rw [show errV 1 = .iface 129 (.int .i64 1) from rfl]
    go_wp2
    go_ret
    exact ⟨rfl, HO4.out.below⟩
  have t2 : decide (60 < n) = false := by simpa using h2
  obtain ⟨N, rfl⟩ : ∃ N : Nat, n = (N : Int) := ⟨n.toNat, by omega⟩
  have hN1 : 1 ≤ N := by omega
  have hN : N ≤ 60 := by omega
  obtain ⟨x0, x1, x2⟩ := HO1.out.pk
  simp only at x0 x1 x2
  by_cases hq0 : pkErr (a, b, d) = 0
  rotate_left
  · have he : ntErr ⟨[], []⟩ (a, b, d) = pkErr (a, b, d) := by unfold ntErr; rw [if_pos hq0]
    have hs : ntSend ⟨[], []⟩ (a, b, d) = ⟨[], []⟩ := by unfold ntSend; rw [he, if_neg hq0]
    obtain ⟨mm, hmm⟩ := errV_some hq0
    have HG := Lib.hid hg; have HGQ := Lib.hid hgq; have H1 := Lib.hid h1; have H2 := Lib.hid h2; have HQ0 := Lib.hid hq0; have HE := Lib.hid he; have HS := Lib.hid hs; have HMM := Lib.hid hmm
    clear hg hgq h1 h2 hq0 he hs hmm
    go_enter Tryd.func3, Tryd.ntmps3
    go_upto_region 1 with fail
    rw [← hb_b1, ← hw_w1]
    clear hb_b1 hw_w1
    go_wp2_with fail
    refine (ntNew_any HO1.out).mono ?_
    rintro e w2 ⟨p, rfl, ho⟩
    obtain ⟨y0, y1, y2⟩ := ho.drop.pk
    simp only at y0 y1 y2
    have HO2 := Lib.hid ho
    clear ho x0 x1 x2
    go_wp2_with fail
    refine (ntSend_any p _ (a, b, d) HNI.out HO2.out).mono ?_
    rintro e w3 ⟨rfl, ho⟩
    rw [HE.out, HMM.out]
    rw [HS.out] at ho
    have HO3 := Lib.hid ho
    clear ho y0 y1 y2
    go_wp2_with fail
    refine (ntAll_any p _ HNI.out HO3.out).mono ?_
    rintro e w4 ⟨v3, rfl, ho⟩
    obtain ⟨ad3, cp3, hv3, _⟩ := Own.rd ho
    subst hv3
    have HO4 := Lib.hid ho.second
    clear ho
    dsimp only [List.length_nil]
    go_wp2
    go_ret
    exact ⟨rfl, HO4.out.below⟩
  obtain ⟨he1, hs1⟩ := nf_send hq0 0 (by omega)
  rw [show List.replicate 0 (a, b, d) = ([] : List Ev) from rfl] at he1 hs1
  rw [if_pos (by omega)] at he1
  rw [show min (0 + 1) 40 = 1 by omega] at hs1
  have HG := Lib.hid hg; have HGQ := Lib.hid hgq; have H1 := Lib.hid h1; have H2 := Lib.hid h2; have HQ0 := Lib.hid hq0; have HE1 := Lib.hid he1; have HS1 := Lib.hid hs1
  clear hg hgq h1 h2 hq0 he1 hs1
  go_enter Tryd.func3, Tryd.ntmps3
  go_upto_region 1 with fail
  rw [← hb_b1, ← hw_w1]
  clear hb_b1 hw_w1
  go_wp2_with fail
  refine (ntNew_any HO1.out).mono ?_
  rintro e w2 ⟨p, rfl, ho⟩
  obtain ⟨y0, y1, y2⟩ := ho.drop.pk
  simp only at y0 y1 y2
  have HO2 := Lib.hid ho
  clear ho x0 x1 x2
  go_wp2_with fail
  refine (ntSend_any p _ (a, b, d) HNI.out HO2.out).mono ?_
  rintro e w3 ⟨rfl, ho⟩
  rw [HE1.out, errV0]
  rw [HS1.out] at ho
  have HO3 := Lib.hid ho
  clear ho y0 y1 y2
  go_upto_block 0 with fail
  go_cut [7] (fun mv wx => mv = .int .i64 (min N 40 : Nat) ∧ Own w (NtP p ⟨List.replicate (min N 40) (a, b, d), []⟩ * (PkO b1 (a, b, d) * emp)) wx)
  case first =>
    go_wp2_with fail
    go_loopw [8, 7] (fun iv mv wr => ∃ k : Nat, 1 ≤ k ∧ k ≤ N ∧ iv = .int .i64 k ∧ mv = .int .i64 (min k 40 : Nat) ∧ Hid (Own w (NtP p ⟨List.replicate (min k 40) (a, b, d), []⟩ * (PkO b1 (a, b, d) * emp)) wr)) (fun iv _ _ => N - (intOf iv).toNat)
    case atStart => exact ⟨1, Nat.le_refl _, hN1, rfl, rfl, HO3⟩
    case round =>
      obtain ⟨k, hk1, hk, rfl, rfl, HP⟩ := hrel
      clear HO3 HO2
      by_cases hlt : k < N
      rotate_left
      · have hkn : k = N := by omega
        subst hkn
        go_wp2_with fail
        go_meet
        exact ⟨rfl, HP.out⟩
      obtain ⟨he, hs⟩ := nf_send HQ0.out (min k 40) (by omega)
      have hni := nf_inv HQ0.out (min k 40) (by omega)
      obtain ⟨y0, y1, y2⟩ := HP.out.second.pk
      simp only at y0 y1 y2
      rw [show min (min k 40 + 1) 40 = min (k + 1) 40 by omega] at hs
      obtain ⟨M, hM⟩ : ∃ M, M = min k 40 := ⟨_, rfl⟩
      rw [← hM] at he hs hni HP ⊢
      have hM1 : M ≤ 40 := by omega
      by_cases h40 : M < 40
      · rw [if_pos h40] at he
        have hM2 : min (k + 1) 40 = M + 1 := by omega
        rw [hM2] at hs
        have HE := Lib.hid he; have HS := Lib.hid hs; have HNI := Lib.hid hni; have HM := Lib.hid hM; have HM2 := Lib.hid hM2
        clear he hs hni hM hM2
        go_wp2_with fail
        refine (ntSend_any p _ (a, b, d) HNI.out HP.out).mono ?_
        rintro e w4 ⟨rfl, ho⟩
        rw [HE.out, errV0]
        rw [HS.out] at ho
        have HO4 := Lib.hid ho
        clear ho y0 y1 y2
        go_wp2_with fail
        go_roundw
        case rel => exact ⟨k + 1, by omega, by omega, by go_num, by rw [HM2.out, Int.natCast_add]; rfl, by rw [HM2.out]; exact HO4⟩
        case measure => simp [intOf]; omega
      · rw [if_neg h40] at he
        have hM0 : M = 40 := by omega
        subst hM0
        have hM2 : min (k + 1) 40 = 40 := by omega
        rw [hM2] at hs
        have HE := Lib.hid he; have HS := Lib.hid hs; have HNI := Lib.hid hni; have HM := Lib.hid hM; have HM2 := Lib.hid hM2
        clear he hs hni hM hM2
        go_wp2_with fail
        refine (ntSend_any p _ (a, b, d) HNI.out HP.out).mono ?_
        rintro e w4 ⟨rfl, ho⟩
        rw [HE.out]
        rw [HS.out] at ho
        have HO4 := Lib.hid ho
        clear ho y0 y1 y2
        rw [show errV 4 = .iface 129 (.int .i64 4) from rfl]
        go_wp2_with fail
        refine (sameErr_any HG.out 4 4 HO4.out).mono ?_
        rintro e w5 ⟨rfl, ho⟩
        have HO5 := Lib.hid ho
        clear ho
        go_wp2_with fail
        go_roundw
        case rel => exact ⟨k + 1, by omega, by omega, by go_num, by rw [HM2.out]; rfl, by rw [HM2.out]; exact HO5⟩
        case measure => simp [intOf]; omega
  case rest =>
  obtain ⟨rfl, ho⟩ := hcut
  clear HO3 HO2
  obtain ⟨M, hM⟩ : ∃ M, M = min N 40 := ⟨_, rfl⟩
  rw [← hM] at ho ⊢
  have hM0 : 0 < M := by omega
  have hM1 : M ≤ 40 := by omega
  obtain ⟨ge, gq, gs⟩ := nf_give HQ0.out M hM0
  have hni := nf_inv HQ0.out M hM1
  have hni2 := nf_inv HQ0.out (M - 1) (by omega)
  obtain ⟨he, hs⟩ := nf_send HQ0.out (M - 1) (by omega)
  rw [if_pos (by omega)] at he
  have HO6 := Lib.hid ho
  clear ho
  have GE := Lib.hid ge; have GQ := Lib.hid gq; have GS := Lib.hid gs; have HNI := Lib.hid hni; have HNI2 := Lib.hid hni2; have HE := Lib.hid he; have HS := Lib.hid hs; have HM := Lib.hid hM
  clear ge gq gs hni hni2 he hs hM
  go_wp2_with fail
  refine (ntGive_any p _ 0 HNI.out HO6.out).mono ?_
  rintro e w7 ⟨rfl, ho⟩
  rw [GE.out, GQ.out, errV0]
  rw [GS.out] at ho
  unfold evV
  dsimp only
  obtain ⟨b3, hb_b3⟩ : ∃ zz_, zz_ = (w7).heap.size := ⟨_, rfl⟩
  obtain ⟨w8, hw_w8⟩ : ∃ zz_, zz_ = (w7).alloc (.cells #[.int .i64 a, .int .i64 b, .int .i64 d] 23 (0, 0)) := ⟨_, rfl⟩
  have h_HB3 := (ho).alloc (.cells #[.int .i64 a, .int .i64 b, .int .i64 d] 23 (0, 0))
  rw [← hb_b3, ← hw_w8] at h_HB3
  have HB3 := Lib.hid h_HB3
  clear h_HB3
  have HO8 : Hid (Own w (NtP p ⟨List.replicate (M - 1) (a, b, d), []⟩ * (PkO b1 (a, b, d) * (PkO b3 (a, b, d) * emp))) w8) := Lib.hid (HB3.out.perm (by unfold PkO; ac_rfl))
  clear ho HB3 HO6
  obtain ⟨y0, y1, y2⟩ := HO8.out.second.pk
  obtain ⟨z0, z1, z2⟩ := HO8.out.third.pk
  simp only at y0 y1 y2 z0 z1 z2
  have hlr : (List.replicate (M - 1) ((a, b, d) : Ev)).length = M - 1 := List.length_replicate
  have hmi : (((M - 1 : Nat) : Int) == (M : Int) - 1) = true := by rw [beq_iff_eq]; omega
  have HLR := Lib.hid hlr
  clear hlr
  go_upto_region 17 with fail
  rw [← hb_b3, ← hw_w8]
  clear hb_b3 hw_w8
  go_wp2_with fail
  refine (ntAll_any p _ HNI2.out HO8.out).mono ?_
  rintro e w9 ⟨v9, rfl, ho⟩
  obtain ⟨ad9, cp9, hv9, _⟩ := Own.rd ho
  subst hv9
  dsimp only
  rw [HLR.out]
  obtain ⟨y0', y1', y2'⟩ := ho.third.pk
  obtain ⟨z0', z1', z2'⟩ := ho.fourth.pk
  simp only at y0' y1' y2' z0' z1' z2'
  have HO9 := Lib.hid ho.second
  clear ho y0 y1 y2 z0 z1 z2
  go_wp2_with fail
  refine (ntSend_any p _ (a, b, d) HNI2.out HO9.out).mono ?_
  rintro e w10 ⟨rfl, ho⟩
  rw [HE.out, errV0]
  have HO10 := Lib.hid ho
  clear ho
  go_wp2
  go_ret
  exact ⟨rfl, HO10.out.below⟩
end Go.Proofs.YtldmdenojpnldaaDoor
