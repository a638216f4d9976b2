/- TopViews: a round of the law. -/
import Derived.Test.YtkgnjkokbiefgaaTopViewsP
import Derived.Test.YtkgnjkokbiefgaaFlushSameQ
namespace Go.Proofs.Ytkgnjkokbiefgaa
set_option linter.unusedVariables false
set_option linter.unusedSimpArgs false
open Go.RowKit
theorem info_vw : (Try.prog.info? 39).map (fun i => (i.zero, i.size, i.bytes)) = some (some (.agg #[.int .i64 0, .slice none 0 0]), 2, 32) := by kernel_rfl
def VwRow (v : Value) (L : List Vw) : HProp := Sl 39 2 v L.length (L.flatMap vwCells)
def vwF (x : Vw) : HProp := IntSl x.2.1 x.2.2
theorem vw_len (L : List Vw) : (L.flatMap vwCells).length = L.length * 2 := cells_len vwCells 2 (fun _ => rfl) L
theorem VwRow_reads {w0 : World} {lv : Value} {L : List Vw} {R : HProp} (hI : ∀ x ∈ L, ∀ y ∈ x.2.2, I64 y) : ReadsV w0 (VwRow lv L * (starL vwF L * R)) lv L := by
  refine ⟨fun w ho => Own.rd ho, fun x hx => ?_⟩
  obtain ⟨i, hi, rfl⟩ := List.getElem_of_mem hx
  intro w ho
  refine IntSl_reads (hI _ hx) w (ho.perm (show _ = IntSl L[i].2.1 L[i].2.2 * (starL vwF (L.eraseIdx i) * (VwRow lv L * R)) from ?_))
  rw [starL_split vwF L i hi]
  show VwRow lv L * (IntSl L[i].2.1 L[i].2.2 * starL vwF (L.eraseIdx i) * R) = _
  ac_rfl
def tvRel (w : World) (p k : Nat) (lv : Value) (wx : World) : Prop := ∃ (L : List Vw) (s : Fl), tvJ s ∧ tvL L s ∧ L.length ≤ k + 1 ∧ (∀ x ∈ L, ∀ y ∈ x.2.2, I64 y) ∧ Own w (VwRow lv L * (starL vwF L * (FlP p s * emp))) wx
noncomputable def tvRound_code : Code := ((Try.f13.body.bind (findBlock 1)).getD .skip)
set_option maxRecDepth 1000000 in
set_option maxHeartbeats 4000000 in
theorem tvRound {Q : Exit → Act → World → Prop} {u0 u3 u4 u5 u6 u7 u9 u12 u13 u14 u15 u16 u17 u18 u19 u20 u21 u22 u23 u24 u25 u26 u27 u28 u29 u30 u31 u32 u33 u34 u35 u36 u37 u38 u39 u40 u41 u42 u43 u44 u45 u46 u47 u48 u49 u50 u51 u52 u53 u54 u55 u56 u57 u58 u59 u60 u61 u62 u63 u64 u65 u66 u67 u68 u69 u70 u71 u72 u73 u74 u75 u76 u77 u78 u79 u80 u81 u82 u83 u84 u85 u86 u87 u88 u89 u90 u91 u92 u93 u94 u95 u96 u97 u98 u99 u100 u101 u102 u103 u104 u105 u106 u107 u108 u109 u110 u111 u112 u113 u114 u115 u116 u117 u118 u119 u120 u121 u122 u123 u124 u125 u126 u127 u128 u129 u130 u131 u132 u133 u134 u135 u136 : Value} {w1 : World} (w : World) (p k : Nat) (sets : List (List Int)) (words : List Int) (sad tad : Option Addr) (scap tcap : Nat) (lv : Value) (h1 : k < sets.length) (h2 : k < 30) (hsc1 : sets.length ≤ scap) (hsc2 : scap ≤ 9223372036854775807) (htc1 : words.length ≤ tcap) (htc2 : tcap ≤ 9223372036854775807) (HVS : Hid (Rows2 w (.slice sad sets.length scap) sets)) (HVT : Hid (Ints w (.slice tad words.length tcap) words)) (HR : Hid (tvRel w p k lv w1))
    (hK : ∀ (v6 v10 v12 v13 v14 v15 v16 v17 v18 v19 v45 v46 v47 v48 v49 v50 v51 v52 v53 v54 v55 v56 v57 v58 v59 v60 v61 v62 v63 v64 v65 v66 v67 v68 v69 v70 v71 v72 v73 v74 v75 v76 v77 v78 v79 v80 v81 v82 v83 v84 v85 v86 v87 v88 v89 v90 v91 v92 v93 v94 v95 v96 v97 v98 v99 v100 v101 v102 v103 v104 v105 v106 v107 v108 v109 v110 v111 v112 v113 v114 v115 v116 v117 v118 v119 v120 v121 v122 v123 v124 v125 v126 v127 v128 v129 : Value) (wx : World), (tvRel w p (k + 1) v10 wx) → Q .normal ⟨List.toArray (u0 :: (.slice sad sets.length scap) :: (.slice tad words.length tcap) :: u3 :: u4 :: u5 :: v6 :: u7 :: (.pointer (some ⟨p, 0, none⟩)) :: u9 :: v10 :: (.int .i64 (k : Int)) :: v12 :: v13 :: v14 :: v15 :: v16 :: v17 :: v18 :: v19 :: u20 :: u21 :: u22 :: u23 :: u24 :: u25 :: u26 :: u27 :: u28 :: u29 :: u30 :: u31 :: u32 :: u33 :: u34 :: u35 :: u36 :: u37 :: u38 :: u39 :: u40 :: u41 :: u42 :: u43 :: u44 :: v45 :: v46 :: v47 :: v48 :: v49 :: v50 :: v51 :: v52 :: v53 :: v54 :: v55 :: v56 :: v57 :: v58 :: v59 :: v60 :: v61 :: v62 :: v63 :: v64 :: v65 :: v66 :: v67 :: v68 :: v69 :: v70 :: v71 :: v72 :: v73 :: v74 :: v75 :: v76 :: v77 :: v78 :: v79 :: v80 :: v81 :: v82 :: v83 :: v84 :: v85 :: v86 :: v87 :: v88 :: v89 :: v90 :: v91 :: v92 :: v93 :: v94 :: v95 :: v96 :: v97 :: v98 :: v99 :: v100 :: v101 :: v102 :: v103 :: v104 :: v105 :: v106 :: v107 :: v108 :: v109 :: v110 :: v111 :: v112 :: v113 :: v114 :: v115 :: v116 :: v117 :: v118 :: v119 :: v120 :: v121 :: v122 :: v123 :: v124 :: v125 :: v126 :: v127 :: v128 :: v129 :: u130 :: u131 :: u132 :: u133 :: u134 :: u135 :: u136 :: []), []⟩ wx) :
    Code.wp Try.prog tvRound_code Q ⟨List.toArray (u0 :: (.slice sad sets.length scap) :: (.slice tad words.length tcap) :: u3 :: u4 :: u5 :: u6 :: u7 :: (.pointer (some ⟨p, 0, none⟩)) :: u9 :: (lv) :: (.int .i64 (k : Int)) :: u12 :: u13 :: u14 :: u15 :: u16 :: u17 :: u18 :: u19 :: u20 :: u21 :: u22 :: u23 :: u24 :: u25 :: u26 :: u27 :: u28 :: u29 :: u30 :: u31 :: u32 :: u33 :: u34 :: u35 :: u36 :: u37 :: u38 :: u39 :: u40 :: u41 :: u42 :: u43 :: u44 :: u45 :: u46 :: u47 :: u48 :: u49 :: u50 :: u51 :: u52 :: u53 :: u54 :: u55 :: u56 :: u57 :: u58 :: u59 :: u60 :: u61 :: u62 :: u63 :: u64 :: u65 :: u66 :: u67 :: u68 :: u69 :: u70 :: u71 :: u72 :: u73 :: u74 :: u75 :: u76 :: u77 :: u78 :: u79 :: u80 :: u81 :: u82 :: u83 :: u84 :: u85 :: u86 :: u87 :: u88 :: u89 :: u90 :: u91 :: u92 :: u93 :: u94 :: u95 :: u96 :: u97 :: u98 :: u99 :: u100 :: u101 :: u102 :: u103 :: u104 :: u105 :: u106 :: u107 :: u108 :: u109 :: u110 :: u111 :: u112 :: u113 :: u114 :: u115 :: u116 :: u117 :: u118 :: u119 :: u120 :: u121 :: u122 :: u123 :: u124 :: u125 :: u126 :: u127 :: u128 :: u129 :: u130 :: u131 :: u132 :: u133 :: u134 :: u135 :: u136 :: []), []⟩ w1 := by
  conv => arg 2; whnf
  have HK := Lib.hid hK
  clear hK
  obtain ⟨L, s, hJ, hL, hLl, hLI, ho⟩ := HR.out
  obtain ⟨la, lc, rfl⟩ : ∃ ad cap, lv = .slice ad L.length cap := by
    obtain ⟨ad, cap, h, _⟩ := Own.rd ho
    exact ⟨ad, cap, h⟩
  have hok := hJ.1.1.ok
  have hn6 := hJ.1.1.1
  obtain ⟨n, hn⟩ : ∃ n, n = s.n := ⟨_, rfl⟩
  obtain ⟨A, hA⟩ : ∃ A, A = s.has := ⟨_, rfl⟩
  obtain ⟨c, rr, hcr⟩ : ∃ c r, A = c :: r := by obtain ⟨c, r, h, _⟩ := hJ.2.2; exact ⟨c, r, by rw [hA]; exact h⟩
  have hA0 : 0 < A.length := by rw [hcr]; simp
  have hAI : ∀ q ∈ A, I64 q := by rw [hA]; exact hok.2.1.2
  rw [← hn] at hn6
  have HO := Lib.hid ho.third
  have HJ := Lib.hid hJ; have HL := Lib.hid hL; have HLI := Lib.hid hLI; have HOK := Lib.hid hok; have HN := Lib.hid hn; have HA := Lib.hid hA; have HCR := Lib.hid hcr; have HAI := Lib.hid hAI
  clear hJ hL hLI hok hn hA hcr hAI
  clear ho HR
  go_wp2_with fail
  refine (flView_any p s HOK.out HO.out).mono ?_
  rintro e w3 ⟨v3, rfl, ho3⟩
  obtain ⟨va, vc, rfl⟩ := ho3.int_shape
  rw [← HA.out] at ho3
  rw [← HN.out, ← HA.out]
  obtain ⟨bo, hb_bo⟩ : ∃ zz_, zz_ = (w3).heap.size := ⟨_, rfl⟩
  obtain ⟨wo, hw_wo⟩ : ∃ zz_, zz_ = (w3).alloc (.cells #[.int .i64 n, .slice va A.length vc] 39 (0, 0)) := ⟨_, rfl⟩
  have h_HO4 := (ho3).alloc (.cells #[.int .i64 n, .slice va A.length vc] 39 (0, 0))
  rw [← hb_bo, ← hw_wo] at h_HO4
  have HO4 := Lib.hid h_HO4
  clear h_HO4
  obtain ⟨LL, hLL⟩ : ∃ X, X = VwRow (.slice la L.length lc) L * (starL vwF L * emp) := ⟨_, rfl⟩
  have HO5 : Hid (Own w (FlP p s * (VwO bo n (.slice va A.length vc) * (IntSl (.slice va A.length vc) A * LL))) wo) := Lib.hid (HO4.out.perm (by rw [hLL]; unfold VwO; ac_rfl))
  have HLL := Lib.hid hLL
  clear hLL
  clear ho3 HO4 HO
  go_upto_region 12 with fail
  rw [← hb_bo, ← hw_wo]
  clear hb_bo hw_wo
  obtain ⟨k0, k1, _⟩ := HO5.out.second.vw
  have tA : decide ((0 : Int) < (A.length : Int)) = true := by simp; omega
  obtain ⟨D, hD⟩ : ∃ D, D = decide (k < words.length) := ⟨_, rfl⟩
  have hD' : decide (k < words.length) = D := hD.symm
  go_cut [56] from 47 to 56 (fun v wx => v = .bool D ∧ wx = wo)
  case first =>
    have HD := Lib.hid hD
    clear hD
    cases D
    all_goals
      go_wp2_with fail
      go_meet
      exact ⟨rfl, rfl⟩
  case rest =>
  obtain ⟨rfl, rfl⟩ := hcut
  go_upto_if 56 with fail
  go_cut [] from 57 to 66 (fun wx => ∃ s1, tvJ s1 ∧ s1.n = n ∧ s1.has = A ∧ Own w (FlP p s1 * (VwO bo n (.slice va A.length vc) * (IntSl (.slice va A.length vc) A * LL))) wx)
  case first =>
    cases D
    · clear hD hD'
      go_wp2_with fail
      go_meet
      exact ⟨s, HJ.out, HN.out.symm, HA.out.symm, HO5.out⟩
    · have hk : k < words.length := by simpa using hD'
      clear hD hD'
      obtain ⟨aa, rfl, hca⟩ := ((IntSl_reads HAI.out).more.more wc.drew HO5.out.drew).at 0 hA0
      obtain ⟨bb, rfl, hcb⟩ := HVT.out.at_later k hk
      have hcb' := hcb _ _ HO5.out.drew
      have hc0 : A[0] = c := by simp [HCR.out]
      have haa : aa.add 0 = aa := by cases aa; rfl
      rw [haa, hc0] at hca
      obtain ⟨x, hx⟩ : ∃ x, x = words[k] := ⟨_, rfl⟩
      rw [← hx] at hcb'
      have q1 : wc.drew.cell? ⟨bo, 1, none⟩ = some (.slice (some aa) A.length vc) := HO5.out.drew.second.vw.2.1
      have HX := Lib.hid hx; have HAA := Lib.hid haa; have HC0 := Lib.hid hc0
      clear hx haa hc0
      clear hcb k0 k1
      go_upto_region 13 with fail
      refine wp_region_tail 9 (by kernel_rfl) (by kernel_rfl) ?_
      simp only [List.take_succ_cons, List.take_zero, List.drop_succ_cons, List.drop_zero]
      repeat still_step
      refine wpStill_nil ?_
      go_wp2_with fail
      refine (flSay_any p s c x HOK.out HJ.out.1.1.few HO5.out.drew).mono ?_
      rintro e w6 ⟨rfl, ho6⟩
      have HO6 := Lib.hid ho6
      clear ho6
      go_wp2_with fail
      go_meet
      refine ⟨_, tvJ_say HJ.out (by rw [← HA.out, HCR.out]; rfl) x, ?_, ?_, HO6.out⟩
      · rw [HN.out]; unfold flSay; split <;> rfl
      · rw [HA.out]; unfold flSay; split <;> rfl
  case rest =>
  obtain ⟨s1, hj1, hn1, ha1, ho1⟩ := hcut
  have HO6 := Lib.hid ho1
  clear ho1 k0 k1 hD hD' tA
  obtain ⟨b2, qad, qcap, e2, hqr, hqc⟩ := HVS.out.at_later k h1
  obtain ⟨B, hB⟩ : ∃ B, B = sets[k] := ⟨_, rfl⟩
  rw [← hB] at hqr hqc
  subst e2
  have c5 := hqc wc _ HO6.out
  have hj1' := hj1
  have HQR := Lib.hid hqr; have HQC := Lib.hid hqc; have HB := Lib.hid hB; have HJ1 := Lib.hid hj1
  clear hqr hqc hB hj1
  go_upto_region 14 with fail
  by_cases he : flNextErr s1 B = 0
  rotate_left
  · obtain ⟨E, hE⟩ : ∃ E, E = flNextErr s1 B := ⟨_, rfl⟩
    have hE0 : E ≠ 0 := by rw [hE]; exact he
    have hee := errV_pos hE0
    have HE_ := Lib.hid he
    have HE := Lib.hid hE; have HE0 := Lib.hid hE0; have HEE := Lib.hid hee; have HJ1' := Lib.hid hj1'; have HN1 := Lib.hid hn1; have HA1 := Lib.hid ha1
    clear hE hE0 hee hj1' hn1 ha1
    clear he
    go_wp2_with fail
    refine (flChange_no p s1 _ B HJ1.out.1.1.ok HE_.out HQR.out.reads HO6.out).mono ?_
    rintro e w6 ⟨rfl, ho6⟩
    rw [← HE.out, HEE.out]
    have HO7 : Hid (Own w (FlP p s1 * (VwO bo n (.slice va A.length vc) * (IntSl (.slice va A.length vc) A * LL))) w6) := Lib.hid ho6
    clear ho6 c5
    go_wp2_with fail
    apply HK.out
    refine ⟨L, s1, HJ1.out, ?_, by omega, HLI.out, ?_⟩
    · obtain ⟨hl1, q, hq, e1, e2⟩ := HL.out
      exact ⟨hl1, q, hq, by rw [e1, HN1.out, HN.out], by rw [e2, HA1.out, HA.out]⟩
    · have h9 := (HO7.out.alloc' (.cells #[.int .i64 0, .slice none 0 0] 39 (0, 0)))
      have h10 := h9.second.drop.second.drop
      rw [HLL.out] at h10
      exact h10.perm (by ac_rfl)
  have hcn := flChange_n he
  have hch := flChange_has he
  obtain ⟨S, hS⟩ : ∃ S, S = flChange s1 B := ⟨_, rfl⟩
  rw [← hS, hn1] at hcn
  rw [← hS] at hch
  have hSj : tvJ S := by rw [hS]; exact tvJ_change hj1' he
  have hne := nextErr0 he
  have hvn := viewErr_next he hj1'.1.1.1
  rw [hn1] at hvn
  rw [hn1, ha1] at hne
  obtain ⟨KS, hKK⟩ : ∃ K, K = keepB B A := ⟨_, rfl⟩
  have hK0 : 0 < KS.length := by rw [hKK, ← ha1]; exact fl_some he
  have hK5 : KS.length ≤ 1000 := by rw [hKK, ← ha1]; have := keepB_le B s1.has; have := hj1'.1.1.ok.2.1.1; omega
  have hKm : ∀ q ∈ KS, isMember q = true := by rw [hKK, ← ha1]; intro q hq; exact hj1'.1.1.2.1.2 q (List.mem_filter.1 hq).1
  have hBI : ∀ q ∈ B, I64 q := by rw [← hch]; exact hSj.1.1.ok.2.1.2
  have hSn : S.n ≤ 1000000 := hSj.1.1.1.2
  have hHe : ∀ q ∈ KS, flHeardErr S q n = 0 := fun q hq => by
    unfold flHeardErr
    rw [if_neg (by rw [hKm q hq]; simp), if_neg (by omega), if_neg (by rw [hcn]; omega)]
  have hsame : ∀ q ∈ KS, ∀ r ∈ KS, flRow S (n, q) = flRow S (n, r) := fun q hq r hr => by
    have := tv_same hj1' he (a := q) (b := r) (by rw [ha1, ← hKK]; exact hq) (by rw [ha1, ← hKK]; exact hr)
    rw [← hS, hn1] at this
    exact this
  have hbe : vbothErr n A (n + 1) B = 0 := by
    unfold vbothErr
    rw [if_neg (by simpa using hne.1)]
    exact hvn
  have hbh : vbothHas n A (n + 1) B = KS := by unfold vbothHas; rw [if_pos hbe, hKK]
  have hn7 : n + 1 ≤ 1000000 := by rw [← hcn]; exact hSn
  have hL2 : ∀ v, tvL (L ++ [(n + 1, v, B)]) S := fun v => by
    have hl1 : tvL L s1 := by
      obtain ⟨hl1, q, hq, e1, e2⟩ := HL.out
      exact ⟨hl1, q, hq, by rw [e1, hn1, HN.out], by rw [e2, ha1, HA.out]⟩
    have := tvL_snoc hl1 hj1'.1.1.1 he v
    rw [hn1, ← hS] at this
    exact this
  have HCN := Lib.hid hcn; have HCH := Lib.hid hch; have HS := Lib.hid hS; have HSJ := Lib.hid hSj; have HNE := Lib.hid hne; have HKK := Lib.hid hKK; have HKM := Lib.hid hKm; have HBI := Lib.hid hBI; have HHE := Lib.hid hHe; have HSAME := Lib.hid hsame; have HBE := Lib.hid hbe; have HBH := Lib.hid hbh; have HSN := Lib.hid hSn; have HN1 := Lib.hid hn1; have HA1 := Lib.hid ha1; have HJ1' := Lib.hid hj1'; have HVN := Lib.hid hvn; have HL2 := Lib.hid hL2
  clear hcn hch hS hSj hne hKK hKm hBI hHe hsame hbe hbh hSn hn1 ha1 hj1' hvn hL2
  go_wp2_with fail
  refine (flChange_yes p s1 _ B HJ1.out.1.1 he HQR.out.reads HO6.out).mono ?_
  rintro e w6 ⟨v6, rfl, ho6⟩
  obtain ⟨a6, c6, rfl⟩ := ho6.int_shape
  rw [← HS.out] at ho6
  rw [HN1.out, errV0]
  obtain ⟨bz, hb_bz⟩ : ∃ zz_, zz_ = (w6).heap.size := ⟨_, rfl⟩
  obtain ⟨wz, hw_wz⟩ : ∃ zz_, zz_ = (w6).alloc (.cells #[.int .i64 (n + 1), .slice a6 B.length c6] 39 (0, 0)) := ⟨_, rfl⟩
  have h_HO7 := (ho6).alloc (.cells #[.int .i64 (n + 1), .slice a6 B.length c6] 39 (0, 0))
  rw [← hb_bz, ← hw_wz] at h_HO7
  have HO7 := Lib.hid h_HO7
  clear h_HO7
  have HO8 : Hid (Own w (FlP p S * (VwO bo n (.slice va A.length vc) * (IntSl (.slice va A.length vc) A * (VwO bz (n + 1) (.slice a6 B.length c6) * (IntSl (.slice a6 B.length c6) B * LL))))) wz) := Lib.hid (HO7.out.perm (by unfold VwO; ac_rfl))
  clear ho6 HO7 c5 HO5 HO6 he
  obtain ⟨k0, k1, _⟩ := HO8.out.second.vw
  obtain ⟨l0, l1, _⟩ := HO8.out.fourth.vw
  go_upto_region 15 with fail
  rw [← hb_bz, ← hw_wz]
  clear hb_bz hw_wz
  have HO9 : Hid (Own w (Sl 39 2 (.slice la L.length lc) L.length (L.flatMap vwCells) * (FlP p S * (VwO bo n (.slice va A.length vc) * (IntSl (.slice va A.length vc) A * (VwO bz (n + 1) (.slice a6 B.length c6) * (IntSl (.slice a6 B.length c6) B * (starL vwF L * emp))))))) wz) := Lib.hid (by
    have h := HO8.out
    rw [HLL.out] at h
    unfold VwRow at h
    exact h.perm (by ac_rfl))
  go_upto_region 17 with (at_builtin; refine wpList_app rfl _ _ 45 rfl 39 2 32 _ info_vw Try.underlying45 rfl (by decide) rfl (HO9.out.alloc' _) rfl (by rfl) (Rd_lit (by simp) (by unfold maxLen; omega)) (by intro u hu; simp at hu; rcases hu with rfl | rfl <;> rfl) (by unfold maxLen; omega) (by omega) ?_; intro v8 w8 hown; have HO10 := Lib.hid hown; clear hown)
  have HO11 : Hid (Own w (FlP p S * (VwO bo n (.slice va A.length vc) * (IntSl (.slice va A.length vc) A * (VwO bz (n + 1) (.slice a6 B.length c6) * (IntSl (.slice a6 B.length c6) B * (VwRow v8 (L ++ [(n + 1, .slice a6 B.length c6, B)]) * (starL vwF L * emp))))))) w8) := Lib.hid (by
    have h := HO10.out
    refine h.perm ?_
    unfold VwRow
    rw [List.length_append, List.flatMap_append]
    show Sl 39 2 v8 (L.length + 1) (L.flatMap vwCells ++ [.int .i64 (n + 1), .slice a6 B.length c6]) * _ = _
    simp only [List.flatMap_cons, List.flatMap_nil, List.append_nil, vwCells, List.length_singleton]
    ac_rfl)
  clear HO8 HO9 HO10 k0 k1 l0 l1
  obtain ⟨k0, k1, _⟩ := HO11.out.second.vw
  obtain ⟨l0, l1, _⟩ := HO11.out.fourth.vw
  go_wp2_with fail
  refine (viewBoth_any n (n + 1) _ _ A B (IntSl_reads HAI.out).more.more (IntSl_reads HBI.out).more.more.more.more HO11.out).mono ?_
  rintro e w10 ⟨v10, rfl, ho10⟩
  rw [HBE.out, errV0]
  rw [HBH.out] at ho10
  obtain ⟨ka, kc, rfl⟩ := ho10.int_shape
  clear k0 k1 l0 l1
  have HO12 := Lib.hid ho10
  clear ho10
  obtain ⟨j, hj⟩ : ∃ j, KS.length = j + 1 := ⟨KS.length - 1, by omega⟩
  have hj5 : j ≤ 1000 := by omega
  rw [hj]
  have t0 : ((j : Int) + 1 == 0) = false := by rw [beq_eq_false_iff_ne]; omega
  have HJ_ := Lib.hid hj
  clear hj hK5
  go_upto_region 20 with fail
  clear t0
  have HRK : Hid (∀ R', Reads w (IntSl (.slice ka KS.length kc) KS * R') (.slice ka KS.length kc) KS) := Lib.hid (fun R' => IntSl_reads (fun q hq => member_I64 (HKM.out q hq)))
  obtain ⟨u, hu⟩ : ∃ u, u = KS[0] := ⟨_, rfl⟩
  have huK : u ∈ KS := by rw [hu]; exact List.getElem_mem _
  obtain ⟨aa, rfl, hca⟩ := (HRK.out _ _ HO12.out.drew).at 0 hK0
  rw [← hu] at hca
  obtain ⟨k0, _, _⟩ := HO12.out.drew.third.vw
  obtain ⟨X, hX⟩ : ∃ X, X = flRow S (n, u) := ⟨_, rfl⟩
  have hue := HHE.out u huK
  have hxh : flHeard S u n = X := by unfold flHeard; rw [if_pos hue, hX]
  have hXl : X.length ≤ 1000 := by rw [hX]; exact (HSJ.out.1.1.ok.2.2.2 _).1
  have hXI : ∀ q ∈ X, I64 q := by rw [hX]; exact (HSJ.out.1.1.ok.2.2.2 _).2
  have haa : aa.add 0 = aa := by cases aa; rfl
  rw [haa] at hca
  obtain ⟨v, hv⟩ : ∃ v, v = KS[KS.length - 1]'(by have := HJ_.out; omega) := ⟨_, rfl⟩
  have hvK : v ∈ KS := by rw [hv]; exact List.getElem_mem _
  have hve := HHE.out v hvK
  have hvh : flHeard S v n = X := by unfold flHeard; rw [if_pos hve, hX]; exact HSAME.out v hvK u huK
  have hvc : ∀ (w5 : World) (R5 : HProp), Own w (IntSl (.slice (some aa) KS.length kc) KS * R5) w5 → w5.cell? (aa.add (KS.length - 1)) = some (.int .i64 v) := fun w5 R5 h5 => by
    obtain ⟨a', e1, hc'⟩ := (HRK.out _ _ h5).at (KS.length - 1) (by have := HJ_.out; omega)
    injection e1 with e1
    rw [← hv, ← e1] at hc'
    exact hc'
  have huc : ∀ (w5 : World) (R5 : HProp), Own w (IntSl (.slice (some aa) KS.length kc) KS * R5) w5 → w5.cell? aa = some (.int .i64 u) := fun w5 R5 h5 => by
    obtain ⟨a', e1, hc'⟩ := (HRK.out _ _ h5).at 0 (by have := HJ_.out; omega)
    injection e1 with e1
    rw [← hu, ← e1, haa] at hc'
    exact hc'
  obtain ⟨RR, hRR⟩ : ∃ RR, RR = IntSl (.slice va A.length vc) A * (VwO bz (n + 1) (.slice a6 B.length c6) * (IntSl (.slice a6 B.length c6) B * (VwRow v8 (L ++ [(n + 1, .slice a6 B.length c6, B)]) * (starL vwF L * emp)))) := ⟨_, rfl⟩
  have HO13 : Hid (Own w (IntSl (.slice (some aa) KS.length kc) KS * (FlP p S * (VwO bo n (.slice va A.length vc) * RR))) w10) := Lib.hid (by rw [hRR]; exact HO12.out)
  have HU := Lib.hid hu; have HUK := Lib.hid huK; have HX := Lib.hid hX; have HUE := Lib.hid hue; have HXH := Lib.hid hxh; have HXI := Lib.hid hXI; have HAA := Lib.hid haa; have HV := Lib.hid hv; have HVK := Lib.hid hvK; have HVE := Lib.hid hve; have HVH := Lib.hid hvh; have HVC := Lib.hid hvc; have HUC := Lib.hid huc; have HRR := Lib.hid hRR
  clear hu huK hX hue hxh hXI haa hv hvK hve hvh hvc huc hRR
  clear HO11 HO12
  refine wp_region_planH 11 [] [(true, 0), (true, 1), (true, 2), (true, 3), (true, 4), (true, 5), (false, 6), (true, 7), (true, 8), (true, 9), (false, 10)] [11] (fun wS => wS.cell? aa = some (.int .i64 u) ∧ wS.cell? ⟨bo, 0, none⟩ = some (.int .i64 n)) (by kernel_rfl) (by kernel_rfl) (⟨hca, k0⟩) ?_
  simp only [pickH, pick, List.getElem?_cons_succ, List.getElem?_cons_zero, Option.toList, Option.map_some, List.cons_append, List.nil_append]
  repeat (refine wpPure_step ?_ rfl ?_ ?_; rotate_left; (focus (intro _; first | with_reducible rfl | (go_simp; done) | (go_simp; with_reducible rfl) | rfl)); go_simp)
  refine wpPure_nil ?_
  repeat (refine wpMix_read ?_ rfl ?_ ?_; rotate_left; (focus (intro _ hS; obtain ⟨s1, s2⟩ := hS; first | with_reducible rfl | (go_simp; done) | (go_simp; with_reducible rfl) | rfl)); go_simp)
  refine wpMix_write (fun K hK => ?_)
  go_simp
  refine (flHeard_any p S u n HSJ.out.1.1.ok (by unfold I64; omega) HO13.out.drew.second).mono ?_
  rintro e w12 ⟨v12, rfl, ho12⟩
  rw [HUE.out, errV0]
  rw [HXH.out] at ho12
  obtain ⟨xa, xc, rfl⟩ := ho12.int_shape
  have HO14 : Hid (Own w (IntSl (.slice (some aa) KS.length kc) KS * (FlP p S * (VwO bo n (.slice va A.length vc) * (IntSl (.slice xa X.length xc) X * RR)))) w12) := Lib.hid (ho12.perm (by ac_rfl))
  have z0 : w12.cell? ⟨bo, 0, none⟩ = some (.int .i64 n) := HO14.out.third.vw.1
  have z1 := HUC.out _ _ HO14.out
  clear ho12 hca k0
  refine hK _ _ ⟨⟨z1, z0⟩, ?_⟩
  clear hK K
  go_simp
  repeat (refine wpMix_read ?_ rfl ?_ ?_; rotate_left; (focus (intro _ hS; obtain ⟨s1, s2⟩ := hS; first | with_reducible rfl | (go_simp; done) | (go_simp; with_reducible rfl) | rfl)); go_simp)
  refine wpMix_write (fun K hK => ?_)
  go_simp
  refine hK _ _ ⟨⟨z1, z0⟩, ?_⟩
  clear hK K
  go_simp
  refine wpMix_nil ?_
  go_wp2_with fail
  refine NoPanic.normal ?_
  go_upto_region 21 with fail
  clear z0 z1
  have q0 : w12.drew.cell? ⟨bo, 0, none⟩ = some (.int .i64 n) := HO14.out.drew.third.vw.1
  have q1 : w12.drew.cell? (aa.add j) = some (.int .i64 v) := by have := HVC.out _ _ HO14.out.drew; rwa [HJ_.out] at this
  have i1 : (0 : Int) ≤ (j : Int) := by omega
  have hwj : IntKind.i64.wrap (j : Int) = (j : Int) := by rw [IntKind.wrap_i64]; omega
  have i2 : (j : Int) < (j : Int) + 1 := by omega
  refine wp_region_planH 14 [] [(true, 0), (true, 1), (true, 2), (true, 3), (true, 4), (true, 5), (true, 6), (true, 7), (true, 8), (false, 9), (true, 10), (true, 11), (true, 12), (false, 13)] [14] (fun wS => wS.cell? (aa.add j) = some (.int .i64 v) ∧ wS.cell? ⟨bo, 0, none⟩ = some (.int .i64 n)) (by kernel_rfl) (by kernel_rfl) (⟨q1, q0⟩) ?_
  simp only [pickH, pick, List.getElem?_cons_succ, List.getElem?_cons_zero, Option.toList, Option.map_some, List.cons_append, List.nil_append]
  repeat (refine wpPure_step ?_ rfl ?_ ?_; rotate_left; (focus (intro _; first | with_reducible rfl | (go_simp; done) | (go_simp; with_reducible rfl) | rfl)); go_simp)
  refine wpPure_nil ?_
  repeat (refine wpMix_read ?_ rfl ?_ ?_; rotate_left; (focus (intro _ hS; obtain ⟨s1, s2⟩ := hS; first | with_reducible rfl | (go_simp; done) | (go_simp; with_reducible rfl) | rfl)); go_simp)
  refine wpMix_write (fun K hK => ?_)
  go_simp
  refine (flHeard_any p S v n HSJ.out.1.1.ok (by unfold I64; omega) HO14.out.drew.second).mono ?_
  rintro e w13 ⟨v13, rfl, ho15⟩
  rw [HVE.out, errV0]
  rw [HVH.out] at ho15
  obtain ⟨ya, yc, rfl⟩ := ho15.int_shape
  have HO15 : Hid (Own w (IntSl (.slice (some aa) KS.length kc) KS * (FlP p S * (VwO bo n (.slice va A.length vc) * (IntSl (.slice xa X.length xc) X * (IntSl (.slice ya X.length yc) X * RR))))) w13) := Lib.hid (ho15.perm (by ac_rfl))
  have z0 : w13.cell? ⟨bo, 0, none⟩ = some (.int .i64 n) := HO15.out.third.vw.1
  have z1 : w13.cell? (aa.add j) = some (.int .i64 v) := by have := HVC.out _ _ HO15.out; rwa [HJ_.out] at this
  clear ho15 q1 q0
  refine hK _ _ ⟨⟨z1, z0⟩, ?_⟩
  clear hK K
  go_simp
  repeat (refine wpMix_read ?_ rfl ?_ ?_; rotate_left; (focus (intro _ hS; obtain ⟨s1, s2⟩ := hS; first | with_reducible rfl | (go_simp; done) | (go_simp; with_reducible rfl) | rfl)); go_simp)
  refine wpMix_write (fun K hK => ?_)
  go_simp
  refine hK _ _ ⟨⟨z1, z0⟩, ?_⟩
  clear hK K
  go_simp
  refine wpMix_nil ?_
  go_wp2_with fail
  refine NoPanic.normal ?_
  clear z0 z1
  go_wp2_with fail
  refine (sameInts_any _ _ X X _ (IntSl_reads HXI.out _ HO15.out.fourth) (IntSl_reads HXI.out _ HO15.out.fifth)).mono ?_
  rintro e w14 ⟨rfl, n6, rfl⟩
  rw [show (X == X) = true from beq_iff_eq.2 rfl]
  go_wp2_with fail
  apply HK.out
  refine ⟨L ++ [(n + 1, .slice a6 B.length c6, B)], S, HSJ.out, HL2.out _, by simp; omega, ?_, ?_⟩
  · intro x hx
    rcases List.mem_append.1 hx with hx | hx
    · exact HLI.out x hx
    · simp at hx; rw [hx]; exact HBI.out
  · rw [starL_snoc]
    have h20 := (HO15.out.drewN n6).drop
    rw [HRR.out] at h20
    have h21 := h20.second.drop.second.drop.second.drop.second.drop.second.drop
    exact h21.perm (by show FlP p S * (IntSl (.slice a6 B.length c6) B * _) = _ * (IntSl (.slice a6 B.length c6) B * _ * _); ac_rfl)
end Go.Proofs.Ytkgnjkokbiefgaa
