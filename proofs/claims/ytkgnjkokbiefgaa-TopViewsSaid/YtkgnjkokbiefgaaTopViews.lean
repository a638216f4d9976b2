/- TopViews: views of a group that flushes are a chain, and who is in two, one behind the other, heard the same in the first. -/
import Derived.Test.YtkgnjkokbiefgaaTopViewsR
import Derived.Test.YtkgnjkokbiefgaaTopOne
namespace Go.Proofs.Ytkgnjkokbiefgaa
set_option linter.unusedVariables false
set_option linter.unusedSimpArgs false
open Go.RowKit
noncomputable def tvMain_code : Code := ((Try.f13.body.bind (findBlock 0)).getD .skip)
set_option maxRecDepth 1000000 in
set_option maxHeartbeats 4000000 in
theorem tvMain {Q : Exit → Act → World → Prop} {u0 u3 u4 u5 u6 u7 u9 u12 u13 u14 u15 u16 u17 u18 u19 u20 u21 u22 u23 u24 u25 u26 u27 u28 u29 u30 u31 u32 u33 u34 u35 u36 u37 u38 u39 u40 u41 u42 u43 u44 u45 u46 u47 u48 u49 u50 u51 u52 u53 u54 u55 u56 u57 u58 u59 u60 u61 u62 u63 u64 u65 u66 u67 u68 u69 u70 u71 u72 u73 u74 u75 u76 u77 u78 u79 u80 u81 u82 u83 u84 u85 u86 u87 u88 u89 u90 u91 u92 u93 u94 u95 u96 u97 u98 u99 u100 u101 u102 u103 u104 u105 u106 u107 u108 u109 u110 u111 u112 u113 u114 u115 u116 u117 u118 u119 u120 u121 u122 u123 u124 u125 u126 u127 u128 u129 u130 u131 u132 u133 u134 u135 u136 : Value} {w1 : World} (w : World) (p : Nat) (sets : List (List Int)) (words : List Int) (sad tad : Option Addr) (scap tcap : Nat) (lv : Value) (hsc1 : sets.length ≤ scap) (hsc2 : scap ≤ 9223372036854775807) (htc1 : words.length ≤ tcap) (htc2 : tcap ≤ 9223372036854775807) (HVS : Hid (Rows2 w (.slice sad sets.length scap) sets)) (HVT : Hid (Ints w (.slice tad words.length tcap) words)) (HR : Hid (tvRel w p 0 lv w1))
    (hK : ∀ (v6 v10 v11 v12 v13 v14 v15 v16 v17 v18 v19 v35 v36 v37 v38 v39 v40 v41 v42 v43 v44 v45 v46 v47 v48 v49 v50 v51 v52 v53 v54 v55 v56 v57 v58 v59 v60 v61 v62 v63 v64 v65 v66 v67 v68 v69 v70 v71 v72 v73 v74 v75 v76 v77 v78 v79 v80 v81 v82 v83 v84 v85 v86 v87 v88 v89 v90 v91 v92 v93 v94 v95 v96 v97 v98 v99 v100 v101 v102 v103 v104 v105 v106 v107 v108 v109 v110 v111 v112 v113 v114 v115 v116 v117 v118 v119 v120 v121 v122 v123 v124 v125 v126 v127 v128 v129 : Value) (wx : World), (∃ k, k ≤ 30 ∧ tvRel w p k v10 wx) → Q .normal ⟨List.toArray (u0 :: (.slice sad sets.length scap) :: (.slice tad words.length tcap) :: u3 :: u4 :: u5 :: v6 :: u7 :: (.pointer (some ⟨p, 0, none⟩)) :: u9 :: v10 :: v11 :: v12 :: v13 :: v14 :: v15 :: v16 :: v17 :: v18 :: v19 :: u20 :: u21 :: u22 :: u23 :: u24 :: u25 :: u26 :: u27 :: u28 :: u29 :: u30 :: u31 :: u32 :: u33 :: u34 :: v35 :: v36 :: v37 :: v38 :: v39 :: v40 :: v41 :: v42 :: v43 :: v44 :: v45 :: v46 :: v47 :: v48 :: v49 :: v50 :: v51 :: v52 :: v53 :: v54 :: v55 :: v56 :: v57 :: v58 :: v59 :: v60 :: v61 :: v62 :: v63 :: v64 :: v65 :: v66 :: v67 :: v68 :: v69 :: v70 :: v71 :: v72 :: v73 :: v74 :: v75 :: v76 :: v77 :: v78 :: v79 :: v80 :: v81 :: v82 :: v83 :: v84 :: v85 :: v86 :: v87 :: v88 :: v89 :: v90 :: v91 :: v92 :: v93 :: v94 :: v95 :: v96 :: v97 :: v98 :: v99 :: v100 :: v101 :: v102 :: v103 :: v104 :: v105 :: v106 :: v107 :: v108 :: v109 :: v110 :: v111 :: v112 :: v113 :: v114 :: v115 :: v116 :: v117 :: v118 :: v119 :: v120 :: v121 :: v122 :: v123 :: v124 :: v125 :: v126 :: v127 :: v128 :: v129 :: u130 :: u131 :: u132 :: u133 :: u134 :: u135 :: u136 :: []), []⟩ wx) :
    Code.wp Try.prog tvMain_code Q ⟨List.toArray (u0 :: (.slice sad sets.length scap) :: (.slice tad words.length tcap) :: u3 :: u4 :: u5 :: u6 :: u7 :: (.pointer (some ⟨p, 0, none⟩)) :: u9 :: (lv) :: (.int .i64 0) :: u12 :: u13 :: u14 :: u15 :: u16 :: u17 :: u18 :: u19 :: u20 :: u21 :: u22 :: u23 :: u24 :: u25 :: u26 :: u27 :: u28 :: u29 :: u30 :: u31 :: u32 :: u33 :: u34 :: u35 :: u36 :: u37 :: u38 :: u39 :: u40 :: u41 :: u42 :: u43 :: u44 :: u45 :: u46 :: u47 :: u48 :: u49 :: u50 :: u51 :: u52 :: u53 :: u54 :: u55 :: u56 :: u57 :: u58 :: u59 :: u60 :: u61 :: u62 :: u63 :: u64 :: u65 :: u66 :: u67 :: u68 :: u69 :: u70 :: u71 :: u72 :: u73 :: u74 :: u75 :: u76 :: u77 :: u78 :: u79 :: u80 :: u81 :: u82 :: u83 :: u84 :: u85 :: u86 :: u87 :: u88 :: u89 :: u90 :: u91 :: u92 :: u93 :: u94 :: u95 :: u96 :: u97 :: u98 :: u99 :: u100 :: u101 :: u102 :: u103 :: u104 :: u105 :: u106 :: u107 :: u108 :: u109 :: u110 :: u111 :: u112 :: u113 :: u114 :: u115 :: u116 :: u117 :: u118 :: u119 :: u120 :: u121 :: u122 :: u123 :: u124 :: u125 :: u126 :: u127 :: u128 :: u129 :: u130 :: u131 :: u132 :: u133 :: u134 :: u135 :: u136 :: []), []⟩ w1 := by
  conv => arg 2; whnf
  have HK := Lib.hid hK
  clear hK
  go_wp2_with fail
  go_loopw [10, 11] (fun lv iv wr => ∃ k : Nat, k ≤ sets.length ∧ k ≤ 30 ∧ iv = .int .i64 k ∧ Hid (tvRel w p k lv wr)) (fun _ iv _ => sets.length - (intOf iv).toNat)
  case atStart => exact ⟨0, Nat.zero_le _, Nat.zero_le _, rfl, HR⟩
  case round =>
    clear HR
    obtain ⟨k, hk, hk2, rfl, HR⟩ := hrel
    by_cases h1 : k < sets.length
    rotate_left
    · go_wp2_with fail
      apply HK.out
      exact ⟨k, hk2, HR.out⟩
    by_cases h2 : k < 30
    rotate_left
    · go_wp2_with fail
      apply HK.out
      exact ⟨k, hk2, HR.out⟩
    go_upto_block 1 with fail
    refine tvRound w p k sets words sad tad scap tcap _ h1 h2 hsc1 hsc2 htc1 htc2 HVS HVT HR ?_
    intros
    rename_i hcut
    have HR2 := Lib.hid hcut
    clear hcut HR
    go_wp2_with fail
    go_roundw
    case rel => exact ⟨k + 1, by omega, by omega, by go_num, HR2⟩
    case measure => simp [intOf]; omega
set_option maxRecDepth 100000 in
set_option maxHeartbeats 4000000 in
theorem topViews_law (w : World) (n : Int) (_hn : I64 n) (vs : Value) (sets : List (List Int)) (hvs : Rows2 w vs sets) (vt : Value) (words : List Int) (hvt : Ints w vt words) :
    Calls Try.prog 13 #[.int .i64 n, vs, vt] w fun e w' => e = .returned (.bool true) ∧ Below w.heap.size w w' := by
  obtain ⟨sad, scap, rfl, hsc1, hsc2⟩ := hvs.shape
  obtain ⟨tad, tcap, rfl, htc1, htc2⟩ := hvt.shape
  have HVS := Lib.hid hvs; have HVT := Lib.hid hvt
  clear hvs hvt
  go_enter Try.func13, Try.ntmps13
  go_wp2_with fail
  refine (one_any (Own.start w)).mono ?_
  rintro e w1 ⟨rfl, ho1⟩
  have HO1 := Lib.hid ho1
  clear ho1
  cases hgn : isGroup n
  · obtain ⟨mm, hmm⟩ := errV_some (n := 1) (by decide)
    have HGN := Lib.hid hgn; have HMM := Lib.hid hmm
    clear hgn hmm
    go_wp2_with fail
    refine (flNew_no n HGN.out).mono ?_
    rintro e w8 ⟨rfl, rfl⟩
    rw [HMM.out]
    go_wp2
    go_ret
    exact ⟨rfl, HO1.out.below⟩
  obtain ⟨N, rfl⟩ : ∃ N : Nat, n = N := ⟨n.toNat, by simp [isGroup] at hgn; omega⟩
  have hN : 2 ≤ N ∧ N ≤ 5 := by simp [isGroup] at hgn; omega
  have hJ := tvJ_new N hN.1 hN.2
  obtain ⟨s, hs⟩ : ∃ s, s = flNew N := ⟨_, rfl⟩
  rw [← hs] at hJ
  have hs0 : s.n = 0 := by rw [hs]; rfl
  have hsI : ∀ y ∈ s.has, I64 y := hJ.1.1.ok.2.1.2
  have HGN := Lib.hid hgn; have HS := Lib.hid hs; have HJ := Lib.hid hJ; have HSI := Lib.hid hsI; have HS0 := Lib.hid hs0
  clear hgn hs hJ hsI hs0
  go_wp2_with fail
  refine (flNew_yes N HGN.out HO1.out).mono ?_
  rintro e w8 ⟨p, rfl, ho8⟩
  rw [← HS.out] at ho8
  rw [errV0]
  have HO8 := Lib.hid ho8.only
  clear ho8 HO1
  go_wp2_with fail
  refine (flView_any p s HJ.out.1.1.ok HO8.out).mono ?_
  rintro e w3 ⟨v3, rfl, ho3⟩
  obtain ⟨va, vc, rfl⟩ := ho3.int_shape
  rw [HS0.out]
  obtain ⟨A, hA⟩ : ∃ A, A = s.has := ⟨_, rfl⟩
  rw [← hA] at ho3
  rw [← hA]
  obtain ⟨bl, hb_bl⟩ : ∃ zz_, zz_ = (w3).heap.size := ⟨_, rfl⟩
  obtain ⟨wl, hw_wl⟩ : ∃ zz_, zz_ = (w3).alloc (.cells #[.int .i64 0, .slice va A.length vc] 39 (0, 0)) := ⟨_, rfl⟩
  have h_HO4 := (ho3).alloc (.cells #[.int .i64 0, .slice va A.length vc] 39 (0, 0))
  rw [← hb_bl, ← hw_wl] at h_HO4
  have HO4 := Lib.hid h_HO4
  clear h_HO4
  have HR : Hid (tvRel w p 0 (.slice (some ⟨bl, 0, none⟩) 1 1) wl) := Lib.hid (by
    refine ⟨[(0, .slice va A.length vc, A)], s, HJ.out, ?_, by simp, ?_, ?_⟩
    · have := tvL_new (s := s) HJ.out.2.1 (.slice va A.length vc)
      rw [HS0.out, ← hA] at this
      exact this
    · intro x hx
      simp at hx
      rw [hx, hA]; exact HSI.out
    · have h5 : Own w (VwRow (.slice (some ⟨bl, 0, none⟩) 1 1) [(0, .slice va A.length vc, A)] * (IntSl (.slice va A.length vc) A * (FlP p s * emp))) wl :=
        Own.sl_mk (Nat.le_refl _) (by unfold maxLen; omega) (by simp [vwCells]) (by simp) (fun i hi => by
          simp [vwCells] at hi ⊢
          ) HO4.out
      refine h5.perm ?_
      show _ = _ * (IntSl (.slice va A.length vc) A * emp * _)
      rw [star_emp (IntSl (.slice va A.length vc) A)])
  have HA := Lib.hid hA
  clear hA
  clear ho3 HO4
  go_upto_block 0 with fail
  rw [← hb_bl, ← hw_wl]
  clear hb_bl hw_wl
  go_cut [10] (fun lv wx => ∃ k, k ≤ 30 ∧ tvRel w p k lv wx)
  case first =>
    refine tvMain w p sets words sad tad scap tcap _ hsc1 hsc2 htc1 htc2 HVS HVT HR ?_
    intros
    go_step
    go_step
    go_meet
    assumption
  case rest =>
  obtain ⟨k, hk, L, s2, hj2, hl2, hlen, hLI, ho⟩ := hcut
  have hch : chainR L = (0, 0) := by unfold chainR; rw [if_neg (by omega)]; exact hl2.1
  have HO9 := Lib.hid ho
  have HCH := Lib.hid hch; have HLI := Lib.hid hLI
  clear hch hLI
  clear ho HR
  go_wp2_with fail
  refine (viewChain_any _ L (VwRow_reads HLI.out) HO9.out).mono ?_
  rintro e w9 ⟨rfl, ho9⟩
  rw [HCH.out, errV0]
  have HO10 := Lib.hid ho9
  clear ho9
  go_wp2
  go_ret
  exact ⟨rfl, HO10.out.below⟩
end Go.Proofs.Ytkgnjkokbiefgaa
