/- LogStops: when it has stopped it has stopped: at the step that was told; till it crashes; then all goes on. -/
import Derived.Test.YtljlnhbndkdlcaaDoorMLogStops9
import Derived.Test.YtljlnhbndkdlcaaDoorMLogStops11
import Derived.Test.YtljlnhbndkdlcaaDoorMLogStops5
import Derived.Test.YtljlnhbndkdlcaaDoorRows
import Derived.ProofKit
import Derived.KernelRfl
namespace Go.Proofs.YtljlnhbndkdlcaaDoor
set_option linter.unusedVariables false
set_option linter.unusedSimpArgs false
open Go.RowKit
noncomputable def lsBody_code : Code := ((Tryd.f4.body.bind (findBlock 1)).getD .skip)
set_option maxRecDepth 1000000 in
set_option maxHeartbeats 4000000 in
theorem lsBody {Q : Exit → Act → World → Prop} {u1 u2 u3 u4 u5 u6 u9 u10 u11 u12 u13 u14 u15 u16 u17 u18 u19 u20 u21 u22 u23 u24 u25 u26 u27 u28 u29 u30 u31 u32 u33 u34 u35 u36 u37 u38 u39 u40 u41 u42 u43 u44 u45 u46 u47 u48 u49 u50 u51 u52 u53 u54 u55 u56 u57 u58 u59 u60 u61 u62 u63 u64 u65 u66 u67 u68 u69 u70 u71 u72 u73 u74 u75 u76 u77 u78 u79 u80 u81 u82 u83 u84 u85 u86 u87 u88 u89 u90 u91 u92 u93 u94 u95 u96 u97 u98 u99 u100 u101 u102 u103 u104 u105 u106 u107 u108 u109 u110 u111 u112 u113 u114 u115 u116 u117 u118 u119 u120 u121 u122 u123 u124 u125 u126 u127 u128 u129 u130 u131 u132 u133 u134 u135 u136 u137 u138 u139 u140 u141 u142 u143 u144 u145 u146 u147 u148 u149 u150 u151 u152 u153 u154 u155 u156 u157 u158 u159 u160 u161 u162 u163 u164 u165 u166 u167 u168 u169 u170 u171 u172 u173 u174 u175 u176 u177 u178 u179 u180 : Value} {w1 : World} (w : World) (p : Nat) (af : Int) (i : Nat) (s : Lg) (hi : i < 20) (HG : Hid (As.Handle w)) (HS : Hid (StI s af i)) (HO : Hid (Own w (LgP p s * emp) w1))
    (hK : ∀ (v6 v8 v10 v11 v12 v13 v14 v58 v59 v60 v61 v62 v63 v64 v65 v66 v67 v68 v69 v70 v71 v72 v73 v74 v75 v76 v77 v78 v79 v80 v81 v82 v83 v84 v85 v86 v87 v88 v89 v90 v91 v92 v93 v94 v95 v96 v97 v98 v99 v100 v101 v102 v103 v104 v105 v106 v107 v108 v109 : Value) (wx : World), (v8 = .int .i64 ((i : Int) + 1) ∧ ∃ s', StI s' af (i + 1) ∧ Own w (LgP p s' * emp) wx) → Q .normal ⟨List.toArray ((.int .i64 af) :: u1 :: u2 :: u3 :: u4 :: u5 :: v6 :: (.pointer (some ⟨p, 0, none⟩)) :: v8 :: u9 :: v10 :: v11 :: v12 :: v13 :: v14 :: u15 :: u16 :: u17 :: u18 :: u19 :: u20 :: u21 :: u22 :: u23 :: u24 :: u25 :: u26 :: u27 :: u28 :: u29 :: u30 :: u31 :: u32 :: u33 :: u34 :: u35 :: u36 :: u37 :: u38 :: u39 :: u40 :: u41 :: u42 :: u43 :: u44 :: u45 :: u46 :: u47 :: u48 :: u49 :: u50 :: u51 :: u52 :: u53 :: u54 :: u55 :: u56 :: u57 :: v58 :: v59 :: v60 :: v61 :: v62 :: v63 :: v64 :: v65 :: v66 :: v67 :: v68 :: v69 :: v70 :: v71 :: v72 :: v73 :: v74 :: v75 :: v76 :: v77 :: v78 :: v79 :: v80 :: v81 :: v82 :: v83 :: v84 :: v85 :: v86 :: v87 :: v88 :: v89 :: v90 :: v91 :: v92 :: v93 :: v94 :: v95 :: v96 :: v97 :: v98 :: v99 :: v100 :: v101 :: v102 :: v103 :: v104 :: v105 :: v106 :: v107 :: v108 :: v109 :: u110 :: u111 :: u112 :: u113 :: u114 :: u115 :: u116 :: u117 :: u118 :: u119 :: u120 :: u121 :: u122 :: u123 :: u124 :: u125 :: u126 :: u127 :: u128 :: u129 :: u130 :: u131 :: u132 :: u133 :: u134 :: u135 :: u136 :: u137 :: u138 :: u139 :: u140 :: u141 :: u142 :: u143 :: u144 :: u145 :: u146 :: u147 :: u148 :: u149 :: u150 :: u151 :: u152 :: u153 :: u154 :: u155 :: u156 :: u157 :: u158 :: u159 :: u160 :: u161 :: u162 :: u163 :: u164 :: u165 :: u166 :: u167 :: u168 :: u169 :: u170 :: u171 :: u172 :: u173 :: u174 :: u175 :: u176 :: u177 :: u178 :: u179 :: u180 :: []), []⟩ wx) :
    Code.wp Tryd.prog lsBody_code Q ⟨List.toArray ((.int .i64 af) :: u1 :: u2 :: u3 :: u4 :: u5 :: u6 :: (.pointer (some ⟨p, 0, none⟩)) :: (.int .i64 (i : Int)) :: u9 :: u10 :: u11 :: u12 :: u13 :: u14 :: u15 :: u16 :: u17 :: u18 :: u19 :: u20 :: u21 :: u22 :: u23 :: u24 :: u25 :: u26 :: u27 :: u28 :: u29 :: u30 :: u31 :: u32 :: u33 :: u34 :: u35 :: u36 :: u37 :: u38 :: u39 :: u40 :: u41 :: u42 :: u43 :: u44 :: u45 :: u46 :: u47 :: u48 :: u49 :: u50 :: u51 :: u52 :: u53 :: u54 :: u55 :: u56 :: u57 :: u58 :: u59 :: u60 :: u61 :: u62 :: u63 :: u64 :: u65 :: u66 :: u67 :: u68 :: u69 :: u70 :: u71 :: u72 :: u73 :: u74 :: u75 :: u76 :: u77 :: u78 :: u79 :: u80 :: u81 :: u82 :: u83 :: u84 :: u85 :: u86 :: u87 :: u88 :: u89 :: u90 :: u91 :: u92 :: u93 :: u94 :: u95 :: u96 :: u97 :: u98 :: u99 :: u100 :: u101 :: u102 :: u103 :: u104 :: u105 :: u106 :: u107 :: u108 :: u109 :: u110 :: u111 :: u112 :: u113 :: u114 :: u115 :: u116 :: u117 :: u118 :: u119 :: u120 :: u121 :: u122 :: u123 :: u124 :: u125 :: u126 :: u127 :: u128 :: u129 :: u130 :: u131 :: u132 :: u133 :: u134 :: u135 :: u136 :: u137 :: u138 :: u139 :: u140 :: u141 :: u142 :: u143 :: u144 :: u145 :: u146 :: u147 :: u148 :: u149 :: u150 :: u151 :: u152 :: u153 :: u154 :: u155 :: u156 :: u157 :: u158 :: u159 :: u160 :: u161 :: u162 :: u163 :: u164 :: u165 :: u166 :: u167 :: u168 :: u169 :: u170 :: u171 :: u172 :: u173 :: u174 :: u175 :: u176 :: u177 :: u178 :: u179 :: u180 :: []), []⟩ w1 := by
  conv => arg 2; whnf
  have HK := Lib.hid hK
  clear hK
  obtain ⟨hb1, hb2⟩ := HS.out.bad
  obtain ⟨ho1, ho2⟩ := HS.out.ok hi
  have HI := Lib.hid HS.out.i
  obtain ⟨E1, hE1⟩ : ∃ x, x = lgErr s ((5 : Int), (1 : Int), (0 : Int)) := ⟨_, rfl⟩
  obtain ⟨E2, hE2⟩ : ∃ x, x = lgErr s ((0 : Int), (1 : Int), (0 : Int)) := ⟨_, rfl⟩
  rw [← hE1] at hb1
  rw [← hE2] at ho1
  have HQ1 := Lib.hid hb1
  have HQ2 := Lib.hid ho1
  clear hb1 ho1
  have HO2' := Lib.hid ho2
  clear ho2
  have HB2 := Lib.hid hb2; have HE1 := Lib.hid hE1; have HE2 := Lib.hid hE2
  clear hb2 hE1 hE2
  go_wp2_with fail
  refine (lgDo_any p s ((5 : Int), (1 : Int), (0 : Int)) HI.out ⟨by unfold I64; simp, by unfold I64; simp, by unfold I64; simp⟩ HO.out).mono ?_
  rintro e w2 ⟨rfl, ho⟩
  rw [← HE1.out]
  rw [HB2.out] at ho
  have HO2 := Lib.hid ho
  clear ho HO
  go_wp2_with fail
  refine (lgDo_any p s ((0 : Int), (1 : Int), (0 : Int)) HI.out ⟨by unfold I64; simp, by unfold I64; simp, by unfold I64; simp⟩ HO2.out).mono ?_
  rintro e w3 ⟨rfl, ho⟩
  rw [← HE2.out]
  obtain ⟨s', hs'⟩ : ∃ x, x = lgDo s ((0 : Int), (1 : Int), (0 : Int)) := ⟨_, rfl⟩
  have HS2 : Hid (StI s' af (i + 1)) := Lib.hid (by rw [hs']; exact HO2'.out)
  rw [← hs'] at ho
  have HO3 := Lib.hid ho
  clear ho HO2 hs'
  go_wp2_with fail
  refine (sameErr_any HG.out E1 6 HO3.out).mono ?_
  rintro e w4 ⟨rfl, ho⟩
  have HO4 := Lib.hid ho
  clear ho HO3
  go_wp2_with fail
  refine (sameErr_any HG.out E1 1 HO4.out).mono ?_
  rintro e w5 ⟨rfl, ho⟩
  have HO5 := Lib.hid ho
  clear ho HO4
  go_wp2_with fail
  refine (sameErr_any HG.out E2 6 HO5.out).mono ?_
  rintro e w6 ⟨rfl, ho⟩
  have HO6 := Lib.hid ho
  clear ho HO5
  have i20 : (i : Int) < 20 := by omega
  clear HE1 HE2 HB2 HO2' HS HI
  by_cases h1 : (i : Int) < af
  · have e1 : E1 = 1 := by rw [HQ1.out, if_pos (by omega)]
    have e2 : E2 = 0 := by rw [HQ2.out, if_pos h1]
    subst e1
    subst e2
    have g1 : decide (af < (i : Int)) = false := decide_eq_false (by omega)
    have g2 : decide ((i : Int) ≤ af) = true := decide_eq_true (by omega)
    have g3 : ((i : Int) == af) = false := by rw [beq_eq_false_iff_ne]; omega
    have g4 : decide ((i : Int) < af) = true := decide_eq_true h1
    rw [show ((((1 : Nat) : Int)) == 6) = false from rfl, show ((((1 : Nat) : Int)) == 1) = true from rfl, show ((((0 : Nat) : Int)) == 6) = false from rfl, errV0]
    obtain ⟨V1, hV1⟩ : ∃ x, x = errV 1 := ⟨_, rfl⟩
    rw [← hV1]
    clear hV1
    have H1 := Lib.hid h1
    clear h1
    go_wp2_with fail
    apply HK.out
    exact ⟨by go_num, s', HS2.out, HO6.out⟩
  · have e2 : E2 = 6 := by rw [HQ2.out, if_neg h1]
    subst e2
    by_cases h2 : (i : Int) = af
    · have e1 : E1 = 1 := by rw [HQ1.out, if_pos (by omega)]
      subst e1
      have g1 : decide (af < (i : Int)) = false := decide_eq_false (by omega)
      have g2 : decide ((i : Int) ≤ af) = true := decide_eq_true (by omega)
      have g3 : ((i : Int) == af) = true := by rw [beq_iff_eq]; exact h2
      have g4 : decide ((i : Int) < af) = false := decide_eq_false (by omega)
      rw [show ((((1 : Nat) : Int)) == 6) = false from rfl, show ((((1 : Nat) : Int)) == 1) = true from rfl, show ((((6 : Nat) : Int)) == 6) = true from rfl]
      obtain ⟨V1, hV1⟩ : ∃ x, x = errV 1 := ⟨_, rfl⟩
      obtain ⟨V6, hV6⟩ : ∃ x, x = errV 6 := ⟨_, rfl⟩
      rw [← hV1, ← hV6]
      clear hV1 hV6
      have H1 := Lib.hid h1; have H2 := Lib.hid h2
      clear h1 h2
      go_wp2_with fail
      apply HK.out
      exact ⟨by go_num, s', HS2.out, HO6.out⟩
    · have e1 : E1 = 6 := by rw [HQ1.out, if_neg (by omega)]
      subst e1
      have g1 : decide (af < (i : Int)) = true := decide_eq_true (by omega)
      have g2 : decide ((i : Int) ≤ af) = false := decide_eq_false (by omega)
      have g3 : ((i : Int) == af) = false := by rw [beq_eq_false_iff_ne]; exact h2
      have g4 : decide ((i : Int) < af) = false := decide_eq_false (by omega)
      rw [show ((((6 : Nat) : Int)) == 6) = true from rfl, show ((((6 : Nat) : Int)) == 1) = false from rfl]
      obtain ⟨V6, hV6⟩ : ∃ x, x = errV 6 := ⟨_, rfl⟩
      rw [← hV6]
      clear hV6
      have H1 := Lib.hid h1; have H2 := Lib.hid h2
      clear h1 h2
      go_wp2_with fail
      apply HK.out
      exact ⟨by go_num, s', HS2.out, HO6.out⟩
noncomputable def lsSync_code : Code := ((Tryd.f4.body.bind (findBlock 3)).getD .skip)
set_option maxRecDepth 1000000 in
set_option maxHeartbeats 4000000 in
theorem lsSync {Q : Exit → Act → World → Prop} {u1 u2 u3 u4 u5 u6 u9 u10 u11 u12 u13 u14 u15 u16 u17 u18 u19 u20 u21 u22 u23 u24 u25 u26 u27 u28 u29 u30 u31 u32 u33 u34 u35 u36 u37 u38 u39 u40 u41 u42 u43 u44 u45 u46 u47 u48 u49 u50 u51 u52 u53 u54 u55 u56 u57 u58 u59 u60 u61 u62 u63 u64 u65 u66 u67 u68 u69 u70 u71 u72 u73 u74 u75 u76 u77 u78 u79 u80 u81 u82 u83 u84 u85 u86 u87 u88 u89 u90 u91 u92 u93 u94 u95 u96 u97 u98 u99 u100 u101 u102 u103 u104 u105 u106 u107 u108 u109 u110 u111 u112 u113 u114 u115 u116 u117 u118 u119 u120 u121 u122 u123 u124 u125 u126 u127 u128 u129 u130 u131 u132 u133 u134 u135 u136 u137 u138 u139 u140 u141 u142 u143 u144 u145 u146 u147 u148 u149 u150 u151 u152 u153 u154 u155 u156 u157 u158 u159 u160 u161 u162 u163 u164 u165 u166 u167 u168 u169 u170 u171 u172 u173 u174 u175 u176 u177 u178 u179 u180 : Value} {w1 : World} (w : World) (p : Nat) (af : Int) (i : Nat) (s : Lg) (hi : (i : Int) ≤ af) (ha : af ≤ 20) (HS : Hid (StI s af i)) (HO : Hid (Own w (LgP p s * emp) w1))
    (hK : ∀ (v6 v8 v15 v113 v114 v115 v116 v117 v118 v119 v120 v121 v122 : Value) (wx : World), (v8 = .int .i64 ((i : Int) + 1) ∧ ∃ s', StI s' af (i + 1) ∧ Own w (LgP p s' * emp) wx) → Q .normal ⟨List.toArray ((.int .i64 af) :: u1 :: u2 :: u3 :: u4 :: u5 :: v6 :: (.pointer (some ⟨p, 0, none⟩)) :: v8 :: u9 :: u10 :: u11 :: u12 :: u13 :: u14 :: v15 :: u16 :: u17 :: u18 :: u19 :: u20 :: u21 :: u22 :: u23 :: u24 :: u25 :: u26 :: u27 :: u28 :: u29 :: u30 :: u31 :: u32 :: u33 :: u34 :: u35 :: u36 :: u37 :: u38 :: u39 :: u40 :: u41 :: u42 :: u43 :: u44 :: u45 :: u46 :: u47 :: u48 :: u49 :: u50 :: u51 :: u52 :: u53 :: u54 :: u55 :: u56 :: u57 :: u58 :: u59 :: u60 :: u61 :: u62 :: u63 :: u64 :: u65 :: u66 :: u67 :: u68 :: u69 :: u70 :: u71 :: u72 :: u73 :: u74 :: u75 :: u76 :: u77 :: u78 :: u79 :: u80 :: u81 :: u82 :: u83 :: u84 :: u85 :: u86 :: u87 :: u88 :: u89 :: u90 :: u91 :: u92 :: u93 :: u94 :: u95 :: u96 :: u97 :: u98 :: u99 :: u100 :: u101 :: u102 :: u103 :: u104 :: u105 :: u106 :: u107 :: u108 :: u109 :: u110 :: u111 :: u112 :: v113 :: v114 :: v115 :: v116 :: v117 :: v118 :: v119 :: v120 :: v121 :: v122 :: u123 :: u124 :: u125 :: u126 :: u127 :: u128 :: u129 :: u130 :: u131 :: u132 :: u133 :: u134 :: u135 :: u136 :: u137 :: u138 :: u139 :: u140 :: u141 :: u142 :: u143 :: u144 :: u145 :: u146 :: u147 :: u148 :: u149 :: u150 :: u151 :: u152 :: u153 :: u154 :: u155 :: u156 :: u157 :: u158 :: u159 :: u160 :: u161 :: u162 :: u163 :: u164 :: u165 :: u166 :: u167 :: u168 :: u169 :: u170 :: u171 :: u172 :: u173 :: u174 :: u175 :: u176 :: u177 :: u178 :: u179 :: u180 :: []), []⟩ wx) :
    Code.wp Tryd.prog lsSync_code Q ⟨List.toArray ((.int .i64 af) :: u1 :: u2 :: u3 :: u4 :: u5 :: u6 :: (.pointer (some ⟨p, 0, none⟩)) :: (.int .i64 (i : Int)) :: u9 :: u10 :: u11 :: u12 :: u13 :: u14 :: u15 :: u16 :: u17 :: u18 :: u19 :: u20 :: u21 :: u22 :: u23 :: u24 :: u25 :: u26 :: u27 :: u28 :: u29 :: u30 :: u31 :: u32 :: u33 :: u34 :: u35 :: u36 :: u37 :: u38 :: u39 :: u40 :: u41 :: u42 :: u43 :: u44 :: u45 :: u46 :: u47 :: u48 :: u49 :: u50 :: u51 :: u52 :: u53 :: u54 :: u55 :: u56 :: u57 :: u58 :: u59 :: u60 :: u61 :: u62 :: u63 :: u64 :: u65 :: u66 :: u67 :: u68 :: u69 :: u70 :: u71 :: u72 :: u73 :: u74 :: u75 :: u76 :: u77 :: u78 :: u79 :: u80 :: u81 :: u82 :: u83 :: u84 :: u85 :: u86 :: u87 :: u88 :: u89 :: u90 :: u91 :: u92 :: u93 :: u94 :: u95 :: u96 :: u97 :: u98 :: u99 :: u100 :: u101 :: u102 :: u103 :: u104 :: u105 :: u106 :: u107 :: u108 :: u109 :: u110 :: u111 :: u112 :: u113 :: u114 :: u115 :: u116 :: u117 :: u118 :: u119 :: u120 :: u121 :: u122 :: u123 :: u124 :: u125 :: u126 :: u127 :: u128 :: u129 :: u130 :: u131 :: u132 :: u133 :: u134 :: u135 :: u136 :: u137 :: u138 :: u139 :: u140 :: u141 :: u142 :: u143 :: u144 :: u145 :: u146 :: u147 :: u148 :: u149 :: u150 :: u151 :: u152 :: u153 :: u154 :: u155 :: u156 :: u157 :: u158 :: u159 :: u160 :: u161 :: u162 :: u163 :: u164 :: u165 :: u166 :: u167 :: u168 :: u169 :: u170 :: u171 :: u172 :: u173 :: u174 :: u175 :: u176 :: u177 :: u178 :: u179 :: u180 :: []), []⟩ w1 := by
  conv => arg 2; whnf
  have HK := Lib.hid hK
  clear hK
  obtain ⟨h1, h2⟩ := HS.out.sync hi
  obtain ⟨E, hE⟩ : ∃ x, x = lgSyncErr s := ⟨_, rfl⟩
  obtain ⟨s', hs'⟩ : ∃ x, x = lgSync s := ⟨_, rfl⟩
  rw [← hE] at h1
  rw [← hs'] at h2
  have HI := Lib.hid HS.out.i
  have HS2 := Lib.hid h2
  have HQ := Lib.hid h1
  clear h1 h2
  have HE := Lib.hid hE; have HS' := Lib.hid hs'
  clear hE hs'
  go_wp2_with fail
  refine (lgSync_any p s HI.out HO.out).mono ?_
  rintro e w2 ⟨rfl, ho⟩
  rw [← HE.out]
  rw [← HS'.out] at ho
  have HO2 := Lib.hid ho
  clear ho HO HE HS' HS HI
  by_cases h1 : (i : Int) < af
  · have e1 : E = 0 := by rw [HQ.out, if_pos h1]
    subst e1
    have g3 : ((i : Int) == af) = false := by rw [beq_eq_false_iff_ne]; omega
    rw [errV0]
    have H1 := Lib.hid h1
    clear h1
    go_wp2_with fail
    apply HK.out
    exact ⟨by go_num, s', HS2.out, HO2.out⟩
  · have e1 : E = 6 := by rw [HQ.out, if_neg h1]
    subst e1
    have g3 : ((i : Int) == af) = true := by rw [beq_iff_eq]; omega
    have hv := errV_ne (show (6 : Nat) ≠ 0 by omega)
    rw [hv]
    clear hv
    have H1 := Lib.hid h1
    clear h1
    go_wp2_with fail
    apply HK.out
    exact ⟨by go_num, s', HS2.out, HO2.out⟩
set_option maxRecDepth 100000 in
set_option maxHeartbeats 4000000 in
theorem logStops_no (w : World) (hg : As.Handle w) (af : Int) (ha : I64 af) (many : Int) (hm : I64 many) (keep : Int) (hk : I64 keep) (hn : ¬ ((0 ≤ af ∧ af ≤ 20) ∧ (0 ≤ many ∧ many ≤ 20))) :
    Calls Tryd.prog 4 #[.int .i64 af, .int .i64 many, .int .i64 keep] w fun e w' => e = .returned (.bool true) ∧ Below w.heap.size w w' := by
  have HO0 := Lib.hid (Own.start w)
  have hcs : af < 0 ∨ (¬ af < 0 ∧ 20 < af) ∨ (¬ af < 0 ∧ ¬ 20 < af ∧ many < 0) ∨ (¬ af < 0 ∧ ¬ 20 < af ∧ ¬ many < 0 ∧ 20 < many) := by omega
  have HG := Lib.hid hg; have HA := Lib.hid ha; have HM := Lib.hid hm; have HK := Lib.hid hk; have HN := Lib.hid hn
  clear hg ha hm hk hn
  go_enter Tryd.func4, Tryd.ntmps4
  go_wp2_with fail
  refine (lgNew_any HO0.out).mono ?_
  rintro e w1 ⟨p, rfl, ho⟩
  have HO1 := Lib.hid ho
  clear ho HO0
  rcases hcs with q1 | ⟨q1, q2⟩ | ⟨q1, q2, q3⟩ | ⟨q1, q2, q3, q4⟩
  all_goals
    go_wp2_with fail
    refine (lgBytes_any p lgNew lgNew_I HO1.out).mono ?_
    rintro e w' ⟨rfl, rfl⟩
    rw [show ((lgNew.bs.length : Nat) : Int) = 0 from rfl]
    go_wp2_with fail
    refine (lgAll_any p lgNew lgNew_I HO1.out).mono ?_
    rintro e w2 ⟨v2, rfl, ho⟩
    obtain ⟨ad2, cp2, hv2, _⟩ := Own.rd (show Own w (Sl 28 3 v2 _ _ * _) w2 from ho)
    rw [show lgNew.h.length = 0 from rfl] at hv2
    subst hv2
    have HO2 := Lib.hid ho
    clear ho
    go_wp2
    go_ret
    exact ⟨rfl, HO2.out.below⟩
set_option maxRecDepth 100000 in
set_option maxHeartbeats 4000000 in
theorem logStops_yes (w : World) (hg : As.Handle w) (af : Int) (ha : 0 ≤ af ∧ af ≤ 20) (many : Int) (hm : 0 ≤ many ∧ many ≤ 20) (keep : Int) (hk : I64 keep) :
    Calls Tryd.prog 4 #[.int .i64 af, .int .i64 many, .int .i64 keep] w fun e w' => e = .returned (.bool true) ∧ Below w.heap.size w w' := by
  have HO0 := Lib.hid (Own.start w)
  obtain ⟨ha1, ha2⟩ := ha
  obtain ⟨hm1, hm2⟩ := hm
  have q1 : ¬ af < 0 := by omega
  have q2 : ¬ 20 < af := by omega
  have q3 : ¬ many < 0 := by omega
  have q4 : ¬ 20 < many := by omega
  have HS0 := Lib.hid (StI.start ha1 ha2)
  have HG := Lib.hid hg; have HK := Lib.hid hk
  clear hg hk
  go_enter Tryd.func4, Tryd.ntmps4
  go_wp2_with fail
  refine (lgNew_any HO0.out).mono ?_
  rintro e w1 ⟨p, rfl, ho⟩
  have HO1 := Lib.hid ho
  clear ho HO0
  go_wp2_with fail
  refine (lgFail_any p lgNew af HO1.out).mono ?_
  rintro e w2 ⟨rfl, ho⟩
  have HO2 := Lib.hid ho
  clear ho HO1
  go_wp2_with fail
  go_loopw [9, 8] (fun iv tv wr => ∃ i : Nat, (i : Int) ≤ many ∧ iv = .int .i64 i ∧ tv = .int .i64 i ∧ ∃ s, Hid (StI s af i) ∧ Hid (Own w (LgP p s * emp) wr)) (fun iv _ _ => 20 - (intOf iv).toNat)
  case atStart => exact ⟨0, by omega, rfl, rfl, _, HS0, HO2⟩
  case round =>
    clear HO2 HS0
    obtain ⟨i, hi, rfl, rfl, s, HS, HO⟩ := hrel
    by_cases hlt : (i : Int) < many
    · go_upto_block 1 with fail
      refine lsBody w p af i s (by omega) HG HS HO ?_
      intros
      rename_i hpp
      obtain ⟨rfl, s', hs', ho⟩ := hpp
      have HS2 := Lib.hid hs'
      have HO2 := Lib.hid ho
      clear hs' ho HS HO
      go_wp2_with fail
      go_roundw
      case rel => exact ⟨i + 1, by omega, by go_num, by go_num, s', HS2, HO2⟩
      case measure => simp [intOf]; omega
    go_wp2_with fail
    go_loopw [8] (fun tv wr => ∃ t : Nat, i ≤ t ∧ tv = .int .i64 t ∧ t ≤ 21 ∧ ∃ s, Hid (StI s af t) ∧ Hid (Own w (LgP p s * emp) wr)) (fun tv _ => 21 - (intOf tv).toNat)
    case atStart => exact ⟨i, by omega, rfl, by omega, s, HS, HO⟩
    case round =>
      clear HS HO
      obtain ⟨t, ht, rfl, ht21, s, HS, HO⟩ := hrel
      by_cases hta : (t : Int) ≤ af
      · go_upto_block 3 with fail
        refine lsSync w p af t s hta ha2 HS HO ?_
        intros
        rename_i hpp
        obtain ⟨rfl, s', hs', ho⟩ := hpp
        have HS2 := Lib.hid hs'
        have HO2 := Lib.hid ho
        clear hs' ho HS HO
        go_wp2_with fail
        go_roundw
        case rel => exact ⟨t + 1, by omega, by go_num, by omega, s', HS2, HO2⟩
        case measure => simp [intOf]; omega
      have hst := HS.out.stopped (by omega)
      have HST := Lib.hid hst
      have HI := Lib.hid HS.out.i
      obtain ⟨k, hcr⟩ := HS.out.crash keep
      have HCR := Lib.hid hcr
      clear hst hcr
      go_wp2_with fail
      refine (lgSync_any p s HI.out HO.out).mono ?_
      rintro e w3 ⟨rfl, ho⟩
      rw [HST.out.1]
      rw [HST.out.2.1] at ho
      have HO3 := Lib.hid ho
      clear ho HO
      go_wp2_with fail
      refine (lgDo_any p s ((1 : Int), (1 : Int), (0 : Int)) HI.out ⟨by unfold I64; simp, by unfold I64; simp, by unfold I64; simp⟩ HO3.out).mono ?_
      rintro e w4 ⟨rfl, ho⟩
      rw [HST.out.2.2.1]
      rw [HST.out.2.2.2] at ho
      have HO4 := Lib.hid ho
      clear ho HO3
      have HSE : Hid (∀ wq, Own w (LgP p s * emp) wq → Calls Tryd.prog 9 #[errV 6, .int .i64 6] wq fun e w' => e = .returned (.bool true) ∧ Own w (LgP p s * emp) w') := Lib.hid (fun wq hq => sameErr_any HG.out 6 6 hq)
      obtain ⟨V, hV⟩ : ∃ x, x = errV 6 := ⟨_, rfl⟩
      rw [← hV] at HSE ⊢
      clear hV
      go_wp2_with fail
      refine (HSE.out _ HO4.out).mono ?_
      rintro e w5 ⟨rfl, ho⟩
      have HO5 := Lib.hid ho
      clear ho HO4
      go_wp2_with fail
      refine (HSE.out _ HO5.out).mono ?_
      rintro e w6 ⟨rfl, ho⟩
      have HO6 := Lib.hid ho
      clear ho HO5
      go_wp2_with fail
      refine (lgCrash_any p s keep HI.out HO6.out).mono ?_
      rintro e w7 ⟨rfl, ho⟩
      obtain ⟨s2, hs2⟩ : ∃ x, x = lgCrash s keep := ⟨_, rfl⟩
      rw [← hs2] at ho HCR
      have HO7 := Lib.hid ho
      clear ho hs2 HO6
      go_wp2_with fail
      refine (lgAll_any p s2 HCR.out.i HO7.out).mono ?_
      rintro e w8 ⟨v8, rfl, ho⟩
      obtain ⟨ad8, cp8, hv8, _⟩ := Own.rd (show Own w (Sl 28 3 v8 _ _ * _) w8 from ho)
      rw [HCR.out.len.1] at hv8
      subst hv8
      have HO8 : Hid (Own w (LgP p s2 * emp) w8) := Lib.hid ho.drop
      have hk25 := HCR.out.len.2
      clear ho HO7
      go_wp2_with fail
      refine (lgDo_any p s2 ((2 : Int), (2 : Int), (4 : Int)) HCR.out.i ⟨by unfold I64; simp, by unfold I64; simp, by unfold I64; simp⟩ HO8.out).mono ?_
      rintro e w9 ⟨rfl, ho⟩
      rw [HCR.out.err, errV0]
      have HO9 := Lib.hid ho
      have HI9 := Lib.hid (HCR.out.i.do ((2 : Int), (2 : Int), (4 : Int)))
      clear ho HO8
      go_wp2_with fail
      refine (lgSync_any p _ HI9.out HO9.out).mono ?_
      rintro e wA ⟨rfl, ho⟩
      rw [HCR.out.st, errV0]
      have HOA := Lib.hid ho
      have HIA := Lib.hid HI9.out.sync
      clear ho HO9
      go_wp2_with fail
      refine (lgAll_any p _ HIA.out HOA.out).mono ?_
      rintro e wB ⟨vB, rfl, ho⟩
      rw [HCR.out.sh] at ho
      have hlB : (s2.h ++ [((2 : Int), (2 : Int), (4 : Int))]).length = k + 1 := by rw [List.length_append, HCR.out.len.1]; rfl
      obtain ⟨hB, hhB⟩ : ∃ x, x = s2.h ++ [((2 : Int), (2 : Int), (4 : Int))] := ⟨_, rfl⟩
      have hrB : (histR hB).2 = 0 := by rw [hhB]; exact HCR.out.r
      have hgB : ∀ x ∈ hB, goodEv x := fun x hx => okEv_good (((histR_ok hB).1 hrB).ok x hx)
      have heB : evAt hB k = ((2 : Int), (2 : Int), (4 : Int)) := by
        rw [hhB]; unfold evAt
        rw [List.getD_eq_getElem?_getD, List.getElem?_append_right (by rw [HCR.out.len.1]; omega), HCR.out.len.1, Nat.sub_self]; rfl
      rw [← hhB] at ho hlB
      obtain ⟨adB, cpB, hvB, hcB, _⟩ := Own.rd (show Own w (Sl 28 3 vB _ _ * _) wB from ho)
      rw [hlB] at hvB hcB
      subst hvB
      have HOB := Lib.hid ho
      have HGB := Lib.hid hgB
      have HLB := Lib.hid hlB
      have HEB := Lib.hid heB
      have HRB := Lib.hid hrB
      clear ho hhB HOA hgB hlB heB hrB
      go_wp2_with fail
      refine (hCheck_any _ hB HOB.out (EvSl_reads HGB.out)).mono ?_
      rintro e wC ⟨rfl, ho⟩
      rw [HRB.out, errV0]
      obtain ⟨aa, pb, po, ps, e1, hea, hcs, _⟩ := ReadsE.at (EvSl_reads HGB.out) ho k (by rw [HLB.out]; omega)
      subst e1
      obtain ⟨c0, c1, c2⟩ := hcs _ ho
      rw [HEB.out] at c2
      have HOC := Lib.hid ho
      have k0 : (0 : Int) ≤ (k : Int) := by omega
      clear ho hcs c0 c1 HOB
      go_wp2
      go_ret
      exact ⟨rfl, HOC.out.below⟩
set_option maxRecDepth 100000 in
set_option maxHeartbeats 4000000 in
theorem logStops_law (w : World) (hg : As.Handle w) (af : Int) (ha : I64 af) (many : Int) (hm : I64 many) (keep : Int) (hk : I64 keep) :
    Calls Tryd.prog 4 #[.int .i64 af, .int .i64 many, .int .i64 keep] w fun e w' => e = .returned (.bool true) ∧ Below w.heap.size w w' := by
  by_cases h : (0 ≤ af ∧ af ≤ 20) ∧ (0 ≤ many ∧ many ≤ 20)
  · exact logStops_yes w hg af h.1 many h.2 keep hk
  · exact logStops_no w hg af ha many hm keep hk h
end Go.Proofs.YtljlnhbndkdlcaaDoor
/- Closed facts on the program as a whole, each asked once for all statements of the seat. -/
namespace Go.Proofs.YtljlnhbndkdlcaaDoor.facts
set_option linter.unusedVariables false
set_option linter.unusedSimpArgs false
open Go.ChangeShapes Go.WideShapes Go.ChangeAt
theorem words_step (w r : List Char) (h : w.all (fun c => c != Char.ofNat 32) = true) : wordsSigns (w ++ Char.ofNat 32 :: r) = w :: wordsSigns r := by
  induction w with
  | nil => rfl
  | cons c w ih =>
    simp only [List.all_cons, Bool.and_eq_true, bne_iff_ne, ne_eq] at h
    rw [List.cons_append]
    have e : wordsSigns (c :: (w ++ Char.ofNat 32 :: r)) = match wordsSigns (w ++ Char.ofNat 32 :: r) with | x :: xs => (c :: x) :: xs | [] => [[c]] := by
      conv => lhs; unfold wordsSigns
      split
      · rename_i h1; cases h1
      · rename_i h1; injection h1 with h2 _; exact absurd h2 h.1
      · rename_i h1; injection h1 with h2 h3; subst h2 h3; rfl
    rw [e, ih (by simpa using h.2)]
theorem make_of (P : Program) (c : List Char) (rest : List (List Char)) (h : behindMainWord (wordsSigns P.initOrder.toList) = c :: rest) : P.make =
  if c == "gc".toList || c == "spec".toList then some .whole else if c == "cut".toList || (c == "finals".toList && rest.head? == some "cut".toList) then some .cut else if c == "carried".toList then some .carried else if P.headLifts.isEmpty then none else some (.lifted P.headLifts) := by
  unfold Program.make
  rw [h]
theorem mayEnter_of (P : Program) (c : List Char) (rest : List (List Char)) (h : behindMainWord (wordsSigns P.initOrder.toList) = c :: rest) : P.mayEnter = (
    ((c == "gc".toList || c == "spec".toList) && (rest.isEmpty || rest.head? == some "stop".toList)) ||
    (c == "carried".toList && rest.take 2 == ["gc".toList, "cut".toList] && !P.laysLater && !P.bearsReflect) ||
    ((stripLifts liftWords (c :: rest)).2.head? == some "cut".toList &&
      ((stripLifts liftWords (c :: rest)).1.contains "finals" || !P.laysLater) && ((stripLifts liftWords (c :: rest)).1.contains "reflectrows" || !P.bearsReflect) &&
      ((stripLifts liftWords (c :: rest)).1.contains "reflectrows" || !(stripLifts liftWords (c :: rest)).1.contains "leanrows") &&
      P.doorFits (stripLifts liftWords (c :: rest)).1)) := by
  unfold Program.mayEnter
  rw [h]
def hw0 : List Char := [Char.ofNat 104, Char.ofNat 97, Char.ofNat 114, Char.ofNat 110, Char.ofNat 101, Char.ofNat 115, Char.ofNat 115]
def hw1 : List Char := [Char.ofNat 48, Char.ofNat 98, Char.ofNat 49, Char.ofNat 52, Char.ofNat 53, Char.ofNat 51, Char.ofNat 54, Char.ofNat 53, Char.ofNat 49, Char.ofNat 51, Char.ofNat 100, Char.ofNat 98, Char.ofNat 52, Char.ofNat 49, Char.ofNat 49, Char.ofNat 100, Char.ofNat 101, Char.ofNat 52, Char.ofNat 52, Char.ofNat 49, Char.ofNat 57, Char.ofNat 101, Char.ofNat 51, Char.ofNat 52, Char.ofNat 102, Char.ofNat 49, Char.ofNat 52, Char.ofNat 102, Char.ofNat 98, Char.ofNat 101, Char.ofNat 100, Char.ofNat 53, Char.ofNat 97, Char.ofNat 56, Char.ofNat 101, Char.ofNat 101, Char.ofNat 50, Char.ofNat 100, Char.ofNat 54, Char.ofNat 56, Char.ofNat 50, Char.ofNat 57, Char.ofNat 56, Char.ofNat 99, Char.ofNat 55, Char.ofNat 51, Char.ofNat 99, Char.ofNat 57, Char.ofNat 52, Char.ofNat 50, Char.ofNat 52, Char.ofNat 98, Char.ofNat 100, Char.ofNat 54, Char.ofNat 100, Char.ofNat 52, Char.ofNat 99, Char.ofNat 101, Char.ofNat 56, Char.ofNat 50, Char.ofNat 99, Char.ofNat 99, Char.ofNat 97, Char.ofNat 53]
def hw2 : List Char := [Char.ofNat 99, Char.ofNat 117, Char.ofNat 116]
def hrest : List Char := [Char.ofNat 97, Char.ofNat 116, Char.ofNat 32, Char.ofNat 109, Char.ofNat 111, Char.ofNat 111, Char.ofNat 116, Char.ofNat 98, Char.ofNat 101, Char.ofNat 108, Char.ofNat 108, Char.ofNat 47, Char.ofNat 109, Char.ofNat 111, Char.ofNat 111, Char.ofNat 116, Char.ofNat 108, Char.ofNat 97, Char.ofNat 119, Char.ofNat 52, Char.ofNat 46, Char.ofNat 76, Char.ofNat 111, Char.ofNat 103, Char.ofNat 82, Char.ofNat 101, Char.ofNat 102, Char.ofNat 117, Char.ofNat 115, Char.ofNat 101, Char.ofNat 115, Char.ofNat 32, Char.ofNat 109, Char.ofNat 111, Char.ofNat 111, Char.ofNat 116, Char.ofNat 98, Char.ofNat 101, Char.ofNat 108, Char.ofNat 108, Char.ofNat 47, Char.ofNat 109, Char.ofNat 111, Char.ofNat 111, Char.ofNat 116, Char.ofNat 108, Char.ofNat 97, Char.ofNat 119, Char.ofNat 51, Char.ofNat 46, Char.ofNat 76, Char.ofNat 111, Char.ofNat 103, Char.ofNat 83, Char.ofNat 116, Char.ofNat 111, Char.ofNat 112, Char.ofNat 115, Char.ofNat 32, Char.ofNat 109, Char.ofNat 111, Char.ofNat 111, Char.ofNat 116, Char.ofNat 98, Char.ofNat 101, Char.ofNat 108, Char.ofNat 108, Char.ofNat 47, Char.ofNat 109, Char.ofNat 111, Char.ofNat 111, Char.ofNat 116, Char.ofNat 108, Char.ofNat 97, Char.ofNat 119, Char.ofNat 49, Char.ofNat 46, Char.ofNat 67, Char.ofNat 108, Char.ofNat 111, Char.ofNat 99, Char.ofNat 107, Char.ofNat 84, Char.ofNat 101, Char.ofNat 108, Char.ofNat 108, Char.ofNat 115, Char.ofNat 32, Char.ofNat 109, Char.ofNat 111, Char.ofNat 111, Char.ofNat 116, Char.ofNat 98, Char.ofNat 101, Char.ofNat 108, Char.ofNat 108, Char.ofNat 47, Char.ofNat 109, Char.ofNat 111, Char.ofNat 111, Char.ofNat 116, Char.ofNat 108, Char.ofNat 97, Char.ofNat 119, Char.ofNat 51, Char.ofNat 46, Char.ofNat 76, Char.ofNat 111, Char.ofNat 103, Char.ofNat 75, Char.ofNat 101, Char.ofNat 101, Char.ofNat 112, Char.ofNat 115]
set_option maxRecDepth 100000 in
theorem init_lit : Tryd.prog.initOrder = String.ofList [Char.ofNat 104, Char.ofNat 97, Char.ofNat 114, Char.ofNat 110, Char.ofNat 101, Char.ofNat 115, Char.ofNat 115, Char.ofNat 32, Char.ofNat 48, Char.ofNat 98, Char.ofNat 49, Char.ofNat 52, Char.ofNat 53, Char.ofNat 51, Char.ofNat 54, Char.ofNat 53, Char.ofNat 49, Char.ofNat 51, Char.ofNat 100, Char.ofNat 98, Char.ofNat 52, Char.ofNat 49, Char.ofNat 49, Char.ofNat 100, Char.ofNat 101, Char.ofNat 52, Char.ofNat 52, Char.ofNat 49, Char.ofNat 57, Char.ofNat 101, Char.ofNat 51, Char.ofNat 52, Char.ofNat 102, Char.ofNat 49, Char.ofNat 52, Char.ofNat 102, Char.ofNat 98, Char.ofNat 101, Char.ofNat 100, Char.ofNat 53, Char.ofNat 97, Char.ofNat 56, Char.ofNat 101, Char.ofNat 101, Char.ofNat 50, Char.ofNat 100, Char.ofNat 54, Char.ofNat 56, Char.ofNat 50, Char.ofNat 57, Char.ofNat 56, Char.ofNat 99, Char.ofNat 55, Char.ofNat 51, Char.ofNat 99, Char.ofNat 57, Char.ofNat 52, Char.ofNat 50, Char.ofNat 52, Char.ofNat 98, Char.ofNat 100, Char.ofNat 54, Char.ofNat 100, Char.ofNat 52, Char.ofNat 99, Char.ofNat 101, Char.ofNat 56, Char.ofNat 50, Char.ofNat 99, Char.ofNat 99, Char.ofNat 97, Char.ofNat 53, Char.ofNat 32, Char.ofNat 99, Char.ofNat 117, Char.ofNat 116, Char.ofNat 32, Char.ofNat 97, Char.ofNat 116, Char.ofNat 32, Char.ofNat 109, Char.ofNat 111, Char.ofNat 111, Char.ofNat 116, Char.ofNat 98, Char.ofNat 101, Char.ofNat 108, Char.ofNat 108, Char.ofNat 47, Char.ofNat 109, Char.ofNat 111, Char.ofNat 111, Char.ofNat 116, Char.ofNat 108, Char.ofNat 97, Char.ofNat 119, Char.ofNat 52, Char.ofNat 46, Char.ofNat 76, Char.ofNat 111, Char.ofNat 103, Char.ofNat 82, Char.ofNat 101, Char.ofNat 102, Char.ofNat 117, Char.ofNat 115, Char.ofNat 101, Char.ofNat 115, Char.ofNat 32, Char.ofNat 109, Char.ofNat 111, Char.ofNat 111, Char.ofNat 116, Char.ofNat 98, Char.ofNat 101, Char.ofNat 108, Char.ofNat 108, Char.ofNat 47, Char.ofNat 109, Char.ofNat 111, Char.ofNat 111, Char.ofNat 116, Char.ofNat 108, Char.ofNat 97, Char.ofNat 119, Char.ofNat 51, Char.ofNat 46, Char.ofNat 76, Char.ofNat 111, Char.ofNat 103, Char.ofNat 83, Char.ofNat 116, Char.ofNat 111, Char.ofNat 112, Char.ofNat 115, Char.ofNat 32, Char.ofNat 109, Char.ofNat 111, Char.ofNat 111, Char.ofNat 116, Char.ofNat 98, Char.ofNat 101, Char.ofNat 108, Char.ofNat 108, Char.ofNat 47, Char.ofNat 109, Char.ofNat 111, Char.ofNat 111, Char.ofNat 116, Char.ofNat 108, Char.ofNat 97, Char.ofNat 119, Char.ofNat 49, Char.ofNat 46, Char.ofNat 67, Char.ofNat 108, Char.ofNat 111, Char.ofNat 99, Char.ofNat 107, Char.ofNat 84, Char.ofNat 101, Char.ofNat 108, Char.ofNat 108, Char.ofNat 115, Char.ofNat 32, Char.ofNat 109, Char.ofNat 111, Char.ofNat 111, Char.ofNat 116, Char.ofNat 98, Char.ofNat 101, Char.ofNat 108, Char.ofNat 108, Char.ofNat 47, Char.ofNat 109, Char.ofNat 111, Char.ofNat 111, Char.ofNat 116, Char.ofNat 108, Char.ofNat 97, Char.ofNat 119, Char.ofNat 51, Char.ofNat 46, Char.ofNat 76, Char.ofNat 111, Char.ofNat 103, Char.ofNat 75, Char.ofNat 101, Char.ofNat 101, Char.ofNat 112, Char.ofNat 115] := by kernel_rfl
set_option maxRecDepth 100000 in
theorem init_chars : Tryd.prog.initOrder.toList = [Char.ofNat 104, Char.ofNat 97, Char.ofNat 114, Char.ofNat 110, Char.ofNat 101, Char.ofNat 115, Char.ofNat 115, Char.ofNat 32, Char.ofNat 48, Char.ofNat 98, Char.ofNat 49, Char.ofNat 52, Char.ofNat 53, Char.ofNat 51, Char.ofNat 54, Char.ofNat 53, Char.ofNat 49, Char.ofNat 51, Char.ofNat 100, Char.ofNat 98, Char.ofNat 52, Char.ofNat 49, Char.ofNat 49, Char.ofNat 100, Char.ofNat 101, Char.ofNat 52, Char.ofNat 52, Char.ofNat 49, Char.ofNat 57, Char.ofNat 101, Char.ofNat 51, Char.ofNat 52, Char.ofNat 102, Char.ofNat 49, Char.ofNat 52, Char.ofNat 102, Char.ofNat 98, Char.ofNat 101, Char.ofNat 100, Char.ofNat 53, Char.ofNat 97, Char.ofNat 56, Char.ofNat 101, Char.ofNat 101, Char.ofNat 50, Char.ofNat 100, Char.ofNat 54, Char.ofNat 56, Char.ofNat 50, Char.ofNat 57, Char.ofNat 56, Char.ofNat 99, Char.ofNat 55, Char.ofNat 51, Char.ofNat 99, Char.ofNat 57, Char.ofNat 52, Char.ofNat 50, Char.ofNat 52, Char.ofNat 98, Char.ofNat 100, Char.ofNat 54, Char.ofNat 100, Char.ofNat 52, Char.ofNat 99, Char.ofNat 101, Char.ofNat 56, Char.ofNat 50, Char.ofNat 99, Char.ofNat 99, Char.ofNat 97, Char.ofNat 53, Char.ofNat 32, Char.ofNat 99, Char.ofNat 117, Char.ofNat 116, Char.ofNat 32, Char.ofNat 97, Char.ofNat 116, Char.ofNat 32, Char.ofNat 109, Char.ofNat 111, Char.ofNat 111, Char.ofNat 116, Char.ofNat 98, Char.ofNat 101, Char.ofNat 108, Char.ofNat 108, Char.ofNat 47, Char.ofNat 109, Char.ofNat 111, Char.ofNat 111, Char.ofNat 116, Char.ofNat 108, Char.ofNat 97, Char.ofNat 119, Char.ofNat 52, Char.ofNat 46, Char.ofNat 76, Char.ofNat 111, Char.ofNat 103, Char.ofNat 82, Char.ofNat 101, Char.ofNat 102, Char.ofNat 117, Char.ofNat 115, Char.ofNat 101, Char.ofNat 115, Char.ofNat 32, Char.ofNat 109, Char.ofNat 111, Char.ofNat 111, Char.ofNat 116, Char.ofNat 98, Char.ofNat 101, Char.ofNat 108, Char.ofNat 108, Char.ofNat 47, Char.ofNat 109, Char.ofNat 111, Char.ofNat 111, Char.ofNat 116, Char.ofNat 108, Char.ofNat 97, Char.ofNat 119, Char.ofNat 51, Char.ofNat 46, Char.ofNat 76, Char.ofNat 111, Char.ofNat 103, Char.ofNat 83, Char.ofNat 116, Char.ofNat 111, Char.ofNat 112, Char.ofNat 115, Char.ofNat 32, Char.ofNat 109, Char.ofNat 111, Char.ofNat 111, Char.ofNat 116, Char.ofNat 98, Char.ofNat 101, Char.ofNat 108, Char.ofNat 108, Char.ofNat 47, Char.ofNat 109, Char.ofNat 111, Char.ofNat 111, Char.ofNat 116, Char.ofNat 108, Char.ofNat 97, Char.ofNat 119, Char.ofNat 49, Char.ofNat 46, Char.ofNat 67, Char.ofNat 108, Char.ofNat 111, Char.ofNat 99, Char.ofNat 107, Char.ofNat 84, Char.ofNat 101, Char.ofNat 108, Char.ofNat 108, Char.ofNat 115, Char.ofNat 32, Char.ofNat 109, Char.ofNat 111, Char.ofNat 111, Char.ofNat 116, Char.ofNat 98, Char.ofNat 101, Char.ofNat 108, Char.ofNat 108, Char.ofNat 47, Char.ofNat 109, Char.ofNat 111, Char.ofNat 111, Char.ofNat 116, Char.ofNat 108, Char.ofNat 97, Char.ofNat 119, Char.ofNat 51, Char.ofNat 46, Char.ofNat 76, Char.ofNat 111, Char.ofNat 103, Char.ofNat 75, Char.ofNat 101, Char.ofNat 101, Char.ofNat 112, Char.ofNat 115] := by rw [init_lit, String.toList_ofList]
set_option maxRecDepth 100000 in
theorem init_split : [Char.ofNat 104, Char.ofNat 97, Char.ofNat 114, Char.ofNat 110, Char.ofNat 101, Char.ofNat 115, Char.ofNat 115, Char.ofNat 32, Char.ofNat 48, Char.ofNat 98, Char.ofNat 49, Char.ofNat 52, Char.ofNat 53, Char.ofNat 51, Char.ofNat 54, Char.ofNat 53, Char.ofNat 49, Char.ofNat 51, Char.ofNat 100, Char.ofNat 98, Char.ofNat 52, Char.ofNat 49, Char.ofNat 49, Char.ofNat 100, Char.ofNat 101, Char.ofNat 52, Char.ofNat 52, Char.ofNat 49, Char.ofNat 57, Char.ofNat 101, Char.ofNat 51, Char.ofNat 52, Char.ofNat 102, Char.ofNat 49, Char.ofNat 52, Char.ofNat 102, Char.ofNat 98, Char.ofNat 101, Char.ofNat 100, Char.ofNat 53, Char.ofNat 97, Char.ofNat 56, Char.ofNat 101, Char.ofNat 101, Char.ofNat 50, Char.ofNat 100, Char.ofNat 54, Char.ofNat 56, Char.ofNat 50, Char.ofNat 57, Char.ofNat 56, Char.ofNat 99, Char.ofNat 55, Char.ofNat 51, Char.ofNat 99, Char.ofNat 57, Char.ofNat 52, Char.ofNat 50, Char.ofNat 52, Char.ofNat 98, Char.ofNat 100, Char.ofNat 54, Char.ofNat 100, Char.ofNat 52, Char.ofNat 99, Char.ofNat 101, Char.ofNat 56, Char.ofNat 50, Char.ofNat 99, Char.ofNat 99, Char.ofNat 97, Char.ofNat 53, Char.ofNat 32, Char.ofNat 99, Char.ofNat 117, Char.ofNat 116, Char.ofNat 32, Char.ofNat 97, Char.ofNat 116, Char.ofNat 32, Char.ofNat 109, Char.ofNat 111, Char.ofNat 111, Char.ofNat 116, Char.ofNat 98, Char.ofNat 101, Char.ofNat 108, Char.ofNat 108, Char.ofNat 47, Char.ofNat 109, Char.ofNat 111, Char.ofNat 111, Char.ofNat 116, Char.ofNat 108, Char.ofNat 97, Char.ofNat 119, Char.ofNat 52, Char.ofNat 46, Char.ofNat 76, Char.ofNat 111, Char.ofNat 103, Char.ofNat 82, Char.ofNat 101, Char.ofNat 102, Char.ofNat 117, Char.ofNat 115, Char.ofNat 101, Char.ofNat 115, Char.ofNat 32, Char.ofNat 109, Char.ofNat 111, Char.ofNat 111, Char.ofNat 116, Char.ofNat 98, Char.ofNat 101, Char.ofNat 108, Char.ofNat 108, Char.ofNat 47, Char.ofNat 109, Char.ofNat 111, Char.ofNat 111, Char.ofNat 116, Char.ofNat 108, Char.ofNat 97, Char.ofNat 119, Char.ofNat 51, Char.ofNat 46, Char.ofNat 76, Char.ofNat 111, Char.ofNat 103, Char.ofNat 83, Char.ofNat 116, Char.ofNat 111, Char.ofNat 112, Char.ofNat 115, Char.ofNat 32, Char.ofNat 109, Char.ofNat 111, Char.ofNat 111, Char.ofNat 116, Char.ofNat 98, Char.ofNat 101, Char.ofNat 108, Char.ofNat 108, Char.ofNat 47, Char.ofNat 109, Char.ofNat 111, Char.ofNat 111, Char.ofNat 116, Char.ofNat 108, Char.ofNat 97, Char.ofNat 119, Char.ofNat 49, Char.ofNat 46, Char.ofNat 67, Char.ofNat 108, Char.ofNat 111, Char.ofNat 99, Char.ofNat 107, Char.ofNat 84, Char.ofNat 101, Char.ofNat 108, Char.ofNat 108, Char.ofNat 115, Char.ofNat 32, Char.ofNat 109, Char.ofNat 111, Char.ofNat 111, Char.ofNat 116, Char.ofNat 98, Char.ofNat 101, Char.ofNat 108, Char.ofNat 108, Char.ofNat 47, Char.ofNat 109, Char.ofNat 111, Char.ofNat 111, Char.ofNat 116, Char.ofNat 108, Char.ofNat 97, Char.ofNat 119, Char.ofNat 51, Char.ofNat 46, Char.ofNat 76, Char.ofNat 111, Char.ofNat 103, Char.ofNat 75, Char.ofNat 101, Char.ofNat 101, Char.ofNat 112, Char.ofNat 115] = hw0 ++ Char.ofNat 32 :: (hw1 ++ Char.ofNat 32 :: (hw2 ++ Char.ofNat 32 :: hrest)) := by kernel_rfl
theorem init_words : wordsSigns Tryd.prog.initOrder.toList = hw0 :: hw1 :: hw2 :: wordsSigns hrest := by
  rw [init_chars.trans init_split]
  rw [words_step hw0 _ (by kernel_rfl)]
  rw [words_step hw1 _ (by kernel_rfl)]
  rw [words_step hw2 _ (by kernel_rfl)]
theorem behind (rs : List (List Char)) : behindMainWord (hw0 :: hw1 :: hw2 :: rs) = hw2 :: rs := by kernel_rfl
theorem strip (rs : List (List Char)) : stripLifts liftWords (hw2 :: rs) = ([], hw2 :: rs) := by kernel_rfl
theorem laysLater : Tryd.prog.laysLater = false := by kernel_rfl
theorem bearsReflect : Tryd.prog.bearsReflect = false := by kernel_rfl
theorem doorFits : Tryd.prog.doorFits [] = true := by kernel_rfl
theorem headLifts : Tryd.prog.headLifts = [] := by
  unfold Program.headLifts; rw [init_words, behind, strip]; generalize wordsSigns hrest = rs; kernel_rfl
theorem mayEnter : Tryd.prog.mayEnter = true := by
  rw [mayEnter_of Tryd.prog _ _ (by rw [init_words, behind]), strip, laysLater, bearsReflect, doorFits]; generalize wordsSigns hrest = rs; kernel_rfl
theorem lifts_eq : Tryd.prog.liftsFinal = false := by
  unfold Program.liftsFinal; rw [init_words, behind, headLifts]; generalize wordsSigns hrest = rs; kernel_rfl
theorem make_eq : (Tryd.prog.make == some .cut) = true := by
  rw [make_of Tryd.prog _ _ (by rw [init_words, behind]), headLifts]; generalize wordsSigns hrest = rs; kernel_rfl
theorem laidOut : laidOutB Tryd.prog = true := by kernel_rfl
theorem mapsRowed : mapsRowed Tryd.prog = true := by kernel_rfl
theorem stops : (Tryd.prog.stops == []) = true := by kernel_rfl
theorem stopKnobs : (Tryd.prog.stopKnobs == []) = true := by kernel_rfl
theorem stopsHeard : Tryd.prog.stopsHeard = true := by kernel_rfl
theorem own : ownKnob Tryd.prog.godebug = none := by kernel_rfl
theorem and_mk {a b : Bool} (ha : a = true) (hb : b = true) : (a && b) = true := by rw [ha, hb]; rfl
end Go.Proofs.YtljlnhbndkdlcaaDoor.facts
/- The package-level variables that the log's rows list: errors.errorType, and three tables of the library that no walk reads; a world that meets them. -/
namespace Go.Proofs.YtljlnhbndkdlcaaDoor
set_option linter.unusedVariables false
set_option linter.unusedSimpArgs false
open Go.ChangeShapes Go.WideShapes Go.RowKit
def theLaid4 : List (String × DataW Unit) := [("math/bits.deBruijn32tab", Rows.laid_math_bits_deBruijn32tab), ("math/bits.deBruijn64tab", Rows.laid_math_bits_deBruijn64tab), ("internal/strconv.uint64pow10", Rows.laid_internal_strconv_uint64pow10), ("errors.errorType", Rows.laid_errors_errorType)]
def theData4 : List (String × DataW Unit) := [("math/bits.deBruijn32tab", Rows.laid_math_bits_deBruijn32tab), ("math/bits.deBruijn64tab", Rows.laid_math_bits_deBruijn64tab), ("internal/strconv.uint64pow10", Rows.laid_internal_strconv_uint64pow10)]
theorem handle_of_laid4 {W : World} (h : laidMetH Tryd.prog theLaid4 W) : As.Handle W := by
  have h' : laidMet Tryd.prog theData4 W ∧ handlesMet Tryd.prog [("errors.errorType", Rows.laid_errors_errorType)] W := h
  obtain ⟨name, u, ty, e1, e2, e3, e4, e5⟩ := h'.2 _ (List.mem_singleton.2 rfl)
  have en : name = [101, 114, 114, 111, 114] := (Option.some.inj e1).symm
  subst en
  obtain rfl := Option.some.inj (rtt.symm.trans e2)
  have hm : ty ∈ (List.range 189).filter fun t => Tryd.prog.rowNamed t [101, 114, 114, 111, 114] := List.mem_filter.2 ⟨List.mem_range.2 (by rw [← typesSize]; exact e3), e4⟩
  rw [oneRow] at hm
  obtain rfl := List.mem_singleton.1 hm
  have hh : typeHandle Tryd.prog 25 = .pointer (some ⟨5, 25, none⟩) := by kernel_rfl
  rw [hh] at e5
  unfold As.Handle
  simpa using World.var?_cell errt e5 0
def tab64 : Array Value := #[.int .u64 1, .int .u64 10, .int .u64 100, .int .u64 1000, .int .u64 10000, .int .u64 100000, .int .u64 1000000, .int .u64 10000000, .int .u64 100000000, .int .u64 1000000000, .int .u64 10000000000, .int .u64 100000000000, .int .u64 1000000000000, .int .u64 10000000000000, .int .u64 100000000000000, .int .u64 1000000000000000, .int .u64 10000000000000000, .int .u64 100000000000000000, .int .u64 1000000000000000000, .int .u64 10000000000000000000]
def db32 : Array Value := ([0, 1, 28, 2, 29, 14, 24, 3, 30, 22, 20, 15, 25, 17, 4, 8, 31, 27, 13, 23, 21, 19, 16, 7, 26, 12, 18, 6, 11, 5, 10, 9].map (Value.int .u8)).toArray
def db64 : Array Value := ([0, 1, 56, 2, 57, 49, 28, 3, 61, 58, 42, 50, 38, 29, 17, 4, 62, 47, 59, 36, 45, 43, 51, 22, 53, 39, 33, 30, 24, 18, 12, 5, 63, 55, 48, 27, 60, 41, 37, 16, 46, 35, 44, 21, 52, 32, 23, 11, 54, 26, 40, 15, 34, 20, 31, 10, 25, 14, 19, 9, 13, 8, 7, 6].map (Value.int .u8)).toArray
def laidWorld4 (P : Program) (os : Os) : World :=
  { laidWorld P os with heap := (((laidWorld P os).heap.setIfInBounds 2 (.cells tab64 155 (0, 0))).setIfInBounds 3 (.cells db32 159 (0, 0))).setIfInBounds 4 (.cells db64 160 (0, 0)) }
theorem laidWorld4_met (os : Os) (args : Array Value) : laidMetH Tryd.prog theLaid4 ((laidWorld4 Tryd.prog os).forCall (fun _ _ => 0) ⟨#[], args, []⟩).memory :=
  laidMetH_of_parts (laidMet_of_run' 8 (by kernel_rfl) (by kernel_rfl)) (by kernel_rfl)
end Go.Proofs.YtljlnhbndkdlcaaDoor
