/- CastPlays: one step of the law. -/
import Derived.Test.YtldmdenojpnldaaDoorMCastPlays19
import Derived.Test.YtldmdenojpnldaaDoorMCastPlays21
import Derived.Test.YtldmdenojpnldaaDoorMCastPlays22
import Derived.Test.YtldmdenojpnldaaDoorRows
import Derived.ChangeSame
import Derived.ChangeVars
import Derived.JoinedOf
import Derived.LaidLaws
import Derived.LaidHandle
import Derived.Stop.Joined
namespace Go.Proofs.YtldmdenojpnldaaDoor
set_option linter.unusedVariables false
set_option linter.unusedSimpArgs false
open Go.RowKit Go.Maps
theorem Own.three {w0 w : World} {ty : TypeId} {b : Nat} {x y z : Int} {R : HProp} (h : Own w0 (Nms ty b [x, y, z] * R) w) : w.cell? ⟨b, 0, none⟩ = some (.int .i64 x) ∧ w.cell? ⟨b, 1, none⟩ = some (.int .i64 y) ∧ w.cell? ⟨b, 2, none⟩ = some (.int .i64 z) :=
  ⟨h.nms_cell 0 (by simp), h.nms_cell 1 (by simp), h.nms_cell 2 (by simp)⟩
theorem csSay_hl (c : Cs) (a b : Int) : (csSay c a b).hist.length ≤ c.hist.length + 1 := by
  unfold csSay
  split
  · simp
  · omega
theorem csGive_hl {c : Cs} (hI : CsI c) (i : Int) : (csGive c i).hist.length ≤ c.hist.length + 41 := by
  unfold csGive
  by_cases hE : csGiveErr c i = 0
  · rw [if_pos hE]
    obtain ⟨k, hk, _, hgm, _⟩ := hI.given hE
    have h1 : CaI (csGm c i) := by rw [hgm]; exact (hI.mem k hk).ok
    have := caOut_le (s := csGs c i) h1
    simp only [List.length_append, List.length_map]
    omega
  · rw [if_neg hE]; omega
def CpRes (w : World) (p q vb : Nat) (x y z : Int) (B : Nat) (tv : Value) (wx : World) : Prop := tv = .bool true ∧ ∃ c : Cs, CsI c ∧ c.hist.length ≤ B ∧ Own w (CsP p c * (RkP q c * (Nms 85 vb [x, y, z] * emp))) wx
noncomputable def cpFill_code : Code := ((Tryd.f9.body.bind (findBlock 2)).getD .skip)
set_option maxRecDepth 1000000 in
set_option maxHeartbeats 4000000 in
theorem cpFill {Q : Exit → Act → World → Prop} {u0 u2 u3 u4 u5 u6 u7 u8 u9 u13 u14 u15 u16 u17 u18 u19 u20 u21 u22 u23 u24 u25 u26 u27 u28 u29 u30 u31 u32 u33 u34 u35 u36 u37 u38 u39 u40 u41 u42 u43 u44 u45 u46 u47 u48 u49 u50 u51 u52 u53 u54 u55 u56 u57 u58 u59 u60 u61 u62 u63 u64 u65 u66 u67 u68 u69 u70 u71 u72 u73 u74 u75 u76 u77 u78 u79 u80 u81 u82 u83 u84 u85 u86 u87 u88 u89 u90 u91 u92 u93 u94 u95 u96 u97 u98 u99 u100 u101 u102 u103 u104 u105 u106 u107 u108 u109 u110 u111 u112 u113 u114 u115 u116 u117 u118 u119 u120 u121 u122 u123 u124 u125 u126 u127 u128 u129 u130 u131 u132 u133 u134 u135 u136 u137 u138 u139 u140 u141 u142 u143 u144 u145 u146 u147 u148 u149 u150 u151 u152 u153 u154 u155 u156 u157 u158 u159 u160 u161 u162 u163 u164 u165 u166 u167 u168 u169 u170 u171 u172 u173 u174 u175 u176 u177 u178 u179 u180 u181 u182 u183 u184 u185 u186 u187 u188 u189 u190 u191 u192 u193 u194 u195 : Value} {w1 : World} (w : World) (R : HProp) (vb k : Nat) (steps : List (List Int)) (row : List Int) (a2 : Addr) (scap rcap : Nat) (rad : Option Addr) (h1 : k < steps.length) (hc1 : steps.length ≤ scap) (hc2 : scap ≤ 9223372036854775807) (HR : Hid (Ints w (.slice rad row.length rcap) row)) (HC : Hid (∀ (w1 : World) (P : HProp), Own w P w1 → w1.cell? (a2.add k) = some (.slice rad row.length rcap))) (HT : Hid (Own w (Nms 85 vb [0, 0, 0] * R) w1))
    (hK : ∀ (v12 v51 v52 v53 v54 v55 v56 v57 v58 v59 v60 v61 v62 v63 v64 v65 v66 v67 v68 v69 v70 v71 v72 : Value) (wx : World), (NmV 85 3 w vb R wx) → Q .normal ⟨List.toArray (u0 :: (.slice (some a2) steps.length scap) :: u2 :: u3 :: u4 :: u5 :: u6 :: u7 :: u8 :: u9 :: (.int .i64 (k : Int)) :: (.pointer (some ⟨vb, 0, none⟩)) :: v12 :: u13 :: u14 :: u15 :: u16 :: u17 :: u18 :: u19 :: u20 :: u21 :: u22 :: u23 :: u24 :: u25 :: u26 :: u27 :: u28 :: u29 :: u30 :: u31 :: u32 :: u33 :: u34 :: u35 :: u36 :: u37 :: u38 :: u39 :: u40 :: u41 :: u42 :: u43 :: u44 :: u45 :: u46 :: u47 :: u48 :: u49 :: u50 :: v51 :: v52 :: v53 :: v54 :: v55 :: v56 :: v57 :: v58 :: v59 :: v60 :: v61 :: v62 :: v63 :: v64 :: v65 :: v66 :: v67 :: v68 :: v69 :: v70 :: v71 :: v72 :: u73 :: u74 :: u75 :: u76 :: u77 :: u78 :: u79 :: u80 :: u81 :: u82 :: u83 :: u84 :: u85 :: u86 :: u87 :: u88 :: u89 :: u90 :: u91 :: u92 :: u93 :: u94 :: u95 :: u96 :: u97 :: u98 :: u99 :: u100 :: u101 :: u102 :: u103 :: u104 :: u105 :: u106 :: u107 :: u108 :: u109 :: u110 :: u111 :: u112 :: u113 :: u114 :: u115 :: u116 :: u117 :: u118 :: u119 :: u120 :: u121 :: u122 :: u123 :: u124 :: u125 :: u126 :: u127 :: u128 :: u129 :: u130 :: u131 :: u132 :: u133 :: u134 :: u135 :: u136 :: u137 :: u138 :: u139 :: u140 :: u141 :: u142 :: u143 :: u144 :: u145 :: u146 :: u147 :: u148 :: u149 :: u150 :: u151 :: u152 :: u153 :: u154 :: u155 :: u156 :: u157 :: u158 :: u159 :: u160 :: u161 :: u162 :: u163 :: u164 :: u165 :: u166 :: u167 :: u168 :: u169 :: u170 :: u171 :: u172 :: u173 :: u174 :: u175 :: u176 :: u177 :: u178 :: u179 :: u180 :: u181 :: u182 :: u183 :: u184 :: u185 :: u186 :: u187 :: u188 :: u189 :: u190 :: u191 :: u192 :: u193 :: u194 :: u195 :: []), []⟩ wx) :
    Code.wp Tryd.prog cpFill_code Q ⟨List.toArray (u0 :: (.slice (some a2) steps.length scap) :: u2 :: u3 :: u4 :: u5 :: u6 :: u7 :: u8 :: u9 :: (.int .i64 (k : Int)) :: (.pointer (some ⟨vb, 0, none⟩)) :: (.int .i64 0) :: u13 :: u14 :: u15 :: u16 :: u17 :: u18 :: u19 :: u20 :: u21 :: u22 :: u23 :: u24 :: u25 :: u26 :: u27 :: u28 :: u29 :: u30 :: u31 :: u32 :: u33 :: u34 :: u35 :: u36 :: u37 :: u38 :: u39 :: u40 :: u41 :: u42 :: u43 :: u44 :: u45 :: u46 :: u47 :: u48 :: u49 :: u50 :: u51 :: u52 :: u53 :: u54 :: u55 :: u56 :: u57 :: u58 :: u59 :: u60 :: u61 :: u62 :: u63 :: u64 :: u65 :: u66 :: u67 :: u68 :: u69 :: u70 :: u71 :: u72 :: u73 :: u74 :: u75 :: u76 :: u77 :: u78 :: u79 :: u80 :: u81 :: u82 :: u83 :: u84 :: u85 :: u86 :: u87 :: u88 :: u89 :: u90 :: u91 :: u92 :: u93 :: u94 :: u95 :: u96 :: u97 :: u98 :: u99 :: u100 :: u101 :: u102 :: u103 :: u104 :: u105 :: u106 :: u107 :: u108 :: u109 :: u110 :: u111 :: u112 :: u113 :: u114 :: u115 :: u116 :: u117 :: u118 :: u119 :: u120 :: u121 :: u122 :: u123 :: u124 :: u125 :: u126 :: u127 :: u128 :: u129 :: u130 :: u131 :: u132 :: u133 :: u134 :: u135 :: u136 :: u137 :: u138 :: u139 :: u140 :: u141 :: u142 :: u143 :: u144 :: u145 :: u146 :: u147 :: u148 :: u149 :: u150 :: u151 :: u152 :: u153 :: u154 :: u155 :: u156 :: u157 :: u158 :: u159 :: u160 :: u161 :: u162 :: u163 :: u164 :: u165 :: u166 :: u167 :: u168 :: u169 :: u170 :: u171 :: u172 :: u173 :: u174 :: u175 :: u176 :: u177 :: u178 :: u179 :: u180 :: u181 :: u182 :: u183 :: u184 :: u185 :: u186 :: u187 :: u188 :: u189 :: u190 :: u191 :: u192 :: u193 :: u194 :: u195 :: []), []⟩ w1 := by
  conv => arg 2; whnf
  have HK := Lib.hid hK
  clear hK
  go_wp2_with fail
  go_loopw [12] (fun jv w2 => ∃ (j : Nat) (l : List Int), j ≤ 3 ∧ jv = .int .i64 j ∧ Hid (l.length = 3) ∧ Hid (Own w (Nms 85 vb l * R) w2)) (fun jv _ => 3 - (intOf jv).toNat)
  case atStart => exact ⟨0, [0, 0, 0], Nat.zero_le _, rfl, Lib.hid rfl, HT⟩
  case round =>
    obtain ⟨j, l, hj, rfl, hl, hpw⟩ := hrel
    have c1 := HC.out _ _ hpw.out
    have FIN := Lib.hid (show NmV 85 3 w vb R wr from ⟨l, hl.out, hpw.out⟩)
    by_cases h3 : j < row.length
    rotate_left
    · go_wp2_with fail
      apply HK.out
      exact FIN.out
    by_cases h4 : j < 3
    rotate_left
    · go_wp2_with fail
      apply HK.out
      exact FIN.out
    obtain ⟨b3, rfl, hcb⟩ := HR.out.at_later j h3
    have c2 := hcb _ _ hpw.out
    have hjl : j < l.length := by rw [hl.out]; exact h4
    have c3 := hpw.out.nms_cell j hjl
    have c4 := hpw.out.nms_free j
    have HS := Lib.hid (hpw.out.nms_set j row[j])
    have i0 : (0 : Int) ≤ (j : Int) := by omega
    have i3 : (j : Int) < 3 := by omega
    clear hcb
    go_wp2_with fail
    go_roundw
    case rel => exact ⟨j + 1, l.set j row[j], by omega, by go_num, Lib.hid (by rw [List.length_set]; exact hl.out), HS⟩
    case measure => simp [intOf]; omega
noncomputable def cpStep_code : Code := ((Tryd.f9.body.bind (findBlock 4)).getD .skip)
set_option maxRecDepth 1000000 in
set_option maxHeartbeats 4000000 in
theorem cpStep {Q : Exit → Act → World → Prop} {u0 u1 u2 u3 u4 u7 u8 u10 u12 u14 u15 u16 u17 u18 u19 u20 u21 u22 u23 u24 u25 u26 u27 u28 u29 u30 u31 u32 u33 u34 u35 u36 u37 u38 u39 u40 u41 u42 u43 u44 u45 u46 u47 u48 u49 u50 u51 u52 u53 u54 u55 u56 u57 u58 u59 u60 u61 u62 u63 u64 u65 u66 u67 u68 u69 u70 u71 u72 u73 u74 u75 u76 u77 u78 u79 u80 u81 u82 u83 u84 u85 u86 u87 u88 u89 u91 u92 u93 u94 u95 u96 u97 u98 u99 u100 u101 u102 u103 u104 u105 u106 u107 u108 u109 u110 u111 u112 u113 u114 u115 u116 u117 u118 u119 u120 u121 u122 u123 u124 u125 u126 u127 u128 u129 u130 u131 u132 u133 u134 u135 u136 u137 u138 u139 u140 u141 u142 u143 u144 u145 u146 u147 u148 u149 u150 u151 u152 u153 u154 u155 u156 u157 u158 u159 u160 u161 u162 u163 u164 u165 u166 u167 u168 u169 u170 u171 u172 u173 u174 u175 u176 u177 u178 u179 u180 u181 u182 u183 u184 u185 u186 u187 u188 u189 u190 u191 u192 u193 u194 u195 : Value} {w1 : World} (w : World) (hg : As.Handle w) {p q vb B : Nat} (c : Cs) (hI : CsI c) (hb : c.hist.length ≤ B) (hBB : B ≤ 90000) (x y z : Int) (D : Bool) (hD : D = ntHas c.net y) (HP : Hid (Own w (CsP p c * (RkP q c * (Nms 85 vb [x, y, z] * emp))) w1))
    (hK : ∀ (v5 v8 v14 v15 v16 v17 v91 v92 v93 v94 v95 v96 v97 v98 v99 v100 v101 v102 v103 v104 v105 v106 v107 v108 v109 v110 v111 v112 v113 v114 v115 v116 v117 v118 v119 v120 v121 v122 v123 v124 v125 v126 v127 v128 v129 v130 v131 v132 v133 v134 v135 v136 v137 v138 v139 v140 v141 v142 v143 v144 v145 v146 v147 v148 v149 v150 v151 v152 v153 v154 v155 v156 v157 v158 v159 v160 v161 v162 v163 v164 v165 v166 v167 v168 v169 v170 : Value) (wx : World), (CpRes w p q vb x y z (B + 41) v8 wx) → Q .normal ⟨List.toArray (u0 :: u1 :: u2 :: u3 :: u4 :: v5 :: (.pointer (some ⟨p, 0, none⟩)) :: u7 :: v8 :: (.pointer (some ⟨q, 0, none⟩)) :: u10 :: (.pointer (some ⟨vb, 0, none⟩)) :: u12 :: (.bool D) :: v14 :: v15 :: v16 :: v17 :: u18 :: u19 :: u20 :: u21 :: u22 :: u23 :: u24 :: u25 :: u26 :: u27 :: u28 :: u29 :: u30 :: u31 :: u32 :: u33 :: u34 :: u35 :: u36 :: u37 :: u38 :: u39 :: u40 :: u41 :: u42 :: u43 :: u44 :: u45 :: u46 :: u47 :: u48 :: u49 :: u50 :: u51 :: u52 :: u53 :: u54 :: u55 :: u56 :: u57 :: u58 :: u59 :: u60 :: u61 :: u62 :: u63 :: u64 :: u65 :: u66 :: u67 :: u68 :: u69 :: u70 :: u71 :: u72 :: u73 :: u74 :: u75 :: u76 :: u77 :: u78 :: u79 :: u80 :: u81 :: u82 :: u83 :: u84 :: u85 :: u86 :: u87 :: u88 :: u89 :: (.int .i64 x) :: v91 :: v92 :: v93 :: v94 :: v95 :: v96 :: v97 :: v98 :: v99 :: v100 :: v101 :: v102 :: v103 :: v104 :: v105 :: v106 :: v107 :: v108 :: v109 :: v110 :: v111 :: v112 :: v113 :: v114 :: v115 :: v116 :: v117 :: v118 :: v119 :: v120 :: v121 :: v122 :: v123 :: v124 :: v125 :: v126 :: v127 :: v128 :: v129 :: v130 :: v131 :: v132 :: v133 :: v134 :: v135 :: v136 :: v137 :: v138 :: v139 :: v140 :: v141 :: v142 :: v143 :: v144 :: v145 :: v146 :: v147 :: v148 :: v149 :: v150 :: v151 :: v152 :: v153 :: v154 :: v155 :: v156 :: v157 :: v158 :: v159 :: v160 :: v161 :: v162 :: v163 :: v164 :: v165 :: v166 :: v167 :: v168 :: v169 :: v170 :: u171 :: u172 :: u173 :: u174 :: u175 :: u176 :: u177 :: u178 :: u179 :: u180 :: u181 :: u182 :: u183 :: u184 :: u185 :: u186 :: u187 :: u188 :: u189 :: u190 :: u191 :: u192 :: u193 :: u194 :: u195 :: []), []⟩ wx) :
    Code.wp Tryd.prog cpStep_code Q ⟨List.toArray (u0 :: u1 :: u2 :: u3 :: u4 :: (.int .i64 1) :: (.pointer (some ⟨p, 0, none⟩)) :: u7 :: u8 :: (.pointer (some ⟨q, 0, none⟩)) :: u10 :: (.pointer (some ⟨vb, 0, none⟩)) :: u12 :: (.bool D) :: u14 :: u15 :: u16 :: u17 :: u18 :: u19 :: u20 :: u21 :: u22 :: u23 :: u24 :: u25 :: u26 :: u27 :: u28 :: u29 :: u30 :: u31 :: u32 :: u33 :: u34 :: u35 :: u36 :: u37 :: u38 :: u39 :: u40 :: u41 :: u42 :: u43 :: u44 :: u45 :: u46 :: u47 :: u48 :: u49 :: u50 :: u51 :: u52 :: u53 :: u54 :: u55 :: u56 :: u57 :: u58 :: u59 :: u60 :: u61 :: u62 :: u63 :: u64 :: u65 :: u66 :: u67 :: u68 :: u69 :: u70 :: u71 :: u72 :: u73 :: u74 :: u75 :: u76 :: u77 :: u78 :: u79 :: u80 :: u81 :: u82 :: u83 :: u84 :: u85 :: u86 :: u87 :: u88 :: u89 :: (.int .i64 x) :: u91 :: u92 :: u93 :: u94 :: u95 :: u96 :: u97 :: u98 :: u99 :: u100 :: u101 :: u102 :: u103 :: u104 :: u105 :: u106 :: u107 :: u108 :: u109 :: u110 :: u111 :: u112 :: u113 :: u114 :: u115 :: u116 :: u117 :: u118 :: u119 :: u120 :: u121 :: u122 :: u123 :: u124 :: u125 :: u126 :: u127 :: u128 :: u129 :: u130 :: u131 :: u132 :: u133 :: u134 :: u135 :: u136 :: u137 :: u138 :: u139 :: u140 :: u141 :: u142 :: u143 :: u144 :: u145 :: u146 :: u147 :: u148 :: u149 :: u150 :: u151 :: u152 :: u153 :: u154 :: u155 :: u156 :: u157 :: u158 :: u159 :: u160 :: u161 :: u162 :: u163 :: u164 :: u165 :: u166 :: u167 :: u168 :: u169 :: u170 :: u171 :: u172 :: u173 :: u174 :: u175 :: u176 :: u177 :: u178 :: u179 :: u180 :: u181 :: u182 :: u183 :: u184 :: u185 :: u186 :: u187 :: u188 :: u189 :: u190 :: u191 :: u192 :: u193 :: u194 :: u195 :: []), []⟩ w1 := by
  conv => arg 2; whnf
  have HK := Lib.hid hK
  clear hK
  obtain ⟨c0, c1, c2⟩ := HP.out.third.three
  have hbb : c.hist.length ≤ 100000 := by omega
  by_cases h01 : x = 0 ∨ x = 1
  · skip
    have hni := hI.say y z
    have hnl := csSay_hl c y z
    obtain ⟨E, hE⟩ : ∃ E, E = csSayErr c y z := ⟨_, rfl⟩
    obtain ⟨C2, hC2⟩ : ∃ C, C = csSay c y z := ⟨_, rfl⟩
    have tE := same_nat E
    rw [← hC2] at hni hnl
    have hbl : C2.hist.length ≤ B + 41 := by omega
    clear hnl
    rcases h01 with rfl | rfl
    all_goals
      have HG := Lib.hid hg; have HI := Lib.hid hI; have HD := Lib.hid hD; have HNI := Lib.hid hni; have HE := Lib.hid hE; have HC2 := Lib.hid hC2; have HB := Lib.hid hb; have HBL := Lib.hid hbl
      clear hg hI hD hni hE hC2 hb hbl
      go_wp2_with fail
      refine (rkSay_any q c y z HI.out hbb HP.out.second).mono ?_
      rintro e w3 ⟨rfl, ho⟩
      rw [← HE.out]
      rw [← HC2.out] at ho
      have HO3 := Lib.hid ho.second
      clear ho c0 c1 c2
      obtain ⟨c0, c1, c2⟩ := HO3.out.third.three
      go_wp2_with fail
      refine (csSay_any p c y z HI.out hbb HO3.out).mono ?_
      rintro e w4 ⟨rfl, ho⟩
      rw [← HE.out]
      rw [← HC2.out] at ho
      have HO4 := Lib.hid ho
      clear ho c0 c1 c2
      go_wp2_with fail
      refine (sameErr_any HG.out E E HO4.out).mono ?_
      rintro e w5 ⟨rfl, ho⟩
      rw [tE]
      have HO5 := Lib.hid ho
      clear ho
      go_wp2_with fail
      apply HK.out
      exact ⟨rfl, C2, HNI.out, HBL.out, HO5.out⟩
  have t0 : (x == 0) = false := by rw [beq_eq_false_iff_ne]; exact fun e => h01 (.inl e)
  have t1 : (x == 1) = false := by rw [beq_eq_false_iff_ne]; exact fun e => h01 (.inr e)
  by_cases h2 : x = 2
  · skip
    subst h2
    have hni := hI.drop y
    cases D
    · obtain ⟨q1, q2⟩ := ntDrop_no hD.symm
      have hs : csDrop c y = c := by unfold csDrop; rw [q2]
      have HG := Lib.hid hg; have HI := Lib.hid hI; have HD := Lib.hid hD; have HNI := Lib.hid hni; have H01 := Lib.hid h01; have Q1 := Lib.hid q1; have Q2 := Lib.hid q2; have HS := Lib.hid hs
      clear hg hI hD hni h01 q1 q2 hs
      have HHB := Lib.hid hb
      go_wp2_with fail
      refine (csDrop_any p c y HI.out HP.out).mono ?_
      rintro e w3 ⟨rfl, ho⟩
      rw [Q1.out]
      rw [HS.out] at ho
      have HO3 := Lib.hid ho
      clear ho c0 c1 c2
      go_wp2_with fail
      refine (sameErr_any HG.out 1 1 HO3.out).mono ?_
      rintro e w4 ⟨rfl, ho⟩
      have HO4 := Lib.hid ho
      clear ho
      go_wp2_with fail
      apply HK.out
      exact ⟨rfl, c, HI.out, by have := HHB.out; omega, HO4.out⟩
    · obtain ⟨q1, q2⟩ := ntDrop_yes hD.symm
      obtain ⟨q3, q4⟩ := ntHas_iff.1 hD.symm
      obtain ⟨k, rfl⟩ : ∃ k : Nat, y = (k : Int) := ⟨y.toNat, by omega⟩
      have hkl : k < c.net.all.length := by omega
      obtain ⟨mb, off, cap, nb, hv, S, rms, he, ho2⟩ := HP.out.second.rk_open
      obtain ⟨_, d1, _⟩ := ho2.rk_facts he
      have HO2 := Lib.hid ho2.rk_net.drew
      have HE_ := Lib.hid he
      clear ho2 he
      have HG := Lib.hid hg; have HI := Lib.hid hI; have HD := Lib.hid hD; have HNI := Lib.hid hni; have H01 := Lib.hid h01; have Q1 := Lib.hid q1; have Q2 := Lib.hid q2; have Q3 := Lib.hid q3; have Q4 := Lib.hid q4; have HKL := Lib.hid hkl
      clear hg hI hD hni h01 q1 q2 q3 q4 hkl
      have HHB := Lib.hid hb
      go_upto_region 29 with fail
      refine wp_region_tail 6 (by kernel_rfl) (by kernel_rfl) ?_
      simp only [List.take_succ_cons, List.take_zero, List.drop_succ_cons, List.drop_zero]
      repeat still_step
      refine wpStill_nil ?_
      go_wp2_with fail
      refine (rnOut_any nb c.net k HKL.out HI.out.net HO2.out).mono ?_
      rintro e w3 ⟨rfl, ho⟩
      have ho3 : Own w (RkP q (csDrop c (k : Int)) * (CsP p c * (Nms 85 vb [2, (k : Int), z] * emp))) w3 := by
        have h1 := Own.rk_net_put (c := c) ho
        rw [← Q2.out] at h1
        refine Own.rk_close (c := csDrop c (k : Int)) ⟨HE_.out.mem, HE_.out.rows, HE_.out.len, HE_.out.said⟩ h1
      have HO3 := Lib.hid ho3.second
      clear ho ho3 c0 c1 c2 d1 HO2
      obtain ⟨c0, c1, c2⟩ := HO3.out.third.three
      go_wp2_with fail
      refine (csDrop_any p c k HI.out HO3.out).mono ?_
      rintro e w4 ⟨rfl, ho⟩
      rw [Q1.out]
      have HO4 := Lib.hid ho
      clear ho c0 c1 c2
      go_wp2_with fail
      refine (sameErr_any HG.out 0 0 HO4.out).mono ?_
      rintro e w5 ⟨rfl, ho⟩
      have HO5 := Lib.hid ho
      clear ho
      go_wp2_with fail
      apply HK.out
      exact ⟨rfl, csDrop c (k : Int), HNI.out, by have := HHB.out; show c.hist.length ≤ _; omega, HO5.out⟩
  have t2 : (x == 2) = false := by rw [beq_eq_false_iff_ne]; exact h2
  by_cases h3 : x = 3
  · skip
    subst h3
    have hni := hI.twice y
    cases D
    · obtain ⟨q1, q2⟩ := ntTwice_no hD.symm
      have hs : csTwice c y = c := by unfold csTwice; rw [q2]
      have HG := Lib.hid hg; have HI := Lib.hid hI; have HD := Lib.hid hD; have HNI := Lib.hid hni; have H01 := Lib.hid h01; have H2 := Lib.hid h2; have Q1 := Lib.hid q1; have Q2 := Lib.hid q2; have HS := Lib.hid hs
      clear hg hI hD hni h01 h2 q1 q2 hs
      have HHB := Lib.hid hb
      go_wp2_with fail
      refine (csTwice_any p c y HI.out HP.out).mono ?_
      rintro e w3 ⟨rfl, ho⟩
      rw [Q1.out]
      rw [HS.out] at ho
      have HO3 := Lib.hid ho
      clear ho c0 c1 c2
      go_wp2_with fail
      refine (sameErr_any HG.out 1 1 HO3.out).mono ?_
      rintro e w4 ⟨rfl, ho⟩
      have HO4 := Lib.hid ho
      clear ho
      go_wp2_with fail
      apply HK.out
      exact ⟨rfl, c, HI.out, by have := HHB.out; omega, HO4.out⟩
    · obtain ⟨q1, q2⟩ := ntTwice_yes hD.symm
      obtain ⟨q3, q4⟩ := ntHas_iff.1 hD.symm
      obtain ⟨k, rfl⟩ : ∃ k : Nat, y = (k : Int) := ⟨y.toNat, by omega⟩
      have hkl : k < c.net.all.length := by omega
      obtain ⟨X, hX⟩ : ∃ X, X = ntAt c.net k := ⟨_, rfl⟩
      obtain ⟨E, hE⟩ : ∃ E, E = ntErr c.net X := ⟨_, rfl⟩
      have tE := same_nat E
      obtain ⟨mb, off, cap, nb, hv, S, rms, he, ho2⟩ := HP.out.second.rk_open
      obtain ⟨_, d1, _⟩ := ho2.rk_facts he
      obtain ⟨nad, ncap, Bt, hBt, b1, b2, ho3⟩ := ho2.rk_net.rn_open
      obtain ⟨e0, _, _⟩ := ho3.rn_facts
      obtain ⟨bb, noff, cap', hnv, b3, b4, g0, g1, g2⟩ := ho3.rn_at hkl
      injection hnv with ev1 _ ev3
      subst ev1; subst ev3
      rw [← hX] at g0 g1 g2 q1 q2
      rw [← hE] at q1
      obtain ⟨L, hL⟩ : ∃ L, L = c.net.all.length := ⟨_, rfl⟩
      rw [← hL] at e0 hkl b1
      obtain ⟨xa, xb, xd⟩ := X
      simp only at g0 g1 g2
      have HO2 := Lib.hid ho2.rk_net.drew
      have HE_ := Lib.hid he
      clear ho2 he
      have HG := Lib.hid hg; have HI := Lib.hid hI; have HD := Lib.hid hD; have HNI := Lib.hid hni; have H01 := Lib.hid h01; have H2 := Lib.hid h2; have Q1 := Lib.hid q1; have Q2 := Lib.hid q2; have Q3 := Lib.hid q3; have Q4 := Lib.hid q4; have HX := Lib.hid hX; have HE := Lib.hid hE; have HBT := Lib.hid hBt; have HO3 := Lib.hid ho3; have HL := Lib.hid hL
      clear hg hI hD hni h01 h2 q1 q2 q3 q4 hX hE hBt ho3 hL
      have HHB := Lib.hid hb
      go_upto_region 34 with fail
      refine wp_region_tail 15 (by kernel_rfl) (by kernel_rfl) ?_
      simp only [List.take_succ_cons, List.take_zero, List.drop_succ_cons, List.drop_zero]
      repeat still_step
      refine wpStill_nil ?_
      go_wp2_with fail
      refine (rnSend_any nb c.net (xa, xb, xd) HI.out.net HO2.out).mono ?_
      rintro e w3 ⟨rfl, ho⟩
      rw [← HE.out]
      have ho3 : Own w (RkP q (csTwice c (k : Int)) * (CsP p c * (Nms 85 vb [3, (k : Int), z] * emp))) w3 := by
        have h1 := Own.rk_net_put (c := c) ho
        rw [← Q2.out] at h1
        refine Own.rk_close (c := csTwice c (k : Int)) ⟨HE_.out.mem, HE_.out.rows, HE_.out.len, HE_.out.said⟩ h1
      have HO3 := Lib.hid ho3.second
      clear ho ho3 c0 c1 c2 d1 HO2 e0 g0 g1 g2
      obtain ⟨c0, c1, c2⟩ := HO3.out.third.three
      go_wp2_with fail
      refine (csTwice_any p c k HI.out HO3.out).mono ?_
      rintro e w4 ⟨rfl, ho⟩
      rw [Q1.out]
      have HO4 := Lib.hid ho
      clear ho c0 c1 c2
      go_wp2_with fail
      refine (sameErr_any HG.out E E HO4.out).mono ?_
      rintro e w5 ⟨rfl, ho⟩
      rw [tE]
      have HO5 := Lib.hid ho
      clear ho
      go_wp2_with fail
      apply HK.out
      exact ⟨rfl, csTwice c (k : Int), HNI.out, by have := HHB.out; show c.hist.length ≤ _; omega, HO5.out⟩
  have t3 : (x == 3) = false := by rw [beq_eq_false_iff_ne]; exact h3
  have hni := hI.give y
  have hnl := csGive_hl hI y
  obtain ⟨E, hE⟩ : ∃ E, E = csGiveErr c y := ⟨_, rfl⟩
  obtain ⟨O, hO⟩ : ∃ C, C = csGiven c y := ⟨_, rfl⟩
  obtain ⟨C2, hC2⟩ : ∃ C, C = csGive c y := ⟨_, rfl⟩
  have tE := same_nat E
  have hOI : ∀ u ∈ O, I64 u := by
    rw [hO]
    intro u hu
    unfold csGiven at hu
    by_cases h0 : csGiveErr c y = 0
    · rw [if_pos h0] at hu
      obtain ⟨k, hk, _, hgm, _⟩ := hI.given h0
      exact caOut_I64 (by rw [hgm]; exact (hI.mem k hk).ok) u hu
    · rw [if_neg h0] at hu; cases hu
  rw [← hC2] at hni hnl
  have hbl : C2.hist.length ≤ B + 41 := by omega
  clear hnl
  have HG := Lib.hid hg; have HI := Lib.hid hI; have HD := Lib.hid hD; have HNI := Lib.hid hni; have HE := Lib.hid hE; have HC2 := Lib.hid hC2; have HB := Lib.hid hb; have HBL := Lib.hid hbl; have H01 := Lib.hid h01; have H2 := Lib.hid h2; have H3 := Lib.hid h3; have HO := Lib.hid hO; have HOI := Lib.hid hOI
  clear hg hI hD hni hE hC2 hb hbl h01 h2 h3 hO hOI
  go_wp2_with fail
  refine (rkGive_any q c y HI.out hbb HP.out.second).mono ?_
  rintro e w3 ⟨v1, rfl, ho⟩
  rw [← HE.out]
  rw [← HO.out, ← HC2.out] at ho
  have HO3 : Hid (Own w (CsP p c * (IntSl v1 O * (RkP q C2 * (Nms 85 vb [x, y, z] * emp)))) w3) := Lib.hid (ho.perm (by ac_rfl))
  clear ho c0 c1 c2
  obtain ⟨c0, c1, c2⟩ := HO3.out.fourth.three
  go_wp2_with fail
  refine (csGive_any HG.out p c y HI.out hbb HO3.out).mono ?_
  rintro e w4 ⟨v2, rfl, ho⟩
  rw [← HE.out]
  rw [← HO.out, ← HC2.out] at ho
  have HO4 : Hid (Own w (IntSl v2 O * (IntSl v1 O * (CsP p C2 * (RkP q C2 * (Nms 85 vb [x, y, z] * emp))))) w4) := Lib.hid (ho.perm (by ac_rfl))
  clear ho c0 c1 c2 HO3
  go_wp2_with fail
  refine (sameErr_any HG.out E E HO4.out).mono ?_
  rintro e w5 ⟨rfl, ho⟩
  rw [tE]
  have HO5 := Lib.hid ho
  clear ho HO4
  go_wp2_with fail
  refine (sameInts_any v2 v1 O O _ (IntSl_reads HOI.out _ HO5.out) (IntSl_reads HOI.out _ HO5.out.second)).mono ?_
  rintro e w' ⟨rfl, n6, rfl⟩
  rw [show (O == O) = true from beq_iff_eq.2 rfl]
  have HO6 := Lib.hid (HO5.out.drewN n6).drop.drop
  go_wp2_with fail
  apply HK.out
  exact ⟨rfl, C2, HNI.out, HBL.out, HO6.out⟩
end Go.Proofs.YtldmdenojpnldaaDoor
/- The package-level variable errors.errorType as the rows list it: what a walk has of it; a world that meets it. (After the guide's Toyas example.) -/
namespace Go.Proofs.YtldmdenojpnldaaDoor
set_option linter.unusedVariables false
set_option linter.unusedSimpArgs false
open Go.ChangeShapes Go.WideShapes Go.RowKit
theorem errt : Tryd.prog.globalNamed "errors.errorType" = some 0 := by kernel_rfl
theorem rtt : (Tryd.prog.cutTypes.find? (·.1 == "internal/reflectlite.rtype")).map (·.2) = some 199 := by kernel_rfl
theorem oneRow : ((List.range 248).filter fun t => Tryd.prog.rowNamed t [101, 114, 114, 111, 114]) = [29] := by kernel_rfl
theorem typesSize : Tryd.prog.types.size = 248 := by kernel_rfl
def theLaid : List (String × DataW Unit) := [("errors.errorType", Rows.laid_errors_errorType)]
theorem handle_of_laid {W : World} (h : laidMetH Tryd.prog theLaid W) : As.Handle W := by
  have h' : laidMet Tryd.prog [] W ∧ handlesMet Tryd.prog theLaid W := h
  obtain ⟨name, u, ty, e1, e2, e3, e4, e5⟩ := h'.2 _ (List.mem_singleton.2 rfl)
  have en : name = [101, 114, 114, 111, 114] := (Option.some.inj e1).symm
  subst en
  obtain rfl := Option.some.inj (rtt.symm.trans e2)
  have hm : ty ∈ (List.range 248).filter fun t => Tryd.prog.rowNamed t [101, 114, 114, 111, 114] := List.mem_filter.2 ⟨List.mem_range.2 (by rw [← typesSize]; exact e3), e4⟩
  rw [oneRow] at hm
  obtain rfl := List.mem_singleton.1 hm
  have hh : typeHandle Tryd.prog 29 = .pointer (some ⟨1, 29, none⟩) := by kernel_rfl
  rw [hh] at e5
  unfold As.Handle
  simpa using World.var?_cell errt e5 0
def laidWorld (P : Program) (os : Os) : World :=
  { World.holding P os ⟨#[], #[], []⟩ with heap := (World.holding P os ⟨#[], #[], []⟩).heap.setIfInBounds 0 (.cells #[.iface 199 (.agg #[.pointer (some ⟨1, 29, none⟩)])] 184 (0, 0)) }
theorem laidWorld_met (os : Os) (args : Array Value) : laidMetH Tryd.prog theLaid ((laidWorld Tryd.prog os).forCall (fun _ _ => 0) ⟨#[], args, []⟩).memory :=
  laidMetH_of_parts (laidMet_nil _ _) (by kernel_rfl)
end Go.Proofs.YtldmdenojpnldaaDoor
/- CastPlays: the program's group and the reference's do the same. -/
namespace Go.Proofs.YtldmdenojpnldaaDoor
set_option linter.unusedVariables false
set_option linter.unusedSimpArgs false
open Go.RowKit Go.Maps
set_option maxRecDepth 100000 in
set_option maxHeartbeats 4000000 in
theorem castPlays_bad (w : World) (hg : As.Handle w) (n : Int) (hn : isGrp n = false) (vs : Value) :
    Calls Tryd.prog 9 #[.int .i64 n, vs] w fun e w' => e = .returned (.bool true) ∧ Below w.heap.size w w' := by
  have HW0 := Lib.hid (Own.start w)
  have hcs : n < 2 ∨ (¬ n < 2 ∧ 5 < n) := by simp [isGrp] at hn; omega
  have HG := Lib.hid hg; have HN := Lib.hid hn
  clear hg hn
  rcases hcs with h1 | ⟨h1, h2⟩
  all_goals
    go_enter Tryd.func9, Tryd.ntmps9
    go_wp2_with fail
    refine (csNew_no n _ HN.out).mono ?_
    rintro e w' ⟨rfl, rfl⟩
    go_wp2_with fail
    refine (sameErr_any HG.out 1 1 HW0.out).mono ?_
    rintro e w2 ⟨rfl, ho⟩
    have HO2 := Lib.hid ho
    clear ho
    go_wp2
    go_ret
    exact ⟨rfl, HO2.out.below⟩
set_option maxRecDepth 100000 in
set_option maxHeartbeats 4000000 in
theorem castPlays_good (w : World) (hg : As.Handle w) (N : Nat) (hN2 : 2 ≤ N) (hN5 : N ≤ 5) (vs : Value) (steps : List (List Int)) (hvs : Rows2 w vs steps) (n : Int) (hnN : n = (N : Int)) :
    Calls Tryd.prog 9 #[.int .i64 n, vs] w fun e w' => e = .returned (.bool true) ∧ Below w.heap.size w w' := by
  subst hnN
  obtain ⟨sad, scap, rfl, hsc1, hsc2⟩ := hvs.shape
  have HW0 := Lib.hid (Own.start w)
  have HI0 := Lib.hid (CsI.new hN2 hN5)
  have hgr : isGrp (N : Int) = true := by simp [isGrp]; omega
  have HG := Lib.hid hg; have HVS := Lib.hid hvs; have HGR := Lib.hid hgr
  clear hg hvs hgr
  go_enter Tryd.func9, Tryd.ntmps9
  go_wp2_with fail
  refine (csNew_yes N HGR.out HW0.out).mono ?_
  rintro e w1 ⟨p, rfl, ho⟩
  have HO1 := Lib.hid ho
  clear ho
  go_wp2_with fail
  refine (sameErr_any HG.out 0 0 HO1.out).mono ?_
  rintro e w2 ⟨rfl, ho⟩
  have HO2 := Lib.hid ho
  clear ho
  go_wp2_with fail
  refine (rkNew_any N hN2 hN5 HO2.out).mono ?_
  rintro e w3 ⟨mq, rfl, ho⟩
  have HO3 := Lib.hid ho.second
  clear ho HO2 HO1
  go_wp2_with fail
  go_loopw [10] (fun iv wr => ∃ (k : Nat) (c : Cs), k ≤ steps.length ∧ k ≤ 120 ∧ iv = .int .i64 k ∧ Hid (CsI c ∧ c.hist.length ≤ 41 * k) ∧ Hid (Own w (CsP p c * (RkP mq c * emp)) wr)) (fun iv _ => 120 - (intOf iv).toNat)
  case atStart => exact ⟨0, csNew N, Nat.zero_le _, Nat.zero_le _, rfl, Lib.hid ⟨HI0.out, by simp [csNew]⟩, HO3⟩
  case round =>
    clear HO3 HI0
    obtain ⟨k, c, hk, hk2, rfl, HI, HP⟩ := hrel
    by_cases h1 : k < steps.length
    rotate_left
    · go_wp2
      go_ret
      exact ⟨rfl, HP.out.below⟩
    by_cases h2 : k < 120
    rotate_left
    · go_wp2
      go_ret
      exact ⟨rfl, HP.out.below⟩
    obtain ⟨a2, rad, rcap, e2, hr, hc⟩ := HVS.out.at_later k h1
    obtain ⟨row, hrow⟩ : ∃ row, row = steps[k] := ⟨_, rfl⟩
    rw [← hrow] at hr hc
    subst e2
    obtain ⟨vb, hvb⟩ : ∃ b, b = wr.heap.size := ⟨_, rfl⟩
    have ht := HP.out.alloc (.cells #[.int .i64 0, .int .i64 0, .int .i64 0] 85)
    rw [← hvb] at ht
    have HT : Hid (Own w (Nms 85 vb [0, 0, 0] * (CsP p c * (RkP mq c * emp))) (wr.alloc (.cells #[.int .i64 0, .int .i64 0, .int .i64 0] 85))) := Lib.hid ht
    have HR := Lib.hid hr; have HC := Lib.hid hc; have HROW := Lib.hid hrow
    clear hr hc hrow
    clear ht
    go_upto_block 2 with fail
    rw [← hvb]
    clear hvb
    go_cut [12] (fun jv wx => NmV 85 3 w vb (CsP p c * (RkP mq c * emp)) wx)
    case first =>
      refine cpFill w (CsP p c * (RkP mq c * emp)) vb k steps row a2 scap rcap rad h1 hsc1 hsc2 HR HC HT ?_
      intros
      go_step
      go_step
      go_meet
      assumption
    case rest =>
    obtain ⟨x, y, z, hT⟩ := hcut.three
    have HT2 : Hid (Own w (CsP p c * (RkP mq c * (Nms 85 vb [x, y, z] * emp))) wc) := Lib.hid (hT.perm (by ac_rfl))
    clear HT HP hT hcut
    obtain ⟨d0, d1, d2⟩ := HT2.out.third.three
    obtain ⟨mb, off, cap, nb, hv, S, rms, he, ho2⟩ := HT2.out.second.rk_open
    obtain ⟨_, e1, _⟩ := ho2.rk_facts he
    obtain ⟨nad, ncap, Bt, hBt, b1, b2, ho3⟩ := ho2.rk_net.rn_open
    obtain ⟨e0, _, _⟩ := ho3.rn_facts
    obtain ⟨L, hL⟩ : ∃ L, L = c.net.all.length := ⟨_, rfl⟩
    rw [← hL] at e0 b1
    clear he ho2
    have HBT := Lib.hid hBt; have HO3 := Lib.hid ho3; have HL := Lib.hid hL
    clear hBt ho3 hL
    go_upto_region 18 with fail
    go_cut [13] (fun v wx => v = .bool (ntHas c.net y) ∧ Own w (CsP p c * (RkP mq c * (Nms 85 vb [x, y, z] * emp))) wx)
    case first =>
      by_cases h0 : 0 ≤ y
      · have t0 : decide (0 ≤ y) = true := by simpa using h0
        have hh : ntHas c.net y = decide (y < (L : Int)) := by unfold ntHas inR; rw [t0, ← HL.out]; rfl
        have HH := Lib.hid hh; have H0 := Lib.hid h0
        clear hh h0
        go_wp2_with fail
        go_quiet (fail)
        go_wp2_with fail
        go_meet
        exact ⟨by rw [HH.out], HT2.out.drewN _⟩
      · have t0 : decide (0 ≤ y) = false := by simpa using h0
        have hh : ntHas c.net y = false := by unfold ntHas inR; rw [t0]; rfl
        have HH := Lib.hid hh; have H0 := Lib.hid h0
        clear hh h0
        go_wp2_with fail
        go_quiet (fail)
        go_wp2_with fail
        go_meet
        exact ⟨by rw [HH.out], HT2.out.drewN _⟩
    case rest =>
    obtain ⟨rfl, ho⟩ := hcut
    clear HT2 e0 e1 d0 d1 d2
    have HT3 := Lib.hid ho
    clear ho
    obtain ⟨d0, d1, d2⟩ := HT3.out.third.three
    obtain ⟨D, hD⟩ : ∃ D, D = ntHas c.net y := ⟨_, rfl⟩
    rw [← hD]
    have HD := Lib.hid hD
    clear hD
    go_upto_block 4 with fail
    go_cut [8] (fun tv wx => CpRes w p mq vb x y z (41 * k + 41) tv wx)
    case first =>
      refine cpStep w HG.out c HI.out.1 HI.out.2 (by omega) x y z D HD.out HT3 ?_
      intros
      go_step
      go_step
      go_meet
      assumption
    case rest =>
    obtain ⟨rfl, c', hi, hbl, ho⟩ := hcut
    clear HT3 d0 d1 d2 HI HD HL
    obtain ⟨mb, off, cap, nb, hv, S, rms, he, ho2⟩ := ho.drew.second.rk_open
    obtain ⟨_, e1, _, e3, _⟩ := ho2.rk_facts he
    obtain ⟨nad, ncap, Bt, hBt, b3, b4, ho3⟩ := ho2.rk_net.rn_open
    obtain ⟨e0, _, _⟩ := ho3.rn_facts
    obtain ⟨had, hcp, hhv, hx1, hx2⟩ := (EvSl_reads hi.hist _ (ho2.perm (show _ = EvSl hv c'.hist * (rkBlk mq (.slice (some ⟨mb, off, none⟩) rms.length cap) nb S (c'.said.length : Int) hv * (TabO rmP rmV 66 mb off cap rms * (RnP nb c'.net * (starL sdRow S * (CsP p c' * (Nms 85 vb [x, y, z] * emp)))))) by unfold RkO; ac_rfl))).shape
    obtain ⟨LH, hLH⟩ : ∃ y, y = c'.hist.length := ⟨_, rfl⟩
    obtain ⟨LA, hLA⟩ : ∃ y, y = c'.net.all.length := ⟨_, rfl⟩
    obtain ⟨PA, hPA⟩ : ∃ y, y = c'.net.all := ⟨_, rfl⟩
    obtain ⟨PH, hPH⟩ : ∃ y, y = c'.hist := ⟨_, rfl⟩
    rw [hhv, ← hLH] at e3
    rw [← hLA] at e0 b3
    rw [← hLH] at hx1
    have HSL := Lib.hid he.len
    -- all that is owned, laid open
    obtain ⟨FR, hFR⟩ : ∃ FR, FR = TabO rmP rmV 66 mb off cap rms * (starL sdRow S * (Nms 85 vb [x, y, z] * emp)) := ⟨_, rfl⟩
    have HO4 : Hid (Own w (CsP p c' * (rkBlk mq (.slice (some ⟨mb, off, none⟩) rms.length cap) nb S (c'.said.length : Int) hv * (RnO nb (.slice nad c'.net.all.length ncap) Bt c'.net * (EvSl hv c'.hist * FR)))) wc.drew) := Lib.hid (by
      rw [hFR]
      exact ho3.perm (by ac_rfl))
    have HFR := Lib.hid hFR
    have HHV := Lib.hid hhv
    have HE_ := Lib.hid he
    have HI2 := Lib.hid hi
    have HBL := Lib.hid hbl
    have hbb : c'.hist.length ≤ 100000 := by omega
    clear ho ho2 he hi hbl hFR hhv
    have HBT := Lib.hid hBt; have HO3 := Lib.hid ho3; have HLH := Lib.hid hLH; have HLA := Lib.hid hLA; have HPA := Lib.hid hPA; have HPH := Lib.hid hPH
    clear hBt ho3 hLH hLA hPA hPH
    have key : ∀ (w' : World) (T : HProp), Own w (T * (rkBlk mq (.slice (some ⟨mb, off, none⟩) rms.length cap) nb S (c'.said.length : Int) hv * (RnO nb (.slice nad c'.net.all.length ncap) Bt c'.net * (EvSl hv c'.hist * FR)))) w' →
        w'.cell? ⟨mq, 1, none⟩ = some (.pointer (some ⟨nb, 0, none⟩)) ∧ w'.cell? ⟨nb, 0, none⟩ = some (.slice nad LA ncap) ∧ w'.cell? ⟨mq, 96, none⟩ = some (.slice had LH hcp) ∧ Evs w' (.slice nad LA ncap) c'.net.all ∧ Evs w' (.slice had LH hcp) c'.hist := by
      intro w' T h
      obtain ⟨_, g1, _, g3, _, _⟩ := h.second.rkb_facts HSL.out
      have g0 := h.third.rn_facts.1
      rw [← HLA.out] at g0
      rw [HHV.out, ← HLH.out] at g3
      have r1 : Evs w' (.slice nad c'.net.all.length ncap) c'.net.all := PkSl_reads HI2.out.net.good _ h.third.rn_all
      have r2 : Evs w' hv c'.hist := EvSl_reads HI2.out.hist _ h.fourth
      rw [← HLA.out] at r1
      rw [HHV.out, ← HLH.out] at r2
      exact ⟨g1, g0, g3, r1, r2⟩
    have HKEY := Lib.hid key
    clear key
    go_upto_region 36 with fail
    refine wp_region_planH 24 [] [(true, 0), (true, 1), (true, 2), (true, 3), (true, 5), (true, 6), (true, 7), (true, 8), (true, 9), (true, 10), (true, 11), (false, 4), (false, 12), (true, 13), (true, 14), (true, 15), (true, 16), (true, 18), (true, 19), (true, 20), (true, 21), (false, 17), (false, 22), (true, 23)] [24] (fun wS => wS.cell? ⟨mq, 1, none⟩ = some (.pointer (some ⟨nb, 0, none⟩)) ∧ wS.cell? ⟨nb, 0, none⟩ = some (.slice nad LA ncap) ∧ wS.cell? ⟨mq, 96, none⟩ = some (.slice had LH hcp)) (by kernel_rfl) (by kernel_rfl) (⟨e1, e0, e3⟩) ?_
    simp only [pickH, pick, List.getElem?_cons_succ, List.getElem?_cons_zero, Option.toList, Option.map_some, List.cons_append, List.nil_append]
    repeat (refine wpPure_step ?_ rfl ?_ ?_; rotate_left; (focus (intro _; first | with_reducible rfl | (go_simp; done) | (go_simp; with_reducible rfl) | rfl)); go_simp)
    refine wpPure_nil ?_
    repeat (first | (refine wpMix_read ?_ rfl ?_ ?_; rotate_left; (focus (intro _ hS; obtain ⟨s1, s2, s3⟩ := hS; first | with_reducible rfl | (go_simp; done) | (go_simp; with_reducible rfl) | rfl)); go_simp) | (refine wpMix_readW ?_ ?_ ?_ ?_; rotate_left; (focus (first | rfl | (go_simp; done))); (focus (intro _ hS; obtain ⟨s1, s2, s3⟩ := hS; first | with_reducible rfl | (go_simp; done) | (go_simp; with_reducible rfl) | rfl)); go_simp))
    refine wpMix_write (fun K hK => ?_)
    go_simp
    refine (csOnWay_any p c' HI2.out HO4.out).mono ?_
    rintro e w5 ⟨v5, rfl, ho5⟩
    obtain ⟨ad5, cp5, hv5, _⟩ := Own.rd ho5
    subst hv5
    obtain ⟨g1, g0, g3, r1, _⟩ := HKEY.out w5 (PkSl (.slice ad5 c'.net.all.length cp5) c'.net.all * CsP p c') (ho5.perm (by rw [star_assoc]))
    have r5 : Evs w5 (.slice ad5 c'.net.all.length cp5) c'.net.all := PkSl_reads HI2.out.net.good _ ho5
    rw [← HLA.out] at r5 ⊢
    have HO5 := Lib.hid ho5.drop
    have R1 := Lib.hid r1; have R5 := Lib.hid r5
    clear r1 r5
    clear ho5 e1 e0 e3
    refine hK _ _ ⟨⟨g1, g0, g3⟩, ?_⟩
    clear hK K
    go_simp
    repeat (first | (refine wpMix_read ?_ rfl ?_ ?_; rotate_left; (focus (intro _ hS; obtain ⟨s1, s2, s3⟩ := hS; first | with_reducible rfl | (go_simp; done) | (go_simp; with_reducible rfl) | rfl)); go_simp) | (refine wpMix_readW ?_ ?_ ?_ ?_; rotate_left; (focus (first | rfl | (go_simp; done))); (focus (intro _ hS; obtain ⟨s1, s2, s3⟩ := hS; first | with_reducible rfl | (go_simp; done) | (go_simp; with_reducible rfl) | rfl)); go_simp))
    refine wpMix_write (fun K hK => ?_)
    go_simp
    refine (samePk_any _ _ c'.net.all R5.out R1.out).mono ?_
    rintro e w6 ⟨rfl, nq, rfl⟩
    have HO6 := Lib.hid (HO5.out.drewN nq)
    obtain ⟨k1, k0', k3, _, _⟩ := HKEY.out _ (CsP p c') HO6.out
    clear g1 g0 g3 HO5
    refine hK _ _ ⟨⟨k1, k0', k3⟩, ?_⟩
    clear hK K
    go_simp
    repeat (first | (refine wpMix_read ?_ rfl ?_ ?_; rotate_left; (focus (intro _ hS; obtain ⟨s1, s2, s3⟩ := hS; first | with_reducible rfl | (go_simp; done) | (go_simp; with_reducible rfl) | rfl)); go_simp) | (refine wpMix_readW ?_ ?_ ?_ ?_; rotate_left; (focus (first | rfl | (go_simp; done))); (focus (intro _ hS; obtain ⟨s1, s2, s3⟩ := hS; first | with_reducible rfl | (go_simp; done) | (go_simp; with_reducible rfl) | rfl)); go_simp))
    refine wpMix_write (fun K hK => ?_)
    go_simp
    refine (csHistory_any p c' HI2.out hbb HO6.out).mono ?_
    rintro e w7 ⟨v7, rfl, ho7⟩
    obtain ⟨ad7, cp7, hv7, _⟩ := Own.rd ho7
    subst hv7
    obtain ⟨g1, g0, g3, _, r2⟩ := HKEY.out w7 (EvSl (.slice ad7 c'.hist.length cp7) c'.hist * CsP p c') (ho7.perm (by rw [star_assoc]))
    have r7 : Evs w7 (.slice ad7 c'.hist.length cp7) c'.hist := EvSl_reads HI2.out.hist _ ho7
    rw [← HLH.out] at r7 ⊢
    have HO7 := Lib.hid ho7.drop
    have R2 := Lib.hid r2; have R7 := Lib.hid r7
    clear r2 r7
    clear ho7 k1 k0' k3 HO6
    refine hK _ _ ⟨⟨g1, g0, g3⟩, ?_⟩
    clear hK K
    go_simp
    repeat (first | (refine wpMix_read ?_ rfl ?_ ?_; rotate_left; (focus (intro _ hS; obtain ⟨s1, s2, s3⟩ := hS; first | with_reducible rfl | (go_simp; done) | (go_simp; with_reducible rfl) | rfl)); go_simp) | (refine wpMix_readW ?_ ?_ ?_ ?_; rotate_left; (focus (first | rfl | (go_simp; done))); (focus (intro _ hS; obtain ⟨s1, s2, s3⟩ := hS; first | with_reducible rfl | (go_simp; done) | (go_simp; with_reducible rfl) | rfl)); go_simp))
    refine wpMix_write (fun K hK => ?_)
    go_simp
    refine (sameEv_any _ _ c'.hist R7.out R2.out).mono ?_
    rintro e w8 ⟨rfl, nq2, rfl⟩
    have HO8 := Lib.hid (HO7.out.drewN nq2)
    obtain ⟨k1, k0', k3, _, _⟩ := HKEY.out _ (CsP p c') HO8.out
    clear g1 g0 g3 HO7
    refine hK _ _ ⟨⟨k1, k0', k3⟩, ?_⟩
    clear hK K
    go_simp
    repeat (first | (refine wpMix_read ?_ rfl ?_ ?_; rotate_left; (focus (intro _ hS; obtain ⟨s1, s2, s3⟩ := hS; first | with_reducible rfl | (go_simp; done) | (go_simp; with_reducible rfl) | rfl)); go_simp) | (refine wpMix_readW ?_ ?_ ?_ ?_; rotate_left; (focus (first | rfl | (go_simp; done))); (focus (intro _ hS; obtain ⟨s1, s2, s3⟩ := hS; first | with_reducible rfl | (go_simp; done) | (go_simp; with_reducible rfl) | rfl)); go_simp))
    refine wpMix_nil ?_
    go_wp2_with fail
    refine NoPanic.normal ?_
    have HP2 : Hid (Own w (CsP p c' * (RkP mq c' * emp)) (w7.drewN nq2)) := Lib.hid (by
      have h1 := HO8.out
      rw [HFR.out] at h1
      have h2 : Own w (RnO nb (.slice nad c'.net.all.length ncap) Bt c'.net * (rkBlk mq (.slice (some ⟨mb, off, none⟩) rms.length cap) nb S (c'.said.length : Int) hv * (TabO rmP rmV 66 mb off cap rms * (starL sdRow S * (EvSl hv c'.hist * (Nms 85 vb [x, y, z] * (CsP p c' * emp))))))) (w7.drewN nq2) := h1.perm (by ac_rfl)
      have h3 := Own.rk_close (c := c') HE_.out (Own.rk_net_put (c := c') (h2.rn_close HBT.out))
      exact h3.second.drop.second)
    clear HO8 k1 k0' k3 HO4
    go_wp2_with fail
    go_roundw
    case rel => exact ⟨k + 1, c', by omega, by omega, by go_num, Lib.hid ⟨HI2.out, by have := HBL.out; omega⟩, HP2⟩
    case measure => simp [intOf]; omega
set_option maxRecDepth 100000 in
set_option maxHeartbeats 4000000 in
theorem castPlays_law (w : World) (hg : As.Handle w) (n : Int) (_hn : I64 n) (vs : Value) (steps : List (List Int)) (hvs : Rows2 w vs steps) :
    Calls Tryd.prog 9 #[.int .i64 n, vs] w fun e w' => e = .returned (.bool true) ∧ Below w.heap.size w w' := by
  cases hn : isGrp n
  · exact castPlays_bad w hg n hn vs
  · have hnb : 2 ≤ n ∧ n ≤ 5 := by simpa [isGrp] using hn
    obtain ⟨N, rfl⟩ : ∃ N : Nat, n = (N : Int) := ⟨n.toNat, by omega⟩
    exact castPlays_good w hg N (by omega) (by omega) vs steps hvs _ rfl
end Go.Proofs.YtldmdenojpnldaaDoor
