/- The reference's Faces, continued: all first ones; and are all heard alike. -/
import Derived.Test.YtdfjbnfdknpahaaGreatDoorMRunAnswers34
namespace Go.Proofs.YtdfjbnfdknpahaaGreatDoor
set_option linter.unusedVariables false
set_option linter.unusedSimpArgs false
open Go.RowKit
def totK (x y : List Int) (i k : Nat) : Bool := upTo (fun k => decide (k ≤ i) || okT x y i k) k
theorem totK_low (x y : List Int) (i : Nat) : totK x y i (i + 1) = true := (upTo_iff _ _).2 fun j hj => by rw [decide_eq_true (by omega)]; rfl
theorem totK_step (x y : List Int) {i k : Nat} (hk : i < k) : totK x y i (k + 1) = (totK x y i k && okT x y i k) := by
  unfold totK; rw [upTo_step, decide_eq_false (show ¬ k ≤ i by omega), Bool.false_or]
def totI (x y : List Int) (i : Nat) : Bool := upTo (fun i => totK x y i x.length) i
theorem totI_all (x y : List Int) : totI x y x.length = inOrder x y := rfl
noncomputable def rfPairs_code : Code := ((Tryz.f30.body.bind (findBlock 0)).getD .skip)
set_option maxRecDepth 1000000 in
set_option maxHeartbeats 4000000 in
theorem rfPairs {Q : Exit → Act → World → Prop} {u1 u2 u6 u7 u8 u9 u10 u11 u12 u13 u14 u15 u16 u17 u18 u19 u20 u21 u22 u23 u24 u25 u26 u27 u28 u29 u30 u31 u32 u33 u34 u35 u36 u37 u38 u39 u40 u41 u42 u43 u44 u45 u46 u47 u48 u49 u50 u51 u52 u53 u54 u55 u56 u57 u58 u59 u60 u61 u62 u63 u64 u65 u66 u67 u68 u69 u70 u71 u72 u73 u74 u75 u76 u77 u78 u79 u80 u81 u82 u83 u84 u85 u86 u87 u88 u89 u90 u91 u92 u93 u94 u95 u96 u97 u98 u99 u100 u101 u102 u103 u104 u105 u106 u107 u108 u109 u110 u111 u112 u113 u114 u115 u116 u117 u118 u119 u120 u121 u122 u123 u124 u125 u126 u127 u128 u129 u130 u131 u132 u133 u134 u135 u136 u137 u138 u139 u140 u141 u142 u143 u144 u145 u146 u147 u148 u149 u150 u151 u152 u153 u154 u155 u156 u157 u158 u159 u160 u161 u162 u163 u164 u165 u166 u167 u168 u169 u170 u171 u172 u173 u174 u175 u176 u177 u178 u179 u180 u181 u182 u183 u184 u185 u186 u187 u188 u189 u190 u191 u192 : Value} {w1 : World} (w : World) (R : HProp) (fb bb n hcap : Nat) (had : Option Addr) (hs : List Ev) (t : Bool) (hn : n ≤ 60) (hc1 : n ≤ hcap) (hc2 : hcap ≤ 9223372036854775807) (HLN : Hid (hs.length = n)) (HR : Hid (RightH hs)) (HV : Hid (ReadsE w R (.slice had n hcap) hs)) (HP : Hid (Own w (FaO fb true true t * (T60 bb (fun i k => bef hs k i) * R)) w1))
    (hK : ∀ (v5 v6 v7 v8 v9 v21 v22 v23 v24 v25 v26 v27 v28 v29 v30 v31 v32 v33 v34 v35 v36 v37 v38 v39 v40 v41 v42 v43 v44 v45 v46 v47 v48 v49 v50 v51 v52 v53 v54 v55 v56 v57 v58 v59 v60 v61 v62 v63 v64 v65 v66 v67 v68 v69 v70 v71 v72 v73 v74 v75 v76 v77 v78 v79 v80 v81 v82 v83 v84 v85 v86 v87 v88 v89 v90 v91 v92 v93 v94 v95 v96 v97 v98 v99 v100 v101 v102 v103 v104 v105 v106 v107 v108 v109 v110 v111 v112 v113 v114 v115 v116 v117 v118 v119 v120 v121 v122 v123 v124 v125 v126 v127 v128 v129 v130 v131 v132 v133 v134 v135 v136 v137 v138 : Value) (wx : World), (Own w (FaO fb (fifoB hs) (causalB hs) t * (T60 bb (fun i k => bef hs k i) * R)) wx) → Q .normal ⟨List.toArray ((.slice had n hcap) :: u1 :: u2 :: (.pointer (some ⟨fb, 0, none⟩)) :: (.pointer (some ⟨bb, 0, none⟩)) :: v5 :: v6 :: v7 :: v8 :: v9 :: u10 :: u11 :: u12 :: u13 :: u14 :: u15 :: u16 :: u17 :: u18 :: u19 :: u20 :: v21 :: v22 :: v23 :: v24 :: v25 :: v26 :: v27 :: v28 :: v29 :: v30 :: v31 :: v32 :: v33 :: v34 :: v35 :: v36 :: v37 :: v38 :: v39 :: v40 :: v41 :: v42 :: v43 :: v44 :: v45 :: v46 :: v47 :: v48 :: v49 :: v50 :: v51 :: v52 :: v53 :: v54 :: v55 :: v56 :: v57 :: v58 :: v59 :: v60 :: v61 :: v62 :: v63 :: v64 :: v65 :: v66 :: v67 :: v68 :: v69 :: v70 :: v71 :: v72 :: v73 :: v74 :: v75 :: v76 :: v77 :: v78 :: v79 :: v80 :: v81 :: v82 :: v83 :: v84 :: v85 :: v86 :: v87 :: v88 :: v89 :: v90 :: v91 :: v92 :: v93 :: v94 :: v95 :: v96 :: v97 :: v98 :: v99 :: v100 :: v101 :: v102 :: v103 :: v104 :: v105 :: v106 :: v107 :: v108 :: v109 :: v110 :: v111 :: v112 :: v113 :: v114 :: v115 :: v116 :: v117 :: v118 :: v119 :: v120 :: v121 :: v122 :: v123 :: v124 :: v125 :: v126 :: v127 :: v128 :: v129 :: v130 :: v131 :: v132 :: v133 :: v134 :: v135 :: v136 :: v137 :: v138 :: u139 :: u140 :: u141 :: u142 :: u143 :: u144 :: u145 :: u146 :: u147 :: u148 :: u149 :: u150 :: u151 :: u152 :: u153 :: u154 :: u155 :: u156 :: u157 :: u158 :: u159 :: u160 :: u161 :: u162 :: u163 :: u164 :: u165 :: u166 :: u167 :: u168 :: u169 :: u170 :: u171 :: u172 :: u173 :: u174 :: u175 :: u176 :: u177 :: u178 :: u179 :: u180 :: u181 :: u182 :: u183 :: u184 :: u185 :: u186 :: u187 :: u188 :: u189 :: u190 :: u191 :: u192 :: []), []⟩ wx) :
    Code.wp Tryz.prog rfPairs_code Q ⟨List.toArray ((.slice had n hcap) :: u1 :: u2 :: (.pointer (some ⟨fb, 0, none⟩)) :: (.pointer (some ⟨bb, 0, none⟩)) :: (.int .i64 0) :: u6 :: u7 :: u8 :: u9 :: u10 :: u11 :: u12 :: u13 :: u14 :: u15 :: u16 :: u17 :: u18 :: u19 :: u20 :: u21 :: u22 :: u23 :: u24 :: u25 :: u26 :: u27 :: u28 :: u29 :: u30 :: u31 :: u32 :: u33 :: u34 :: u35 :: u36 :: u37 :: u38 :: u39 :: u40 :: u41 :: u42 :: u43 :: u44 :: u45 :: u46 :: u47 :: u48 :: u49 :: u50 :: u51 :: u52 :: u53 :: u54 :: u55 :: u56 :: u57 :: u58 :: u59 :: u60 :: u61 :: u62 :: u63 :: u64 :: u65 :: u66 :: u67 :: u68 :: u69 :: u70 :: u71 :: u72 :: u73 :: u74 :: u75 :: u76 :: u77 :: u78 :: u79 :: u80 :: u81 :: u82 :: u83 :: u84 :: u85 :: u86 :: u87 :: u88 :: u89 :: u90 :: u91 :: u92 :: u93 :: u94 :: u95 :: u96 :: u97 :: u98 :: u99 :: u100 :: u101 :: u102 :: u103 :: u104 :: u105 :: u106 :: u107 :: u108 :: u109 :: u110 :: u111 :: u112 :: u113 :: u114 :: u115 :: u116 :: u117 :: u118 :: u119 :: u120 :: u121 :: u122 :: u123 :: u124 :: u125 :: u126 :: u127 :: u128 :: u129 :: u130 :: u131 :: u132 :: u133 :: u134 :: u135 :: u136 :: u137 :: u138 :: u139 :: u140 :: u141 :: u142 :: u143 :: u144 :: u145 :: u146 :: u147 :: u148 :: u149 :: u150 :: u151 :: u152 :: u153 :: u154 :: u155 :: u156 :: u157 :: u158 :: u159 :: u160 :: u161 :: u162 :: u163 :: u164 :: u165 :: u166 :: u167 :: u168 :: u169 :: u170 :: u171 :: u172 :: u173 :: u174 :: u175 :: u176 :: u177 :: u178 :: u179 :: u180 :: u181 :: u182 :: u183 :: u184 :: u185 :: u186 :: u187 :: u188 :: u189 :: u190 :: u191 :: u192 :: []), []⟩ w1 := by
  conv => arg 2; whnf
  have HK := Lib.hid hK
  clear hK
  go_wp2_with fail
  go_loopw [5] (fun iv wr => ∃ i : Nat, i ≤ n ∧ iv = .int .i64 i ∧ Hid (Own w (FaO fb (upTo (fun i => fRow hs i n) i) (upTo (fun i => cRow hs i n) i) t * (T60 bb (fun i k => bef hs k i) * R)) wr)) (fun iv _ => n - (intOf iv).toNat)
  case atStart => exact ⟨0, Nat.zero_le _, rfl, Lib.hid (by rw [upTo_zero, upTo_zero]; exact HP.out)⟩
  case round =>
    clear HP
    obtain ⟨i, hi, rfl, HO⟩ := hrel
    by_cases hlt : i < n
    rotate_left
    · have hin : i = n := by omega
      subst hin
      have e1 : fifoB hs = upTo (fun a => fRow hs a i) i := by
        unfold fifoB
        rw [HLN.out]
        exact (upTo_swap (fifoOk hs) i).symm
      have e2 : causalB hs = upTo (fun a => cRow hs a i) i := by
        unfold causalB
        rw [HLN.out]
        exact (upTo_swap (skipB hs) i).symm
      have HO2 : Hid (Own w (FaO fb (fifoB hs) (causalB hs) t * (T60 bb (fun i k => bef hs k i) * R)) wr) := Lib.hid (by rw [e1, e2]; exact HO.out)
      have E1 := Lib.hid e1; have E2 := Lib.hid e2
      clear e1 e2
      go_wp2_with fail
      apply HK.out
      exact HO2.out
    go_upto_block 2 with fail
    refine rfRow w R fb bb n i hcap had hs _ _ t hlt hn hc1 hc2 HLN HR HV HO ?_
    intros
    rename_i wq hcut
    have HO3 : Hid (Own w (FaO fb (upTo (fun i => fRow hs i n) (i + 1)) (upTo (fun i => cRow hs i n) (i + 1)) t * (T60 bb (fun i k => bef hs k i) * R)) wq) := Lib.hid (by
      rw [upTo_step, upTo_step]; exact hcut)
    clear hcut HO
    go_wp2_with fail
    go_roundw
    case rel => exact ⟨i + 1, by omega, by go_num, HO3⟩
    case measure => simp [intOf]; omega
noncomputable def rfTotK_code : Code := ((Tryz.f30.body.bind (findBlock 14)).getD .skip)
set_option maxRecDepth 1000000 in
set_option maxHeartbeats 4000000 in
theorem rfTotK {Q : Exit → Act → World → Prop} {u0 u1 u2 u4 u5 u6 u7 u8 u9 u10 u12 u16 u17 u18 u19 u20 u21 u22 u23 u24 u25 u26 u27 u28 u29 u30 u31 u32 u33 u34 u35 u36 u37 u38 u39 u40 u41 u42 u43 u44 u45 u46 u47 u48 u49 u50 u51 u52 u53 u54 u55 u56 u57 u58 u59 u60 u61 u62 u63 u64 u65 u66 u67 u68 u69 u70 u71 u72 u73 u74 u75 u76 u77 u78 u79 u80 u81 u82 u83 u84 u85 u86 u87 u88 u89 u90 u91 u92 u93 u94 u95 u96 u97 u98 u99 u100 u101 u102 u103 u104 u105 u106 u107 u108 u109 u110 u111 u112 u113 u114 u115 u116 u117 u118 u119 u120 u121 u122 u123 u124 u125 u126 u127 u128 u129 u130 u131 u132 u133 u134 u135 u136 u137 u138 u139 u140 u141 u142 u143 u144 u145 u146 u147 u148 u149 u150 u151 u152 u153 u154 u155 u156 u157 u158 u159 u160 u161 u162 u163 u164 u165 u166 u167 u168 u169 u170 u171 u172 u173 u174 u175 u176 u177 u178 u179 u180 u181 u182 u183 u184 u185 u186 u187 u188 u189 u190 u191 u192 : Value} {w1 : World} (w : World) (R : HProp) (fb i X Y xcap ycap : Nat) (xad yad : Option Addr) (x y : List Int) (f c t : Bool) (hi : i < X) (hX : X ≤ 60) (hY : Y ≤ 60) (hx1 : X ≤ xcap) (hx2 : xcap ≤ 9223372036854775807) (HXL : Hid (x.length = X)) (HYL : Hid (y.length = Y)) (HVX : Hid (Reads w R (.slice xad X xcap) x)) (HVY : Hid (Reads w R (.slice yad Y ycap) y)) (HP : Hid (Own w (FaO fb f c t * R) w1))
    (hK : ∀ (v15 v16 v17 v162 v163 v164 v165 v166 v167 v168 v169 v170 v171 v172 v173 v174 v175 v176 v177 v178 v179 v180 v181 v182 v183 v184 v185 v186 v187 v188 v189 v190 v191 : Value) (wx : World), (Own w (FaO fb f c (t && totK x y i X) * R) wx) → Q .normal ⟨List.toArray (u0 :: u1 :: u2 :: (.pointer (some ⟨fb, 0, none⟩)) :: u4 :: u5 :: u6 :: u7 :: u8 :: u9 :: u10 :: (.slice xad X xcap) :: u12 :: (.slice yad Y ycap) :: (.int .i64 (i : Int)) :: v15 :: v16 :: v17 :: u18 :: u19 :: u20 :: u21 :: u22 :: u23 :: u24 :: u25 :: u26 :: u27 :: u28 :: u29 :: u30 :: u31 :: u32 :: u33 :: u34 :: u35 :: u36 :: u37 :: u38 :: u39 :: u40 :: u41 :: u42 :: u43 :: u44 :: u45 :: u46 :: u47 :: u48 :: u49 :: u50 :: u51 :: u52 :: u53 :: u54 :: u55 :: u56 :: u57 :: u58 :: u59 :: u60 :: u61 :: u62 :: u63 :: u64 :: u65 :: u66 :: u67 :: u68 :: u69 :: u70 :: u71 :: u72 :: u73 :: u74 :: u75 :: u76 :: u77 :: u78 :: u79 :: u80 :: u81 :: u82 :: u83 :: u84 :: u85 :: u86 :: u87 :: u88 :: u89 :: u90 :: u91 :: u92 :: u93 :: u94 :: u95 :: u96 :: u97 :: u98 :: u99 :: u100 :: u101 :: u102 :: u103 :: u104 :: u105 :: u106 :: u107 :: u108 :: u109 :: u110 :: u111 :: u112 :: u113 :: u114 :: u115 :: u116 :: u117 :: u118 :: u119 :: u120 :: u121 :: u122 :: u123 :: u124 :: u125 :: u126 :: u127 :: u128 :: u129 :: u130 :: u131 :: u132 :: u133 :: u134 :: u135 :: u136 :: u137 :: u138 :: u139 :: u140 :: u141 :: u142 :: u143 :: u144 :: u145 :: u146 :: u147 :: u148 :: u149 :: u150 :: u151 :: u152 :: u153 :: u154 :: u155 :: u156 :: u157 :: u158 :: u159 :: u160 :: u161 :: v162 :: v163 :: v164 :: v165 :: v166 :: v167 :: v168 :: v169 :: v170 :: v171 :: v172 :: v173 :: v174 :: v175 :: v176 :: v177 :: v178 :: v179 :: v180 :: v181 :: v182 :: v183 :: v184 :: v185 :: v186 :: v187 :: v188 :: v189 :: v190 :: v191 :: u192 :: []), []⟩ wx) :
    Code.wp Tryz.prog rfTotK_code Q ⟨List.toArray (u0 :: u1 :: u2 :: (.pointer (some ⟨fb, 0, none⟩)) :: u4 :: u5 :: u6 :: u7 :: u8 :: u9 :: u10 :: (.slice xad X xcap) :: u12 :: (.slice yad Y ycap) :: (.int .i64 (i : Int)) :: (.int .i64 ((i : Int) + 1)) :: u16 :: u17 :: u18 :: u19 :: u20 :: u21 :: u22 :: u23 :: u24 :: u25 :: u26 :: u27 :: u28 :: u29 :: u30 :: u31 :: u32 :: u33 :: u34 :: u35 :: u36 :: u37 :: u38 :: u39 :: u40 :: u41 :: u42 :: u43 :: u44 :: u45 :: u46 :: u47 :: u48 :: u49 :: u50 :: u51 :: u52 :: u53 :: u54 :: u55 :: u56 :: u57 :: u58 :: u59 :: u60 :: u61 :: u62 :: u63 :: u64 :: u65 :: u66 :: u67 :: u68 :: u69 :: u70 :: u71 :: u72 :: u73 :: u74 :: u75 :: u76 :: u77 :: u78 :: u79 :: u80 :: u81 :: u82 :: u83 :: u84 :: u85 :: u86 :: u87 :: u88 :: u89 :: u90 :: u91 :: u92 :: u93 :: u94 :: u95 :: u96 :: u97 :: u98 :: u99 :: u100 :: u101 :: u102 :: u103 :: u104 :: u105 :: u106 :: u107 :: u108 :: u109 :: u110 :: u111 :: u112 :: u113 :: u114 :: u115 :: u116 :: u117 :: u118 :: u119 :: u120 :: u121 :: u122 :: u123 :: u124 :: u125 :: u126 :: u127 :: u128 :: u129 :: u130 :: u131 :: u132 :: u133 :: u134 :: u135 :: u136 :: u137 :: u138 :: u139 :: u140 :: u141 :: u142 :: u143 :: u144 :: u145 :: u146 :: u147 :: u148 :: u149 :: u150 :: u151 :: u152 :: u153 :: u154 :: u155 :: u156 :: u157 :: u158 :: u159 :: u160 :: u161 :: u162 :: u163 :: u164 :: u165 :: u166 :: u167 :: u168 :: u169 :: u170 :: u171 :: u172 :: u173 :: u174 :: u175 :: u176 :: u177 :: u178 :: u179 :: u180 :: u181 :: u182 :: u183 :: u184 :: u185 :: u186 :: u187 :: u188 :: u189 :: u190 :: u191 :: u192 :: []), []⟩ w1 := by
  conv => arg 2; whnf
  have HK := Lib.hid hK
  clear hK
  go_wp2_with fail
  go_loopw [15] (fun kv wr => ∃ k : Nat, k ≤ X ∧ i < k ∧ kv = .int .i64 k ∧ Hid (Own w (FaO fb f c (t && totK x y i k) * R) wr)) (fun kv _ => X - (intOf kv).toNat)
  case atStart => exact ⟨i + 1, by omega, by omega, by go_num, Lib.hid (by rw [totK_low, Bool.and_true]; exact HP.out)⟩
  case round =>
    clear HP
    obtain ⟨k, hk, hik, rfl, HO⟩ := hrel
    by_cases hlt : k < X
    rotate_left
    · have hkn : k = X := by omega
      subst hkn
      go_wp2_with fail
      apply HK.out
      exact HO.out
    have hkl : k < x.length := by rw [HXL.out]; omega
    have hil : i < x.length := by rw [HXL.out]; omega
    obtain ⟨ax, hax, hcx⟩ := (HVX.out _ HO.out.drop).at k hkl
    subst hax
    obtain ⟨ax', hax, hci⟩ := (HVX.out _ HO.out.drop).at i hil
    injection hax with hax
    subst hax
    have hst := totK_step x y hik
    have hok : okT x y i k = !(decide (0 ≤ idxI y (x.getD i 0)) && (decide (0 ≤ idxI y (x.getD k 0)) && decide (idxI y (x.getD k 0) < idxI y (x.getD i 0)))) := rfl
    have gx : ∀ i (hi : i < x.length), x.getD i 0 = x[i] := fun i hi => by rw [List.getD_eq_getElem?_getD, List.getElem?_eq_getElem hi]; rfl
    rw [gx k hkl, gx i hil] at hok
    obtain ⟨xk, hxk⟩ : ∃ z, z = x[k] := ⟨_, rfl⟩
    obtain ⟨xi, hxi⟩ : ∃ z, z = x[i] := ⟨_, rfl⟩
    rw [← hxk] at hcx hok
    rw [← hxi] at hci hok
    obtain ⟨p, hp⟩ : ∃ p, p = idxI y xi := ⟨_, rfl⟩
    obtain ⟨q, hq⟩ : ∃ p, p = idxI y xk := ⟨_, rfl⟩
    rw [← hp, ← hq] at hok
    have i0 : (0 : Int) ≤ (i : Int) := by omega
    have i1 : (i : Int) < (X : Int) := by omega
    have k0 : (0 : Int) ≤ (k : Int) := by omega
    have k1 : (k : Int) < (X : Int) := by omega
    have hyl : y.length ≤ 100000 := by rw [HYL.out]; omega
    have HRY : Hid (Ints wr (.slice yad Y ycap) y) := Lib.hid (HVY.out _ HO.out.drop)
    obtain ⟨V, hVq⟩ : ∃ V, V = (t && totK x y i k) := ⟨_, rfl⟩
    have hst2 : (t && totK x y i (k + 1)) = (V && okT x y i k) := by rw [hst, hVq, Bool.and_assoc]
    have ho := HO.out
    rw [← hVq] at ho
    have HO_ := Lib.hid ho
    clear ho gx
    obtain ⟨g0, g1, g2, g3⟩ := HO_.out.fa
    have HST := Lib.hid hst; have HOK := Lib.hid hok; have HXK := Lib.hid hxk; have HXI := Lib.hid hxi; have HP := Lib.hid hp; have HQ := Lib.hid hq; have HVQ := Lib.hid hVq; have HST2 := Lib.hid hst2
    clear hst hok hxk hxi hp hq hVq hst2
    go_wp2_with fail
    refine (refAt_any _ y xi _ HRY.out hyl).mono ?_
    rintro e wq ⟨rfl, rfl⟩
    rw [← HP.out]
    go_wp2_with fail
    refine (refAt_any _ y xk _ HRY.out hyl).mono ?_
    rintro e wq ⟨rfl, rfl⟩
    rw [← HQ.out]
    have fin : (okT x y i k = true → Own w (FaO fb f c (t && totK x y i (k + 1)) * R) wr) ∧ (okT x y i k = false → Own w (FaO fb f c (t && totK x y i (k + 1)) * R) (wr.setCell ⟨fb, 2, none⟩ (.bool false))) :=
      ⟨fun h => by rw [HST2.out, h, Bool.and_true]; exact HO_.out, fun h => by rw [HST2.out, h, Bool.and_false]; exact HO_.out.fa2 false⟩
    by_cases p0 : 0 ≤ p
    rotate_left
    · have HO3 := Lib.hid (fin.1 (by rw [HOK.out]; simp [p0]))
      have FIN := Lib.hid fin
      clear fin
      go_wp2_with fail
      go_roundw
      case rel => exact ⟨k + 1, by omega, by omega, by go_num, HO3⟩
      case measure => simp [intOf]; omega
    by_cases q0 : 0 ≤ q
    rotate_left
    · have HO3 := Lib.hid (fin.1 (by rw [HOK.out]; simp [q0]))
      have FIN := Lib.hid fin
      clear fin
      go_wp2_with fail
      go_roundw
      case rel => exact ⟨k + 1, by omega, by omega, by go_num, HO3⟩
      case measure => simp [intOf]; omega
    by_cases pq : q < p
    rotate_left
    · have HO3 := Lib.hid (fin.1 (by rw [HOK.out]; simp; omega))
      have FIN := Lib.hid fin
      clear fin
      go_wp2_with fail
      go_roundw
      case rel => exact ⟨k + 1, by omega, by omega, by go_num, HO3⟩
      case measure => simp [intOf]; omega
    · have HO3 := Lib.hid (fin.2 (by rw [HOK.out]; simp [p0, q0, pq]))
      have FIN := Lib.hid fin
      clear fin
      go_wp2_with fail
      go_roundw
      case rel => exact ⟨k + 1, by omega, by omega, by go_num, HO3⟩
      case measure => simp [intOf]; omega
noncomputable def rfTotI_code : Code := ((Tryz.f30.body.bind (findBlock 12)).getD .skip)
set_option maxRecDepth 1000000 in
set_option maxHeartbeats 4000000 in
theorem rfTotI {Q : Exit → Act → World → Prop} {u0 u1 u2 u4 u5 u6 u7 u8 u9 u10 u12 u15 u16 u17 u18 u19 u20 u21 u22 u23 u24 u25 u26 u27 u28 u29 u30 u31 u32 u33 u34 u35 u36 u37 u38 u39 u40 u41 u42 u43 u44 u45 u46 u47 u48 u49 u50 u51 u52 u53 u54 u55 u56 u57 u58 u59 u60 u61 u62 u63 u64 u65 u66 u67 u68 u69 u70 u71 u72 u73 u74 u75 u76 u77 u78 u79 u80 u81 u82 u83 u84 u85 u86 u87 u88 u89 u90 u91 u92 u93 u94 u95 u96 u97 u98 u99 u100 u101 u102 u103 u104 u105 u106 u107 u108 u109 u110 u111 u112 u113 u114 u115 u116 u117 u118 u119 u120 u121 u122 u123 u124 u125 u126 u127 u128 u129 u130 u131 u132 u133 u134 u135 u136 u137 u138 u139 u140 u141 u142 u143 u144 u145 u146 u147 u148 u149 u150 u151 u152 u153 u154 u155 u156 u157 u158 u159 u160 u161 u162 u163 u164 u165 u166 u167 u168 u169 u170 u171 u172 u173 u174 u175 u176 u177 u178 u179 u180 u181 u182 u183 u184 u185 u186 u187 u188 u189 u190 u191 u192 : Value} {w1 : World} (w : World) (R : HProp) (fb X Y xcap ycap : Nat) (xad yad : Option Addr) (x y : List Int) (f c t : Bool) (hX : X ≤ 60) (hY : Y ≤ 60) (hx1 : X ≤ xcap) (hx2 : xcap ≤ 9223372036854775807) (HXL : Hid (x.length = X)) (HYL : Hid (y.length = Y)) (HVX : Hid (Reads w R (.slice xad X xcap) x)) (HVY : Hid (Reads w R (.slice yad Y ycap) y)) (HP : Hid (Own w (FaO fb f c t * R) w1))
    (hK : ∀ (v14 v15 v16 v17 v154 v155 v156 v157 v158 v159 v160 v161 v162 v163 v164 v165 v166 v167 v168 v169 v170 v171 v172 v173 v174 v175 v176 v177 v178 v179 v180 v181 v182 v183 v184 v185 v186 v187 v188 v189 v190 v191 : Value) (wx : World), (Own w (FaO fb f c (t && inOrder x y) * R) wx) → Q .normal ⟨List.toArray (u0 :: u1 :: u2 :: (.pointer (some ⟨fb, 0, none⟩)) :: u4 :: u5 :: u6 :: u7 :: u8 :: u9 :: u10 :: (.slice xad X xcap) :: u12 :: (.slice yad Y ycap) :: v14 :: v15 :: v16 :: v17 :: u18 :: u19 :: u20 :: u21 :: u22 :: u23 :: u24 :: u25 :: u26 :: u27 :: u28 :: u29 :: u30 :: u31 :: u32 :: u33 :: u34 :: u35 :: u36 :: u37 :: u38 :: u39 :: u40 :: u41 :: u42 :: u43 :: u44 :: u45 :: u46 :: u47 :: u48 :: u49 :: u50 :: u51 :: u52 :: u53 :: u54 :: u55 :: u56 :: u57 :: u58 :: u59 :: u60 :: u61 :: u62 :: u63 :: u64 :: u65 :: u66 :: u67 :: u68 :: u69 :: u70 :: u71 :: u72 :: u73 :: u74 :: u75 :: u76 :: u77 :: u78 :: u79 :: u80 :: u81 :: u82 :: u83 :: u84 :: u85 :: u86 :: u87 :: u88 :: u89 :: u90 :: u91 :: u92 :: u93 :: u94 :: u95 :: u96 :: u97 :: u98 :: u99 :: u100 :: u101 :: u102 :: u103 :: u104 :: u105 :: u106 :: u107 :: u108 :: u109 :: u110 :: u111 :: u112 :: u113 :: u114 :: u115 :: u116 :: u117 :: u118 :: u119 :: u120 :: u121 :: u122 :: u123 :: u124 :: u125 :: u126 :: u127 :: u128 :: u129 :: u130 :: u131 :: u132 :: u133 :: u134 :: u135 :: u136 :: u137 :: u138 :: u139 :: u140 :: u141 :: u142 :: u143 :: u144 :: u145 :: u146 :: u147 :: u148 :: u149 :: u150 :: u151 :: u152 :: u153 :: v154 :: v155 :: v156 :: v157 :: v158 :: v159 :: v160 :: v161 :: v162 :: v163 :: v164 :: v165 :: v166 :: v167 :: v168 :: v169 :: v170 :: v171 :: v172 :: v173 :: v174 :: v175 :: v176 :: v177 :: v178 :: v179 :: v180 :: v181 :: v182 :: v183 :: v184 :: v185 :: v186 :: v187 :: v188 :: v189 :: v190 :: v191 :: u192 :: []), []⟩ wx) :
    Code.wp Tryz.prog rfTotI_code Q ⟨List.toArray (u0 :: u1 :: u2 :: (.pointer (some ⟨fb, 0, none⟩)) :: u4 :: u5 :: u6 :: u7 :: u8 :: u9 :: u10 :: (.slice xad X xcap) :: u12 :: (.slice yad Y ycap) :: (.int .i64 0) :: u15 :: u16 :: u17 :: u18 :: u19 :: u20 :: u21 :: u22 :: u23 :: u24 :: u25 :: u26 :: u27 :: u28 :: u29 :: u30 :: u31 :: u32 :: u33 :: u34 :: u35 :: u36 :: u37 :: u38 :: u39 :: u40 :: u41 :: u42 :: u43 :: u44 :: u45 :: u46 :: u47 :: u48 :: u49 :: u50 :: u51 :: u52 :: u53 :: u54 :: u55 :: u56 :: u57 :: u58 :: u59 :: u60 :: u61 :: u62 :: u63 :: u64 :: u65 :: u66 :: u67 :: u68 :: u69 :: u70 :: u71 :: u72 :: u73 :: u74 :: u75 :: u76 :: u77 :: u78 :: u79 :: u80 :: u81 :: u82 :: u83 :: u84 :: u85 :: u86 :: u87 :: u88 :: u89 :: u90 :: u91 :: u92 :: u93 :: u94 :: u95 :: u96 :: u97 :: u98 :: u99 :: u100 :: u101 :: u102 :: u103 :: u104 :: u105 :: u106 :: u107 :: u108 :: u109 :: u110 :: u111 :: u112 :: u113 :: u114 :: u115 :: u116 :: u117 :: u118 :: u119 :: u120 :: u121 :: u122 :: u123 :: u124 :: u125 :: u126 :: u127 :: u128 :: u129 :: u130 :: u131 :: u132 :: u133 :: u134 :: u135 :: u136 :: u137 :: u138 :: u139 :: u140 :: u141 :: u142 :: u143 :: u144 :: u145 :: u146 :: u147 :: u148 :: u149 :: u150 :: u151 :: u152 :: u153 :: u154 :: u155 :: u156 :: u157 :: u158 :: u159 :: u160 :: u161 :: u162 :: u163 :: u164 :: u165 :: u166 :: u167 :: u168 :: u169 :: u170 :: u171 :: u172 :: u173 :: u174 :: u175 :: u176 :: u177 :: u178 :: u179 :: u180 :: u181 :: u182 :: u183 :: u184 :: u185 :: u186 :: u187 :: u188 :: u189 :: u190 :: u191 :: u192 :: []), []⟩ w1 := by
  conv => arg 2; whnf
  have HK := Lib.hid hK
  clear hK
  go_wp2_with fail
  go_loopw [14] (fun iv wr => ∃ i : Nat, i ≤ X ∧ iv = .int .i64 i ∧ Hid (Own w (FaO fb f c (t && totI x y i) * R) wr)) (fun iv _ => X - (intOf iv).toNat)
  case atStart => exact ⟨0, Nat.zero_le _, rfl, Lib.hid (by unfold totI; rw [upTo_zero, Bool.and_true]; exact HP.out)⟩
  case round =>
    clear HP
    obtain ⟨i, hi, rfl, HO⟩ := hrel
    by_cases hlt : i < X
    rotate_left
    · have hin : i = X := by omega
      subst hin
      have HO2 : Hid (Own w (FaO fb f c (t && inOrder x y) * R) wr) := Lib.hid (by rw [← totI_all, HXL.out]; exact HO.out)
      go_wp2_with fail
      apply HK.out
      exact HO2.out
    go_upto_block 14 with fail
    refine rfTotK w R fb i X Y xcap ycap xad yad x y f c _ hlt hX hY hx1 hx2 HXL HYL HVX HVY HO ?_
    intros
    rename_i wq hcut
    have HO3 : Hid (Own w (FaO fb f c (t && totI x y (i + 1)) * R) wq) := Lib.hid (by
      have e : totI x y (i + 1) = (totI x y i && totK x y i X) := by unfold totI; rw [upTo_step, HXL.out]
      rw [e, ← Bool.and_assoc]; exact hcut)
    clear hcut HO
    go_wp2_with fail
    go_roundw
    case rel => exact ⟨i + 1, by omega, by go_num, HO3⟩
    case measure => simp [intOf]; omega
end Go.Proofs.YtdfjbnfdknpahaaGreatDoor
/- The reference's Faces, continued: Faces. -/
namespace Go.Proofs.YtdfjbnfdknpahaaGreatDoor
set_option linter.unusedVariables false
set_option linter.unusedSimpArgs false
open Go.RowKit
theorem heardL_whole {h : List Ev} (hr : RightH h) (who : Int) : (heardL h who).Nodup := by
  have := heardL_nodup hr who h.length (Nat.le_refl _)
  rwa [List.take_length] at this
noncomputable def rfTotC_code : Code := ((Tryz.f30.body.bind (findBlock 10)).getD .skip)
set_option maxRecDepth 1000000 in
set_option maxHeartbeats 4000000 in
theorem rfTotC {Q : Exit → Act → World → Prop} {u1 u2 u4 u5 u6 u7 u8 u9 u13 u14 u15 u16 u17 u18 u19 u20 u21 u22 u23 u24 u25 u26 u27 u28 u29 u30 u31 u32 u33 u34 u35 u36 u37 u38 u39 u40 u41 u42 u43 u44 u45 u46 u47 u48 u49 u50 u51 u52 u53 u54 u55 u56 u57 u58 u59 u60 u61 u62 u63 u64 u65 u66 u67 u68 u69 u70 u71 u72 u73 u74 u75 u76 u77 u78 u79 u80 u81 u82 u83 u84 u85 u86 u87 u88 u89 u90 u91 u92 u93 u94 u95 u96 u97 u98 u99 u100 u101 u102 u103 u104 u105 u106 u107 u108 u109 u110 u111 u112 u113 u114 u115 u116 u117 u118 u119 u120 u121 u122 u123 u124 u125 u126 u127 u128 u129 u130 u131 u132 u133 u134 u135 u136 u137 u138 u139 u140 u141 u142 u143 u144 u145 u146 u147 u148 u149 u150 u151 u152 u153 u154 u155 u156 u157 u158 u159 u160 u161 u162 u163 u164 u165 u166 u167 u168 u169 u170 u171 u172 u173 u174 u175 u176 u177 u178 u179 u180 u181 u182 u183 u184 u185 u186 u187 u188 u189 u190 u191 u192 : Value} {w1 : World} (w : World) (R : HProp) (fb n a X hcap xcap : Nat) (had xad : Option Addr) (hs : List Ev) (f c t : Bool) (ha : a < 5) (hn : n ≤ 60) (hc1 : n ≤ hcap) (hc2 : hcap ≤ 9223372036854775807) (hX : X ≤ 60) (hx1 : X ≤ xcap) (hx2 : xcap ≤ 9223372036854775807) (HLN : Hid (hs.length = n)) (HR : Hid (RightH hs)) (HXL : Hid ((heardL hs a).length = X)) (HV : Hid (ReadsE w R (.slice had n hcap) hs)) (HVX : Hid (Reads w R (.slice xad X xcap) (heardL hs a))) (HP : Hid (Own w (FaO fb f c t * R) w1))
    (hK : ∀ (v12 v13 v14 v15 v16 v17 v146 v147 v148 v149 v150 v151 v152 v153 v154 v155 v156 v157 v158 v159 v160 v161 v162 v163 v164 v165 v166 v167 v168 v169 v170 v171 v172 v173 v174 v175 v176 v177 v178 v179 v180 v181 v182 v183 v184 v185 v186 v187 v188 v189 v190 v191 : Value) (wx : World), (Own w (FaO fb f c (t && totRow hs a) * R) wx) → Q .normal ⟨List.toArray ((.slice had n hcap) :: u1 :: u2 :: (.pointer (some ⟨fb, 0, none⟩)) :: u4 :: u5 :: u6 :: u7 :: u8 :: u9 :: (.int .i64 (a : Int)) :: (.slice xad X xcap) :: v12 :: v13 :: v14 :: v15 :: v16 :: v17 :: u18 :: u19 :: u20 :: u21 :: u22 :: u23 :: u24 :: u25 :: u26 :: u27 :: u28 :: u29 :: u30 :: u31 :: u32 :: u33 :: u34 :: u35 :: u36 :: u37 :: u38 :: u39 :: u40 :: u41 :: u42 :: u43 :: u44 :: u45 :: u46 :: u47 :: u48 :: u49 :: u50 :: u51 :: u52 :: u53 :: u54 :: u55 :: u56 :: u57 :: u58 :: u59 :: u60 :: u61 :: u62 :: u63 :: u64 :: u65 :: u66 :: u67 :: u68 :: u69 :: u70 :: u71 :: u72 :: u73 :: u74 :: u75 :: u76 :: u77 :: u78 :: u79 :: u80 :: u81 :: u82 :: u83 :: u84 :: u85 :: u86 :: u87 :: u88 :: u89 :: u90 :: u91 :: u92 :: u93 :: u94 :: u95 :: u96 :: u97 :: u98 :: u99 :: u100 :: u101 :: u102 :: u103 :: u104 :: u105 :: u106 :: u107 :: u108 :: u109 :: u110 :: u111 :: u112 :: u113 :: u114 :: u115 :: u116 :: u117 :: u118 :: u119 :: u120 :: u121 :: u122 :: u123 :: u124 :: u125 :: u126 :: u127 :: u128 :: u129 :: u130 :: u131 :: u132 :: u133 :: u134 :: u135 :: u136 :: u137 :: u138 :: u139 :: u140 :: u141 :: u142 :: u143 :: u144 :: u145 :: v146 :: v147 :: v148 :: v149 :: v150 :: v151 :: v152 :: v153 :: v154 :: v155 :: v156 :: v157 :: v158 :: v159 :: v160 :: v161 :: v162 :: v163 :: v164 :: v165 :: v166 :: v167 :: v168 :: v169 :: v170 :: v171 :: v172 :: v173 :: v174 :: v175 :: v176 :: v177 :: v178 :: v179 :: v180 :: v181 :: v182 :: v183 :: v184 :: v185 :: v186 :: v187 :: v188 :: v189 :: v190 :: v191 :: u192 :: []), []⟩ wx) :
    Code.wp Tryz.prog rfTotC_code Q ⟨List.toArray ((.slice had n hcap) :: u1 :: u2 :: (.pointer (some ⟨fb, 0, none⟩)) :: u4 :: u5 :: u6 :: u7 :: u8 :: u9 :: (.int .i64 (a : Int)) :: (.slice xad X xcap) :: (.int .i64 0) :: u13 :: u14 :: u15 :: u16 :: u17 :: u18 :: u19 :: u20 :: u21 :: u22 :: u23 :: u24 :: u25 :: u26 :: u27 :: u28 :: u29 :: u30 :: u31 :: u32 :: u33 :: u34 :: u35 :: u36 :: u37 :: u38 :: u39 :: u40 :: u41 :: u42 :: u43 :: u44 :: u45 :: u46 :: u47 :: u48 :: u49 :: u50 :: u51 :: u52 :: u53 :: u54 :: u55 :: u56 :: u57 :: u58 :: u59 :: u60 :: u61 :: u62 :: u63 :: u64 :: u65 :: u66 :: u67 :: u68 :: u69 :: u70 :: u71 :: u72 :: u73 :: u74 :: u75 :: u76 :: u77 :: u78 :: u79 :: u80 :: u81 :: u82 :: u83 :: u84 :: u85 :: u86 :: u87 :: u88 :: u89 :: u90 :: u91 :: u92 :: u93 :: u94 :: u95 :: u96 :: u97 :: u98 :: u99 :: u100 :: u101 :: u102 :: u103 :: u104 :: u105 :: u106 :: u107 :: u108 :: u109 :: u110 :: u111 :: u112 :: u113 :: u114 :: u115 :: u116 :: u117 :: u118 :: u119 :: u120 :: u121 :: u122 :: u123 :: u124 :: u125 :: u126 :: u127 :: u128 :: u129 :: u130 :: u131 :: u132 :: u133 :: u134 :: u135 :: u136 :: u137 :: u138 :: u139 :: u140 :: u141 :: u142 :: u143 :: u144 :: u145 :: u146 :: u147 :: u148 :: u149 :: u150 :: u151 :: u152 :: u153 :: u154 :: u155 :: u156 :: u157 :: u158 :: u159 :: u160 :: u161 :: u162 :: u163 :: u164 :: u165 :: u166 :: u167 :: u168 :: u169 :: u170 :: u171 :: u172 :: u173 :: u174 :: u175 :: u176 :: u177 :: u178 :: u179 :: u180 :: u181 :: u182 :: u183 :: u184 :: u185 :: u186 :: u187 :: u188 :: u189 :: u190 :: u191 :: u192 :: []), []⟩ w1 := by
  conv => arg 2; whnf
  have HK := Lib.hid hK
  clear hK
  go_wp2_with fail
  go_loopw [12] (fun bv wr => ∃ b : Nat, b ≤ a ∧ bv = .int .i64 b ∧ Hid (Own w (FaO fb f c (t && upTo (alikeAt hs a) b) * R) wr)) (fun bv _ => a - (intOf bv).toNat)
  case atStart => exact ⟨0, Nat.zero_le _, rfl, Lib.hid (by rw [upTo_zero, Bool.and_true]; exact HP.out)⟩
  case round =>
    clear HP
    obtain ⟨b, hb, rfl, HO⟩ := hrel
    by_cases hlt : b < a
    rotate_left
    · have hba : b = a := by omega
      subst hba
      go_wp2_with fail
      apply HK.out
      exact HO.out
    have hlen : hs.length ≤ 60 := by rw [HLN.out]; exact hn
    go_wp2_with fail
    refine (refHeard_any _ hs (b : Int) HO.out HV.out.more hlen).mono ?_
    rintro e w2 ⟨v2, rfl, ho⟩
    obtain ⟨yad, ycap, hv2, hy1, hy2, _⟩ := Own.rd ho
    obtain ⟨Y, hYe⟩ : ∃ Y, Y = (heardL hs (b : Int)).length := ⟨_, rfl⟩
    have hYl : Y ≤ 60 := by rw [hYe]; exact Nat.le_trans (heardL_len _ _) hlen
    rw [← hYe] at hv2 hy1
    subst hv2
    have hgd : ∀ e ∈ hs, goodEv e := (HV.out _ HO.out.drop).2
    have HVY : Hid (Reads w (IntSl (.slice yad Y ycap) (heardL hs (b : Int)) * R) (.slice yad Y ycap) (heardL hs (b : Int))) := Lib.hid (IntSl_reads (heardL_I64 hgd _))
    have HO2 : Hid (Own w (FaO fb f c (t && upTo (alikeAt hs a) b) * (IntSl (.slice yad Y ycap) (heardL hs (b : Int)) * R)) w2) := Lib.hid (ho.perm (star_left_comm _ _ _))
    have HYL := Lib.hid hYe.symm
    clear ho HO hgd
    have HYE := Lib.hid hYe
    clear hYe
    go_upto_block 12 with fail
    refine rfTotI w (IntSl (.slice yad Y ycap) (heardL hs (b : Int)) * R) fb X Y xcap ycap xad yad (heardL hs a) (heardL hs (b : Int)) f c _ hX hYl hx1 hx2 HXL HYL (Lib.hid HVX.out.more) HVY HO2 ?_
    intros
    rename_i wq hcut
    have HO3 : Hid (Own w (FaO fb f c (t && upTo (alikeAt hs a) (b + 1)) * R) wq) := Lib.hid (by
      have e : alikeAt hs a b = inOrder (heardL hs a) (heardL hs (b : Int)) := alike_iff (heardL_whole HR.out _) (heardL_whole HR.out _)
      rw [upTo_step, e, ← Bool.and_assoc]
      exact (hcut.perm (star_left_comm _ _ _)).drop)
    clear hcut HO2
    go_wp2_with fail
    go_roundw
    case rel => exact ⟨b + 1, by omega, by go_num, HO3⟩
    case measure => simp [intOf]; omega
noncomputable def rfTot_code : Code := ((Tryz.f30.body.bind (findBlock 8)).getD .skip)
set_option maxRecDepth 1000000 in
set_option maxHeartbeats 4000000 in
theorem rfTot {Q : Exit → Act → World → Prop} {u1 u2 u4 u5 u6 u7 u8 u9 u11 u12 u13 u14 u15 u16 u17 u18 u19 u20 u21 u22 u23 u24 u25 u26 u27 u28 u29 u30 u31 u32 u33 u34 u35 u36 u37 u38 u39 u40 u41 u42 u43 u44 u45 u46 u47 u48 u49 u50 u51 u52 u53 u54 u55 u56 u57 u58 u59 u60 u61 u62 u63 u64 u65 u66 u67 u68 u69 u70 u71 u72 u73 u74 u75 u76 u77 u78 u79 u80 u81 u82 u83 u84 u85 u86 u87 u88 u89 u90 u91 u92 u93 u94 u95 u96 u97 u98 u99 u100 u101 u102 u103 u104 u105 u106 u107 u108 u109 u110 u111 u112 u113 u114 u115 u116 u117 u118 u119 u120 u121 u122 u123 u124 u125 u126 u127 u128 u129 u130 u131 u132 u133 u134 u135 u136 u137 u138 u139 u140 u141 u142 u143 u144 u145 u146 u147 u148 u149 u150 u151 u152 u153 u154 u155 u156 u157 u158 u159 u160 u161 u162 u163 u164 u165 u166 u167 u168 u169 u170 u171 u172 u173 u174 u175 u176 u177 u178 u179 u180 u181 u182 u183 u184 u185 u186 u187 u188 u189 u190 u191 u192 : Value} {w1 : World} (w : World) (R : HProp) (fb n hcap : Nat) (had : Option Addr) (hs : List Ev) (f c : Bool) (hn : n ≤ 60) (hc1 : n ≤ hcap) (hc2 : hcap ≤ 9223372036854775807) (HLN : Hid (hs.length = n)) (HR : Hid (RightH hs)) (HV : Hid (ReadsE w R (.slice had n hcap) hs)) (HP : Hid (Own w (FaO fb f c true * R) w1))
    (hK : ∀ (v10 v11 v12 v13 v14 v15 v16 v17 v139 v140 v141 v142 v143 v144 v145 v146 v147 v148 v149 v150 v151 v152 v153 v154 v155 v156 v157 v158 v159 v160 v161 v162 v163 v164 v165 v166 v167 v168 v169 v170 v171 v172 v173 v174 v175 v176 v177 v178 v179 v180 v181 v182 v183 v184 v185 v186 v187 v188 v189 v190 v191 : Value) (wx : World), (Own w (FaO fb f c (totalB hs) * R) wx) → Q .normal ⟨List.toArray ((.slice had n hcap) :: u1 :: u2 :: (.pointer (some ⟨fb, 0, none⟩)) :: u4 :: u5 :: u6 :: u7 :: u8 :: u9 :: v10 :: v11 :: v12 :: v13 :: v14 :: v15 :: v16 :: v17 :: u18 :: u19 :: u20 :: u21 :: u22 :: u23 :: u24 :: u25 :: u26 :: u27 :: u28 :: u29 :: u30 :: u31 :: u32 :: u33 :: u34 :: u35 :: u36 :: u37 :: u38 :: u39 :: u40 :: u41 :: u42 :: u43 :: u44 :: u45 :: u46 :: u47 :: u48 :: u49 :: u50 :: u51 :: u52 :: u53 :: u54 :: u55 :: u56 :: u57 :: u58 :: u59 :: u60 :: u61 :: u62 :: u63 :: u64 :: u65 :: u66 :: u67 :: u68 :: u69 :: u70 :: u71 :: u72 :: u73 :: u74 :: u75 :: u76 :: u77 :: u78 :: u79 :: u80 :: u81 :: u82 :: u83 :: u84 :: u85 :: u86 :: u87 :: u88 :: u89 :: u90 :: u91 :: u92 :: u93 :: u94 :: u95 :: u96 :: u97 :: u98 :: u99 :: u100 :: u101 :: u102 :: u103 :: u104 :: u105 :: u106 :: u107 :: u108 :: u109 :: u110 :: u111 :: u112 :: u113 :: u114 :: u115 :: u116 :: u117 :: u118 :: u119 :: u120 :: u121 :: u122 :: u123 :: u124 :: u125 :: u126 :: u127 :: u128 :: u129 :: u130 :: u131 :: u132 :: u133 :: u134 :: u135 :: u136 :: u137 :: u138 :: v139 :: v140 :: v141 :: v142 :: v143 :: v144 :: v145 :: v146 :: v147 :: v148 :: v149 :: v150 :: v151 :: v152 :: v153 :: v154 :: v155 :: v156 :: v157 :: v158 :: v159 :: v160 :: v161 :: v162 :: v163 :: v164 :: v165 :: v166 :: v167 :: v168 :: v169 :: v170 :: v171 :: v172 :: v173 :: v174 :: v175 :: v176 :: v177 :: v178 :: v179 :: v180 :: v181 :: v182 :: v183 :: v184 :: v185 :: v186 :: v187 :: v188 :: v189 :: v190 :: v191 :: u192 :: []), []⟩ wx) :
    Code.wp Tryz.prog rfTot_code Q ⟨List.toArray ((.slice had n hcap) :: u1 :: u2 :: (.pointer (some ⟨fb, 0, none⟩)) :: u4 :: u5 :: u6 :: u7 :: u8 :: u9 :: (.int .i64 0) :: u11 :: u12 :: u13 :: u14 :: u15 :: u16 :: u17 :: u18 :: u19 :: u20 :: u21 :: u22 :: u23 :: u24 :: u25 :: u26 :: u27 :: u28 :: u29 :: u30 :: u31 :: u32 :: u33 :: u34 :: u35 :: u36 :: u37 :: u38 :: u39 :: u40 :: u41 :: u42 :: u43 :: u44 :: u45 :: u46 :: u47 :: u48 :: u49 :: u50 :: u51 :: u52 :: u53 :: u54 :: u55 :: u56 :: u57 :: u58 :: u59 :: u60 :: u61 :: u62 :: u63 :: u64 :: u65 :: u66 :: u67 :: u68 :: u69 :: u70 :: u71 :: u72 :: u73 :: u74 :: u75 :: u76 :: u77 :: u78 :: u79 :: u80 :: u81 :: u82 :: u83 :: u84 :: u85 :: u86 :: u87 :: u88 :: u89 :: u90 :: u91 :: u92 :: u93 :: u94 :: u95 :: u96 :: u97 :: u98 :: u99 :: u100 :: u101 :: u102 :: u103 :: u104 :: u105 :: u106 :: u107 :: u108 :: u109 :: u110 :: u111 :: u112 :: u113 :: u114 :: u115 :: u116 :: u117 :: u118 :: u119 :: u120 :: u121 :: u122 :: u123 :: u124 :: u125 :: u126 :: u127 :: u128 :: u129 :: u130 :: u131 :: u132 :: u133 :: u134 :: u135 :: u136 :: u137 :: u138 :: u139 :: u140 :: u141 :: u142 :: u143 :: u144 :: u145 :: u146 :: u147 :: u148 :: u149 :: u150 :: u151 :: u152 :: u153 :: u154 :: u155 :: u156 :: u157 :: u158 :: u159 :: u160 :: u161 :: u162 :: u163 :: u164 :: u165 :: u166 :: u167 :: u168 :: u169 :: u170 :: u171 :: u172 :: u173 :: u174 :: u175 :: u176 :: u177 :: u178 :: u179 :: u180 :: u181 :: u182 :: u183 :: u184 :: u185 :: u186 :: u187 :: u188 :: u189 :: u190 :: u191 :: u192 :: []), []⟩ w1 := by
  conv => arg 2; whnf
  have HK := Lib.hid hK
  clear hK
  go_wp2_with fail
  go_loopw [10] (fun av wr => ∃ a : Nat, a ≤ 5 ∧ av = .int .i64 a ∧ Hid (Own w (FaO fb f c (upTo (totRow hs) a) * R) wr)) (fun av _ => 5 - (intOf av).toNat)
  case atStart => exact ⟨0, Nat.zero_le _, rfl, Lib.hid (by rw [upTo_zero]; exact HP.out)⟩
  case round =>
    clear HP
    obtain ⟨a, ha, rfl, HO⟩ := hrel
    by_cases hlt : a < 5
    rotate_left
    · have hba : a = 5 := by omega
      subst hba
      go_wp2_with fail
      apply HK.out
      exact HO.out
    have hlen : hs.length ≤ 60 := by rw [HLN.out]; exact hn
    go_wp2_with fail
    refine (refHeard_any _ hs (a : Int) HO.out HV.out.more hlen).mono ?_
    rintro e w2 ⟨v2, rfl, ho⟩
    obtain ⟨xad, xcap, hv2, hx1, hx2, _⟩ := Own.rd ho
    obtain ⟨X, hXe⟩ : ∃ Y, Y = (heardL hs (a : Int)).length := ⟨_, rfl⟩
    have hXl : X ≤ 60 := by rw [hXe]; exact Nat.le_trans (heardL_len _ _) hlen
    rw [← hXe] at hv2 hx1
    subst hv2
    have hgd : ∀ e ∈ hs, goodEv e := (HV.out _ HO.out.drop).2
    have HVX : Hid (Reads w (IntSl (.slice xad X xcap) (heardL hs (a : Int)) * R) (.slice xad X xcap) (heardL hs (a : Int))) := Lib.hid (IntSl_reads (heardL_I64 hgd _))
    have HO2 : Hid (Own w (FaO fb f c (upTo (totRow hs) a) * (IntSl (.slice xad X xcap) (heardL hs (a : Int)) * R)) w2) := Lib.hid (ho.perm (star_left_comm _ _ _))
    have HXL := Lib.hid hXe.symm
    clear ho HO hgd
    have HXE := Lib.hid hXe
    clear hXe
    go_upto_block 10 with fail
    refine rfTotC w (IntSl (.slice xad X xcap) (heardL hs (a : Int)) * R) fb n a X hcap xcap had xad hs f c _ hlt hn hc1 hc2 hXl hx1 hx2 HLN HR HXL (Lib.hid HV.out.more) HVX HO2 ?_
    intros
    rename_i wq hcut
    have HO3 : Hid (Own w (FaO fb f c (upTo (totRow hs) (a + 1)) * R) wq) := Lib.hid (by
      rw [upTo_step]
      exact (hcut.perm (star_left_comm _ _ _)).drop)
    clear hcut HO2
    go_wp2_with fail
    go_roundw
    case rel => exact ⟨a + 1, by omega, by go_num, HO3⟩
    case measure => simp [intOf]; omega
end Go.Proofs.YtdfjbnfdknpahaaGreatDoor
/- The reference's Faces. -/
namespace Go.Proofs.YtdfjbnfdknpahaaGreatDoor
set_option linter.unusedVariables false
set_option linter.unusedSimpArgs false
open Go.RowKit
set_option maxRecDepth 100000 in
set_option maxHeartbeats 4000000 in
theorem refFaces_any {w0 w : World} {R : HProp} (v : Value) (hs : List Ev) (h : Own w0 R w) (hv : ReadsE w0 R v hs) (hr : RightH hs) :
    Calls Tryz.prog 30 #[v] w fun e w' => e = .returned (.agg #[.bool (fifoB hs), .bool (causalB hs), .bool (totalB hs)]) ∧ Own w0 R w' := by
  obtain ⟨ad, cap, rfl, hlc, hcap⟩ := (hv _ h).shape
  obtain ⟨n, hn⟩ : ∃ n, n = hs.length := ⟨_, rfl⟩
  have hlen := hr.1
  have hlenh := hr.1
  rw [← hn] at hv hlc hlen ⊢
  have hcap' : cap ≤ 9223372036854775807 := hcap
  have HLN := Lib.hid hn.symm
  clear hn
  obtain ⟨P, hP⟩ : ∃ P, P = fifoB hs := ⟨_, rfl⟩
  obtain ⟨C, hC⟩ : ∃ P, P = causalB hs := ⟨_, rfl⟩
  obtain ⟨T, hT⟩ : ∃ P, P = totalB hs := ⟨_, rfl⟩
  rw [← hP, ← hC, ← hT]
  obtain ⟨rb, hb_rb⟩ : ∃ zz_, zz_ = (w).heap.size := ⟨_, rfl⟩
  obtain ⟨w1, hw_w1⟩ : ∃ zz_, zz_ = (w).alloc (.cells #[.bool false, .bool false, .bool false] 87) := ⟨_, rfl⟩
  have h_H1 := (h).alloc (.cells #[.bool false, .bool false, .bool false] 87)
  rw [← hb_rb, ← hw_w1] at h_H1
  have H1 := Lib.hid h_H1
  clear h_H1
  obtain ⟨fb, hb_fb⟩ : ∃ zz_, zz_ = (w1).heap.size := ⟨_, rfl⟩
  obtain ⟨w2, hw_w2⟩ : ∃ zz_, zz_ = (w1).alloc (.cells #[.bool true, .bool true, .bool true] 87) := ⟨_, rfl⟩
  have h_H2 := (H1.out).alloc (.cells #[.bool true, .bool true, .bool true] 87)
  rw [← hb_fb, ← hw_w2] at h_H2
  have H2 := Lib.hid h_H2
  clear h_H2
  have HS : Hid (Own w0 (FaO fb true true true * (FaO rb false false false * R)) w2) := H2
  clear H1 H2
  have H := Lib.hid h; have HV := Lib.hid hv; have HR := Lib.hid hr; have HP := Lib.hid hP; have HC := Lib.hid hC; have HT := Lib.hid hT
  clear h hv hr hP hC hT
  go_enter Tryz.func30, Tryz.ntmps30
  go_upto_region 2 with fail
  have hq_fb : rb + 1 = fb := by rw [hb_fb, hw_w1, hb_rb, World.size_alloc]
  rw [← hb_rb, hq_fb, ← hw_w1, ← hw_w2]
  clear hq_fb hb_rb hb_fb hw_w1 hw_w2
  go_wp2_with fail
  refine (refBefores_any _ hs HS.out HV.out.more.more hlenh).mono ?_
  rintro e w3 ⟨rfl, ho⟩
  have HO3 := Lib.hid ho
  clear ho HS
  rename_i hK9
  refine hK9 _ _ ?_
  clear hK9
  refine wp_keep60 (fun i k => bef hs k i) 4 20 rfl rfl rfl rfl rfl rfl (fun _ => rfl) (fun _ => rfl) HO3.out (fun bb w4 ho => ?_)
  have HO4 : Hid (Own w0 (FaO fb true true true * (T60 bb (fun i k => bef hs k i) * (FaO rb false false false * R))) w4) := Lib.hid (ho.perm (star_left_comm _ _ _))
  clear ho HO3
  go_upto_block 0 with fail
  go_cut [] (fun wx => Own w0 (FaO fb P C true * (T60 bb (fun i k => bef hs k i) * (FaO rb false false false * R))) wx)
  case first =>
    refine rfPairs w0 (FaO rb false false false * R) fb bb n cap ad hs true hlen hlc hcap' HLN HR (Lib.hid HV.out.more) HO4 ?_
    intros
    go_step
    go_step
    go_meet
    rw [HP.out, HC.out]
    assumption
  case rest =>
  have HO5 := Lib.hid hcut
  clear hcut HO4
  go_upto_block 8 with fail
  go_cut [] (fun wx => Own w0 (FaO fb P C T * (T60 bb (fun i k => bef hs k i) * (FaO rb false false false * R))) wx)
  case first =>
    refine rfTot w0 (T60 bb (fun i k => bef hs k i) * (FaO rb false false false * R)) fb n cap ad hs P C hlen hlc hcap' HLN HR (Lib.hid HV.out.more.more) HO5 ?_
    intros
    go_step
    go_step
    go_meet
    rw [HT.out]
    assumption
  case rest =>
  have HO6 := Lib.hid hcut
  clear hcut HO5
  obtain ⟨f0, f1, f2, f3⟩ := HO6.out.fa
  have HB := Lib.hid (HO6.out.perm (show _ = FaO rb false false false * (FaO fb P C T * (T60 bb (fun i k => bef hs k i) * R)) by ac_rfl))
  obtain ⟨g0, g1, g2, g3⟩ := HB.out.fa
  have h9 := ((HB.out.fa0 P).fa1 C).fa2 T
  obtain ⟨k0, k1, k2, k3⟩ := h9.fa
  go_wp2
  exact bodyPost_ret (v := .agg #[.bool P, .bool C, .bool T]) (by simp [results, Tryz.results30, go_sem, k0, k1, k2]) rfl ⟨rfl, h9.drop.drop.drop⟩
end Go.Proofs.YtdfjbnfdknpahaaGreatDoor
