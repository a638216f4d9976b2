/- NetPlays: one step of the law. -/
import Derived.Test.YtldmdenojpnldaaDoorMCastCausal20
import Derived.Test.YtldmdenojpnldaaDoorMCastCausal18
namespace Go.Proofs.YtldmdenojpnldaaDoor
set_option linter.unusedVariables false
set_option linter.unusedSimpArgs false
open Go.RowKit Go.Maps
theorem Own.four {w0 w : World} {ty : TypeId} {b : Nat} {x y z u : Int} {R : HProp} (h : Own w0 (Nms ty b [x, y, z, u] * R) w) : w.cell? ⟨b, 0, none⟩ = some (.int .i64 x) ∧ w.cell? ⟨b, 1, none⟩ = some (.int .i64 y) ∧ w.cell? ⟨b, 2, none⟩ = some (.int .i64 z) ∧ w.cell? ⟨b, 3, none⟩ = some (.int .i64 u) :=
  ⟨h.nms_cell 0 (by simp), h.nms_cell 1 (by simp), h.nms_cell 2 (by simp), h.nms_cell 3 (by simp)⟩
theorem same_nat (n : Nat) : ((n : Int) == (n : Int)) = true := by simp
theorem rn_cut {s : Nt} {B : List Bool} (hI : NtI s) (hB : RnIs s B) {a b : Nat} (ha : a < 5) (hb : b < 5) (hab : a ≠ b) (D : Bool) : RnIs (ntCut s a b D) ((B.set (5 * a + b) D).set (5 * b + a) D) := by
  have he : ntCutErr (a : Int) (b : Int) = 0 := by
    unfold ntCutErr
    rw [if_neg (by simp [isMember]; omega), if_neg (by simp [isMember]; omega), if_neg (by omega)]
  refine ⟨by simp [hB.1], fun c d hc hd hcd => ?_⟩
  have h0 := hB.2 c d hc hd hcd
  have hl := hB.1
  have hmem : wayOf (c : Int) (d : Int) ∈ (ntCut s a b D).cut ↔ if (c = a ∧ d = b) ∨ (c = b ∧ d = a) then D = true else wayOf (c : Int) (d : Int) ∈ s.cut := by
    unfold ntCut
    rw [if_pos he]
    have hw : wayOf (c : Int) (d : Int) = wayOf (a : Int) (b : Int) ↔ (c = a ∧ d = b) ∨ (c = b ∧ d = a) := by
      constructor
      · intro h
        rcases wayOf_inj h with h | h <;> omega
      · rintro (⟨rfl, rfl⟩ | ⟨rfl, rfl⟩)
        · rfl
        · exact wayOf_comm _ _
    cases D
    · simp only [Bool.false_eq_true, if_false]
      rw [mem_wayDel hI.nd]
      by_cases h : (c = a ∧ d = b) ∨ (c = b ∧ d = a)
      · rw [if_pos h]
        simp [hw.2 h]
      · rw [if_neg h]
        have : ¬ wayOf (c : Int) (d : Int) = wayOf (a : Int) (b : Int) := fun e => h (hw.1 e)
        simp [this]
    · simp only [if_true]
      rw [mem_wayPut]
      by_cases h : (c = a ∧ d = b) ∨ (c = b ∧ d = a)
      · rw [if_pos h]
        simp [hw.2 h]
      · rw [if_neg h]
        have : ¬ wayOf (c : Int) (d : Int) = wayOf (a : Int) (b : Int) := fun e => h (hw.1 e)
        simp [this]
  have hdec : decide (wayOf (c : Int) (d : Int) ∈ (ntCut s a b D).cut) = if (c = a ∧ d = b) ∨ (c = b ∧ d = a) then D else decide (wayOf (c : Int) (d : Int) ∈ s.cut) := by
    by_cases h : (c = a ∧ d = b) ∨ (c = b ∧ d = a)
    · rw [if_pos h] at hmem ⊢
      cases D <;> simp [hmem]
    · rw [if_neg h] at hmem ⊢
      simp [hmem]
  rw [hdec, List.getElem?_set, List.getElem?_set]
  by_cases h1 : 5 * b + a = 5 * c + d
  · have h2 : c = b ∧ d = a := by omega
    rw [if_pos h1, if_pos (by simp; omega), if_pos (.inr h2)]
  · rw [if_neg h1]
    by_cases h2 : 5 * a + b = 5 * c + d
    · have h3 : c = a ∧ d = b := by omega
      rw [if_pos h2, if_pos (by omega), if_pos (.inl h3)]
    · rw [if_neg h2, if_neg (by omega)]
      exact h0
theorem ntCut_all (s : Nt) (a b : Int) (d : Bool) : (ntCut s a b d).all = s.all := by unfold ntCut; split <;> rfl
theorem rn_put {w0 w : World} {p : Nat} {v : Value} {B : List Bool} {s : Nt} {R : HProp} (i : Nat) (D : Bool) (hi : i < B.length) (h : Own w0 (RnO p v B s * R) w) : Own w0 (RnO p v (B.set i D) s * R) (w.setCell ⟨p, 1 + i, none⟩ (.bool D)) := by
  have h1 := h.rn_blk.setCell (i := 1 + i) (v := .bool D)
  refine h1.perm ?_
  have e : ((v :: B.map Value.bool).toArray).setIfInBounds (1 + i) (.bool D) = (v :: (B.set i D).map Value.bool).toArray := by
    rw [List.map_set, Nat.add_comm]
    simp
  rw [e]
  unfold RnO rnBlk
  ac_rfl
theorem ntDrop_yes {s : Nt} {i : Int} (h : ntHas s i = true) : ntDropErr s i = 0 ∧ ntDrop s i = ntOut s i := by
  have h1 : ntDropErr s i = 0 := by unfold ntDropErr; rw [h]; rfl
  exact ⟨h1, by unfold ntDrop; rw [h1]; rfl⟩
theorem ntDrop_no {s : Nt} {i : Int} (h : ntHas s i = false) : ntDropErr s i = 1 ∧ ntDrop s i = s := by
  have h1 : ntDropErr s i = 1 := by unfold ntDropErr; rw [h]; rfl
  exact ⟨h1, by unfold ntDrop; rw [h1]; rfl⟩
theorem ntTwice_yes {s : Nt} {i : Int} (h : ntHas s i = true) : ntTwiceErr s i = ntErr s (ntAt s i) ∧ ntTwice s i = ntSend s (ntAt s i) := by
  have h1 : ntTwiceErr s i = ntErr s (ntAt s i) := by unfold ntTwiceErr; rw [h]; rfl
  refine ⟨h1, ?_⟩
  unfold ntTwice
  rw [h1]
  by_cases h0 : ntErr s (ntAt s i) = 0
  · rw [if_pos h0]
  · rw [if_neg h0]; unfold ntSend; rw [if_neg h0]
theorem ntTwice_no {s : Nt} {i : Int} (h : ntHas s i = false) : ntTwiceErr s i = 1 ∧ ntTwice s i = s := by
  have h1 : ntTwiceErr s i = 1 := by unfold ntTwiceErr; rw [h]; rfl
  exact ⟨h1, by unfold ntTwice; rw [h1]; rfl⟩
noncomputable def npFill_code : Code := ((Tryd.f5.body.bind (findBlock 2)).getD .skip)
set_option maxRecDepth 1000000 in
set_option maxHeartbeats 4000000 in
theorem npFill {Q : Exit → Act → World → Prop} {u1 u2 u3 u4 u8 u9 u10 u11 u12 u13 u14 u15 u16 u17 u18 u19 u20 u21 u22 u23 u24 u25 u26 u27 u28 u29 u30 u31 u32 u33 u34 u35 u36 u37 u38 u39 u40 u41 u42 u43 u44 u45 u46 u47 u48 u49 u50 u51 u52 u53 u54 u55 u56 u57 u58 u59 u60 u61 u62 u63 u64 u65 u66 u67 u68 u69 u70 u71 u72 u73 u74 u75 u76 u77 u78 u79 u80 u81 u82 u83 u84 u85 u86 u87 u88 u89 u90 u91 u92 u93 u94 u95 u96 u97 u98 u99 u100 u101 u102 u103 u104 u105 u106 u107 u108 u109 u110 u111 u112 u113 u114 u115 u116 u117 u118 u119 u120 u121 u122 u123 u124 u125 u126 u127 u128 u129 u130 u131 u132 u133 u134 u135 u136 u137 u138 u139 u140 u141 u142 u143 u144 u145 u146 u147 u148 u149 u150 u151 u152 u153 u154 u155 u156 u157 u158 u159 u160 u161 u162 u163 u164 u165 u166 u167 u168 u169 u170 u171 u172 u173 u174 u175 u176 u177 u178 u179 u180 u181 u182 u183 u184 u185 u186 u187 u188 u189 u190 u191 u192 u193 u194 u195 u196 u197 u198 u199 u200 u201 u202 u203 u204 u205 u206 u207 u208 u209 u210 u211 u212 u213 u214 u215 : Value} {w1 : World} (w : World) (R : HProp) (vb k : Nat) (steps : List (List Int)) (row : List Int) (a2 : Addr) (scap rcap : Nat) (rad : Option Addr) (h1 : k < steps.length) (hc1 : steps.length ≤ scap) (hc2 : scap ≤ 9223372036854775807) (HR : Hid (Ints w (.slice rad row.length rcap) row)) (HC : Hid (∀ (w1 : World) (P : HProp), Own w P w1 → w1.cell? (a2.add k) = some (.slice rad row.length rcap))) (HT : Hid (Own w (Nms 45 vb [0, 0, 0, 0] * R) w1))
    (hK : ∀ (v7 v29 v30 v31 v32 v33 v34 v35 v36 v37 v38 v39 v40 v41 v42 v43 v44 v45 v46 v47 v48 v49 v50 : Value) (wx : World), (NmV 45 4 w vb R wx) → Q .normal ⟨List.toArray ((.slice (some a2) steps.length scap) :: u1 :: u2 :: u3 :: u4 :: (.int .i64 (k : Int)) :: (.pointer (some ⟨vb, 0, none⟩)) :: v7 :: u8 :: u9 :: u10 :: u11 :: u12 :: u13 :: u14 :: u15 :: u16 :: u17 :: u18 :: u19 :: u20 :: u21 :: u22 :: u23 :: u24 :: u25 :: u26 :: u27 :: u28 :: v29 :: v30 :: v31 :: v32 :: v33 :: v34 :: v35 :: v36 :: v37 :: v38 :: v39 :: v40 :: v41 :: v42 :: v43 :: v44 :: v45 :: v46 :: v47 :: v48 :: v49 :: v50 :: u51 :: u52 :: u53 :: u54 :: u55 :: u56 :: u57 :: u58 :: u59 :: u60 :: u61 :: u62 :: u63 :: u64 :: u65 :: u66 :: u67 :: u68 :: u69 :: u70 :: u71 :: u72 :: u73 :: u74 :: u75 :: u76 :: u77 :: u78 :: u79 :: u80 :: u81 :: u82 :: u83 :: u84 :: u85 :: u86 :: u87 :: u88 :: u89 :: u90 :: u91 :: u92 :: u93 :: u94 :: u95 :: u96 :: u97 :: u98 :: u99 :: u100 :: u101 :: u102 :: u103 :: u104 :: u105 :: u106 :: u107 :: u108 :: u109 :: u110 :: u111 :: u112 :: u113 :: u114 :: u115 :: u116 :: u117 :: u118 :: u119 :: u120 :: u121 :: u122 :: u123 :: u124 :: u125 :: u126 :: u127 :: u128 :: u129 :: u130 :: u131 :: u132 :: u133 :: u134 :: u135 :: u136 :: u137 :: u138 :: u139 :: u140 :: u141 :: u142 :: u143 :: u144 :: u145 :: u146 :: u147 :: u148 :: u149 :: u150 :: u151 :: u152 :: u153 :: u154 :: u155 :: u156 :: u157 :: u158 :: u159 :: u160 :: u161 :: u162 :: u163 :: u164 :: u165 :: u166 :: u167 :: u168 :: u169 :: u170 :: u171 :: u172 :: u173 :: u174 :: u175 :: u176 :: u177 :: u178 :: u179 :: u180 :: u181 :: u182 :: u183 :: u184 :: u185 :: u186 :: u187 :: u188 :: u189 :: u190 :: u191 :: u192 :: u193 :: u194 :: u195 :: u196 :: u197 :: u198 :: u199 :: u200 :: u201 :: u202 :: u203 :: u204 :: u205 :: u206 :: u207 :: u208 :: u209 :: u210 :: u211 :: u212 :: u213 :: u214 :: u215 :: []), []⟩ wx) :
    Code.wp Tryd.prog npFill_code Q ⟨List.toArray ((.slice (some a2) steps.length scap) :: u1 :: u2 :: u3 :: u4 :: (.int .i64 (k : Int)) :: (.pointer (some ⟨vb, 0, none⟩)) :: (.int .i64 0) :: u8 :: u9 :: u10 :: u11 :: u12 :: u13 :: u14 :: u15 :: u16 :: u17 :: u18 :: u19 :: u20 :: u21 :: u22 :: u23 :: u24 :: u25 :: u26 :: u27 :: u28 :: u29 :: u30 :: u31 :: u32 :: u33 :: u34 :: u35 :: u36 :: u37 :: u38 :: u39 :: u40 :: u41 :: u42 :: u43 :: u44 :: u45 :: u46 :: u47 :: u48 :: u49 :: u50 :: u51 :: u52 :: u53 :: u54 :: u55 :: u56 :: u57 :: u58 :: u59 :: u60 :: u61 :: u62 :: u63 :: u64 :: u65 :: u66 :: u67 :: u68 :: u69 :: u70 :: u71 :: u72 :: u73 :: u74 :: u75 :: u76 :: u77 :: u78 :: u79 :: u80 :: u81 :: u82 :: u83 :: u84 :: u85 :: u86 :: u87 :: u88 :: u89 :: u90 :: u91 :: u92 :: u93 :: u94 :: u95 :: u96 :: u97 :: u98 :: u99 :: u100 :: u101 :: u102 :: u103 :: u104 :: u105 :: u106 :: u107 :: u108 :: u109 :: u110 :: u111 :: u112 :: u113 :: u114 :: u115 :: u116 :: u117 :: u118 :: u119 :: u120 :: u121 :: u122 :: u123 :: u124 :: u125 :: u126 :: u127 :: u128 :: u129 :: u130 :: u131 :: u132 :: u133 :: u134 :: u135 :: u136 :: u137 :: u138 :: u139 :: u140 :: u141 :: u142 :: u143 :: u144 :: u145 :: u146 :: u147 :: u148 :: u149 :: u150 :: u151 :: u152 :: u153 :: u154 :: u155 :: u156 :: u157 :: u158 :: u159 :: u160 :: u161 :: u162 :: u163 :: u164 :: u165 :: u166 :: u167 :: u168 :: u169 :: u170 :: u171 :: u172 :: u173 :: u174 :: u175 :: u176 :: u177 :: u178 :: u179 :: u180 :: u181 :: u182 :: u183 :: u184 :: u185 :: u186 :: u187 :: u188 :: u189 :: u190 :: u191 :: u192 :: u193 :: u194 :: u195 :: u196 :: u197 :: u198 :: u199 :: u200 :: u201 :: u202 :: u203 :: u204 :: u205 :: u206 :: u207 :: u208 :: u209 :: u210 :: u211 :: u212 :: u213 :: u214 :: u215 :: []), []⟩ w1 := by
  conv => arg 2; whnf
  have HK := Lib.hid hK
  clear hK
  go_wp2_with fail
  go_loopw [7] (fun jv w2 => ∃ (j : Nat) (l : List Int), j ≤ 4 ∧ jv = .int .i64 j ∧ Hid (l.length = 4) ∧ Hid (Own w (Nms 45 vb l * R) w2)) (fun jv _ => 4 - (intOf jv).toNat)
  case atStart => exact ⟨0, [0, 0, 0, 0], Nat.zero_le _, rfl, Lib.hid rfl, HT⟩
  case round =>
    obtain ⟨j, l, hj, rfl, hl, hpw⟩ := hrel
    have c1 := HC.out _ _ hpw.out
    have FIN := Lib.hid (show NmV 45 4 w vb R wr from ⟨l, hl.out, hpw.out⟩)
    by_cases h3 : j < row.length
    rotate_left
    · go_wp2_with fail
      apply HK.out
      exact FIN.out
    by_cases h4 : j < 4
    rotate_left
    · go_wp2_with fail
      apply HK.out
      exact FIN.out
    obtain ⟨b3, rfl, hcb⟩ := HR.out.at_later j h3
    have c2 := hcb _ _ hpw.out
    have hjl : j < l.length := by rw [hl.out]; exact h4
    have c3 := hpw.out.nms_cell j hjl
    have c4 := hpw.out.nms_free j
    have HS := Lib.hid (hpw.out.nms_set j row[j])
    have i0 : (0 : Int) ≤ (j : Int) := by omega
    have i3 : (j : Int) < 4 := by omega
    clear hcb
    go_wp2_with fail
    go_roundw
    case rel => exact ⟨j + 1, l.set j row[j], by omega, by go_num, Lib.hid (by rw [List.length_set]; exact hl.out), HS⟩
    case measure => simp [intOf]; omega
noncomputable def npStep_code : Code := ((Tryd.f5.body.bind (findBlock 4)).getD .skip)
set_option maxRecDepth 1000000 in
set_option maxHeartbeats 4000000 in
theorem npStep {Q : Exit → Act → World → Prop} {u0 u1 u2 u5 u7 u11 u12 u13 u14 u15 u16 u17 u18 u19 u20 u21 u22 u23 u24 u25 u26 u27 u28 u29 u30 u31 u32 u33 u34 u35 u36 u37 u38 u39 u40 u41 u42 u43 u44 u45 u46 u47 u48 u49 u50 u51 u52 u53 u54 u55 u56 u57 u58 u59 u60 u61 u62 u63 u64 u66 u67 u68 u69 u70 u71 u72 u73 u74 u75 u76 u77 u78 u79 u80 u81 u82 u83 u84 u85 u86 u87 u88 u89 u90 u91 u92 u93 u94 u95 u96 u97 u98 u99 u100 u101 u102 u103 u104 u105 u106 u107 u108 u109 u110 u111 u112 u113 u114 u115 u116 u117 u118 u119 u120 u121 u122 u123 u124 u125 u126 u127 u128 u129 u130 u131 u132 u133 u134 u135 u136 u137 u138 u139 u140 u141 u142 u143 u144 u145 u146 u147 u148 u149 u150 u151 u152 u153 u154 u155 u156 u157 u158 u159 u160 u161 u162 u163 u164 u165 u166 u167 u168 u169 u170 u171 u172 u173 u174 u175 u176 u177 u178 u179 u180 u181 u182 u183 u184 u185 u186 u187 u188 u189 u190 u191 u192 u193 u194 u195 u196 u197 u198 u199 u200 u201 u202 u203 u204 u205 u206 u207 u208 u209 u210 u211 u212 u213 u214 u215 : Value} {w1 : World} (w : World) (hg : As.Handle w) {p m vb : Nat} (s : Nt) (hI : NtI s) (x y z u : Int) (D : Bool) (hD : D = ntHas s y) (HP : Hid (Own w (NtP p s * (RnP m s * (Nms 45 vb [x, y, z, u] * emp))) w1))
    (hK : ∀ (v8 v9 v11 v12 v13 v14 v15 v66 v67 v68 v69 v70 v71 v72 v73 v74 v75 v76 v77 v78 v79 v80 v81 v82 v83 v84 v85 v86 v87 v88 v89 v90 v91 v92 v93 v94 v95 v96 v97 v98 v99 v100 v101 v102 v103 v104 v105 v106 v107 v108 v109 v110 v111 v112 v113 v114 v115 v116 v117 v118 v119 v120 v121 v122 v123 v124 v125 v126 v127 v128 v129 v130 v131 v132 v133 v134 v135 v136 v137 v138 v139 v140 v141 v142 v143 v144 v145 v146 v147 v148 v149 v150 v151 v152 v153 v154 v155 v156 v157 v158 v159 v160 v161 v162 v163 v164 v165 v166 v167 v168 v169 v170 v171 v172 v173 v174 v175 v176 v177 v178 v179 v180 v181 v182 v183 v184 v185 v186 v187 v188 v189 v190 v191 v192 v193 v194 v195 v196 v197 v198 v199 v200 v201 v202 v203 : Value) (wx : World), (v9 = .bool true ∧ ∃ s' : Nt, NtI s' ∧ Own w (NtP p s' * (RnP m s' * (Nms 45 vb [x, y, z, u] * emp))) wx) → Q .normal ⟨List.toArray (u0 :: u1 :: u2 :: (.pointer (some ⟨p, 0, none⟩)) :: (.pointer (some ⟨m, 0, none⟩)) :: u5 :: (.pointer (some ⟨vb, 0, none⟩)) :: u7 :: v8 :: v9 :: (.bool D) :: v11 :: v12 :: v13 :: v14 :: v15 :: u16 :: u17 :: u18 :: u19 :: u20 :: u21 :: u22 :: u23 :: u24 :: u25 :: u26 :: u27 :: u28 :: u29 :: u30 :: u31 :: u32 :: u33 :: u34 :: u35 :: u36 :: u37 :: u38 :: u39 :: u40 :: u41 :: u42 :: u43 :: u44 :: u45 :: u46 :: u47 :: u48 :: u49 :: u50 :: u51 :: u52 :: u53 :: u54 :: u55 :: u56 :: u57 :: u58 :: u59 :: u60 :: u61 :: u62 :: u63 :: u64 :: (.int .i64 x) :: v66 :: v67 :: v68 :: v69 :: v70 :: v71 :: v72 :: v73 :: v74 :: v75 :: v76 :: v77 :: v78 :: v79 :: v80 :: v81 :: v82 :: v83 :: v84 :: v85 :: v86 :: v87 :: v88 :: v89 :: v90 :: v91 :: v92 :: v93 :: v94 :: v95 :: v96 :: v97 :: v98 :: v99 :: v100 :: v101 :: v102 :: v103 :: v104 :: v105 :: v106 :: v107 :: v108 :: v109 :: v110 :: v111 :: v112 :: v113 :: v114 :: v115 :: v116 :: v117 :: v118 :: v119 :: v120 :: v121 :: v122 :: v123 :: v124 :: v125 :: v126 :: v127 :: v128 :: v129 :: v130 :: v131 :: v132 :: v133 :: v134 :: v135 :: v136 :: v137 :: v138 :: v139 :: v140 :: v141 :: v142 :: v143 :: v144 :: v145 :: v146 :: v147 :: v148 :: v149 :: v150 :: v151 :: v152 :: v153 :: v154 :: v155 :: v156 :: v157 :: v158 :: v159 :: v160 :: v161 :: v162 :: v163 :: v164 :: v165 :: v166 :: v167 :: v168 :: v169 :: v170 :: v171 :: v172 :: v173 :: v174 :: v175 :: v176 :: v177 :: v178 :: v179 :: v180 :: v181 :: v182 :: v183 :: v184 :: v185 :: v186 :: v187 :: v188 :: v189 :: v190 :: v191 :: v192 :: v193 :: v194 :: v195 :: v196 :: v197 :: v198 :: v199 :: v200 :: v201 :: v202 :: v203 :: u204 :: u205 :: u206 :: u207 :: u208 :: u209 :: u210 :: u211 :: u212 :: u213 :: u214 :: u215 :: []), []⟩ wx) :
    Code.wp Tryd.prog npStep_code Q ⟨List.toArray (u0 :: u1 :: u2 :: (.pointer (some ⟨p, 0, none⟩)) :: (.pointer (some ⟨m, 0, none⟩)) :: u5 :: (.pointer (some ⟨vb, 0, none⟩)) :: u7 :: (.int .i64 1) :: (.bool false) :: (.bool D) :: u11 :: u12 :: u13 :: u14 :: u15 :: u16 :: u17 :: u18 :: u19 :: u20 :: u21 :: u22 :: u23 :: u24 :: u25 :: u26 :: u27 :: u28 :: u29 :: u30 :: u31 :: u32 :: u33 :: u34 :: u35 :: u36 :: u37 :: u38 :: u39 :: u40 :: u41 :: u42 :: u43 :: u44 :: u45 :: u46 :: u47 :: u48 :: u49 :: u50 :: u51 :: u52 :: u53 :: u54 :: u55 :: u56 :: u57 :: u58 :: u59 :: u60 :: u61 :: u62 :: u63 :: u64 :: (.int .i64 x) :: u66 :: u67 :: u68 :: u69 :: u70 :: u71 :: u72 :: u73 :: u74 :: u75 :: u76 :: u77 :: u78 :: u79 :: u80 :: u81 :: u82 :: u83 :: u84 :: u85 :: u86 :: u87 :: u88 :: u89 :: u90 :: u91 :: u92 :: u93 :: u94 :: u95 :: u96 :: u97 :: u98 :: u99 :: u100 :: u101 :: u102 :: u103 :: u104 :: u105 :: u106 :: u107 :: u108 :: u109 :: u110 :: u111 :: u112 :: u113 :: u114 :: u115 :: u116 :: u117 :: u118 :: u119 :: u120 :: u121 :: u122 :: u123 :: u124 :: u125 :: u126 :: u127 :: u128 :: u129 :: u130 :: u131 :: u132 :: u133 :: u134 :: u135 :: u136 :: u137 :: u138 :: u139 :: u140 :: u141 :: u142 :: u143 :: u144 :: u145 :: u146 :: u147 :: u148 :: u149 :: u150 :: u151 :: u152 :: u153 :: u154 :: u155 :: u156 :: u157 :: u158 :: u159 :: u160 :: u161 :: u162 :: u163 :: u164 :: u165 :: u166 :: u167 :: u168 :: u169 :: u170 :: u171 :: u172 :: u173 :: u174 :: u175 :: u176 :: u177 :: u178 :: u179 :: u180 :: u181 :: u182 :: u183 :: u184 :: u185 :: u186 :: u187 :: u188 :: u189 :: u190 :: u191 :: u192 :: u193 :: u194 :: u195 :: u196 :: u197 :: u198 :: u199 :: u200 :: u201 :: u202 :: u203 :: u204 :: u205 :: u206 :: u207 :: u208 :: u209 :: u210 :: u211 :: u212 :: u213 :: u214 :: u215 :: []), []⟩ w1 := by
  conv => arg 2; whnf
  have HK := Lib.hid hK
  clear hK
  obtain ⟨c0, c1, c2, c3⟩ := HP.out.third.four
  by_cases h012 : x = 0 ∨ x = 1 ∨ x = 2
  · skip
    have hni := hI.send (y, z, u)
    obtain ⟨E, hE⟩ : ∃ E, E = ntErr s (y, z, u) := ⟨_, rfl⟩
    have tE := same_nat E
    rcases h012 with rfl | rfl | rfl
    all_goals
      obtain ⟨b1, hb_b1⟩ : ∃ zz_, zz_ = (w1).heap.size := ⟨_, rfl⟩
      obtain ⟨w2, hw_w2⟩ : ∃ zz_, zz_ = (w1).alloc (.cells #[.int .i64 y, .int .i64 z, .int .i64 u] 23 (0, 0)) := ⟨_, rfl⟩
      have h_HB := (HP.out).alloc (.cells #[.int .i64 y, .int .i64 z, .int .i64 u] 23 (0, 0))
      rw [← hb_b1, ← hw_w2] at h_HB
      have HB := Lib.hid h_HB
      clear h_HB
      have HO2 : Hid (Own w (RnP m s * (PkO b1 (y, z, u) * (NtP p s * (Nms 45 vb [_, y, z, u] * emp)))) w2) := Lib.hid (HB.out.perm (by unfold PkO; ac_rfl))
      obtain ⟨d0, d1, d2⟩ := HO2.out.second.pk
      simp only at d0 d1 d2
      clear HB
      have HG := Lib.hid hg; have HI := Lib.hid hI; have HD := Lib.hid hD; have HNI := Lib.hid hni; have HE := Lib.hid hE
      clear hg hI hD hni hE
      go_upto_region 27 with fail
      rw [← hb_b1, ← hw_w2]
      clear hb_b1 hw_w2
      clear c0 c1 c2 c3
      go_wp2_with fail
      refine (rnSend_any m s (y, z, u) HI.out HO2.out).mono ?_
      rintro e w3 ⟨rfl, ho⟩
      rw [← HE.out]
      have HO3 : Hid (Own w (NtP p s * (PkO b1 (y, z, u) * (RnP m (ntSend s (y, z, u)) * (Nms 45 vb [_, y, z, u] * emp)))) w3) := Lib.hid (ho.perm (by ac_rfl))
      clear ho d0 d1 d2
      obtain ⟨d0, d1, d2⟩ := HO3.out.second.pk
      simp only at d0 d1 d2
      go_wp2_with fail
      refine (ntSend_any p s (y, z, u) HI.out HO3.out).mono ?_
      rintro e w4 ⟨rfl, ho⟩
      rw [← HE.out]
      have HO4 := Lib.hid ho
      clear ho d0 d1 d2
      go_wp2_with fail
      refine (sameErr_any HG.out E E HO4.out).mono ?_
      rintro e w5 ⟨rfl, ho⟩
      rw [tE]
      have HO5 := Lib.hid ho
      clear ho
      go_wp2_with fail
      apply HK.out
      exact ⟨rfl, _, HNI.out, HO5.out.second.drop⟩
  have t0 : (x == 0) = false := by rw [beq_eq_false_iff_ne]; exact fun e => h012 (.inl e)
  have t1 : (x == 1) = false := by rw [beq_eq_false_iff_ne]; exact fun e => h012 (.inr (.inl e))
  have t2 : (x == 2) = false := by rw [beq_eq_false_iff_ne]; exact fun e => h012 (.inr (.inr e))
  by_cases h3 : x = 3
  · skip
    subst h3
    have hni := hI.give y
    obtain ⟨E, hE⟩ : ∃ E, E = ntGiveErr s y := ⟨_, rfl⟩
    obtain ⟨G, hgv⟩ : ∃ G, G = ntGiven s y := ⟨_, rfl⟩
    obtain ⟨ga, gb, gd⟩ := G
    have tE := same_nat E
    have HO2 : Hid (Own w (RnP m s * (NtP p s * (Nms 45 vb [3, y, z, u] * emp))) w1) := Lib.hid HP.out.second
    have HG := Lib.hid hg; have HI := Lib.hid hI; have HD := Lib.hid hD; have HNI := Lib.hid hni; have HE := Lib.hid hE; have HGV := Lib.hid hgv; have H012 := Lib.hid h012
    clear hg hI hD hni hE hgv h012
    go_wp2_with fail
    refine (rnGive_any m s y HI.out HO2.out).mono ?_
    rintro e w3 ⟨rfl, ho⟩
    rw [← HE.out, ← HGV.out]
    unfold evV
    dsimp only
    obtain ⟨b1, hb_b1⟩ : ∃ zz_, zz_ = (w3).heap.size := ⟨_, rfl⟩
    obtain ⟨w4, hw_w4⟩ : ∃ zz_, zz_ = (w3).alloc (.cells #[.int .i64 ga, .int .i64 gb, .int .i64 gd] 23 (0, 0)) := ⟨_, rfl⟩
    have h_HB := (ho).alloc (.cells #[.int .i64 ga, .int .i64 gb, .int .i64 gd] 23 (0, 0))
    rw [← hb_b1, ← hw_w4] at h_HB
    have HB := Lib.hid h_HB
    clear h_HB
    have HO4 : Hid (Own w (NtP p s * (Nms 45 vb [3, y, z, u] * (RnP m (ntGive s y) * (PkO b1 (ga, gb, gd) * emp)))) w4) := Lib.hid (HB.out.perm (by unfold PkO; ac_rfl))
    clear ho HB c0 c1 c2 c3
    obtain ⟨c0, c1, c2, c3⟩ := HO4.out.second.four
    go_upto_region 31 with fail
    rw [← hb_b1, ← hw_w4]
    clear hb_b1 hw_w4
    go_wp2_with fail
    refine (ntGive_any p s y HI.out HO4.out).mono ?_
    rintro e w5 ⟨rfl, ho⟩
    rw [← HE.out, ← HGV.out]
    unfold evV
    dsimp only
    obtain ⟨b2, hb_b2⟩ : ∃ zz_, zz_ = (w5).heap.size := ⟨_, rfl⟩
    obtain ⟨w6, hw_w6⟩ : ∃ zz_, zz_ = (w5).alloc (.cells #[.int .i64 ga, .int .i64 gb, .int .i64 gd] 23 (0, 0)) := ⟨_, rfl⟩
    have h_HB := (ho).alloc (.cells #[.int .i64 ga, .int .i64 gb, .int .i64 gd] 23 (0, 0))
    rw [← hb_b2, ← hw_w6] at h_HB
    have HB := Lib.hid h_HB
    clear h_HB
    have HO6 : Hid (Own w (NtP p (ntGive s y) * (RnP m (ntGive s y) * (Nms 45 vb [3, y, z, u] * (PkO b1 (ga, gb, gd) * (PkO b2 (ga, gb, gd) * emp))))) w6) := Lib.hid (HB.out.perm (by unfold PkO; ac_rfl))
    clear ho HB c0 c1 c2 c3
    go_upto_region 32 with fail
    rw [← hb_b2, ← hw_w6]
    clear hb_b2 hw_w6
    go_wp2_with fail
    refine (sameErr_any HG.out E E HO6.out).mono ?_
    rintro e w7 ⟨rfl, ho⟩
    rw [tE]
    obtain ⟨d0, d1, d2⟩ := ho.fourth.pk
    obtain ⟨f0, f1, f2⟩ := ho.fifth.pk
    simp only at d0 d1 d2 f0 f1 f2
    have HO7 := Lib.hid ho
    clear ho
    go_wp2_with fail
    apply HK.out
    exact ⟨rfl, _, HNI.out, HO7.out.fourth.drop.fourth.drop⟩
  have t3 : (x == 3) = false := by rw [beq_eq_false_iff_ne]; exact h3
  by_cases h4 : x = 4
  · skip
    subst h4
    have hni := hI.drop y
    cases D
    · obtain ⟨q1, q2⟩ := ntDrop_no hD.symm
      have HG := Lib.hid hg; have HI := Lib.hid hI; have HD := Lib.hid hD; have HNI := Lib.hid hni; have H012 := Lib.hid h012; have H3 := Lib.hid h3; have Q1 := Lib.hid q1; have Q2 := Lib.hid q2
      clear hg hI hD hni h012 h3 q1 q2
      go_wp2_with fail
      refine (ntDrop_any p s y HI.out HP.out).mono ?_
      rintro e w3 ⟨rfl, ho⟩
      rw [Q1.out]
      have HO3 := Lib.hid ho
      clear ho c0 c1 c2 c3
      go_wp2_with fail
      refine (sameErr_any HG.out 1 1 HO3.out).mono ?_
      rintro e w4 ⟨rfl, ho⟩
      have HO4 := Lib.hid ho
      clear ho
      go_wp2_with fail
      apply HK.out
      exact ⟨rfl, s, HI.out, by have := HO4.out; rw [Q2.out] at this; exact this⟩
    · obtain ⟨q1, q2⟩ := ntDrop_yes hD.symm
      obtain ⟨q3, q4⟩ := ntHas_iff.1 hD.symm
      obtain ⟨k, rfl⟩ : ∃ k : Nat, y = (k : Int) := ⟨y.toNat, by omega⟩
      have hkl : k < s.all.length := by omega
      have HO2 : Hid (Own w (RnP m s * (NtP p s * (Nms 45 vb [4, (k : Int), z, u] * emp))) w1) := Lib.hid HP.out.second
      have HG := Lib.hid hg; have HI := Lib.hid hI; have HD := Lib.hid hD; have HNI := Lib.hid hni; have H012 := Lib.hid h012; have H3 := Lib.hid h3; have Q1 := Lib.hid q1; have Q2 := Lib.hid q2; have Q3 := Lib.hid q3; have Q4 := Lib.hid q4; have HKL := Lib.hid hkl
      clear hg hI hD hni h012 h3 q1 q2 q3 q4 hkl
      go_wp2_with fail
      refine (rnOut_any m s k HKL.out HI.out HO2.out).mono ?_
      rintro e w3 ⟨rfl, ho⟩
      have HO3 := Lib.hid ho.second
      clear ho c0 c1 c2 c3
      obtain ⟨c0, c1, c2, c3⟩ := HO3.out.third.four
      go_wp2_with fail
      refine (ntDrop_any p s k HI.out HO3.out).mono ?_
      rintro e w4 ⟨rfl, ho⟩
      rw [Q1.out]
      have HO4 := Lib.hid ho
      clear ho c0 c1 c2 c3
      go_wp2_with fail
      refine (sameErr_any HG.out 0 0 HO4.out).mono ?_
      rintro e w5 ⟨rfl, ho⟩
      have HO5 := Lib.hid ho
      clear ho
      go_wp2_with fail
      apply HK.out
      exact ⟨rfl, _, HNI.out, by have := HO5.out; rw [Q2.out] at this ⊢; exact this⟩
  have t4 : (x == 4) = false := by rw [beq_eq_false_iff_ne]; exact h4
  by_cases h5 : x = 5
  · skip
    subst h5
    have hni := hI.twice y
    cases D
    · obtain ⟨q1, q2⟩ := ntTwice_no hD.symm
      have HG := Lib.hid hg; have HI := Lib.hid hI; have HD := Lib.hid hD; have HNI := Lib.hid hni; have H012 := Lib.hid h012; have H3 := Lib.hid h3; have H4 := Lib.hid h4; have Q1 := Lib.hid q1; have Q2 := Lib.hid q2
      clear hg hI hD hni h012 h3 h4 q1 q2
      go_wp2_with fail
      refine (ntTwice_any p s y HI.out HP.out).mono ?_
      rintro e w3 ⟨rfl, ho⟩
      rw [Q1.out]
      have HO3 := Lib.hid ho
      clear ho c0 c1 c2 c3
      go_wp2_with fail
      refine (sameErr_any HG.out 1 1 HO3.out).mono ?_
      rintro e w4 ⟨rfl, ho⟩
      have HO4 := Lib.hid ho
      clear ho
      go_wp2_with fail
      apply HK.out
      exact ⟨rfl, s, HI.out, by have := HO4.out; rw [Q2.out] at this; exact this⟩
    · obtain ⟨q1, q2⟩ := ntTwice_yes hD.symm
      obtain ⟨q3, q4⟩ := ntHas_iff.1 hD.symm
      obtain ⟨k, rfl⟩ : ∃ k : Nat, y = (k : Int) := ⟨y.toNat, by omega⟩
      have hkl : k < s.all.length := by omega
      obtain ⟨X, hX⟩ : ∃ X, X = ntAt s k := ⟨_, rfl⟩
      obtain ⟨E, hE⟩ : ∃ E, E = ntErr s X := ⟨_, rfl⟩
      have tE := same_nat E
      have ho2 : Own w (RnP m s * (NtP p s * (Nms 45 vb [5, (k : Int), z, u] * emp))) w1 := HP.out.second
      obtain ⟨ad, cap, B, hB, b1, b2, ho3⟩ := ho2.rn_open
      obtain ⟨e0, _, _⟩ := ho3.rn_facts
      obtain ⟨bb, off, cap', hv, b3, b4, d0, d1, d2⟩ := ho3.rn_at hkl
      injection hv with ev1 _ ev3
      subst ev1; subst ev3
      rw [← hX] at d0 d1 d2 q1 q2
      rw [← hE] at q1
      obtain ⟨L, hL⟩ : ∃ L, L = s.all.length := ⟨_, rfl⟩
      rw [← hL] at e0 hkl b1
      obtain ⟨xa, xb, xd⟩ := X
      simp only at d0 d1 d2
      have HO2 := Lib.hid ho2.drew
      clear ho2
      have HG := Lib.hid hg; have HI := Lib.hid hI; have HD := Lib.hid hD; have HNI := Lib.hid hni; have H012 := Lib.hid h012; have H3 := Lib.hid h3; have H4 := Lib.hid h4; have Q1 := Lib.hid q1; have Q2 := Lib.hid q2; have Q3 := Lib.hid q3; have Q4 := Lib.hid q4; have HX := Lib.hid hX; have HE := Lib.hid hE; have HB := Lib.hid hB; have HO3 := Lib.hid ho3; have HL := Lib.hid hL
      clear hg hI hD hni h012 h3 h4 q1 q2 q3 q4 hX hE hB ho3 hL
      go_upto_region 40 with fail
      refine wp_region_tail 9 (by kernel_rfl) (by kernel_rfl) ?_
      simp only [List.take_succ_cons, List.take_zero, List.drop_succ_cons, List.drop_zero]
      repeat still_step
      refine wpStill_nil ?_
      go_wp2_with fail
      refine (rnSend_any m s (xa, xb, xd) HI.out HO2.out).mono ?_
      rintro e w3 ⟨rfl, ho⟩
      rw [← HE.out]
      have HO3 := Lib.hid ho.second
      clear ho c0 c1 c2 c3 d0 d1 d2 e0
      obtain ⟨c0, c1, c2, c3⟩ := HO3.out.third.four
      go_wp2_with fail
      refine (ntTwice_any p s k HI.out HO3.out).mono ?_
      rintro e w4 ⟨rfl, ho⟩
      rw [Q1.out]
      have HO4 := Lib.hid ho
      clear ho c0 c1 c2 c3
      go_wp2_with fail
      refine (sameErr_any HG.out E E HO4.out).mono ?_
      rintro e w5 ⟨rfl, ho⟩
      rw [tE]
      have HO5 := Lib.hid ho
      clear ho
      go_wp2_with fail
      apply HK.out
      exact ⟨rfl, _, HNI.out, by have := HO5.out; rw [Q2.out] at this ⊢; exact this⟩
  have t5 : (x == 5) = false := by rw [beq_eq_false_iff_ne]; exact h5
  obtain ⟨T, hT⟩ : ∃ T : Bool, T = (decide (0 ≤ y) && (decide (y ≤ 4) && (decide (0 ≤ z) && decide (z ≤ 4)))) := ⟨_, rfl⟩
  have HG := Lib.hid hg; have HI := Lib.hid hI; have HD := Lib.hid hD; have H012 := Lib.hid h012; have H3 := Lib.hid h3; have H4 := Lib.hid h4; have H5 := Lib.hid h5
  clear hg hI hD h012 h3 h4 h5
  go_upto_region 15 with fail
  go_cut [83] from 66 to 83 (fun v wx => v = .bool T ∧ wx = w1)
  case first =>
    go_wp2_with fail
    all_goals
      go_meet
      refine ⟨?_, rfl⟩
      rw [hT]
      try simp only [*, decide_true, decide_false, Bool.true_and, Bool.and_true, Bool.false_and, Bool.and_false]
      try (first | rfl | (simp; omega))
  case rest =>
  obtain ⟨rfl, rfl⟩ := hcut
  cases T
  · have hE : ntCutErr y z = 1 := by
      simp only [eq_comm (a := false), Bool.and_eq_false_iff, decide_eq_false_iff_not] at hT
      unfold ntCutErr
      cases h1 : isMember y
      · rw [if_pos rfl]
      rw [if_neg (by simp)]
      cases h2 : isMember z
      · rw [if_pos rfl]
      simp [isMember] at h1 h2
      omega
    have hS : ∀ d, ntCut s y z d = s := fun d => by unfold ntCut; rw [hE]; rfl
    have HT := Lib.hid hT; have HE := Lib.hid hE; have HS := Lib.hid hS
    clear hT hE hS
    go_wp2_with fail
    refine (ntCut_any p s y z _ HP.out).mono ?_
    rintro e w3 ⟨rfl, ho⟩
    rw [HE.out]
    rw [HS.out] at ho
    have HO3 := Lib.hid ho
    clear ho c0 c1 c2 c3
    go_wp2_with fail
    refine (sameErr_any HG.out 1 1 HO3.out).mono ?_
    rintro e w4 ⟨rfl, ho⟩
    have HO4 := Lib.hid ho
    clear ho
    go_wp2_with fail
    apply HK.out
    exact ⟨rfl, s, HI.out, HO4.out⟩
  simp only [eq_comm (a := true), Bool.and_eq_true, decide_eq_true_eq] at hT
  obtain ⟨A, rfl⟩ : ∃ k : Nat, y = (k : Int) := ⟨y.toNat, by omega⟩
  obtain ⟨B, rfl⟩ : ∃ k : Nat, z = (k : Int) := ⟨z.toNat, by omega⟩
  have iA0 : (0 : Int) ≤ (A : Int) := by omega
  have iB0 : (0 : Int) ≤ (B : Int) := by omega
  have iA5 : (A : Int) < 5 := by omega
  have iB5 : (B : Int) < 5 := by omega
  by_cases hab : A = B
  · have hE : ntCutErr (A : Int) (B : Int) = 3 := by
      unfold ntCutErr
      rw [if_neg (by simp [isMember]; omega), if_neg (by simp [isMember]; omega), if_pos (by omega)]
    have hS : ∀ d, ntCut s A B d = s := fun d => by unfold ntCut; rw [hE]; rfl
    have tab : ((A : Int) == (B : Int)) = true := by rw [beq_iff_eq]; omega
    have HT := Lib.hid hT; have HE := Lib.hid hE; have HS := Lib.hid hS; have HAB := Lib.hid hab
    clear hT hE hS hab
    go_wp2_with fail
    refine (ntCut_any p s A B _ HP.out).mono ?_
    rintro e w3 ⟨rfl, ho⟩
    rw [HE.out]
    rw [HS.out] at ho
    have HO3 := Lib.hid ho
    clear ho c0 c1 c2 c3
    go_wp2_with fail
    refine (sameErr_any HG.out 3 3 HO3.out).mono ?_
    rintro e w4 ⟨rfl, ho⟩
    have HO4 := Lib.hid ho
    clear ho
    go_wp2_with fail
    apply HK.out
    exact ⟨rfl, s, HI.out, HO4.out⟩
  have hE : ntCutErr (A : Int) (B : Int) = 0 := by
    unfold ntCutErr
    rw [if_neg (by simp [isMember]; omega), if_neg (by simp [isMember]; omega), if_neg (by omega)]
  have tab : ((A : Int) == (B : Int)) = false := by rw [beq_eq_false_iff_ne]; omega
  obtain ⟨ad, cap, Bt, hB, b1, b2, ho3⟩ := HP.out.second.rn_open
  obtain ⟨v1, hv1⟩ : ∃ v, Bt[5 * A + B]? = some v := ⟨_, List.getElem?_eq_getElem (by rw [hB.1]; omega)⟩
  obtain ⟨_, cf, cb⟩ := ho3.drew.rn_facts
  have e1 := cb _ _ hv1
  have f1 := cf (1 + A * 5 + B) none
  rw [show 1 + (5 * A + B) = 1 + A * 5 + B by omega] at e1
  clear cf cb
  have HT := Lib.hid hT; have HE := Lib.hid hE; have HAB := Lib.hid hab; have HB := Lib.hid hB; have HO3 := Lib.hid ho3
  clear hT hE hab hB ho3
  go_upto_region 20 with fail
  refine wp_region_tail 13 (by kernel_rfl) (by kernel_rfl) ?_
  simp only [List.take_succ_cons, List.take_zero, List.drop_succ_cons, List.drop_zero]
  repeat still_step
  refine wpStill_nil ?_
  obtain ⟨D2, hD2⟩ : ∃ D2 : Bool, D2 = (u.tmod 2 == 0) := ⟨_, rfl⟩
  have hp1 := (rn_put (5 * A + B) D2 (by rw [HB.out.1]; omega) HO3.out).drew
  rw [show 1 + (5 * A + B) = 1 + A * 5 + B by omega] at hp1
  obtain ⟨w2, hw2⟩ : ∃ w2, w2 = (wc.setCell ⟨m, 1 + A * 5 + B, none⟩ (.bool D2)).drew := ⟨_, rfl⟩
  rw [← hw2] at hp1
  obtain ⟨v2, hv2⟩ : ∃ v, (Bt.set (5 * A + B) D2)[5 * B + A]? = some v := ⟨_, List.getElem?_eq_getElem (by rw [List.length_set, HB.out.1]; omega)⟩
  obtain ⟨_, cf, cb⟩ := hp1.drew.rn_facts
  have e2 := cb _ _ hv2
  have f2 := cf (1 + B * 5 + A) none
  rw [show 1 + (5 * B + A) = 1 + B * 5 + A by omega] at e2
  clear cf cb
  obtain ⟨k0, k1, k2, k3⟩ := hp1.third.four
  obtain ⟨l0, l1, l2, l3⟩ := hp1.drew.third.four
  have hp2 := (rn_put (5 * B + A) D2 (by rw [List.length_set, HB.out.1]; omega) hp1).drew
  rw [show 1 + (5 * B + A) = 1 + B * 5 + A by omega] at hp2
  obtain ⟨w3, hw3⟩ : ∃ w3, w3 = (w2.setCell ⟨m, 1 + B * 5 + A, none⟩ (.bool D2)).drew := ⟨_, rfl⟩
  rw [← hw3] at hp2
  have hfin := (hp2.perm (show _ = RnO m (.slice ad s.all.length cap) ((Bt.set (5 * A + B) D2).set (5 * B + A) D2) (ntCut s A B D2) * _ by unfold RnO; rw [ntCut_all])).rn_close (rn_cut HI.out HB.out (by omega) (by omega) HAB.out D2)
  have HP1 := Lib.hid hp1; have HP2 := Lib.hid hp2; have HFIN := Lib.hid hfin; have HV1 := Lib.hid hv1; have HV2 := Lib.hid hv2
  clear hp1 hp2 hfin hv1 hv2
  go_upto_region 21 with fail
  rw [← hD2, ← hw2]
  clear e1 f1 c0 c1 c2 c3 hw2
  refine wp_region_tail 13 (by kernel_rfl) (by kernel_rfl) ?_
  simp only [List.take_succ_cons, List.take_zero, List.drop_succ_cons, List.drop_zero]
  repeat still_step
  refine wpStill_nil ?_
  go_upto_region 22 with fail
  rw [← hD2, ← hw3]
  clear e2 f2 k0 k1 k2 k3 l0 l1 l2 l3 hw3
  have HO4 := Lib.hid HFIN.out.second
  obtain ⟨c0, c1, c2, c3⟩ := HO4.out.third.four
  have HD2 := Lib.hid hD2
  clear hD2
  have hni := HI.out.cut' A B D2
  have HNI := Lib.hid hni
  clear hni
  go_wp2_with fail
  rw [← HD2.out]
  refine (ntCut_any p s A B D2 HO4.out).mono ?_
  rintro e w5 ⟨rfl, ho⟩
  rw [HE.out]
  have HO5 := Lib.hid ho
  clear ho c0 c1 c2 c3
  go_wp2_with fail
  refine (sameErr_any HG.out 0 0 HO5.out).mono ?_
  rintro e w6 ⟨rfl, ho⟩
  have HO6 := Lib.hid ho
  clear ho
  go_wp2_with fail
  apply HK.out
  exact ⟨rfl, _, HNI.out, HO6.out⟩
end Go.Proofs.YtldmdenojpnldaaDoor
