/- LeaderPlays: a round of the law. -/
import Derived.Test.YteelldblfmhjlaaDoorLeaderPlaysQ
import Derived.Deep.DeepCutAuto
import Derived.Deep.CutBlock
namespace Go.Proofs.YteelldblfmhjlaaDoor
set_option linter.unusedVariables false
set_option linter.unusedSimpArgs false
open Go.RowKit
noncomputable def lqRound_code : Code := ((Tryd.f10.body.bind (findBlock 1)).getD .skip)
set_option maxRecDepth 1000000 in
set_option maxHeartbeats 4000000 in
theorem lqRound {Q : Exit → Act → World → Prop} {u2 u3 u4 u5 u7 u8 u11 u12 u13 u14 u15 u16 u17 u18 u19 u20 u21 u22 u23 u24 u25 u26 u27 u28 u29 u30 u31 u32 u33 u34 u35 u36 u37 u38 u39 u40 u41 u42 u43 u44 u45 u46 u47 u48 u49 u50 u51 u52 u53 u54 u55 u56 u57 u58 u59 u60 u61 u62 u63 u64 u65 u66 u67 u68 u69 u70 u71 u72 u73 u74 u75 u76 u77 u78 u79 u80 u81 u82 u83 u84 u85 u86 u87 u88 u89 u90 u91 u92 u93 u94 u95 u96 u97 u98 u99 u100 u101 u102 u103 u104 u105 u106 u107 u108 u109 u110 u111 u112 u113 u114 u115 u116 u117 u118 u119 u120 u121 u122 u123 u124 u125 u126 u127 u128 u129 u130 u131 u132 u133 u134 u135 u136 u137 u138 u139 u140 u141 u142 u143 u144 u145 u146 u147 u148 u149 u150 u151 u152 u153 u154 u155 u156 u157 u158 u159 u160 u161 u162 u163 u164 u165 u166 u167 u168 u169 u170 u171 u172 u173 u174 u175 u176 u177 u178 u179 u180 u181 u182 u183 u184 u185 u186 u187 u188 u189 u190 u191 u192 u193 u194 u195 u196 u197 u198 u199 u200 u201 u202 u203 u204 u205 u206 u207 u208 u209 u210 u211 u212 u213 u214 u215 u216 u217 u218 u219 u220 u221 u222 u223 u224 u225 u226 u227 u228 u229 u230 u231 u232 u233 u234 u235 u236 u237 u238 u239 u240 u241 u242 u243 u244 u245 u246 u247 u248 u249 u250 u251 u252 u253 u254 u255 u256 u257 u258 u259 u260 u261 u262 u263 u264 u265 u266 u267 u268 u269 u270 u271 u272 u273 u274 u275 u276 u277 u278 u279 : Value} {wr : World} (w : World) (N p q k : Nat) (steps : List (List Int)) (l : Ld) (sad : Option Addr) (scap : Nat) (HG : Hid (As.Handle w)) (hN1 : 2 ≤ N) (hN2 : N ≤ 5) (h1 : k < steps.length) (h2 : k < 120) (hsc1 : steps.length ≤ scap) (hsc2 : scap ≤ 9223372036854775807) (HVS : Hid (Rows2 w (.slice sad steps.length scap) steps)) (HI : Hid (LdInv N l)) (HP : Hid (Own w (LdP p l * (RlP q l * emp)) wr))
    (hK : ∀ (v4 v5 v8 v11 v12 v13 v14 v15 v16 v17 v18 v19 v20 v21 v22 v23 v24 v25 v26 v27 v28 v63 v64 v65 v66 v67 v68 v69 v70 v71 v72 v73 v74 v75 v76 v77 v78 v79 v80 v81 v82 v83 v84 v85 v86 v87 v88 v89 v90 v91 v92 v93 v94 v95 v96 v97 v98 v99 v100 v101 v102 v103 v104 v105 v106 v107 v108 v109 v110 v111 v112 v113 v114 v115 v116 v117 v118 v119 v120 v121 v122 v123 v124 v125 v126 v127 v128 v129 v130 v131 v132 v133 v134 v135 v136 v137 v138 v139 v140 v141 v142 v143 v144 v145 v146 v147 v148 v149 v150 v151 v152 v153 v154 v155 v156 v157 v158 v159 v160 v161 v162 v163 v164 v165 v166 v167 v168 v169 v170 v171 v172 v173 v174 v175 v176 v177 v178 v179 v180 v181 v182 v183 v184 v185 v186 v187 v188 v189 v190 v191 v192 v193 v194 v195 v196 v197 v198 v199 v200 v201 v202 v203 v204 v205 v206 v207 v208 v209 v210 v211 v212 v213 v214 v215 v216 v217 v218 v219 v220 v221 v222 v223 v224 v225 v226 v227 v228 v229 v230 v231 v232 v233 v234 v235 v236 v237 v238 v239 v240 v241 v242 v243 v244 v245 v246 v247 v248 v249 v250 v251 v252 v253 v254 v255 v256 v257 v258 v259 v260 v261 v262 v263 v264 v265 v266 v267 v268 v269 v270 v271 v272 v273 v274 v275 v276 v277 v278 v279 : Value) (wx : World), (∃ l2, LdInv N l2 ∧ Own w (LdP p l2 * (RlP q l2 * emp)) wx) → Q .normal ⟨List.toArray ((.int .i64 (N : Int)) :: (.slice sad steps.length scap) :: u2 :: u3 :: v4 :: v5 :: (.pointer (some ⟨p, 0, none⟩)) :: u7 :: v8 :: (.pointer (some ⟨q, 0, none⟩)) :: (.int .i64 (k : Int)) :: v11 :: v12 :: v13 :: v14 :: v15 :: v16 :: v17 :: v18 :: v19 :: v20 :: v21 :: v22 :: v23 :: v24 :: v25 :: v26 :: v27 :: v28 :: u29 :: u30 :: u31 :: u32 :: u33 :: u34 :: u35 :: u36 :: u37 :: u38 :: u39 :: u40 :: u41 :: u42 :: u43 :: u44 :: u45 :: u46 :: u47 :: u48 :: u49 :: u50 :: u51 :: u52 :: u53 :: u54 :: u55 :: u56 :: u57 :: u58 :: u59 :: u60 :: u61 :: u62 :: v63 :: v64 :: v65 :: v66 :: v67 :: v68 :: v69 :: v70 :: v71 :: v72 :: v73 :: v74 :: v75 :: v76 :: v77 :: v78 :: v79 :: v80 :: v81 :: v82 :: v83 :: v84 :: v85 :: v86 :: v87 :: v88 :: v89 :: v90 :: v91 :: v92 :: v93 :: v94 :: v95 :: v96 :: v97 :: v98 :: v99 :: v100 :: v101 :: v102 :: v103 :: v104 :: v105 :: v106 :: v107 :: v108 :: v109 :: v110 :: v111 :: v112 :: v113 :: v114 :: v115 :: v116 :: v117 :: v118 :: v119 :: v120 :: v121 :: v122 :: v123 :: v124 :: v125 :: v126 :: v127 :: v128 :: v129 :: v130 :: v131 :: v132 :: v133 :: v134 :: v135 :: v136 :: v137 :: v138 :: v139 :: v140 :: v141 :: v142 :: v143 :: v144 :: v145 :: v146 :: v147 :: v148 :: v149 :: v150 :: v151 :: v152 :: v153 :: v154 :: v155 :: v156 :: v157 :: v158 :: v159 :: v160 :: v161 :: v162 :: v163 :: v164 :: v165 :: v166 :: v167 :: v168 :: v169 :: v170 :: v171 :: v172 :: v173 :: v174 :: v175 :: v176 :: v177 :: v178 :: v179 :: v180 :: v181 :: v182 :: v183 :: v184 :: v185 :: v186 :: v187 :: v188 :: v189 :: v190 :: v191 :: v192 :: v193 :: v194 :: v195 :: v196 :: v197 :: v198 :: v199 :: v200 :: v201 :: v202 :: v203 :: v204 :: v205 :: v206 :: v207 :: v208 :: v209 :: v210 :: v211 :: v212 :: v213 :: v214 :: v215 :: v216 :: v217 :: v218 :: v219 :: v220 :: v221 :: v222 :: v223 :: v224 :: v225 :: v226 :: v227 :: v228 :: v229 :: v230 :: v231 :: v232 :: v233 :: v234 :: v235 :: v236 :: v237 :: v238 :: v239 :: v240 :: v241 :: v242 :: v243 :: v244 :: v245 :: v246 :: v247 :: v248 :: v249 :: v250 :: v251 :: v252 :: v253 :: v254 :: v255 :: v256 :: v257 :: v258 :: v259 :: v260 :: v261 :: v262 :: v263 :: v264 :: v265 :: v266 :: v267 :: v268 :: v269 :: v270 :: v271 :: v272 :: v273 :: v274 :: v275 :: v276 :: v277 :: v278 :: v279 :: []), []⟩ wx) :
    Code.wp Tryd.prog lqRound_code Q ⟨List.toArray ((.int .i64 (N : Int)) :: (.slice sad steps.length scap) :: u2 :: u3 :: u4 :: u5 :: (.pointer (some ⟨p, 0, none⟩)) :: u7 :: u8 :: (.pointer (some ⟨q, 0, none⟩)) :: (.int .i64 (k : Int)) :: u11 :: u12 :: u13 :: u14 :: u15 :: u16 :: u17 :: u18 :: u19 :: u20 :: u21 :: u22 :: u23 :: u24 :: u25 :: u26 :: u27 :: u28 :: u29 :: u30 :: u31 :: u32 :: u33 :: u34 :: u35 :: u36 :: u37 :: u38 :: u39 :: u40 :: u41 :: u42 :: u43 :: u44 :: u45 :: u46 :: u47 :: u48 :: u49 :: u50 :: u51 :: u52 :: u53 :: u54 :: u55 :: u56 :: u57 :: u58 :: u59 :: u60 :: u61 :: u62 :: u63 :: u64 :: u65 :: u66 :: u67 :: u68 :: u69 :: u70 :: u71 :: u72 :: u73 :: u74 :: u75 :: u76 :: u77 :: u78 :: u79 :: u80 :: u81 :: u82 :: u83 :: u84 :: u85 :: u86 :: u87 :: u88 :: u89 :: u90 :: u91 :: u92 :: u93 :: u94 :: u95 :: u96 :: u97 :: u98 :: u99 :: u100 :: u101 :: u102 :: u103 :: u104 :: u105 :: u106 :: u107 :: u108 :: u109 :: u110 :: u111 :: u112 :: u113 :: u114 :: u115 :: u116 :: u117 :: u118 :: u119 :: u120 :: u121 :: u122 :: u123 :: u124 :: u125 :: u126 :: u127 :: u128 :: u129 :: u130 :: u131 :: u132 :: u133 :: u134 :: u135 :: u136 :: u137 :: u138 :: u139 :: u140 :: u141 :: u142 :: u143 :: u144 :: u145 :: u146 :: u147 :: u148 :: u149 :: u150 :: u151 :: u152 :: u153 :: u154 :: u155 :: u156 :: u157 :: u158 :: u159 :: u160 :: u161 :: u162 :: u163 :: u164 :: u165 :: u166 :: u167 :: u168 :: u169 :: u170 :: u171 :: u172 :: u173 :: u174 :: u175 :: u176 :: u177 :: u178 :: u179 :: u180 :: u181 :: u182 :: u183 :: u184 :: u185 :: u186 :: u187 :: u188 :: u189 :: u190 :: u191 :: u192 :: u193 :: u194 :: u195 :: u196 :: u197 :: u198 :: u199 :: u200 :: u201 :: u202 :: u203 :: u204 :: u205 :: u206 :: u207 :: u208 :: u209 :: u210 :: u211 :: u212 :: u213 :: u214 :: u215 :: u216 :: u217 :: u218 :: u219 :: u220 :: u221 :: u222 :: u223 :: u224 :: u225 :: u226 :: u227 :: u228 :: u229 :: u230 :: u231 :: u232 :: u233 :: u234 :: u235 :: u236 :: u237 :: u238 :: u239 :: u240 :: u241 :: u242 :: u243 :: u244 :: u245 :: u246 :: u247 :: u248 :: u249 :: u250 :: u251 :: u252 :: u253 :: u254 :: u255 :: u256 :: u257 :: u258 :: u259 :: u260 :: u261 :: u262 :: u263 :: u264 :: u265 :: u266 :: u267 :: u268 :: u269 :: u270 :: u271 :: u272 :: u273 :: u274 :: u275 :: u276 :: u277 :: u278 :: u279 :: []), []⟩ wr := by
  conv => arg 2; whnf
  have HK := Lib.hid hK
  clear hK
  obtain ⟨a2, rad, rcap, e2, hr, hc⟩ := HVS.out.at_later k h1
  obtain ⟨row, hrow⟩ : ∃ row, row = steps[k] := ⟨_, rfl⟩
  rw [← hrow] at hr hc
  subst e2
  obtain ⟨vb, hvb⟩ : ∃ b, b = wr.heap.size := ⟨_, rfl⟩
  have ht := HP.out.alloc (.cells #[.int .i64 0, .int .i64 0, .int .i64 0] 55)
  rw [← hvb] at ht
  have HT : Hid (Own w (Tri vb [0, 0, 0] * (LdP p l * (RlP q l * emp))) (wr.alloc (.cells #[.int .i64 0, .int .i64 0, .int .i64 0] 55))) := Lib.hid ht
  have HR := Lib.hid hr; have HC := Lib.hid hc; have HROW := Lib.hid hrow
  clear hr hc hrow
  clear ht
  go_upto_block 2 with fail
  rw [← hvb]
  clear hvb
  go_cut [12] from 12 to 12 (fun jv wx => FpV w vb (LdP p l * (RlP q l * emp)) wx)
  case first =>
    refine lqFill w (LdP p l * (RlP q l * emp)) vb k steps row a2 scap rcap rad h1 hsc1 hsc2 HR HC HT ?_
    intros
    go_step
    go_step
    go_meet
    assumption
  case rest =>
  obtain ⟨x, y, z, hT⟩ := hcut
  clear HT HP
  have HT := Lib.hid hT
  clear hT
  have d0 : wc.cell? ⟨vb, 0, none⟩ = some (.int .i64 x) := HT.out.tri_cell 0 (by simp)
  have d1 : wc.cell? ⟨vb, 1, none⟩ = some (.int .i64 y) := HT.out.tri_cell 1 (by simp)
  have d2 : wc.cell? ⟨vb, 2, none⟩ = some (.int .i64 z) := HT.out.tri_cell 2 (by simp)
  go_upto_region 18 with fail
  go_cut [13] from 13 to 13 (fun inn wx => LqB (inR y N) wc inn wx)
  case first =>
    rcases (show (inR y N = false ∧ y < 0) ∨ (inR y N = false ∧ 0 ≤ y ∧ (N : Int) ≤ y) ∨ (inR y N = true ∧ 0 ≤ y ∧ y < (N : Int)) by unfold inR; by_cases h0 : 0 ≤ y <;> by_cases h9 : y < (N : Int) <;> simp [h0, h9] <;> omega) with ⟨hin, y1⟩ | ⟨hin, y1, y2⟩ | ⟨hin, y1, y2⟩
    all_goals
      first | have t9 : decide (y < (N : Int)) = true := (by simpa using y2) | have t9 : decide (y < (N : Int)) = false := (by simp; omega) | skip
      have HIN := Lib.hid hin
      clear hin
      go_wp2_with fail
      go_meet
      exact ⟨by rw [HIN.out], rfl⟩
  case rest =>
  obtain ⟨rfl, rfl⟩ := hcut
  obtain ⟨inn, hinn⟩ : ∃ b, b = inR y N := ⟨_, rfl⟩
  rw [← hinn]
  obtain ⟨B, hB⟩ : ∃ B, (x == 0) = B := ⟨_, rfl⟩
  have HINN := Lib.hid hinn
  clear hinn
  go_upto_if 96 with fail
  clear hB
  go_cut [8] from 8 to 8 (fun told wx => LqC w N p q vb x y z told wx)
  case first =>
    refine lqSwitch w N p q vb x y z l inn B HG hN2 HI HINN HT ?_
    intros
    go_step
    go_step
    go_meet
    assumption
  case rest =>
  obtain ⟨rfl, l2, hI2, hT2⟩ := hcut
  clear HT HI d0 d1 d2
  have HT := Lib.hid hT2
  have HI := Lib.hid hI2
  clear hT2 hI2
  obtain ⟨ad, cap, hcp1, hcp2, hrl⟩ := (HT.out.perm (show _ = RlP q l2 * (LdP p l2 * (Tri vb [x, y, z] * emp)) by ac_rfl)).rl_open
  obtain ⟨W, hWd⟩ : ∃ W, W = l2.words.length := ⟨_, rfl⟩
  have hW30 : W ≤ 30 := by rw [hWd]; exact HI.out.le
  rw [← hWd] at hrl hcp1
  have HRL := Lib.hid hrl
  have HWD := Lib.hid hWd
  clear hWd
  clear hrl
  go_upto_if 203 with fail
  go_cut [5] from 5 to 5 (fun e wx => e = .int .i64 (inErr y N : Nat) ∧ wx = wc)
  case first =>
    have HE : Hid (inErr y N = if inn then 0 else 1) := Lib.hid (by unfold inErr; rw [HINN.out])
    cases inn
    all_goals
      go_wp2_with fail
      go_meet
      exact ⟨by rw [HE.out]; rfl, rfl⟩
  case rest =>
  obtain ⟨rfl, rfl⟩ := hcut
  go_upto_block 4 with fail
  go_cut [22, 24] from 22 to 22 (fun v22 _ wx => Own w (IntSl v22 (ldLacks l2 y) * (RlO q l2 (.slice ad W cap) * (LdP p l2 * (Tri vb [x, y, z] * emp)))) wx)
  case first =>
    refine lqLacks w N p q vb W cap x y z l2 ad inn hN2 HI HINN HWD hW30 HRL ?_
    intros
    go_step
    go_step
    go_meet
    assumption
  case rest =>
  have HC1 := Lib.hid hcut
  clear hcut
  go_upto_if 230 with fail
  go_cut [23] from 231 to 231 (fun v23 wx => (∃ n, wx = wc.drewN n) ∧ (∃ ad' n' cap', v23 = .slice ad' n' cap') ∧ (∀ w', Ints w' (.slice ad W cap) l2.words → Ints w' v23 (ldHeard l2 y)))
  case first =>
    refine lqHeard w N p q vb W cap x y z l2 ad inn u22 (ldLacks l2 y) hN2 HI HINN HWD hW30 hcp1 HC1 ?_
    intros
    go_step
    go_step
    go_meet
    assumption
  case rest =>
  obtain ⟨⟨n9, rfl⟩, ⟨ad3, n3, cap3, rfl⟩, hw3⟩ := hcut
  have hC2 := HC1.out.drewN n9
  obtain ⟨w9, hw9⟩ : ∃ w9, w9 = wc.drewN n9 := ⟨_, rfl⟩
  rw [← hw9] at hC2 ⊢
  have d1 := (hC2.perm (show _ = Tri vb [x, y, z] * (IntSl u22 (ldLacks l2 y) * (RlO q l2 (.slice ad W cap) * (LdP p l2 * emp))) by ac_rfl)).tri_cell 1 (by simp)
  simp only [List.getElem_cons_succ, List.getElem_cons_zero] at d1
  have hfit := HI.out.fit
  have hlen := HI.out.len
  obtain ⟨E, hE⟩ : ∃ E, E = inErr y N := ⟨_, rfl⟩
  rw [← hE]
  have hwi : ∀ x ∈ l2.words, I64 x := fun x hx => by have := hfit.2.1 x hx; unfold I64; omega
  have hla : ∀ x ∈ ldLacks l2 y, I64 x := fun x hx => by
    unfold ldLacks at hx
    split at hx
    · obtain ⟨i, hi, rfl⟩ := List.mem_map.1 (List.mem_filter.1 hx).1
      have := List.mem_range.1 hi
      rw [← HWD.out] at this
      unfold I64; omega
    · cases hx
  have hhe : ∀ x ∈ ldHeard l2 y, I64 x := fun x hx => by
    unfold ldHeard at hx
    split at hx
    · exact hwi x (List.mem_of_mem_take hx)
    · cases hx
  have HC2 := Lib.hid hC2
  obtain ⟨LA, hLA⟩ : ∃ L, L = ldLacks l2 y := ⟨_, rfl⟩
  obtain ⟨HE2, hHE2⟩ : ∃ L, L = ldHeard l2 y := ⟨_, rfl⟩
  rw [← hLA] at hla hC2
  rw [← hHE2] at hhe hw3
  have HC3 := Lib.hid hC2
  have HFIT := Lib.hid hfit
  have HLA_ := Lib.hid hla
  clear hla
  have HW9 := Lib.hid hw9; have HE := Lib.hid hE; have HWI := Lib.hid hwi; have HHE := Lib.hid hhe; have HW3 := Lib.hid hw3; have HLEN := Lib.hid hlen; have HLA := Lib.hid hLA; have HHE2 := Lib.hid hHE2
  clear hw9 hE hwi hhe hw3 hlen hLA hHE2
  clear hC2 HC2 HC1 hfit
  go_wp2_with fail
  refine (ldLacks_any p l2 y HFIT.out (HC3.out.perm (show _ = LdP p l2 * (IntSl u22 LA * (RlO q l2 (.slice ad W cap) * (Tri vb [x, y, z] * emp))) by ac_rfl))).mono ?_
  rintro e w6 ⟨v1, rfl, ho⟩
  rw [HLEN.out, ← HE.out]
  rw [← HLA.out] at ho
  have HO6 := Lib.hid ho
  clear ho
  go_wp2_with fail
  refine (sameErr_any HG.out E (E : Int) HO6.out).mono ?_
  rintro e w7 ⟨rfl, ho⟩
  rw [show ((E : Int) == (E : Int)) = true from beq_self_eq_true _]
  have HO7 := Lib.hid ho
  clear ho HO6
  go_wp2_with fail
  refine (sameInts_any v1 u22 LA LA _ (IntSl_reads HLA_.out _ HO7.out) (IntSl_reads HLA_.out _ (HO7.out.perm (show _ = IntSl u22 LA * (IntSl v1 LA * (LdP p l2 * (RlO q l2 (.slice ad W cap) * (Tri vb [x, y, z] * emp)))) by ac_rfl)))).mono ?_
  rintro e w' ⟨rfl, n6, rfl⟩
  rw [show (LA == LA) = true from beq_iff_eq.2 rfl]
  have hp8 := (HO7.out.drop.drewN n6).perm (show _ = Tri vb [x, y, z] * (IntSl u22 LA * (LdP p l2 * (RlO q l2 (.slice ad W cap) * emp))) by ac_rfl)
  obtain ⟨w8, hw8⟩ : ∃ w8, w8 = w7.drewN n6 := ⟨_, rfl⟩
  rw [← hw8] at hp8 ⊢
  have d1' := hp8.tri_cell 1 (by simp)
  simp only [List.getElem_cons_succ, List.getElem_cons_zero] at d1'
  have HP8 := Lib.hid hp8
  clear hp8 hw8 HO7 d1
  go_wp2_with fail
  refine (ldHeard_any p l2 y HFIT.out (HP8.out.perm (show _ = LdP p l2 * (RlO q l2 (.slice ad W cap) * (Tri vb [x, y, z] * (IntSl u22 LA * emp))) by ac_rfl))).mono ?_
  rintro e w9 ⟨v2, rfl, ho⟩
  rw [HLEN.out, ← HE.out]
  rw [← HHE2.out] at ho
  have HO9 := Lib.hid ho
  clear ho
  go_wp2_with fail
  refine (sameErr_any HG.out E (E : Int) HO9.out).mono ?_
  rintro e w10 ⟨rfl, ho⟩
  rw [show ((E : Int) == (E : Int)) = true from beq_self_eq_true _]
  have HO10 := Lib.hid ho
  clear ho HO9
  have HIW := Lib.hid (HW3.out _ (IntSl_reads HWI.out _ (HO10.out.perm (show _ = RlO q l2 (.slice ad W cap) * (IntSl v2 HE2 * (LdP p l2 * (Tri vb [x, y, z] * (IntSl u22 LA * emp)))) by ac_rfl)).rl_sl))
  go_wp2_with fail
  refine (sameInts_any v2 (.slice ad3 n3 cap3) HE2 HE2 _ (IntSl_reads HHE.out _ HO10.out) HIW.out).mono ?_
  rintro e w' ⟨rfl, n7, rfl⟩
  rw [show (HE2 == HE2) = true from beq_iff_eq.2 rfl]
  go_wp2_with fail
  apply HK.out
  refine ⟨l2, HI.out, ?_⟩
  have h3 := (HO10.out.drop.drewN n7).perm (show _ = RlO q l2 (.slice ad W cap) * (Tri vb [x, y, z] * (IntSl u22 LA * (LdP p l2 * emp))) by ac_rfl)
  exact (h3.rl_close.perm (show _ = Tri vb [x, y, z] * (IntSl u22 LA * (LdP p l2 * (RlP q l2 * emp))) by ac_rfl)).drop.drop
end Go.Proofs.YteelldblfmhjlaaDoor
