/- AgainPlays: a round of the law. -/
import Derived.Test.YteelldblfmhjlaaDoorAgainPlaysQ
import Derived.Deep.DeepCutAuto
import Derived.Deep.CutBlock
namespace Go.Proofs.YteelldblfmhjlaaDoor
set_option linter.unusedVariables false
set_option linter.unusedSimpArgs false
open Go.RowKit
noncomputable def apRound_code : Code := ((Tryd.f8.body.bind (findBlock 1)).getD .skip)
set_option maxRecDepth 1000000 in
set_option maxHeartbeats 4000000 in
theorem apRound {Q : Exit → Act → World → Prop} {u1 u2 u8 u9 u10 u11 u12 u13 u14 u15 u16 u17 u18 u19 u20 u21 u22 u23 u24 u25 u26 u27 u28 u29 u30 u31 u32 u33 u34 u35 u36 u37 u38 u39 u40 u41 u42 u43 u44 u45 u46 u47 u48 u49 u50 u51 u52 u53 u54 u55 u56 u57 u58 u59 u60 u61 u62 u63 u64 u65 u66 u67 u68 u69 u70 u71 u72 u73 u74 u75 u76 u77 u78 u79 u80 u81 u82 u83 u84 u85 u86 u87 u88 u89 u90 u91 u92 u93 u94 u95 u96 u97 u98 u99 u100 u101 u102 u103 u104 u105 u106 u107 u108 u109 u110 u111 u112 u113 u114 u115 u116 u117 u118 u119 u120 u121 u122 u123 u124 u125 u126 u127 u128 u129 u130 u131 u132 u133 u134 u135 u136 u137 u138 u139 u140 u141 u142 u143 u144 u145 u146 u147 u148 u149 u150 u151 u152 u153 u154 u155 u156 u157 u158 u159 u160 u161 u162 u163 u164 u165 u166 u167 u168 u169 u170 u171 u172 u173 u174 u175 u176 u177 u178 u179 u180 u181 u182 u183 u184 u185 u186 u187 u188 u189 u190 u191 u192 u193 u194 u195 u196 u197 u198 u199 u200 u201 u202 u203 u204 u205 u206 u207 u208 u209 u210 u211 u212 u213 u214 u215 u216 u217 u218 u219 u220 u221 u222 u223 u224 u225 u226 u227 u228 u229 u230 u231 u232 u233 u234 u235 u236 u237 u238 u239 u240 u241 u242 u243 u244 u245 u246 u247 u248 u249 u250 u251 u252 u253 u254 u255 u256 u257 u258 u259 u260 u261 u262 u263 u264 u265 u266 u267 u268 u269 u270 u271 u272 u273 u274 u275 u276 u277 u278 u279 u280 u281 u282 u283 u284 u285 u286 u287 u288 u289 u290 u291 u292 u293 u294 u295 u296 u297 u298 u299 u300 u301 u302 u303 u304 u305 u306 : Value} {wr : World} (w : World) (sp hp mp fp k F : Nat) (A : List Int) (f : Fi) (steps : List (List Int)) (sad : Option Addr) (scap : Nat) (HG : Hid (As.Handle w)) (h1 : k < steps.length) (h2 : k < 120) (hsc1 : steps.length ≤ scap) (hsc2 : scap ≤ 9223372036854775807) (HVS : Hid (Rows2 w (.slice sad steps.length scap) steps)) (HI : Hid (ApI A F f k)) (HP : Hid (Own w (ApO sp hp mp fp A F f * emp) wr))
    (hK : ∀ (v2 v8 v9 v10 v11 v12 v13 v14 v15 v16 v17 v18 v19 v20 v21 v22 v23 v24 v25 v26 v27 v28 v45 v46 v47 v48 v49 v50 v51 v52 v53 v54 v55 v56 v57 v58 v59 v60 v61 v62 v63 v64 v65 v66 v67 v68 v69 v70 v71 v72 v73 v74 v75 v76 v77 v78 v79 v80 v81 v82 v83 v84 v85 v86 v87 v88 v89 v90 v91 v92 v93 v94 v95 v96 v97 v98 v99 v100 v101 v102 v103 v104 v105 v106 v107 v108 v109 v110 v111 v112 v113 v114 v115 v116 v117 v118 v119 v120 v121 v122 v123 v124 v125 v126 v127 v128 v129 v130 v131 v132 v133 v134 v135 v136 v137 v138 v139 v140 v141 v142 v143 v144 v145 v146 v147 v148 v149 v150 v151 v152 v153 v154 v155 v156 v157 v158 v159 v160 v161 v162 v163 v164 v165 v166 v167 v168 v169 v170 v171 v172 v173 v174 v175 v176 v177 v178 v179 v180 v181 v182 v183 v184 v185 v186 v187 v188 v189 v190 v191 v192 v193 v194 v195 v196 v197 v198 v199 v200 v201 v202 v203 v204 v205 v206 v207 v208 v209 v210 v211 v212 v213 v214 v215 v216 v217 v218 v219 v220 v221 v222 v223 v224 v225 v226 v227 v228 v229 v230 v231 v232 v233 v234 v235 v236 v237 v238 v239 v240 v241 v242 v243 v244 v245 v246 v247 v248 v249 v250 v251 v252 v253 v254 v255 v256 v257 v258 v259 v260 v261 v262 v263 v264 v265 v266 v267 v268 v269 v270 v271 v272 v273 v274 v275 v276 v277 v278 v279 v280 v281 v282 v283 v284 v285 v286 v287 v288 v289 v290 v291 v292 v293 v294 v295 v296 v297 v298 v299 v300 v301 v302 v303 v304 v305 v306 : Value) (wx : World), (∃ A2 F2 f2, ApI A2 F2 f2 (k + 1) ∧ Own w (ApO sp hp mp fp A2 F2 f2 * emp) wx) → Q .normal ⟨List.toArray ((.slice sad steps.length scap) :: u1 :: v2 :: (.pointer (some ⟨sp, 0, none⟩)) :: (.pointer (some ⟨hp, 0, none⟩)) :: (.pointer (some ⟨mp, 0, none⟩)) :: (.pointer (some ⟨fp, 0, none⟩)) :: (.int .i64 (k : Int)) :: v8 :: v9 :: v10 :: v11 :: v12 :: v13 :: v14 :: v15 :: v16 :: v17 :: v18 :: v19 :: v20 :: v21 :: v22 :: v23 :: v24 :: v25 :: v26 :: v27 :: v28 :: u29 :: u30 :: u31 :: u32 :: u33 :: u34 :: u35 :: u36 :: u37 :: u38 :: u39 :: u40 :: u41 :: u42 :: u43 :: u44 :: v45 :: v46 :: v47 :: v48 :: v49 :: v50 :: v51 :: v52 :: v53 :: v54 :: v55 :: v56 :: v57 :: v58 :: v59 :: v60 :: v61 :: v62 :: v63 :: v64 :: v65 :: v66 :: v67 :: v68 :: v69 :: v70 :: v71 :: v72 :: v73 :: v74 :: v75 :: v76 :: v77 :: v78 :: v79 :: v80 :: v81 :: v82 :: v83 :: v84 :: v85 :: v86 :: v87 :: v88 :: v89 :: v90 :: v91 :: v92 :: v93 :: v94 :: v95 :: v96 :: v97 :: v98 :: v99 :: v100 :: v101 :: v102 :: v103 :: v104 :: v105 :: v106 :: v107 :: v108 :: v109 :: v110 :: v111 :: v112 :: v113 :: v114 :: v115 :: v116 :: v117 :: v118 :: v119 :: v120 :: v121 :: v122 :: v123 :: v124 :: v125 :: v126 :: v127 :: v128 :: v129 :: v130 :: v131 :: v132 :: v133 :: v134 :: v135 :: v136 :: v137 :: v138 :: v139 :: v140 :: v141 :: v142 :: v143 :: v144 :: v145 :: v146 :: v147 :: v148 :: v149 :: v150 :: v151 :: v152 :: v153 :: v154 :: v155 :: v156 :: v157 :: v158 :: v159 :: v160 :: v161 :: v162 :: v163 :: v164 :: v165 :: v166 :: v167 :: v168 :: v169 :: v170 :: v171 :: v172 :: v173 :: v174 :: v175 :: v176 :: v177 :: v178 :: v179 :: v180 :: v181 :: v182 :: v183 :: v184 :: v185 :: v186 :: v187 :: v188 :: v189 :: v190 :: v191 :: v192 :: v193 :: v194 :: v195 :: v196 :: v197 :: v198 :: v199 :: v200 :: v201 :: v202 :: v203 :: v204 :: v205 :: v206 :: v207 :: v208 :: v209 :: v210 :: v211 :: v212 :: v213 :: v214 :: v215 :: v216 :: v217 :: v218 :: v219 :: v220 :: v221 :: v222 :: v223 :: v224 :: v225 :: v226 :: v227 :: v228 :: v229 :: v230 :: v231 :: v232 :: v233 :: v234 :: v235 :: v236 :: v237 :: v238 :: v239 :: v240 :: v241 :: v242 :: v243 :: v244 :: v245 :: v246 :: v247 :: v248 :: v249 :: v250 :: v251 :: v252 :: v253 :: v254 :: v255 :: v256 :: v257 :: v258 :: v259 :: v260 :: v261 :: v262 :: v263 :: v264 :: v265 :: v266 :: v267 :: v268 :: v269 :: v270 :: v271 :: v272 :: v273 :: v274 :: v275 :: v276 :: v277 :: v278 :: v279 :: v280 :: v281 :: v282 :: v283 :: v284 :: v285 :: v286 :: v287 :: v288 :: v289 :: v290 :: v291 :: v292 :: v293 :: v294 :: v295 :: v296 :: v297 :: v298 :: v299 :: v300 :: v301 :: v302 :: v303 :: v304 :: v305 :: v306 :: []), []⟩ wx) :
    Code.wp Tryd.prog apRound_code Q ⟨List.toArray ((.slice sad steps.length scap) :: u1 :: u2 :: (.pointer (some ⟨sp, 0, none⟩)) :: (.pointer (some ⟨hp, 0, none⟩)) :: (.pointer (some ⟨mp, 0, none⟩)) :: (.pointer (some ⟨fp, 0, none⟩)) :: (.int .i64 (k : Int)) :: u8 :: u9 :: u10 :: u11 :: u12 :: u13 :: u14 :: u15 :: u16 :: u17 :: u18 :: u19 :: u20 :: u21 :: u22 :: u23 :: u24 :: u25 :: u26 :: u27 :: u28 :: u29 :: u30 :: u31 :: u32 :: u33 :: u34 :: u35 :: u36 :: u37 :: u38 :: u39 :: u40 :: u41 :: u42 :: u43 :: u44 :: u45 :: u46 :: u47 :: u48 :: u49 :: u50 :: u51 :: u52 :: u53 :: u54 :: u55 :: u56 :: u57 :: u58 :: u59 :: u60 :: u61 :: u62 :: u63 :: u64 :: u65 :: u66 :: u67 :: u68 :: u69 :: u70 :: u71 :: u72 :: u73 :: u74 :: u75 :: u76 :: u77 :: u78 :: u79 :: u80 :: u81 :: u82 :: u83 :: u84 :: u85 :: u86 :: u87 :: u88 :: u89 :: u90 :: u91 :: u92 :: u93 :: u94 :: u95 :: u96 :: u97 :: u98 :: u99 :: u100 :: u101 :: u102 :: u103 :: u104 :: u105 :: u106 :: u107 :: u108 :: u109 :: u110 :: u111 :: u112 :: u113 :: u114 :: u115 :: u116 :: u117 :: u118 :: u119 :: u120 :: u121 :: u122 :: u123 :: u124 :: u125 :: u126 :: u127 :: u128 :: u129 :: u130 :: u131 :: u132 :: u133 :: u134 :: u135 :: u136 :: u137 :: u138 :: u139 :: u140 :: u141 :: u142 :: u143 :: u144 :: u145 :: u146 :: u147 :: u148 :: u149 :: u150 :: u151 :: u152 :: u153 :: u154 :: u155 :: u156 :: u157 :: u158 :: u159 :: u160 :: u161 :: u162 :: u163 :: u164 :: u165 :: u166 :: u167 :: u168 :: u169 :: u170 :: u171 :: u172 :: u173 :: u174 :: u175 :: u176 :: u177 :: u178 :: u179 :: u180 :: u181 :: u182 :: u183 :: u184 :: u185 :: u186 :: u187 :: u188 :: u189 :: u190 :: u191 :: u192 :: u193 :: u194 :: u195 :: u196 :: u197 :: u198 :: u199 :: u200 :: u201 :: u202 :: u203 :: u204 :: u205 :: u206 :: u207 :: u208 :: u209 :: u210 :: u211 :: u212 :: u213 :: u214 :: u215 :: u216 :: u217 :: u218 :: u219 :: u220 :: u221 :: u222 :: u223 :: u224 :: u225 :: u226 :: u227 :: u228 :: u229 :: u230 :: u231 :: u232 :: u233 :: u234 :: u235 :: u236 :: u237 :: u238 :: u239 :: u240 :: u241 :: u242 :: u243 :: u244 :: u245 :: u246 :: u247 :: u248 :: u249 :: u250 :: u251 :: u252 :: u253 :: u254 :: u255 :: u256 :: u257 :: u258 :: u259 :: u260 :: u261 :: u262 :: u263 :: u264 :: u265 :: u266 :: u267 :: u268 :: u269 :: u270 :: u271 :: u272 :: u273 :: u274 :: u275 :: u276 :: u277 :: u278 :: u279 :: u280 :: u281 :: u282 :: u283 :: u284 :: u285 :: u286 :: u287 :: u288 :: u289 :: u290 :: u291 :: u292 :: u293 :: u294 :: u295 :: u296 :: u297 :: u298 :: u299 :: u300 :: u301 :: u302 :: u303 :: u304 :: u305 :: u306 :: []), []⟩ wr := by
  conv => arg 2; whnf
  have HK := Lib.hid hK
  clear hK
  obtain ⟨a2, rad, rcap, e2, hr, hc⟩ := HVS.out.at_later k h1
  obtain ⟨row, hrow⟩ : ∃ row, row = steps[k] := ⟨_, rfl⟩
  rw [← hrow] at hr hc
  subst e2
  obtain ⟨vb, hvb⟩ : ∃ b, b = wr.heap.size := ⟨_, rfl⟩
  have ht := HP.out.alloc (.cells #[.int .i64 0, .int .i64 0, .int .i64 0] 55)
  rw [← hvb] at ht
  have HT : Hid (Own w (Tri vb [0, 0, 0] * (ApO sp hp mp fp A F f * emp)) (wr.alloc (.cells #[.int .i64 0, .int .i64 0, .int .i64 0] 55))) := Lib.hid ht
  have HR := Lib.hid hr; have HC := Lib.hid hc; have HROW := Lib.hid hrow
  clear hr hc hrow
  clear ht
  go_upto_block 2 with fail
  rw [← hvb]
  clear hvb
  go_cut [9] from 9 to 9 (fun jv wx => FpV w vb (ApO sp hp mp fp A F f * emp) wx)
  case first =>
    refine apFill w (ApO sp hp mp fp A F f * emp) vb k steps row a2 scap rcap rad h1 hsc1 hsc2 HR HC HT ?_
    intros
    go_step
    go_step
    go_meet
    assumption
  case rest =>
  obtain ⟨x, y, z, hT⟩ := hcut
  clear HT HP
  have HT := Lib.hid hT
  clear hT
  have d0 : wc.cell? ⟨vb, 0, none⟩ = some (.int .i64 x) := HT.out.tri_cell 0 (by simp)
  go_upto_block 4 with fail
  go_cut [11] from 97 to 97 (fun told wx => ApC w sp hp mp fp vb k [x, y, z] told wx)
  case first =>
    refine apSwitch w sp hp mp fp vb k F x y z A f (by omega) HG HI HT ?_
    intros
    go_step
    go_step
    go_meet
    assumption
  case rest =>
  obtain ⟨rfl, A2, F2, f2, hI2, hT2⟩ := hcut
  clear HI HT d0
  have HI := Lib.hid hI2
  have HFT := Lib.hid hI2.2.2.2.1
  have hT3 := hT2.perm (show _ = Tri vb [x, y, z] * (SeP sp (sa A2 F2) * (HeP hp f2 * (SnP mp A2 F2 * (RfP fp f2 * emp)))) by unfold ApO; ac_rfl)
  have d1 := hT3.tri_cell 1 (by simp)
  simp only [List.getElem_cons_succ, List.getElem_cons_zero] at d1
  obtain ⟨vr, hov⟩ := (hT3.perm (show _ = RfP fp f2 * (Tri vb [x, y, z] * (SeP sp (sa A2 F2) * (HeP hp f2 * (SnP mp A2 F2 * emp)))) by ac_rfl)).rf_open
  have HOV := Lib.hid hov
  have c0 := (hov.rf_facts hI2.2.2.2.1.1).1 0 (by omega)
  obtain ⟨a, ha⟩ : ∃ a, a = fiN f2 0 := ⟨_, rfl⟩
  have hab : 1 ≤ a ∧ a ≤ 1000001 := by
    have h5 := hI2.2.2.2.1.1
    have hm : f2.next.getD 0 0 ∈ f2.next := by simp [show 0 < f2.next.length by omega]
    rw [ha]
    exact hI2.2.2.2.1.2.1 _ hm
  have c0' : wc.cell? ⟨fp, 0, none⟩ = some (.int .i64 (a - 1)) := by rw [ha]; exact c0
  have ha1 := hab.1
  have ha2 := hab.2
  obtain ⟨E, hE⟩ : ∃ E : Nat, E = if isCount y then 0 else 1 := ⟨_, rfl⟩
  obtain ⟨X, hX⟩ : ∃ X : Bool, X = !isCount y := ⟨_, rfl⟩
  have HA := Lib.hid ha; have HE := Lib.hid hE; have HX := Lib.hid hX
  clear ha hE hX
  clear hT2 hT3 hI2 hov c0 hab
  go_upto_region 49 with fail
  go_cut [236] from 229 to 236 (fun c wx => c = .bool X ∧ wx = wc)
  case first =>
    rcases (show (isCount y = false ∧ y < 0) ∨ (isCount y = false ∧ ¬ y < 0 ∧ 1000000 < y) ∨ (isCount y = true ∧ ¬ y < 0 ∧ ¬ 1000000 < y) by by_cases h0 : y < 0 <;> by_cases h9 : 1000000 < y <;> simp [isCount] <;> omega) with ⟨hz, z1⟩ | ⟨hz, z1, z2⟩ | ⟨hz, z1, z2⟩
    all_goals
      have HZ := Lib.hid hz
      clear hz
      go_wp2_with fail
      go_meet
      exact ⟨by rw [HX.out, HZ.out]; rfl, rfl⟩
  case rest =>
  obtain ⟨rfl, rfl⟩ := hcut
  have hEX : E = if X then 1 else 0 := by rw [HE.out, HX.out]; cases isCount y <;> rfl
  go_upto_if 236 with fail
  go_cut [10] from 236 to 236 (fun e wx => e = .int .i64 (E : Nat) ∧ wx = wc)
  case first =>
    have HEX := Lib.hid hEX
    clear hEX
    cases X
    all_goals
      go_wp2_with fail
      go_meet
      exact ⟨by rw [HEX.out]; rfl, rfl⟩
  case rest =>
  obtain ⟨rfl, rfl⟩ := hcut
  clear hEX
  go_upto_block 5 with fail
  go_cut [22, 23] from 243 to 243 (fun v22 _ wx => Own w (IntSl v22 (heLacks f2 y) * (RfO fp vr f2 * (Tri vb [x, y, z] * (SeP sp (sa A2 F2) * (HeP hp f2 * (SnP mp A2 F2 * emp)))))) wx)
  case first =>
    refine apLacks w fp vb E x y z a f2 _ vr HFT (Lib.hid HI.out.2.2.2.2) HE HA ha1 ha2 HOV ?_
    intros
    go_step
    go_step
    go_meet
    assumption
  case rest =>
  have HC2 := Lib.hid hcut
  have d1 := (hcut.perm (show _ = Tri vb [x, y, z] * (IntSl u22 (heLacks f2 y) * (RfO fp vr f2 * (SeP sp (sa A2 F2) * (HeP hp f2 * (SnP mp A2 F2 * emp))))) by ac_rfl)).tri_cell 1 (by simp)
  simp only [List.getElem_cons_succ, List.getElem_cons_zero] at d1
  have hli : ∀ n ∈ heLacks f2 y, I64 n := fun n hn => by
    unfold heLacks at hn
    split at hn
    · rename_i hcy
      have hy2 : 0 ≤ y ∧ y ≤ 1000000 := by simpa [isCount] using hcy
      have hn2 := List.mem_of_mem_take hn
      unfold heRow at hn2
      obtain ⟨i, hi, rfl⟩ := List.mem_map.1 (List.mem_filter.1 hn2).1
      have := List.mem_range.1 hi
      rw [← HA.out] at this ⊢
      unfold I64; omega
    · cases hn
  obtain ⟨LA, hLA⟩ : ∃ L, L = heLacks f2 y := ⟨_, rfl⟩
  rw [← hLA] at hli
  have HC3 : Hid (Own w (IntSl u22 LA * (RfO fp vr f2 * (Tri vb [x, y, z] * (SeP sp (sa A2 F2) * (HeP hp f2 * (SnP mp A2 F2 * emp)))))) wc) := Lib.hid (by rw [hLA]; exact HC2.out)
  have HLI := Lib.hid hli; have HLA := Lib.hid hLA
  clear hli hLA
  clear hcut HC2 c0'
  go_wp2_with fail
  refine (heLacks_any hp f2 y HFT.out (HC3.out.perm (show _ = HeP hp f2 * (IntSl u22 LA * (RfO fp vr f2 * (Tri vb [x, y, z] * (SeP sp (sa A2 F2) * (SnP mp A2 F2 * emp))))) by ac_rfl))).mono ?_
  rintro e w6 ⟨v1, rfl, ho⟩
  rw [← HE.out]
  rw [← HLA.out] at ho
  have HO6 := Lib.hid ho
  clear ho
  go_wp2_with fail
  refine (sameErr_any HG.out E (E : Int) HO6.out).mono ?_
  rintro e w7 ⟨rfl, ho⟩
  rw [show ((E : Int) == (E : Int)) = true from beq_self_eq_true _]
  have HO7 := Lib.hid ho
  clear ho HO6
  go_wp2_with fail
  refine (sameInts_any v1 u22 LA LA _ (IntSl_reads HLI.out _ HO7.out) (IntSl_reads HLI.out _ (HO7.out.perm (show _ = IntSl u22 LA * (IntSl v1 LA * (HeP hp f2 * (RfO fp vr f2 * (Tri vb [x, y, z] * (SeP sp (sa A2 F2) * (SnP mp A2 F2 * emp)))))) by ac_rfl)))).mono ?_
  rintro e w' ⟨rfl, n6, rfl⟩
  rw [show (LA == LA) = true from beq_iff_eq.2 rfl]
  go_wp2_with fail
  apply HK.out
  refine ⟨A2, F2, f2, HI.out, ?_⟩
  have h3 := (HO7.out.drop.drewN n6).perm (show _ = RfO fp vr f2 * (Tri vb [x, y, z] * (IntSl u22 LA * (HeP hp f2 * (SeP sp (sa A2 F2) * (SnP mp A2 F2 * emp))))) by ac_rfl)
  exact (h3.rf_close.perm (show _ = Tri vb [x, y, z] * (IntSl u22 LA * (ApO sp hp mp fp A2 F2 f2 * emp)) by unfold ApO; ac_rfl)).drop.drop
end Go.Proofs.YteelldblfmhjlaaDoor
