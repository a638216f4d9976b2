/- PicturePlays: a round of the law. -/
import Derived.Test.YtpgonkecicmanaaDoorMPicturePlays17
import Derived.Test.YtpgonkecicmanaaDoorMPicturePlays13
import Derived.Test.YtpgonkecicmanaaDoorMPicturePlays14
import Derived.Test.YtpgonkecicmanaaDoorRows
import Derived.ChangeSame
import Derived.ChangeVars
import Derived.JoinedOf
import Derived.LaidLaws
import Derived.LaidHandle
import Derived.Stop.Joined
namespace Go.Proofs.YtpgonkecicmanaaDoor
set_option linter.unusedVariables false
set_option linter.unusedSimpArgs false
open Go.RowKit Go.Maps
theorem pcWay_len {s t : Pic} (h : s.gold.length = t.gold.length) (a b : Int) : pcWay s a b = pcWay t a b := by
  unfold pcWay pcHas
  rw [h]
theorem rp_reads {w0 : World} {q : Nat} {cs : Array Value} {gv : Value} {rows : List (Value × List Int)} {r : Rp} (he : RpC cs gv rows r) {a b : Nat} (ha : a < 5) (hb : b < 5) (hI : ∀ y ∈ r.row a b, I64 y) :
    ∃ V, (∀ w R, Own w0 (rpBlk q cs * R) w → w.cell? ⟨q, 1 + a * 5 + b, none⟩ = some V) ∧ ∀ w R, Own w0 (starL rowP rows * R) w → Ints w V (r.row a b) := by
  obtain ⟨hl, h1, h2⟩ := he.row ha hb
  refine ⟨rows[a * 5 + b].1, fun w R h => by rw [Own.cell h, h2], fun w R h => ?_⟩
  rw [starL_split rowP rows _ hl] at h
  have h4 : Own w0 (IntSl rows[a * 5 + b].1 rows[a * 5 + b].2 * (starL rowP (rows.eraseIdx (a * 5 + b)) * R)) w := h.perm (by unfold rowP; rw [star_assoc])
  rw [h1] at h4
  exact IntSl_reads hI _ h4
noncomputable def ppRound_code : Code := ((Tryd.f4.body.bind (findBlock 3)).getD .skip)
set_option maxRecDepth 1000000 in
set_option maxHeartbeats 4000000 in
theorem ppRound {Q : Exit → Act → World → Prop} {u2 u3 u4 u5 u6 u8 u9 u12 u13 u14 u15 u16 u17 u18 u19 u20 u21 u22 u23 u24 u25 u26 u27 u28 u29 u30 u31 u32 u33 u34 u35 u36 u37 u38 u39 u40 u41 u42 u43 u44 u45 u46 u47 u48 u49 u50 u51 u52 u53 u54 u55 u56 u57 u58 u59 u60 u61 u62 u63 u64 u65 u66 u67 u68 u69 u70 u71 u72 u73 u74 u75 u76 u77 u78 u79 u80 u81 u82 u83 u84 u85 u86 u87 u88 u89 u90 u91 u92 u93 u94 u95 u96 u97 u98 u99 u100 u101 u102 u103 u104 u105 u106 u107 u108 u109 u110 u111 u112 u113 u114 u115 u116 u117 u118 u119 u120 u121 u122 u123 u124 u125 u126 u127 u128 u129 u130 u131 u132 u133 u134 u135 u136 u137 u138 u139 u140 u141 u142 u143 u144 u145 u146 u147 u148 u149 u150 u151 u152 u153 u154 u155 u156 u157 u158 u159 u160 u161 u162 u163 u164 u165 u166 u167 u168 u169 u170 u171 u172 u173 u174 u175 u176 u177 u178 u179 u180 u181 u182 u183 u184 u185 u186 u187 u188 u189 u190 u191 u192 u193 u194 u195 u196 u197 u198 u199 u200 u201 u202 u203 u204 u205 u206 u207 u208 u209 u210 u211 u212 u213 u214 u215 u216 u217 u218 u219 u220 u221 u222 u223 u224 u225 u226 u227 u228 u229 u230 u231 u232 u233 u234 u235 u236 u237 u238 u239 u240 u241 u242 u243 u244 u245 u246 u247 u248 u249 u250 u251 u252 u253 u254 u255 u256 u257 u258 u259 u260 u261 u262 u263 u264 u265 u266 u267 u268 u269 u270 u271 u272 u273 u274 u275 u276 u277 u278 u279 u280 u281 u282 u283 u284 u285 u286 u287 u288 u289 u290 u291 u292 u293 u294 u295 u296 u297 u298 u299 u300 u301 u302 u303 u304 u305 u306 u307 u308 u309 u310 u311 u312 u313 u314 u315 u316 u317 u318 u319 u320 u321 u322 u323 u324 u325 u326 u327 u328 u329 u330 u331 u332 u333 u334 u335 u336 u337 u338 u339 u340 u341 u342 u343 u344 u345 u346 u347 u348 u349 u350 u351 u352 u353 u354 u355 u356 u357 u358 u359 u360 u361 u362 u363 u364 u365 u366 u367 u368 u369 u370 u371 u372 u373 u374 u375 u376 u377 u378 u379 u380 u381 u382 u383 u384 u385 u386 u387 u388 u389 u390 u391 u392 u393 u394 u395 u396 u397 u398 u399 u400 u401 u402 u403 : Value} {wr : World} (w : World) (hg : As.Handle w) {p mb1 mb2 mb3 gb go gc : Nat} (q N k : Nat) (all : Int) (s : Pic) (hI : PpI all N s) (hall : all ≤ 1000000) (hN2 : 2 ≤ N) (hN5 : N ≤ 5) (gad : Option Addr) (gcap : Nat) (steps : List (List Int)) (sad : Option Addr) (scap : Nat) (h1 : k < steps.length) (hsc1 : steps.length ≤ scap) (hsc2 : scap ≤ 9223372036854775807) (HVS : Hid (Rows2 w (.slice sad steps.length scap) steps)) (HP : Hid (Own w (PicA p mb1 mb2 mb3 gb go gc N s * (RpP q s * emp)) wr))
    (hK : ∀ (v4 v5 v9 v12 v13 v14 v15 v16 v17 v18 v19 v20 v21 v22 v23 v24 v25 v26 v27 v28 v29 v30 v97 v98 v99 v100 v101 v102 v103 v104 v105 v106 v107 v108 v109 v110 v111 v112 v113 v114 v115 v116 v117 v118 v119 v120 v121 v122 v123 v124 v125 v126 v127 v128 v129 v130 v131 v132 v133 v134 v135 v136 v137 v138 v139 v140 v141 v142 v143 v144 v145 v146 v147 v148 v149 v150 v151 v152 v153 v154 v155 v156 v157 v158 v159 v160 v161 v162 v163 v164 v165 v166 v167 v168 v169 v170 v171 v172 v173 v174 v175 v176 v177 v178 v179 v180 v181 v182 v183 v184 v185 v186 v187 v188 v189 v190 v191 v192 v193 v194 v195 v196 v197 v198 v199 v200 v201 v202 v203 v204 v205 v206 v207 v208 v209 v210 v211 v212 v213 v214 v215 v216 v217 v218 v219 v220 v221 v222 v223 v224 v225 v226 v227 v228 v229 v230 v231 v232 v233 v234 v235 v236 v237 v238 v239 v240 v241 v242 v243 v244 v245 v246 v247 v248 v249 v250 v251 v252 v253 v254 v255 v256 v257 v258 v259 v260 v261 v262 v263 v264 v265 v266 v267 v268 v269 v270 v271 v272 v273 v274 v275 v276 v277 v278 v279 v280 v281 v282 v283 v284 v285 v286 v287 v288 v289 v290 v291 v292 v293 v294 v295 v296 v297 v298 v299 v300 v301 v302 v303 v304 v305 v306 v307 v308 v309 v310 v311 v312 v313 v314 v315 v316 v317 v318 v319 v320 v321 v322 v323 v324 v325 v326 v327 v328 v329 v330 v331 v332 v333 v334 v335 v336 v337 v338 v339 v340 v341 v342 v343 v344 v345 v346 v347 v348 v349 v350 v351 v352 v353 v354 v355 v356 v357 v358 v359 v360 v361 v362 v363 v364 v365 v366 v367 v368 v369 v370 v371 v372 v373 v374 v375 v376 v377 v378 v379 v380 v381 v382 v383 v384 v385 v386 v387 v388 v389 v390 v391 v392 v393 v394 v395 v396 v397 v398 v399 v400 v401 v402 v403 : Value) (wx : World), (∃ s2, PpI all N s2 ∧ Own w (PicA p mb1 mb2 mb3 gb go gc N s2 * (RpP q s2 * emp)) wx) → Q .normal ⟨List.toArray ((.slice gad N gcap) :: (.slice sad steps.length scap) :: u2 :: u3 :: v4 :: v5 :: u6 :: (.pointer (some ⟨p, 0, none⟩)) :: u8 :: v9 :: (.pointer (some ⟨q, 0, none⟩)) :: (.int .i64 (k : Int)) :: v12 :: v13 :: v14 :: v15 :: v16 :: v17 :: v18 :: v19 :: v20 :: v21 :: v22 :: v23 :: v24 :: v25 :: v26 :: v27 :: v28 :: v29 :: v30 :: u31 :: u32 :: u33 :: u34 :: u35 :: u36 :: u37 :: u38 :: u39 :: u40 :: u41 :: u42 :: u43 :: u44 :: u45 :: u46 :: u47 :: u48 :: u49 :: u50 :: u51 :: u52 :: u53 :: u54 :: u55 :: u56 :: u57 :: u58 :: u59 :: u60 :: u61 :: u62 :: u63 :: u64 :: u65 :: u66 :: u67 :: u68 :: u69 :: u70 :: u71 :: u72 :: u73 :: u74 :: u75 :: u76 :: u77 :: u78 :: u79 :: u80 :: u81 :: u82 :: u83 :: u84 :: u85 :: u86 :: u87 :: u88 :: u89 :: u90 :: u91 :: u92 :: u93 :: u94 :: u95 :: u96 :: v97 :: v98 :: v99 :: v100 :: v101 :: v102 :: v103 :: v104 :: v105 :: v106 :: v107 :: v108 :: v109 :: v110 :: v111 :: v112 :: v113 :: v114 :: v115 :: v116 :: v117 :: v118 :: v119 :: v120 :: v121 :: v122 :: v123 :: v124 :: v125 :: v126 :: v127 :: v128 :: v129 :: v130 :: v131 :: v132 :: v133 :: v134 :: v135 :: v136 :: v137 :: v138 :: v139 :: v140 :: v141 :: v142 :: v143 :: v144 :: v145 :: v146 :: v147 :: v148 :: v149 :: v150 :: v151 :: v152 :: v153 :: v154 :: v155 :: v156 :: v157 :: v158 :: v159 :: v160 :: v161 :: v162 :: v163 :: v164 :: v165 :: v166 :: v167 :: v168 :: v169 :: v170 :: v171 :: v172 :: v173 :: v174 :: v175 :: v176 :: v177 :: v178 :: v179 :: v180 :: v181 :: v182 :: v183 :: v184 :: v185 :: v186 :: v187 :: v188 :: v189 :: v190 :: v191 :: v192 :: v193 :: v194 :: v195 :: v196 :: v197 :: v198 :: v199 :: v200 :: v201 :: v202 :: v203 :: v204 :: v205 :: v206 :: v207 :: v208 :: v209 :: v210 :: v211 :: v212 :: v213 :: v214 :: v215 :: v216 :: v217 :: v218 :: v219 :: v220 :: v221 :: v222 :: v223 :: v224 :: v225 :: v226 :: v227 :: v228 :: v229 :: v230 :: v231 :: v232 :: v233 :: v234 :: v235 :: v236 :: v237 :: v238 :: v239 :: v240 :: v241 :: v242 :: v243 :: v244 :: v245 :: v246 :: v247 :: v248 :: v249 :: v250 :: v251 :: v252 :: v253 :: v254 :: v255 :: v256 :: v257 :: v258 :: v259 :: v260 :: v261 :: v262 :: v263 :: v264 :: v265 :: v266 :: v267 :: v268 :: v269 :: v270 :: v271 :: v272 :: v273 :: v274 :: v275 :: v276 :: v277 :: v278 :: v279 :: v280 :: v281 :: v282 :: v283 :: v284 :: v285 :: v286 :: v287 :: v288 :: v289 :: v290 :: v291 :: v292 :: v293 :: v294 :: v295 :: v296 :: v297 :: v298 :: v299 :: v300 :: v301 :: v302 :: v303 :: v304 :: v305 :: v306 :: v307 :: v308 :: v309 :: v310 :: v311 :: v312 :: v313 :: v314 :: v315 :: v316 :: v317 :: v318 :: v319 :: v320 :: v321 :: v322 :: v323 :: v324 :: v325 :: v326 :: v327 :: v328 :: v329 :: v330 :: v331 :: v332 :: v333 :: v334 :: v335 :: v336 :: v337 :: v338 :: v339 :: v340 :: v341 :: v342 :: v343 :: v344 :: v345 :: v346 :: v347 :: v348 :: v349 :: v350 :: v351 :: v352 :: v353 :: v354 :: v355 :: v356 :: v357 :: v358 :: v359 :: v360 :: v361 :: v362 :: v363 :: v364 :: v365 :: v366 :: v367 :: v368 :: v369 :: v370 :: v371 :: v372 :: v373 :: v374 :: v375 :: v376 :: v377 :: v378 :: v379 :: v380 :: v381 :: v382 :: v383 :: v384 :: v385 :: v386 :: v387 :: v388 :: v389 :: v390 :: v391 :: v392 :: v393 :: v394 :: v395 :: v396 :: v397 :: v398 :: v399 :: v400 :: v401 :: v402 :: v403 :: []), []⟩ wx) :
    Code.wp Tryd.prog ppRound_code Q ⟨List.toArray ((.slice gad N gcap) :: (.slice sad steps.length scap) :: u2 :: u3 :: u4 :: u5 :: u6 :: (.pointer (some ⟨p, 0, none⟩)) :: u8 :: u9 :: (.pointer (some ⟨q, 0, none⟩)) :: (.int .i64 (k : Int)) :: u12 :: u13 :: u14 :: u15 :: u16 :: u17 :: u18 :: u19 :: u20 :: u21 :: u22 :: u23 :: u24 :: u25 :: u26 :: u27 :: u28 :: u29 :: u30 :: u31 :: u32 :: u33 :: u34 :: u35 :: u36 :: u37 :: u38 :: u39 :: u40 :: u41 :: u42 :: u43 :: u44 :: u45 :: u46 :: u47 :: u48 :: u49 :: u50 :: u51 :: u52 :: u53 :: u54 :: u55 :: u56 :: u57 :: u58 :: u59 :: u60 :: u61 :: u62 :: u63 :: u64 :: u65 :: u66 :: u67 :: u68 :: u69 :: u70 :: u71 :: u72 :: u73 :: u74 :: u75 :: u76 :: u77 :: u78 :: u79 :: u80 :: u81 :: u82 :: u83 :: u84 :: u85 :: u86 :: u87 :: u88 :: u89 :: u90 :: u91 :: u92 :: u93 :: u94 :: u95 :: u96 :: u97 :: u98 :: u99 :: u100 :: u101 :: u102 :: u103 :: u104 :: u105 :: u106 :: u107 :: u108 :: u109 :: u110 :: u111 :: u112 :: u113 :: u114 :: u115 :: u116 :: u117 :: u118 :: u119 :: u120 :: u121 :: u122 :: u123 :: u124 :: u125 :: u126 :: u127 :: u128 :: u129 :: u130 :: u131 :: u132 :: u133 :: u134 :: u135 :: u136 :: u137 :: u138 :: u139 :: u140 :: u141 :: u142 :: u143 :: u144 :: u145 :: u146 :: u147 :: u148 :: u149 :: u150 :: u151 :: u152 :: u153 :: u154 :: u155 :: u156 :: u157 :: u158 :: u159 :: u160 :: u161 :: u162 :: u163 :: u164 :: u165 :: u166 :: u167 :: u168 :: u169 :: u170 :: u171 :: u172 :: u173 :: u174 :: u175 :: u176 :: u177 :: u178 :: u179 :: u180 :: u181 :: u182 :: u183 :: u184 :: u185 :: u186 :: u187 :: u188 :: u189 :: u190 :: u191 :: u192 :: u193 :: u194 :: u195 :: u196 :: u197 :: u198 :: u199 :: u200 :: u201 :: u202 :: u203 :: u204 :: u205 :: u206 :: u207 :: u208 :: u209 :: u210 :: u211 :: u212 :: u213 :: u214 :: u215 :: u216 :: u217 :: u218 :: u219 :: u220 :: u221 :: u222 :: u223 :: u224 :: u225 :: u226 :: u227 :: u228 :: u229 :: u230 :: u231 :: u232 :: u233 :: u234 :: u235 :: u236 :: u237 :: u238 :: u239 :: u240 :: u241 :: u242 :: u243 :: u244 :: u245 :: u246 :: u247 :: u248 :: u249 :: u250 :: u251 :: u252 :: u253 :: u254 :: u255 :: u256 :: u257 :: u258 :: u259 :: u260 :: u261 :: u262 :: u263 :: u264 :: u265 :: u266 :: u267 :: u268 :: u269 :: u270 :: u271 :: u272 :: u273 :: u274 :: u275 :: u276 :: u277 :: u278 :: u279 :: u280 :: u281 :: u282 :: u283 :: u284 :: u285 :: u286 :: u287 :: u288 :: u289 :: u290 :: u291 :: u292 :: u293 :: u294 :: u295 :: u296 :: u297 :: u298 :: u299 :: u300 :: u301 :: u302 :: u303 :: u304 :: u305 :: u306 :: u307 :: u308 :: u309 :: u310 :: u311 :: u312 :: u313 :: u314 :: u315 :: u316 :: u317 :: u318 :: u319 :: u320 :: u321 :: u322 :: u323 :: u324 :: u325 :: u326 :: u327 :: u328 :: u329 :: u330 :: u331 :: u332 :: u333 :: u334 :: u335 :: u336 :: u337 :: u338 :: u339 :: u340 :: u341 :: u342 :: u343 :: u344 :: u345 :: u346 :: u347 :: u348 :: u349 :: u350 :: u351 :: u352 :: u353 :: u354 :: u355 :: u356 :: u357 :: u358 :: u359 :: u360 :: u361 :: u362 :: u363 :: u364 :: u365 :: u366 :: u367 :: u368 :: u369 :: u370 :: u371 :: u372 :: u373 :: u374 :: u375 :: u376 :: u377 :: u378 :: u379 :: u380 :: u381 :: u382 :: u383 :: u384 :: u385 :: u386 :: u387 :: u388 :: u389 :: u390 :: u391 :: u392 :: u393 :: u394 :: u395 :: u396 :: u397 :: u398 :: u399 :: u400 :: u401 :: u402 :: u403 :: []), []⟩ wr := by
  conv => arg 2; whnf
  have HK := Lib.hid hK
  clear hK
  obtain ⟨a2, rad, rcap, e2, hr, hc⟩ := HVS.out.at_later k h1
  obtain ⟨row, hrow⟩ : ∃ row, row = steps[k] := ⟨_, rfl⟩
  rw [← hrow] at hr hc
  subst e2
  obtain ⟨vb, hvb⟩ : ∃ b, b = wr.heap.size := ⟨_, rfl⟩
  have ht := HP.out.alloc (.cells #[.int .i64 0, .int .i64 0, .int .i64 0, .int .i64 0] 64)
  rw [← hvb] at ht
  have HT : Hid (Own w (Nms 64 vb [0, 0, 0, 0] * (PicA p mb1 mb2 mb3 gb go gc N s * (RpP q s * emp))) (wr.alloc (.cells #[.int .i64 0, .int .i64 0, .int .i64 0, .int .i64 0] 64))) := Lib.hid ht
  have HIS := Lib.hid hI
  have HR := Lib.hid hr; have HC := Lib.hid hc; have HROW := Lib.hid hrow; have HI := Lib.hid hI
  clear hr hc hrow hI
  clear ht
  go_upto_block 4 with fail
  rw [← hvb]
  clear hvb
  go_cut [13] from 13 to 13 (fun jv wx => NmV 64 4 w vb (PicA p mb1 mb2 mb3 gb go gc N s * (RpP q s * emp)) wx)
  case first =>
    refine ppFill w (PicA p mb1 mb2 mb3 gb go gc N s * (RpP q s * emp)) vb k steps row a2 scap rcap rad h1 hsc1 hsc2 HR HC HT ?_
    intros
    go_step
    go_step
    go_meet
    assumption
  case rest =>
  obtain ⟨x, y, z, u, hT⟩ := hcut.four
  have HO1 : Hid (Own w (PicA p mb1 mb2 mb3 gb go gc N s * (RpP q s * (Nms 64 vb [x, y, z, u] * emp))) wc) := Lib.hid (hT.perm (by ac_rfl))
  clear HT HP hT hcut
  have d0 : wc.cell? ⟨vb, 0, none⟩ = some (.int .i64 x) := HO1.out.third.nms_cell 0 (by simp)
  have d1 : wc.cell? ⟨vb, 1, none⟩ = some (.int .i64 y) := HO1.out.third.nms_cell 1 (by simp)
  have d2 : wc.cell? ⟨vb, 2, none⟩ = some (.int .i64 z) := HO1.out.third.nms_cell 2 (by simp)
  have hl5 : s.gold.length ≤ 5 := by rw [HIS.out.len]; exact hN5
  have HL5 := Lib.hid hl5
  clear hl5
  go_wp2_with fail
  refine (rpWay_any q s y z HL5.out HO1.out.second).mono ?_
  rintro e w3 ⟨rfl, rfl⟩
  go_upto_block 6 with fail
  go_cut [9] from 9 to 9 (fun v wx => PpC w (PicA p mb1 mb2 mb3 gb go gc N) q vb all N [x, y, z, u] v wx)
  case first =>
    refine ppSwitch w hg q vb N x y z u all s HIS.out hall hN5 gad gcap HO1 ?_
    intros
    rename_i hpp
    go_step
    go_step
    go_meet
    exact hpp
  case rest =>
  obtain ⟨rfl, s2, hi2, ho2⟩ := hcut
  rename_i wold
  clear d0 d1 d2 HO1
  obtain ⟨W, hW⟩ : ∃ W, W = pcWay s y z := ⟨_, rfl⟩
  have hW2 : pcWay s2 y z = W := by rw [hW]; exact pcWay_len (by rw [hi2.len, HIS.out.len]) y z
  rw [← hW]
  obtain ⟨l, hl⟩ : ∃ l, l = [x, y, z, u] := ⟨_, rfl⟩
  rw [← hl] at ho2
  have HDC : Hid (∀ w' R, Own w (Nms 64 vb l * R) w' → w'.cell? ⟨vb, 1, none⟩ = some (.int .i64 y) ∧ w'.cell? ⟨vb, 2, none⟩ = some (.int .i64 z)) := Lib.hid (fun w' R h => by
    rw [hl] at h
    exact ⟨h.nms_cell 1 (by simp), h.nms_cell 2 (by simp)⟩)
  have hok : PicOk s2 := picOk_of hi2.inv hall
  obtain ⟨cs, gv, rows, P, ⟨he, hp⟩, hof⟩ := ho2.second.rp_open
  obtain ⟨gb2, go2, gc2, hgv, hg2, hg3, hgs⟩ := hof.second.gold_shape (s := s2) (by rw [hi2.len]; omega)
  rw [hi2.len] at hgv hg2 hgs
  obtain ⟨FR, hFR⟩ : ∃ FR, FR = rpBlk q cs * (IntSl gv s2.gold * (starL rowP rows * (Nms 64 vb l * emp))) := ⟨_, rfl⟩
  have HO2 : Hid (Own w (PicA p mb1 mb2 mb3 gb go gc N s2 * FR) wc) := Lib.hid (by rw [hFR]; exact hof.perm (by ac_rfl))
  have HFRC : Hid (∀ w' T, Own w (T * FR) w' → Own w (RpP q s2 * (Nms 64 vb l * (emp * T))) w') := Lib.hid (fun w' T h => by
    rw [hFR] at h
    exact Own.rp_close he hp (h.perm (by ac_rfl)))
  -- what is read of the reference, in any world
  have HRD : Hid (∀ w' T, Own w (T * FR) w' → (w'.cell? ⟨vb, 1, none⟩ = some (.int .i64 y) ∧ w'.cell? ⟨vb, 2, none⟩ = some (.int .i64 z)) ∧ w'.cell? ⟨q, 0, none⟩ = some (.slice (some ⟨gb2, go2, none⟩) N gc2) ∧ ∀ m : Nat, m < N → w'.cell? ⟨gb2, go2 + m, none⟩ = some (.int .i64 (pcG s2 (m : Int)))) := Lib.hid (fun w' T h => by
    rw [hFR] at h
    have h2 : Own w (rpBlk q cs * (IntSl gv s2.gold * (starL rowP rows * (Nms 64 vb l * (emp * T))))) w' := h.perm (by ac_rfl)
    refine ⟨HDC.out _ _ h2.fourth, ?_, fun m hm => (hgs _ _ s2.gold hi2.len h2.second).1 m hm⟩
    rw [← hgv]; exact (h2.rp_cells he).1)
  have hA : pcHas s2 y = true ↔ (0 ≤ y ∧ y < (N : Int)) := by unfold pcHas; rw [hi2.len]; simp
  obtain ⟨H, hH⟩ : ∃ H, H = pcHas s2 y := ⟨_, rfl⟩
  obtain ⟨wv, hwv⟩ : ∃ v, v = if H = true then pcG s2 y else 0 := ⟨_, rfl⟩
  obtain ⟨e1, he1⟩ : ∃ e : Nat, e = if H = true then 0 else 1 := ⟨_, rfl⟩
  obtain ⟨⟨d1, d2⟩, c0, hgc⟩ := HRD.out _ _ HO2.out
  have HI2 := Lib.hid hi2
  have HGC := Lib.hid hgc
  have HHA := Lib.hid hA
  have HFR := Lib.hid hFR
  clear ho2 hi2 hof hgc hA hFR
  have HLS := Lib.hid hl
  clear hl
  have HOK := Lib.hid hok; have HE := Lib.hid he; have HP := Lib.hid hp; have HGV := Lib.hid hgv; have HGS := Lib.hid hgs; have HW := Lib.hid hW; have HH := Lib.hid hH; have HWV := Lib.hid hwv; have HE1 := Lib.hid he1; have HW2 := Lib.hid hW2
  clear hok he hp hgv hgs hW hH hwv he1 hW2
  have hcs : (H = false ∧ y < 0) ∨ (H = false ∧ ¬ y < 0 ∧ (N : Int) ≤ y) ∨ (H = true ∧ 0 ≤ y ∧ y < (N : Int)) := by
    have h9 := HHA.out
    rw [← HH.out] at h9
    cases H
    · have : ¬ (0 ≤ y ∧ y < (N : Int)) := fun h => by have := h9.2 h; cases this
      by_cases h3 : y < 0
      · exact .inl ⟨rfl, h3⟩
      · exact .inr (.inl ⟨rfl, h3, by omega⟩)
    · exact .inr (.inr ⟨rfl, (h9.1 rfl).1, (h9.1 rfl).2⟩)
  have HCS := Lib.hid hcs
  clear hcs
  go_upto_region 55 with fail
  go_cut [294] from 285 to 294 (fun v wx => v = .bool (!H) ∧ wx = wc)
  case first =>
    rcases HCS.out with ⟨h3, h4⟩ | ⟨h3, h4, h5⟩ | ⟨h3, h4, h5⟩
    · have HH3 := Lib.hid h3
      clear h3
      go_wp2_with fail
      go_meet
      exact ⟨by rw [HH3.out]; rfl, rfl⟩
    · have HH3 := Lib.hid h3
      clear h3
      go_wp2_with fail
      go_meet
      exact ⟨by rw [HH3.out]; rfl, rfl⟩
    · have HH3 := Lib.hid h3
      have t1 : decide (y < 0) = false := decide_eq_false (by omega)
      have t2 : decide ((N : Int) ≤ y) = false := decide_eq_false (by omega)
      clear h3
      go_wp2_with fail
      go_meet
      exact ⟨by rw [HH3.out]; rfl, rfl⟩
  case rest =>
  obtain ⟨rfl, rfl⟩ := hcut
  go_upto_if 294 with fail
  go_cut [5, 19] from 5 to 5 (fun ev gv' wx => ev = .int .i64 (e1 : Int) ∧ gv' = .int .i64 wv ∧ Own w (PicA p mb1 mb2 mb3 gb go gc N s2 * FR) wx)
  case first =>
    rcases HCS.out with ⟨rfl, h4⟩ | ⟨rfl, h4, h5⟩ | ⟨rfl, h4, h5⟩
    rotate_right
    · obtain ⟨m, rfl⟩ : ∃ m : Nat, y = (m : Int) := ⟨y.toNat, by omega⟩
      have hgq := HGC.out m (by omega)
      have mN : (m : Int) < (N : Int) := by omega
      have m0 : (0 : Int) ≤ (m : Int) := by omega
      clear h4 h5
      go_upto_region 57 with fail
      refine wp_region_tail 8 (by kernel_rfl) (by kernel_rfl) ?_
      simp only [List.take_succ_cons, List.take_zero, List.drop_succ_cons, List.drop_zero]
      repeat still_step
      refine wpStill_nil ?_
      go_wp2_with fail
      go_meet
      exact ⟨by rw [HE1.out]; first | rfl | simp, by rw [HWV.out]; simp, HO2.out.drew⟩
    all_goals
      go_wp2_with fail
      go_meet
      exact ⟨by rw [HE1.out]; first | rfl | simp, by rw [HWV.out]; simp, HO2.out⟩
  case rest =>
  obtain ⟨rfl, rfl, ho3⟩ := hcut
  have HO3 := Lib.hid ho3
  clear ho3 HO2 d1 d2 c0 HGC
  obtain ⟨⟨d1, d2⟩, c0, hgc⟩ := HRD.out _ _ HO3.out
  clear hgc
  have tw : (wv == wv) = true := by simp
  go_wp2_with fail
  refine (pGold_any s2 y HO3.out).mono ?_
  rintro e w4 ⟨rfl, ho⟩
  rw [← HH.out, ← HWV.out, ← HE1.out]
  have HO4 := Lib.hid ho
  clear ho HO3 d1 d2 c0
  go_wp2_with fail
  refine (sameErr_any hg e1 e1 HO4.out).mono ?_
  rintro e w5 ⟨rfl, ho⟩
  rw [same_nat'' e1]
  have HO5 := Lib.hid ho
  clear ho HO4
  obtain ⟨⟨d1, d2⟩, c0, hgc⟩ := HRD.out _ _ HO5.out
  clear hgc c0
  obtain ⟨L, hL⟩ : ∃ L, L = if W = 0 then pcRow s2 y z else [] := ⟨_, rfl⟩
  have hLI : ∀ v ∈ L, I64 v := by
    rw [hL]
    intro v hv
    split at hv
    · have := (HOK.out.row y z).2 v hv; unfold I64; omega
    · cases hv
  have HL' := Lib.hid hL
  clear hL
  have HLI := Lib.hid hLI
  clear hLI
  obtain ⟨Z, hZ⟩ : ∃ Z, ((W : Int) == 0) = Z := ⟨_, rfl⟩
  go_upto_if 319 with fail
  have HZ := Lib.hid hZ
  clear hZ
  go_cut [23] from 23 to 23 (fun v wx => ∃ ad cap, v = .slice ad L.length cap ∧ Reads w FR (.slice ad L.length cap) L ∧ Own w (PicA p mb1 mb2 mb3 gb go gc N s2 * FR) wx)
  case first =>
    cases Z
    rotate_left
    · have h0 : W = 0 := by have := HZ.out; rw [beq_iff_eq] at this; omega
      obtain ⟨yy, zz, hy, hz, _, _, hy5, hz5⟩ := wayBd (s := s2) (a := y) (b := z) (by rw [HI2.out.len]; exact hN5) (by rw [HW2.out, h0])
      have hL0 : L = pcRow s2 y z := by rw [HL'.out, if_pos h0]
      obtain ⟨V, v1, v2⟩ := rp_reads (w0 := w) (q := q) HE.out hy5 hz5 (fun v hv => HLI.out v (by rw [hL0, hy, hz]; exact hv))
      have hrow : (rpOf s2 P).row yy zz = L := by rw [hL0, hy, hz]; rfl
      rw [hrow] at v2
      have e5 := v1 _ _ (show Own w (rpBlk q cs * (IntSl gv s2.gold * (starL rowP rows * (Nms 64 vb l * (emp * PicA p mb1 mb2 mb3 gb go gc N s2))))) _ from HO5.out.perm (by rw [HFR.out]; ac_rfl))
      have v3 := v2 _ _ (show Own w (starL rowP rows * (rpBlk q cs * (IntSl gv s2.gold * (Nms 64 vb l * (emp * PicA p mb1 mb2 mb3 gb go gc N s2))))) _ from HO5.out.perm (by rw [HFR.out]; ac_rfl))
      obtain ⟨ad, cap, hVs, _, _⟩ := v3.shape
      subst hVs
      have HRDS : Hid (Reads w FR (.slice ad L.length cap) L) := Lib.hid (fun w' h => by
        rw [HFR.out] at h
        exact v2 _ _ (h.perm (show _ = starL rowP rows * (rpBlk q cs * (IntSl gv s2.gold * (Nms 64 vb l * emp))) by ac_rfl)))
      obtain ⟨LL, hLL⟩ : ∃ n, n = L.length := ⟨_, rfl⟩
      rw [← hLL] at e5 HRDS
      have y0 : (0 : Int) ≤ (yy : Int) := by omega
      have y5 : (yy : Int) < 5 := by omega
      have z0 : (0 : Int) ≤ (zz : Int) := by omega
      have z5 : (zz : Int) < 5 := by omega
      rw [hy] at d1
      rw [hz] at d2
      clear v1 v2 v3
      have H0 := Lib.hid h0; have HY := Lib.hid hy; have HZ := Lib.hid hz; have HL0 := Lib.hid hL0; have HROW := Lib.hid hrow; have HLL := Lib.hid hLL
      clear h0 hy hz hL0 hrow hLL
      go_upto_region 62 with fail
      refine wp_region_tail 10 (by kernel_rfl) (by kernel_rfl) ?_
      simp only [List.take_succ_cons, List.take_zero, List.drop_succ_cons, List.drop_zero]
      repeat still_step
      refine wpStill_nil ?_
      go_wp2_with fail
      go_meet
      exact ⟨ad, cap, by rw [HLL.out], by rw [← HLL.out]; exact HRDS.out, HO5.out.drew⟩
    · have h0 : ¬ W = 0 := by have := HZ.out; rw [beq_eq_false_iff_ne] at this; omega
      have hL0 : L = [] := by rw [HL'.out, if_neg h0]
      have H0 := Lib.hid h0; have HL0 := Lib.hid hL0
      clear h0 hL0
      go_wp2_with fail
      go_meet
      exact ⟨none, 0, by rw [HL0.out]; rfl, fun w' h => by rw [HL0.out]; exact Ints_nil w', HO5.out⟩
  case rest =>
  obtain ⟨vad, vcap, rfl, hrds, ho6⟩ := hcut
  have HO6 := Lib.hid ho6
  have HRDS := Lib.hid hrds
  clear ho6 hrds d1 d2 HO5
  obtain ⟨⟨d1, d2⟩, c0, hgc⟩ := HRD.out _ _ HO6.out
  clear hgc c0
  go_wp2_with fail
  refine (pOnWay_any s2 y z HOK.out HO6.out).mono ?_
  rintro e w7 ⟨v7, rfl, ho⟩
  rw [HW2.out, ← HL'.out] at ho
  rw [HW2.out]
  have HO7 := Lib.hid ho
  clear ho d1 d2 HO6
  go_wp2_with fail
  refine (sameErr_any hg W W HO7.out).mono ?_
  rintro e w8 ⟨rfl, ho⟩
  rw [same_nat'' W]
  have HO8 := Lib.hid ho
  clear ho HO7
  go_wp2_with fail
  refine (sameInts_any v7 (.slice vad L.length vcap) L L _ (IntSl_reads HLI.out _ HO8.out) (HRDS.out _ HO8.out.drop.drop)).mono ?_
  rintro e w' ⟨rfl, n6, rfl⟩
  rw [show (L == L) = true from beq_iff_eq.2 rfl]
  have HO9 : Hid (Own w (PicA p mb1 mb2 mb3 gb go gc N s2 * FR) (w8.drewN n6)) := Lib.hid (HO8.out.drewN n6).drop
  obtain ⟨wn, hwn⟩ : ∃ w', w' = w8.drewN n6 := ⟨_, rfl⟩
  rw [← hwn] at HO9 ⊢
  clear HO8 hwn
  obtain ⟨D, hD⟩ : ∃ D, D = pcDone s2 := ⟨_, rfl⟩
  have HD := Lib.hid hD
  clear hD
  go_wp2_with fail
  refine (rpDone_any q s2 HI2.out.inv (HFRC.out _ _ HO9.out)).mono ?_
  rintro e w9 ⟨rfl, rfl⟩
  rw [← HD.out]
  obtain ⟨b27, hb_b27⟩ : ∃ zz_, zz_ = (wn).heap.size := ⟨_, rfl⟩
  obtain ⟨wa, hw_wa⟩ : ∃ zz_, zz_ = (wn).alloc (.cells #[.int .i64 0, .int .i64 0] 75 (0, 0)) := ⟨_, rfl⟩
  have h_HBA := (HO9.out).alloc (.cells #[.int .i64 0, .int .i64 0] 75 (0, 0))
  rw [← hb_b27, ← hw_wa] at h_HBA
  have HBA := Lib.hid h_HBA
  clear h_HBA
  have HOA : Hid (Own w (SumB b27 0 0 * (rpBlk q cs * (IntSl gv s2.gold * (starL rowP rows * (Nms 64 vb l * (emp * PicA p mb1 mb2 mb3 gb go gc N s2)))))) wa) := Lib.hid (HBA.out.perm (by rw [HFR.out]; unfold SumB; ac_rfl))
  clear HBA HO9
  obtain ⟨sh, hsh⟩ : ∃ x, x = if pcDone s2 = true then pcHad s2 else 0 := ⟨_, rfl⟩
  obtain ⟨so, hso⟩ : ∃ x, x = if pcDone s2 = true then s2.onWay else 0 := ⟨_, rfl⟩
  obtain ⟨e6, he6⟩ : ∃ x : Nat, x = if pcDone s2 = true then 0 else 6 := ⟨_, rfl⟩
  have HSH := Lib.hid hsh; have HSO := Lib.hid hso; have HE6 := Lib.hid he6
  clear hsh hso he6
  go_upto_if 349 with fail
  rw [← hb_b27, ← hw_wa]
  clear hb_b27 hw_wa
  go_cut [5] from 5 to 5 (fun v wx => v = .int .i64 (e6 : Int) ∧ Own w (SumB b27 sh so * (PicA p mb1 mb2 mb3 gb go gc N s2 * FR)) wx)
  case first =>
    refine ppSum w q b27 N all s2 HI2.out hall hN5 gad gcap D HD.out cs gv rows P HE _ HOA ?_
    intros
    rename_i hpp
    go_step
    go_step
    go_meet
    exact ⟨by rw [HE6.out]; exact hpp.1, by rw [HSH.out, HSO.out, HFR.out]; exact hpp.2.perm (by ac_rfl)⟩
  case rest =>
  obtain ⟨rfl, hob⟩ := hcut
  have HOB : Hid (Own w (PicA p mb1 mb2 mb3 gb go gc N s2 * (SumB b27 sh so * FR)) wc) := Lib.hid (hob.perm (by ac_rfl))
  clear hob HOA
  go_wp2_with fail
  refine (pSum_any s2 HOK.out HOB.out).mono ?_
  rintro e wd ⟨rfl, ho⟩
  rw [← HSH.out, ← HSO.out, ← HE6.out]
  obtain ⟨b29, hb_b29⟩ : ∃ zz_, zz_ = (wd).heap.size := ⟨_, rfl⟩
  obtain ⟨we, hw_we⟩ : ∃ zz_, zz_ = (wd).alloc (.cells #[.int .i64 sh, .int .i64 so] 75 (0, 0)) := ⟨_, rfl⟩
  have h_HBE := (ho).alloc (.cells #[.int .i64 sh, .int .i64 so] 75 (0, 0))
  rw [← hb_b29, ← hw_we] at h_HBE
  have HBE := Lib.hid h_HBE
  clear h_HBE
  have HOE : Hid (Own w (SumB b29 sh so * (SumB b27 sh so * (PicA p mb1 mb2 mb3 gb go gc N s2 * FR))) we) := Lib.hid (HBE.out.perm (by unfold SumB; ac_rfl))
  clear ho HBE HOB
  go_upto_region 76 with fail
  rw [← hb_b29, ← hw_we]
  clear hb_b29 hw_we
  go_wp2_with fail
  refine (sameErr_any hg e6 e6 HOE.out).mono ?_
  rintro e wf ⟨rfl, ho⟩
  rw [same_nat'' e6]
  obtain ⟨x0, x1, _⟩ := ho.sumb
  obtain ⟨y0, y1, _⟩ := ho.second.sumb
  have HOF2 : Hid (Own w (PicA p mb1 mb2 mb3 gb go gc N s2 * FR) wf) := Lib.hid ho.drop.drop
  have tsh : (sh == sh) = true := by simp
  have tso : (so == so) = true := by simp
  have tdd : (D != D) = false := by simp
  clear ho HOE
  go_wp2_with fail
  refine (pDone_any s2 HOF2.out).mono ?_
  rintro e wg ⟨rfl, ho⟩
  rw [← HD.out]
  have HEND : Hid (Own w (PicA p mb1 mb2 mb3 gb go gc N s2 * (RpP q s2 * emp)) wg) := Lib.hid ((HFRC.out _ _ ho).perm (show _ = Nms 64 vb l * (PicA p mb1 mb2 mb3 gb go gc N s2 * (RpP q s2 * emp)) by ac_rfl)).drop
  clear ho HOF2 x0 x1 y0 y1
  go_wp2_with fail
  apply HK.out
  exact ⟨s2, HI2.out, HEND.out⟩
end Go.Proofs.YtpgonkecicmanaaDoor
/- PictureKeeps, plainly: what steps keep; rounds, one after the other. -/
namespace Go.Proofs.YtpgonkecicmanaaDoor
set_option linter.unusedVariables false
set_option linter.unusedSimpArgs false
open Go.RowKit Go.Maps
theorem pay_keep (s : Pic) (a b n : Int) : (pcPay s a b n).begun = s.begun ∧ (pcPay s a b n).gold.length = s.gold.length := by
  unfold pcPay
  split
  · exact ⟨rfl, by simp⟩
  · exact ⟨rfl, rfl⟩
theorem write_keep (s : Pic) (who : Int) : (pcWrite s who).begun = s.begun ∧ (pcWrite s who).gold = s.gold := by
  have h := write_out s who
  exact ⟨h.begun, h.gold⟩
theorem begin_keep (s : Pic) (who : Int) : (pcBegin s who).begun = (decide (pcBeginErr s who = 0) || s.begun) ∧ (pcBegin s who).gold.length = s.gold.length := by
  unfold pcBegin
  split
  · rename_i h
    have := write_keep { s with begun := true } who
    exact ⟨by rw [this.1, decide_eq_true h]; rfl, by rw [this.2]⟩
  · rename_i h
    exact ⟨by rw [decide_eq_false h]; rfl, rfl⟩
theorem pcIt_all {s : Pic} {a b : Int} {k : Nat} (hk : k ≤ 60) (h : pcComeErr (pcIt s a b k) a b ≠ 0) : pcIt s a b 60 = pcIt s a b k := by
  have := pcIt_stop h (60 - k)
  rwa [show k + (60 - k) = 60 by omega] at this
def pcDrainAk (k : Nat) (a : Int) (s : Pic) : Pic := (memN k).foldl (fun s b => pcIt s a b 60) s
theorem pcDrainAk_next (k : Nat) (a : Int) (s : Pic) : pcDrainAk (k + 1) a s = pcIt (pcDrainAk k a s) a k 60 := by unfold pcDrainAk; rw [memN_snoc, List.foldl_append, List.foldl_cons, List.foldl_nil]
def pcDrainK (n k : Nat) (s : Pic) : Pic := (memN k).foldl (fun s a => pcDrainA n a s) s
theorem pcDrainK_next (n k : Nat) (s : Pic) : pcDrainK n (k + 1) s = pcDrainAk n k (pcDrainK n k s) := by unfold pcDrainK; rw [memN_snoc, List.foldl_append, List.foldl_cons, List.foldl_nil]; exact rfl
def pcRounds (n : Nat) (s : Pic) : Nat → Pic
  | 0 => s
  | k + 1 => pcDrainK n n (pcRounds n s k)
structure PkI (all : Int) (n : Nat) (s : Pic) : Prop where
  inv : PcInv all s
  len : s.gold.length = n
theorem PkI.come {all : Int} {n : Nat} {s : Pic} (h : PkI all n s) (a b : Int) : PkI all n (pcCome s a b) := ⟨h.inv.come a b, (h.inv.come_len a b).1.trans h.len⟩
theorem PkI.it {all : Int} {n : Nat} {s : Pic} (h : PkI all n s) (a b : Int) (k : Nat) : PkI all n (pcIt s a b k) := it_keep (I := PkI all n) (fun _ a b h => h.come a b) h a b k
theorem PkI.drainAk {all : Int} {n : Nat} {s : Pic} (h : PkI all n s) (k : Nat) (a : Int) : PkI all n (pcDrainAk k a s) := fold_keep _ (PkI all n) (fun _ b h => h.it a b 60) _ s h
theorem PkI.drainK {all : Int} {n : Nat} {s : Pic} (h : PkI all n s) (m k : Nat) : PkI all n (pcDrainK m k s) := fold_keep _ (PkI all n) (fun _ a h => h.drainAk m a) _ s h
theorem PkI.rounds {all : Int} {n : Nat} {s : Pic} (h : PkI all n s) (m : Nat) : ∀ k, PkI all n (pcRounds m s k)
  | 0 => h
  | k + 1 => (h.rounds m k).drainK m m
theorem PkI.pay {all : Int} {n : Nat} {s : Pic} (h : PkI all n s) (a b x : Int) : PkI all n (pcPay s a b x) := ⟨h.inv.pay a b x, (pay_keep s a b x).2.trans h.len⟩
theorem PkI.begin {all : Int} {n : Nat} {s : Pic} (h : PkI all n s) (who : Int) : PkI all n (pcBegin s who) := ⟨h.inv.begin who, (begin_keep s who).2.trans h.len⟩
theorem PkI.end3 {all : Int} {n : Nat} {s : Pic} (h : PkI all n s) : (pcRounds n s 3).gold.sum = all ∧ pcDone (pcRounds n s 3) = s.begun := by
  obtain ⟨t, ht, _, _, h1, h2⟩ := drain_three h.inv h.len
  have : pcRounds n s 3 = t := by rw [ht]; rfl
  rw [this]
  exact ⟨h1, h2⟩
theorem gold_take (s : Pic) (k : Nat) (hk : k < s.gold.length) : (s.gold.take (k + 1)).sum = (s.gold.take k).sum + pcG s k := by
  rw [List.take_succ_eq_append_getElem hk, List.sum_append]
  unfold pcG gAt
  rw [if_pos (by omega), Int.toNat_natCast, List.getD_eq_getElem?_getD, List.getElem?_eq_getElem hk]
  simp
theorem take_sum_bd {l : List Int} (h : ∀ x ∈ l, 0 ≤ x ∧ x ≤ 1000000) (k : Nat) : 0 ≤ (l.take k).sum ∧ (l.take k).sum ≤ 1000000 * k := by
  induction k with
  | zero => simp
  | succ k ih =>
    by_cases hk : k < l.length
    · rw [List.take_succ_eq_append_getElem hk, List.sum_append]
      have := h l[k] (List.getElem_mem hk)
      simp
      omega
    · rw [List.take_of_length_le (by omega)]
      rw [List.take_of_length_le (by omega)] at ih
      omega
theorem gold_small {l : List Int} (h : ∀ x ∈ l, 0 ≤ x ∧ x ≤ 1000) (hl : l.length ≤ 5) : 0 ≤ l.sum ∧ l.sum ≤ 5000 := by
  match l, hl with
  | [], _ => simp
  | [a], _ => have := h a (by simp); simp; omega
  | [a, b], _ => have := h a (by simp); have := h b (by simp); simp; omega
  | [a, b, c], _ => have := h a (by simp); have := h b (by simp); have := h c (by simp); simp; omega
  | [a, b, c, d], _ => have := h a (by simp); have := h b (by simp); have := h c (by simp); have := h d (by simp); simp; omega
  | [a, b, c, d, e], _ => have := h a (by simp); have := h b (by simp); have := h c (by simp); have := h d (by simp); have := h e (by simp); simp; omega
/-! ### The example -/
def pkF1 : Pic := pcPay (pcNew [5, 0]) 0 1 2
def pkF2 : Pic := pcBegin pkF1 1
def pkF3 : Pic := pcCome pkF2 1 0
def pkF4 : Pic := pcCome pkF3 0 1
def pkF5 : Pic := pcCome pkF4 0 1
theorem pk_facts : pcPayErr (pcNew [5, 0]) 0 1 2 = 0 ∧ pcBeginErr pkF1 1 = 0 ∧ pcComeErr pkF2 1 0 = 0 ∧ pcComeErr pkF3 0 1 = 0 ∧ pcComeVal pkF3 0 1 = 2 ∧ pcComeErr pkF4 0 1 = 0 ∧ pcComeVal pkF4 0 1 = 0 ∧ pcDone pkF5 = true ∧ pcHad pkF5 = 3 ∧ pkF5.onWay = 2 := by decide +kernel
theorem pk_inv : PcInv 5 (pcNew [5, 0]) ∧ PcInv 5 pkF1 ∧ PcInv 5 pkF2 ∧ PcInv 5 pkF3 ∧ PcInv 5 pkF4 ∧ PcInv 5 pkF5 := by
  have h0 : PcInv 5 (pcNew [5, 0]) := pcInv_new [5, 0] (by decide) (by decide)
  exact ⟨h0, h0.pay 0 1 2, (h0.pay 0 1 2).begin 1, ((h0.pay 0 1 2).begin 1).come 1 0, (((h0.pay 0 1 2).begin 1).come 1 0).come 0 1, ((((h0.pay 0 1 2).begin 1).come 1 0).come 0 1).come 0 1⟩
end Go.Proofs.YtpgonkecicmanaaDoor
/- The package-level variable errors.errorType as the rows list it: what a walk has of it; a world that meets it. (After the guide's Toyas example.) -/
namespace Go.Proofs.YtpgonkecicmanaaDoor
set_option linter.unusedVariables false
set_option linter.unusedSimpArgs false
open Go.ChangeShapes Go.WideShapes Go.RowKit
theorem errt : Tryd.prog.globalNamed "errors.errorType" = some 0 := by kernel_rfl
theorem rtt : (Tryd.prog.cutTypes.find? (·.1 == "internal/reflectlite.rtype")).map (·.2) = some 228 := by kernel_rfl
theorem oneRow : ((List.range 287).filter fun t => Tryd.prog.rowNamed t [101, 114, 114, 111, 114]) = [25] := by kernel_rfl
theorem typesSize : Tryd.prog.types.size = 287 := by kernel_rfl
def theLaid : List (String × DataW Unit) := [("errors.errorType", Rows.laid_errors_errorType)]
theorem handle_of_laid {W : World} (h : laidMetH Tryd.prog theLaid W) : As.Handle W := by
  have h' : laidMet Tryd.prog [] W ∧ handlesMet Tryd.prog theLaid W := h
  obtain ⟨name, u, ty, e1, e2, e3, e4, e5⟩ := h'.2 _ (List.mem_singleton.2 rfl)
  have en : name = [101, 114, 114, 111, 114] := (Option.some.inj e1).symm
  subst en
  obtain rfl := Option.some.inj (rtt.symm.trans e2)
  have hm : ty ∈ (List.range 287).filter fun t => Tryd.prog.rowNamed t [101, 114, 114, 111, 114] := List.mem_filter.2 ⟨List.mem_range.2 (by rw [← typesSize]; exact e3), e4⟩
  rw [oneRow] at hm
  obtain rfl := List.mem_singleton.1 hm
  have hh : typeHandle Tryd.prog 25 = .pointer (some ⟨5, 25, none⟩) := by kernel_rfl
  rw [hh] at e5
  unfold As.Handle
  simpa using World.var?_cell errt e5 0
def laidWorld (P : Program) (os : Os) : World :=
  { World.holding P os ⟨#[], #[], []⟩ with heap := (World.holding P os ⟨#[], #[], []⟩).heap.setIfInBounds 0 (.cells #[.iface 228 (.agg #[.pointer (some ⟨5, 25, none⟩)])] 205 (0, 0)) }
theorem laidWorld_met (os : Os) (args : Array Value) : laidMetH Tryd.prog theLaid ((laidWorld Tryd.prog os).forCall (fun _ _ => 0) ⟨#[], args, []⟩).memory :=
  laidMetH_of_parts (laidMet_nil _ _) (by kernel_rfl)
end Go.Proofs.YtpgonkecicmanaaDoor
