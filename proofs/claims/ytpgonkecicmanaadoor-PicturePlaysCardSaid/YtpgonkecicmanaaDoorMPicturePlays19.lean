/- PicturePlays: the new picture of the reference; all rounds. -/
import Derived.Test.YtpgonkecicmanaaDoorMPicturePlays18
import Derived.Test.YtpgonkecicmanaaDoorMPicturePlays0
import Derived.Test.YtpgonkecicmanaaDoorProg
import Derived.ProofKit
import Derived.OpenShut
import Derived.ShutString
import Derived.ChangeOld
import Derived.Deep.Slices
import Derived.SizedLaws
import Derived.KernelRfl
namespace Go.Proofs.YtpgonkecicmanaaDoor
set_option linter.unusedVariables false
set_option linter.unusedSimpArgs false
open Go.RowKit Go.Maps
def rp0 (gv : Value) : List Value := gv :: (List.replicate 25 (.slice none 0 0) ++ (List.replicate 6 (.bool false) ++ (List.replicate 5 (.int .i64 0) ++ (List.replicate 25 (.bool false) ++ List.replicate 26 (.int .i64 0)))))
theorem rp0_at (gv : Value) (i : Nat) (hi : 1 ≤ i) (h2 : i < 88) : (rp0 gv).toArray[i]? = some (if i < 26 then .slice none 0 0 else if i < 32 then .bool false else if i < 37 then .int .i64 0 else if i < 62 then .bool false else .int .i64 0) := by
  rw [List.getElem?_toArray]
  unfold rp0
  obtain ⟨j, rfl⟩ : ∃ j, i = j + 1 := ⟨i - 1, by omega⟩
  rw [List.getElem?_cons_succ]
  by_cases h : j < 25
  · rw [List.getElem?_append_left (by rw [List.length_replicate]; omega), List.getElem?_replicate, if_pos h, if_pos (by omega)]
  rw [List.getElem?_append_right (by rw [List.length_replicate]; omega), List.length_replicate, if_neg (by omega)]
  by_cases h : j < 31
  · rw [List.getElem?_append_left (by rw [List.length_replicate]; omega), List.getElem?_replicate, if_pos (by omega), if_pos (by omega)]
  rw [List.getElem?_append_right (by rw [List.length_replicate]; omega), List.length_replicate, if_neg (by omega)]
  by_cases h : j < 36
  · rw [List.getElem?_append_left (by rw [List.length_replicate]; omega), List.getElem?_replicate, if_pos (by omega), if_pos (by omega)]
  rw [List.getElem?_append_right (by rw [List.length_replicate]; omega), List.length_replicate, if_neg (by omega)]
  by_cases h : j < 61
  · rw [List.getElem?_append_left (by rw [List.length_replicate]; omega), List.getElem?_replicate, if_pos (by omega), if_pos (by omega)]
  rw [List.getElem?_append_right (by rw [List.length_replicate]; omega), List.length_replicate, if_neg (by omega), List.getElem?_replicate, if_pos (by omega)]
theorem rp0_is (gv : Value) (gold : List Int) : RpC (rp0 gv).toArray gv (List.replicate 25 nilRow) (rpOf (pcNew gold) fun _ _ => 0) where
  size := by rw [List.size_toArray]; unfold rp0; rw [List.length_cons, List.length_append, List.length_append, List.length_append, List.length_append, List.length_replicate, List.length_replicate, List.length_replicate, List.length_replicate, List.length_replicate]
  len := List.length_replicate
  gold := by rw [List.getElem?_toArray]; unfold rp0; rw [List.getElem?_cons_zero]
  ways := fun a b ha hb => by rw [rp0_at gv _ (by omega) (by omega), if_pos (by omega), List.getElem?_replicate, if_pos (by omega)]; rfl
  rl := fun a b ha hb => by rw [List.getElem?_replicate, if_pos (by omega)]; rfl
  begun := by rw [rp0_at gv _ (by omega) (by omega), if_neg (by omega), if_pos (by omega)]; rfl
  has := fun m hm => by rw [rp0_at gv _ (by omega) (by omega), if_neg (by omega), if_pos (by omega)]; rfl
  wrote := fun m hm => by rw [rp0_at gv _ (by omega) (by omega), if_neg (by omega), if_neg (by omega), if_pos (by omega)]; rfl
  opn := fun a b ha hb => by rw [rp0_at gv _ (by omega) (by omega), if_neg (by omega), if_neg (by omega), if_neg (by omega), if_pos (by omega)]; rfl
  on := by rw [rp0_at gv _ (by omega) (by omega), if_neg (by omega), if_neg (by omega), if_neg (by omega), if_neg (by omega)]; rfl
  part := fun a b ha hb => by rw [rp0_at gv _ (by omega) (by omega), if_neg (by omega), if_neg (by omega), if_neg (by omega), if_neg (by omega)]; rfl
theorem rp_zero : Tryd.zeroCells63 = (rp0 (.slice none 0 0)).toArray := by kernel_rfl
theorem rp0_set (v : Value) : (rp0 (.slice none 0 0)).toArray.setIfInBounds 0 v = (rp0 v).toArray := rfl
theorem rows_nils (n : Nat) : starL rowP (List.replicate n nilRow) = emp := by
  induction n with
  | zero => rfl
  | succ n ih => rw [List.replicate_succ]; simp only [starL]; rw [rowP_nil, ih, emp_star]
theorem newBad_eq (gold : List Int) : newBad gold = (!isGroup (gold.length : Int) || gold.any fun n => !isGold n) := rfl
noncomputable def ppLoop_code : Code := ((Tryd.f4.body.bind (findBlock 2)).getD .skip)
set_option maxRecDepth 1000000 in
set_option maxHeartbeats 4000000 in
theorem ppLoop {Q : Exit → Act → World → Prop} {u2 u3 u4 u5 u6 u8 u9 u12 u13 u14 u15 u16 u17 u18 u19 u20 u21 u22 u23 u24 u25 u26 u27 u28 u29 u30 u31 u32 u33 u34 u35 u36 u37 u38 u39 u40 u41 u42 u43 u44 u45 u46 u47 u48 u49 u50 u51 u52 u53 u54 u55 u56 u57 u58 u59 u60 u61 u62 u63 u64 u65 u66 u67 u68 u69 u70 u71 u72 u73 u74 u75 u76 u77 u78 u79 u80 u81 u82 u83 u84 u85 u86 u87 u88 u89 u90 u91 u92 u93 u94 u95 u96 u97 u98 u99 u100 u101 u102 u103 u104 u105 u106 u107 u108 u109 u110 u111 u112 u113 u114 u115 u116 u117 u118 u119 u120 u121 u122 u123 u124 u125 u126 u127 u128 u129 u130 u131 u132 u133 u134 u135 u136 u137 u138 u139 u140 u141 u142 u143 u144 u145 u146 u147 u148 u149 u150 u151 u152 u153 u154 u155 u156 u157 u158 u159 u160 u161 u162 u163 u164 u165 u166 u167 u168 u169 u170 u171 u172 u173 u174 u175 u176 u177 u178 u179 u180 u181 u182 u183 u184 u185 u186 u187 u188 u189 u190 u191 u192 u193 u194 u195 u196 u197 u198 u199 u200 u201 u202 u203 u204 u205 u206 u207 u208 u209 u210 u211 u212 u213 u214 u215 u216 u217 u218 u219 u220 u221 u222 u223 u224 u225 u226 u227 u228 u229 u230 u231 u232 u233 u234 u235 u236 u237 u238 u239 u240 u241 u242 u243 u244 u245 u246 u247 u248 u249 u250 u251 u252 u253 u254 u255 u256 u257 u258 u259 u260 u261 u262 u263 u264 u265 u266 u267 u268 u269 u270 u271 u272 u273 u274 u275 u276 u277 u278 u279 u280 u281 u282 u283 u284 u285 u286 u287 u288 u289 u290 u291 u292 u293 u294 u295 u296 u297 u298 u299 u300 u301 u302 u303 u304 u305 u306 u307 u308 u309 u310 u311 u312 u313 u314 u315 u316 u317 u318 u319 u320 u321 u322 u323 u324 u325 u326 u327 u328 u329 u330 u331 u332 u333 u334 u335 u336 u337 u338 u339 u340 u341 u342 u343 u344 u345 u346 u347 u348 u349 u350 u351 u352 u353 u354 u355 u356 u357 u358 u359 u360 u361 u362 u363 u364 u365 u366 u367 u368 u369 u370 u371 u372 u373 u374 u375 u376 u377 u378 u379 u380 u381 u382 u383 u384 u385 u386 u387 u388 u389 u390 u391 u392 u393 u394 u395 u396 u397 u398 u399 u400 u401 u402 u403 : Value} {w1 : World} (w : World) (hg : As.Handle w) {p mb1 mb2 mb3 gb go gc : Nat} (q N : Nat) (all : Int) (gold : List Int) (hI : PpI all N (pcNew gold)) (hall : all ≤ 1000000) (hN2 : 2 ≤ N) (hN5 : N ≤ 5) (gad : Option Addr) (gcap : Nat) (steps : List (List Int)) (sad : Option Addr) (scap : Nat) (hsc1 : steps.length ≤ scap) (hsc2 : scap ≤ 9223372036854775807) (HVS : Hid (Rows2 w (.slice sad steps.length scap) steps)) (HP : Hid (Own w (PicA p mb1 mb2 mb3 gb go gc N (pcNew gold) * (RpP q (pcNew gold) * emp)) w1))
    (hK : ∀ (v4 v5 v9 v11 v12 v13 v14 v15 v16 v17 v18 v19 v20 v21 v22 v23 v24 v25 v26 v27 v28 v29 v30 v87 v88 v89 v90 v91 v92 v93 v94 v95 v96 v97 v98 v99 v100 v101 v102 v103 v104 v105 v106 v107 v108 v109 v110 v111 v112 v113 v114 v115 v116 v117 v118 v119 v120 v121 v122 v123 v124 v125 v126 v127 v128 v129 v130 v131 v132 v133 v134 v135 v136 v137 v138 v139 v140 v141 v142 v143 v144 v145 v146 v147 v148 v149 v150 v151 v152 v153 v154 v155 v156 v157 v158 v159 v160 v161 v162 v163 v164 v165 v166 v167 v168 v169 v170 v171 v172 v173 v174 v175 v176 v177 v178 v179 v180 v181 v182 v183 v184 v185 v186 v187 v188 v189 v190 v191 v192 v193 v194 v195 v196 v197 v198 v199 v200 v201 v202 v203 v204 v205 v206 v207 v208 v209 v210 v211 v212 v213 v214 v215 v216 v217 v218 v219 v220 v221 v222 v223 v224 v225 v226 v227 v228 v229 v230 v231 v232 v233 v234 v235 v236 v237 v238 v239 v240 v241 v242 v243 v244 v245 v246 v247 v248 v249 v250 v251 v252 v253 v254 v255 v256 v257 v258 v259 v260 v261 v262 v263 v264 v265 v266 v267 v268 v269 v270 v271 v272 v273 v274 v275 v276 v277 v278 v279 v280 v281 v282 v283 v284 v285 v286 v287 v288 v289 v290 v291 v292 v293 v294 v295 v296 v297 v298 v299 v300 v301 v302 v303 v304 v305 v306 v307 v308 v309 v310 v311 v312 v313 v314 v315 v316 v317 v318 v319 v320 v321 v322 v323 v324 v325 v326 v327 v328 v329 v330 v331 v332 v333 v334 v335 v336 v337 v338 v339 v340 v341 v342 v343 v344 v345 v346 v347 v348 v349 v350 v351 v352 v353 v354 v355 v356 v357 v358 v359 v360 v361 v362 v363 v364 v365 v366 v367 v368 v369 v370 v371 v372 v373 v374 v375 v376 v377 v378 v379 v380 v381 v382 v383 v384 v385 v386 v387 v388 v389 v390 v391 v392 v393 v394 v395 v396 v397 v398 v399 v400 v401 v402 v403 : Value) (wx : World), (Below w.heap.size w wx) → Q .normal ⟨List.toArray ((.slice gad N gcap) :: (.slice sad steps.length scap) :: u2 :: u3 :: v4 :: v5 :: u6 :: (.pointer (some ⟨p, 0, none⟩)) :: u8 :: v9 :: (.pointer (some ⟨q, 0, none⟩)) :: v11 :: v12 :: v13 :: v14 :: v15 :: v16 :: v17 :: v18 :: v19 :: v20 :: v21 :: v22 :: v23 :: v24 :: v25 :: v26 :: v27 :: v28 :: v29 :: v30 :: u31 :: u32 :: u33 :: u34 :: u35 :: u36 :: u37 :: u38 :: u39 :: u40 :: u41 :: u42 :: u43 :: u44 :: u45 :: u46 :: u47 :: u48 :: u49 :: u50 :: u51 :: u52 :: u53 :: u54 :: u55 :: u56 :: u57 :: u58 :: u59 :: u60 :: u61 :: u62 :: u63 :: u64 :: u65 :: u66 :: u67 :: u68 :: u69 :: u70 :: u71 :: u72 :: u73 :: u74 :: u75 :: u76 :: u77 :: u78 :: u79 :: u80 :: u81 :: u82 :: u83 :: u84 :: u85 :: u86 :: v87 :: v88 :: v89 :: v90 :: v91 :: v92 :: v93 :: v94 :: v95 :: v96 :: v97 :: v98 :: v99 :: v100 :: v101 :: v102 :: v103 :: v104 :: v105 :: v106 :: v107 :: v108 :: v109 :: v110 :: v111 :: v112 :: v113 :: v114 :: v115 :: v116 :: v117 :: v118 :: v119 :: v120 :: v121 :: v122 :: v123 :: v124 :: v125 :: v126 :: v127 :: v128 :: v129 :: v130 :: v131 :: v132 :: v133 :: v134 :: v135 :: v136 :: v137 :: v138 :: v139 :: v140 :: v141 :: v142 :: v143 :: v144 :: v145 :: v146 :: v147 :: v148 :: v149 :: v150 :: v151 :: v152 :: v153 :: v154 :: v155 :: v156 :: v157 :: v158 :: v159 :: v160 :: v161 :: v162 :: v163 :: v164 :: v165 :: v166 :: v167 :: v168 :: v169 :: v170 :: v171 :: v172 :: v173 :: v174 :: v175 :: v176 :: v177 :: v178 :: v179 :: v180 :: v181 :: v182 :: v183 :: v184 :: v185 :: v186 :: v187 :: v188 :: v189 :: v190 :: v191 :: v192 :: v193 :: v194 :: v195 :: v196 :: v197 :: v198 :: v199 :: v200 :: v201 :: v202 :: v203 :: v204 :: v205 :: v206 :: v207 :: v208 :: v209 :: v210 :: v211 :: v212 :: v213 :: v214 :: v215 :: v216 :: v217 :: v218 :: v219 :: v220 :: v221 :: v222 :: v223 :: v224 :: v225 :: v226 :: v227 :: v228 :: v229 :: v230 :: v231 :: v232 :: v233 :: v234 :: v235 :: v236 :: v237 :: v238 :: v239 :: v240 :: v241 :: v242 :: v243 :: v244 :: v245 :: v246 :: v247 :: v248 :: v249 :: v250 :: v251 :: v252 :: v253 :: v254 :: v255 :: v256 :: v257 :: v258 :: v259 :: v260 :: v261 :: v262 :: v263 :: v264 :: v265 :: v266 :: v267 :: v268 :: v269 :: v270 :: v271 :: v272 :: v273 :: v274 :: v275 :: v276 :: v277 :: v278 :: v279 :: v280 :: v281 :: v282 :: v283 :: v284 :: v285 :: v286 :: v287 :: v288 :: v289 :: v290 :: v291 :: v292 :: v293 :: v294 :: v295 :: v296 :: v297 :: v298 :: v299 :: v300 :: v301 :: v302 :: v303 :: v304 :: v305 :: v306 :: v307 :: v308 :: v309 :: v310 :: v311 :: v312 :: v313 :: v314 :: v315 :: v316 :: v317 :: v318 :: v319 :: v320 :: v321 :: v322 :: v323 :: v324 :: v325 :: v326 :: v327 :: v328 :: v329 :: v330 :: v331 :: v332 :: v333 :: v334 :: v335 :: v336 :: v337 :: v338 :: v339 :: v340 :: v341 :: v342 :: v343 :: v344 :: v345 :: v346 :: v347 :: v348 :: v349 :: v350 :: v351 :: v352 :: v353 :: v354 :: v355 :: v356 :: v357 :: v358 :: v359 :: v360 :: v361 :: v362 :: v363 :: v364 :: v365 :: v366 :: v367 :: v368 :: v369 :: v370 :: v371 :: v372 :: v373 :: v374 :: v375 :: v376 :: v377 :: v378 :: v379 :: v380 :: v381 :: v382 :: v383 :: v384 :: v385 :: v386 :: v387 :: v388 :: v389 :: v390 :: v391 :: v392 :: v393 :: v394 :: v395 :: v396 :: v397 :: v398 :: v399 :: v400 :: v401 :: v402 :: v403 :: []), []⟩ wx) :
    Code.wp Tryd.prog ppLoop_code Q ⟨List.toArray ((.slice gad N gcap) :: (.slice sad steps.length scap) :: u2 :: u3 :: u4 :: u5 :: u6 :: (.pointer (some ⟨p, 0, none⟩)) :: u8 :: u9 :: (.pointer (some ⟨q, 0, none⟩)) :: (.int .i64 0) :: u12 :: u13 :: u14 :: u15 :: u16 :: u17 :: u18 :: u19 :: u20 :: u21 :: u22 :: u23 :: u24 :: u25 :: u26 :: u27 :: u28 :: u29 :: u30 :: u31 :: u32 :: u33 :: u34 :: u35 :: u36 :: u37 :: u38 :: u39 :: u40 :: u41 :: u42 :: u43 :: u44 :: u45 :: u46 :: u47 :: u48 :: u49 :: u50 :: u51 :: u52 :: u53 :: u54 :: u55 :: u56 :: u57 :: u58 :: u59 :: u60 :: u61 :: u62 :: u63 :: u64 :: u65 :: u66 :: u67 :: u68 :: u69 :: u70 :: u71 :: u72 :: u73 :: u74 :: u75 :: u76 :: u77 :: u78 :: u79 :: u80 :: u81 :: u82 :: u83 :: u84 :: u85 :: u86 :: u87 :: u88 :: u89 :: u90 :: u91 :: u92 :: u93 :: u94 :: u95 :: u96 :: u97 :: u98 :: u99 :: u100 :: u101 :: u102 :: u103 :: u104 :: u105 :: u106 :: u107 :: u108 :: u109 :: u110 :: u111 :: u112 :: u113 :: u114 :: u115 :: u116 :: u117 :: u118 :: u119 :: u120 :: u121 :: u122 :: u123 :: u124 :: u125 :: u126 :: u127 :: u128 :: u129 :: u130 :: u131 :: u132 :: u133 :: u134 :: u135 :: u136 :: u137 :: u138 :: u139 :: u140 :: u141 :: u142 :: u143 :: u144 :: u145 :: u146 :: u147 :: u148 :: u149 :: u150 :: u151 :: u152 :: u153 :: u154 :: u155 :: u156 :: u157 :: u158 :: u159 :: u160 :: u161 :: u162 :: u163 :: u164 :: u165 :: u166 :: u167 :: u168 :: u169 :: u170 :: u171 :: u172 :: u173 :: u174 :: u175 :: u176 :: u177 :: u178 :: u179 :: u180 :: u181 :: u182 :: u183 :: u184 :: u185 :: u186 :: u187 :: u188 :: u189 :: u190 :: u191 :: u192 :: u193 :: u194 :: u195 :: u196 :: u197 :: u198 :: u199 :: u200 :: u201 :: u202 :: u203 :: u204 :: u205 :: u206 :: u207 :: u208 :: u209 :: u210 :: u211 :: u212 :: u213 :: u214 :: u215 :: u216 :: u217 :: u218 :: u219 :: u220 :: u221 :: u222 :: u223 :: u224 :: u225 :: u226 :: u227 :: u228 :: u229 :: u230 :: u231 :: u232 :: u233 :: u234 :: u235 :: u236 :: u237 :: u238 :: u239 :: u240 :: u241 :: u242 :: u243 :: u244 :: u245 :: u246 :: u247 :: u248 :: u249 :: u250 :: u251 :: u252 :: u253 :: u254 :: u255 :: u256 :: u257 :: u258 :: u259 :: u260 :: u261 :: u262 :: u263 :: u264 :: u265 :: u266 :: u267 :: u268 :: u269 :: u270 :: u271 :: u272 :: u273 :: u274 :: u275 :: u276 :: u277 :: u278 :: u279 :: u280 :: u281 :: u282 :: u283 :: u284 :: u285 :: u286 :: u287 :: u288 :: u289 :: u290 :: u291 :: u292 :: u293 :: u294 :: u295 :: u296 :: u297 :: u298 :: u299 :: u300 :: u301 :: u302 :: u303 :: u304 :: u305 :: u306 :: u307 :: u308 :: u309 :: u310 :: u311 :: u312 :: u313 :: u314 :: u315 :: u316 :: u317 :: u318 :: u319 :: u320 :: u321 :: u322 :: u323 :: u324 :: u325 :: u326 :: u327 :: u328 :: u329 :: u330 :: u331 :: u332 :: u333 :: u334 :: u335 :: u336 :: u337 :: u338 :: u339 :: u340 :: u341 :: u342 :: u343 :: u344 :: u345 :: u346 :: u347 :: u348 :: u349 :: u350 :: u351 :: u352 :: u353 :: u354 :: u355 :: u356 :: u357 :: u358 :: u359 :: u360 :: u361 :: u362 :: u363 :: u364 :: u365 :: u366 :: u367 :: u368 :: u369 :: u370 :: u371 :: u372 :: u373 :: u374 :: u375 :: u376 :: u377 :: u378 :: u379 :: u380 :: u381 :: u382 :: u383 :: u384 :: u385 :: u386 :: u387 :: u388 :: u389 :: u390 :: u391 :: u392 :: u393 :: u394 :: u395 :: u396 :: u397 :: u398 :: u399 :: u400 :: u401 :: u402 :: u403 :: []), []⟩ w1 := by
  conv => arg 2; whnf
  have HK := Lib.hid hK
  clear hK
  have HI := Lib.hid hI
  clear hI
  go_wp2_with fail
  go_loopw [11] (fun iv wr => ∃ (k : Nat) (s : Pic), k ≤ steps.length ∧ k ≤ 150 ∧ iv = .int .i64 (k : Int) ∧ Hid (PpI all N s) ∧ Hid (Own w (PicA p mb1 mb2 mb3 gb go gc N s * (RpP q s * emp)) wr)) (fun iv _ => 150 - (intOf iv).toNat)
  case atStart => exact ⟨0, pcNew gold, Nat.zero_le _, Nat.zero_le _, rfl, HI, HP⟩
  case round =>
    clear HP HI
    obtain ⟨k, s, hk, hk2, rfl, HI, HP⟩ := hrel
    by_cases h1 : k < steps.length
    rotate_left
    · go_wp2_with fail
      apply HK.out
      exact HP.out.below
    by_cases h2 : k < 150
    rotate_left
    · go_wp2_with fail
      apply HK.out
      exact HP.out.below
    go_upto_block 3 with fail
    refine ppRound w hg q N k all s HI.out hall hN2 hN5 gad gcap steps sad scap h1 hsc1 hsc2 HVS HP ?_
    intros
    rename_i hcut
    obtain ⟨s2, hi2, ho2⟩ := hcut
    have HI2 := Lib.hid hi2
    have HO2 := Lib.hid ho2
    clear hi2 ho2 HP
    go_wp2_with fail
    go_roundw
    case rel => exact ⟨k + 1, s2, by omega, by omega, by go_num, HI2, HO2⟩
    case measure => simp [intOf]; omega
end Go.Proofs.YtpgonkecicmanaaDoor
/- PicturePlays: of too few or too many members. -/
namespace Go.Proofs.YtpgonkecicmanaaDoor
set_option linter.unusedVariables false
set_option linter.unusedSimpArgs false
open Go.RowKit Go.Maps
set_option maxRecDepth 100000 in
set_option maxHeartbeats 4000000 in
theorem picturePlays_few (w : World) (hg : As.Handle w) (gold : List Int) (N : Nat) (hN : N = gold.length) (gad : Option Addr) (gcap : Nat) (hgc1 : N ≤ gcap) (hgc2 : gcap ≤ 9223372036854775807) (hvg : Ints w (.slice gad N gcap) gold) (h1 : (N : Int) < 2) (hgr : isGroup (N : Int) = false) (sad : Option Addr) (slen scap : Nat) :
    Calls Tryd.prog 4 #[.slice gad N gcap, .slice sad slen scap] w fun e w' => e = .returned (.bool true) ∧ Below w.heap.size w w' := by
  have HW0 := Lib.hid (Own.start w)
  have hb : newBad gold = true := by rw [newBad_eq, ← hN, hgr]; rfl
  have HG := Lib.hid hg; have HVG := Lib.hid hvg; have HB := Lib.hid hb; have HGR := Lib.hid hgr; have HN := Lib.hid hN
  clear hg hvg hb hgr hN
  go_enter Tryd.func4, Tryd.ntmps4
  go_upto_block 0 with fail
  refine ppGold gold N gad gcap true 1 (.inr ⟨rfl, rfl⟩) HN.out hgc1 hgc2 HVG ?_
  intros
  rename_i hpp
  have h3 := hpp.2
  have h4 := hpp.1
  clear hpp
  subst h3
  rcases h4 with ⟨_, h⟩ | ⟨h, _⟩
  · simp at h
  subst h
  go_wp2_with fail
  refine (pNew_no _ gold HVG.out HB.out).mono ?_
  rintro e w8 ⟨rfl, rfl⟩
  go_wp2_with fail
  refine (sameErr_any HG.out 1 1 HW0.out).mono ?_
  rintro e w2 ⟨rfl, ho⟩
  have HO2 := Lib.hid ho
  clear ho
  go_wp2
  go_ret
  exact ⟨rfl, HO2.out.below⟩
end Go.Proofs.YtpgonkecicmanaaDoor
/- PicturePlays: of too many members. -/
namespace Go.Proofs.YtpgonkecicmanaaDoor
set_option linter.unusedVariables false
set_option linter.unusedSimpArgs false
open Go.RowKit Go.Maps
set_option maxRecDepth 100000 in
set_option maxHeartbeats 4000000 in
theorem picturePlays_many (w : World) (hg : As.Handle w) (gold : List Int) (N : Nat) (hN : N = gold.length) (gad : Option Addr) (gcap : Nat) (hgc1 : N ≤ gcap) (hgc2 : gcap ≤ 9223372036854775807) (hvg : Ints w (.slice gad N gcap) gold) (h1 : ¬ (N : Int) < 2) (h2 : (5 : Int) < N) (hgr : isGroup (N : Int) = false) (sad : Option Addr) (slen scap : Nat) :
    Calls Tryd.prog 4 #[.slice gad N gcap, .slice sad slen scap] w fun e w' => e = .returned (.bool true) ∧ Below w.heap.size w w' := by
  have HW0 := Lib.hid (Own.start w)
  have hb : newBad gold = true := by rw [newBad_eq, ← hN, hgr]; rfl
  have HG := Lib.hid hg; have HVG := Lib.hid hvg; have HB := Lib.hid hb; have HGR := Lib.hid hgr; have HN := Lib.hid hN
  clear hg hvg hb hgr hN
  go_enter Tryd.func4, Tryd.ntmps4
  go_upto_block 0 with fail
  refine ppGold gold N gad gcap true 1 (.inr ⟨rfl, rfl⟩) HN.out hgc1 hgc2 HVG ?_
  intros
  rename_i hpp
  have h3 := hpp.2
  have h4 := hpp.1
  clear hpp
  subst h3
  rcases h4 with ⟨_, h⟩ | ⟨h, _⟩
  · simp at h
  subst h
  go_wp2_with fail
  refine (pNew_no _ gold HVG.out HB.out).mono ?_
  rintro e w8 ⟨rfl, rfl⟩
  go_wp2_with fail
  refine (sameErr_any HG.out 1 1 HW0.out).mono ?_
  rintro e w2 ⟨rfl, ho⟩
  have HO2 := Lib.hid ho
  clear ho
  go_wp2
  go_ret
  exact ⟨rfl, HO2.out.below⟩
end Go.Proofs.YtpgonkecicmanaaDoor
/- PicturePlays: the program's picture and the reference's do the same. -/
namespace Go.Proofs.YtpgonkecicmanaaDoor
set_option linter.unusedVariables false
set_option linter.unusedSimpArgs false
open Go.RowKit Go.Maps
set_option maxRecDepth 100000 in
set_option maxHeartbeats 4000000 in
theorem picturePlays_good (w : World) (hg : As.Handle w) (gold : List Int) (N : Nat) (hN : N = gold.length) (gad : Option Addr) (gcap : Nat) (hgc1 : N ≤ gcap) (hgc2 : gcap ≤ 9223372036854775807) (hvg : Ints w (.slice gad N gcap) gold) (h1 : ¬ (N : Int) < 2) (h2 : ¬ (5 : Int) < N) (steps : List (List Int)) (sad : Option Addr) (scap : Nat) (hsc1 : steps.length ≤ scap) (hsc2 : scap ≤ 9223372036854775807) (hvs : Rows2 w (.slice sad steps.length scap) steps) :
    Calls Tryd.prog 4 #[.slice gad N gcap, .slice sad steps.length scap] w fun e w' => e = .returned (.bool true) ∧ Below w.heap.size w w' := by
  have HW0 := Lib.hid (Own.start w)
  have hgr : isGroup (N : Int) = true := by unfold isGroup; rw [decide_eq_true (by omega), decide_eq_true (by omega)]; rfl
  have hb : newBad gold = gold.any fun n => !isGold n := by rw [newBad_eq, ← hN, hgr]; rfl
  have hz := rp_zero
  have hN2 : 2 ≤ N := by omega
  have hN5 : N ≤ 5 := by omega
  have HG := Lib.hid hg; have HVG := Lib.hid hvg; have HB := Lib.hid hb; have HGR := Lib.hid hgr; have HN := Lib.hid hN; have HVS := Lib.hid hvs; have HZ := Lib.hid hz
  clear hg hvg hb hgr hN hvs hz
  go_enter Tryd.func4, Tryd.ntmps4
  go_upto_block 0 with fail
  refine ppGold gold N gad gcap false 0 (.inl ⟨rfl, rfl⟩) HN.out hgc1 hgc2 HVG ?_
  intros
  rename_i wq hpp
  have h3 := hpp.2
  have h4 := hpp.1
  clear hpp
  subst h3
  rw [Bool.false_or, ← HB.out] at h4
  rcases h4 with ⟨h4, hbad⟩ | ⟨h4, hbad⟩
  rotate_left
  · subst h4
    have HBAD := Lib.hid hbad
    clear hbad
    go_wp2_with fail
    refine (pNew_no _ gold HVG.out HBAD.out).mono ?_
    rintro e w8 ⟨rfl, rfl⟩
    go_wp2_with fail
    refine (sameErr_any HG.out 1 1 HW0.out).mono ?_
    rintro e w2 ⟨rfl, ho⟩
    have HO2 := Lib.hid ho
    clear ho
    go_wp2
    go_ret
    exact ⟨rfl, HO2.out.below⟩
  subst h4
  obtain ⟨⟨h5, h6⟩, hgx⟩ := newBad_no hbad
  have hall := gold_small hgx h6
  have hpi : PpI gold.sum N (pcNew gold) := ⟨pcInv_new gold ⟨h5, h6⟩ hgx, HN.out.symm⟩
  have hgI : ∀ x ∈ gold, I64 x := fun x hx => by have := hgx x hx; unfold I64; omega
  obtain ⟨all, hal⟩ : ∃ a, a = gold.sum := ⟨_, rfl⟩
  rw [← hal] at hall hpi
  obtain ⟨_, hall2⟩ := hall
  have HGX := Lib.hid hgx; have HAL := Lib.hid hal; have HPI := Lib.hid hpi; have HGI := Lib.hid hgI
  clear hgx hal hpi hgI
  clear h5 h6
  go_wp2_with fail
  refine (pNew_yes _ gold HW0.out HVG.out.reads hbad).mono ?_
  rintro e w8 ⟨p, c1, c2, c3, g2, o2, d2, n2, rfl, hn3, ho⟩
  have hnn : n2 = N := hn3.trans HN.out.symm
  subst hnn
  have HO1 := Lib.hid ho
  clear ho hn3
  have HBAD := Lib.hid hbad
  clear hbad
  go_wp2_with fail
  refine (sameErr_any HG.out 0 0 HO1.out).mono ?_
  rintro e w9 ⟨rfl, ho⟩
  obtain ⟨q, hb_q⟩ : ∃ zz_, zz_ = (w9).heap.size := ⟨_, rfl⟩
  obtain ⟨wa, hw_wa⟩ : ∃ zz_, zz_ = (w9).alloc (.cells (rp0 (.slice none 0 0)).toArray 63 (0, 0)) := ⟨_, rfl⟩
  have h_HA := (ho).alloc (.cells (rp0 (.slice none 0 0)).toArray 63 (0, 0))
  rw [← hb_q, ← hw_wa] at h_HA
  have HA := Lib.hid h_HA
  clear h_HA
  have HOA : Hid (Own wq (Sl 3 1 (.slice none 0 0) 0 [] * (rpBlk q (rp0 (.slice none 0 0)).toArray * (PicA p c1 c2 c3 g2 o2 d2 n2 (pcNew gold) * emp))) wa) := Lib.hid (HA.out.sl_nil 3 1)
  have e0 : wa.cell? ⟨q, 0, none⟩ = some (.slice none 0 0) := (Own.cell HOA.out.second 0).trans rfl
  clear ho HA HO1
  go_upto_region 14 with fail
  rw [HZ.out]
  rw [← hb_q, ← hw_wa]
  clear hb_q hw_wa
  have hrd : Rd wa (.slice gad n2 gcap) gold.length (gold.map (Value.int .i64)) := (HVG.out.later HOA.out).1
  have hgl5 : gold.length ≤ 5 := by rw [← HN.out]; exact hN5
  have hml : (gold.map (Value.int .i64)).length = gold.length * 1 := by rw [List.length_map, Nat.mul_one]
  have HRD := Lib.hid hrd; have HML := Lib.hid hml
  clear hrd hml
  go_upto_block 2 with (at_builtin; refine wpList_app rfl _ _ 38 rfl 3 1 8 _ info_int Tryd.underlying38 rfl (by decide) rfl HOA.out rfl HML.out HRD.out (int_one _) (by unfold maxLen; omega) (by omega) ?_; intro v' w3 ho3; obtain ⟨ad3, n3, cp3, hv3⟩ : ∃ a b c, v' = .slice a b c := ⟨_, _, _, (Own.rd ho3).choose_spec.choose_spec.1⟩; have c0 : w3.cell? ⟨q, 0, none⟩ = some (.slice none 0 0) := (Own.cell ho3.second 0).trans rfl; have f0 : w3.frozen? ⟨q, 0, none⟩ = false := Own.free ho3.second 0 none; have HO3 := Lib.hid ho3; subst hv3; clear ho3 e0)
  obtain ⟨GV, hGV⟩ : ∃ v, v = Value.slice ad3 n3 cp3 := ⟨_, rfl⟩
  rw [← hGV] at HO3 ⊢
  have HO4 : Hid (Own wq (PicA p c1 c2 c3 g2 o2 d2 n2 (pcNew gold) * (RpP q (pcNew gold) * emp)) (w3.setCell ⟨q, 0, none⟩ GV)) := Lib.hid (by
    have h9 : Own wq (rpBlk q ((rp0 (.slice none 0 0)).toArray.setIfInBounds 0 GV) * _) (w3.setCell ⟨q, 0, none⟩ GV) := Own.setCell (i := 0) (v := GV) HO3.out.second
    rw [rp0_set] at h9
    have e1 : Sl 3 1 GV (0 + gold.length) ([] ++ gold.map (Value.int .i64)) = IntSl GV gold := by
      rw [Nat.zero_add, List.nil_append]; rfl
    rw [e1] at h9
    have h10 : Own wq (rpBlk q (rp0 GV).toArray * (IntSl GV (pcNew gold).gold * (starL rowP (List.replicate 25 nilRow) * (PicA p c1 c2 c3 g2 o2 d2 n2 (pcNew gold) * emp)))) (w3.setCell ⟨q, 0, none⟩ GV) := by
      rw [rows_nils, emp_star]
      exact h9.perm (by show _ = rpBlk q (rp0 GV).toArray * (IntSl GV gold * _); ac_rfl)
    exact (Own.rp_close (rp0_is GV gold) (fun a b _ _ => ⟨fun x hx => by (cases hx), fun _ => rfl⟩) h10).perm (by ac_rfl))
  clear hGV HO3 c0 f0 HOA HRD HML
  refine ppLoop wq HG.out q n2 all gold HPI.out (by omega) hN2 hN5 gad gcap steps sad scap hsc1 hsc2 HVS HO4 ?_
  intros
  rename_i hpp
  have HPP := Lib.hid hpp
  clear hpp HO4
  go_wp2
  go_ret
  exact ⟨rfl, HPP.out⟩
set_option maxRecDepth 100000 in
set_option maxHeartbeats 4000000 in
theorem picturePlays_law (w : World) (hg : As.Handle w) (vg : Value) (gold : List Int) (hvg : Ints w vg gold) (vs : Value) (steps : List (List Int)) (hvs : Rows2 w vs steps) :
    Calls Tryd.prog 4 #[vg, vs] w fun e w' => e = .returned (.bool true) ∧ Below w.heap.size w w' := by
  obtain ⟨gad, gcap, rfl, hgc1, hgc2⟩ := hvg.shape
  obtain ⟨sad, scap, rfl, hsc1, hsc2⟩ := hvs.shape
  obtain ⟨N, hN⟩ : ∃ N, N = gold.length := ⟨_, rfl⟩
  rw [← hN] at hvg hgc1 ⊢
  by_cases h1 : (N : Int) < 2
  · exact picturePlays_few w hg gold N hN gad gcap hgc1 hgc2 hvg h1 (by unfold isGroup; rw [decide_eq_false (by omega)]; rfl) sad steps.length scap
  by_cases h2 : (5 : Int) < N
  · exact picturePlays_many w hg gold N hN gad gcap hgc1 hgc2 hvg h1 h2 (by unfold isGroup; rw [decide_eq_false (p := (N : Int) ≤ 5) (by omega), Bool.and_false]) sad steps.length scap
  · exact picturePlays_good w hg gold N hN gad gcap hgc1 hgc2 hvg h1 h2 steps sad scap hsc1 hsc2 hvs
end Go.Proofs.YtpgonkecicmanaaDoor
/- How the arguments of a law read, as plain facts on the world in which the call begins. -/
namespace Go.Proofs.YtpgonkecicmanaaDoor
set_option linter.unusedVariables false
set_option linter.unusedSimpArgs false
open Go.ChangeShapes Go.WideShapes Go.ChangeAt Go.RowKit Go.Deep
open Go.ChangeMaps (open_string shut_string)
variable {H : Type} {enc : TypeId × Value → H} {w : World} {b0 : Nat} {d : DataW H} {p : List MemPlace} {v : Value}
set_option maxRecDepth 100000 in
theorem arg_int (hv : Value.okWide Tryd.prog w .any b0 3 v) (h : DataW.Trod enc Tryd.prog w 0 (fun _ => true) true 3 v d p) : ∃ a : Int, v = .int .i64 a ∧ I64 a := by
  obtain ⟨n, e, _, _, hw⟩ := open_int Tryd.underlying3 hv h
  exact ⟨n, e, I64_of_wf hw⟩
set_option maxRecDepth 100000 in
theorem arg_bool (hv : Value.okWide Tryd.prog w .any b0 4 v) (h : DataW.Trod enc Tryd.prog w 0 (fun _ => true) true 4 v d p) : ∃ a : Bool, v = .bool a := by
  obtain ⟨n, e, _⟩ := open_bool Tryd.underlying4 hv h
  exact ⟨n, e⟩
set_option maxRecDepth 100000 in
theorem arg_string (hv : Value.okWide Tryd.prog w .any b0 9 v) (h : DataW.Trod enc Tryd.prog w 0 (fun _ => true) true 9 v d p) : ∃ a : ByteArray, v = .string a ∧ a.size ≤ maxLen := by
  obtain ⟨n, e, _, _, hw⟩ := open_string Tryd.underlying9 hv h
  exact ⟨n, e, hw⟩
theorem cells_int : Tryd.prog.cellsOf 3 = 1 := by kernel_rfl
/-- A slice of ints, off its cells' reading. -/
theorem trod_ints {fuel : Nat} {cs : List Value} {x : DataW H × List MemPlace} (h : DataW.trod enc Tryd.prog w 0 (fun _ => true) true fuel 38 cs = some x) : ∃ v l, cs = [v] ∧ Ints w v l := by
  rcases open_ints Tryd.underlying38 Tryd.underlying3 cells_int h with ⟨rfl, _⟩ | ⟨a, len, cap, zs, rfl, _, hl, hm, hz, _, hc, hw⟩
  · exact ⟨_, [], rfl, Ints_nil _⟩
  · have hz' : zs.length = cap := by simpa using hz
    refine ⟨_, zs.take len, rfl, ⟨some a, cap, by simp; omega, by simp; omega, hm, by simp, fun i u hi => ⟨a, rfl, ?_⟩⟩, fun y hy => I64_of_wf (hw y (List.mem_of_mem_take hy))⟩
    rw [List.getElem?_map, Option.map_eq_some_iff] at hi
    obtain ⟨y, hy, rfl⟩ := hi
    rw [List.getElem?_take] at hy
    split at hy
    · rename_i hlt
      rw [hc i (by omega), List.getD, hy]; rfl
    · cases hy
set_option maxRecDepth 100000 in
theorem arg_ints (hv : Value.okWide Tryd.prog w .any b0 38 v) (h : DataW.Trod enc Tryd.prog w 0 (fun _ => true) true 38 v d p) : ∃ l, Ints w v l := by
  obtain ⟨ad, n, c, rfl⟩ := okWide_slice Tryd.underlying38 hv
  obtain ⟨fuel, hf⟩ := h
  obtain ⟨v', l, he, hr⟩ := trod_ints hf
  simp [Value.cells] at he
  exact ⟨l, he ▸ hr⟩
theorem cells_ints : Tryd.prog.cellsOf 38 = 1 := by kernel_rfl
set_option maxRecDepth 100000 in
theorem arg_rows (hv : Value.okWide Tryd.prog w .any b0 22 v) (h : DataW.Trod enc Tryd.prog w 0 (fun _ => true) true 22 v d p) : ∃ ll, Rows2 w v ll := by
  obtain ⟨ad, n, c, rfl⟩ := okWide_slice Tryd.underlying22 hv
  obtain ⟨fuel, hf⟩ := h
  rcases open_slice1 Tryd.underlying22 cells_ints hf with ⟨he, _⟩ | ⟨a, len, cap, m, k, V, D, Pl, he, _, hl, hm, hmm, _, hx⟩
  · simp [Value.cells] at he
    obtain ⟨rfl, rfl, rfl⟩ := he
    exact ⟨[], Rows2_nil _⟩
  · simp [Value.cells] at he
    obtain ⟨rfl, rfl, rfl⟩ := he
    simp only [if_true] at hmm
    exact Rows2_mk hl hm (fun i hi => (hx i (by omega)).1) (fun i hi => by
      obtain ⟨v', l, he, hr⟩ := trod_ints (hx i (by omega)).2
      simp at he
      exact ⟨l, he ▸ hr⟩)
end Go.Proofs.YtpgonkecicmanaaDoor
