/- PicturePlays: pieces of the law: a step; the sum; what gold is right. -/
import Derived.Test.YtpgonkecicmanaaDoorMPicturePlays15
namespace Go.Proofs.YtpgonkecicmanaaDoor
set_option linter.unusedVariables false
set_option linter.unusedSimpArgs false
open Go.RowKit Go.Maps
theorem same_nat'' (n : Nat) : ((n : Int) == (n : Int)) = true := by simp
def PpC (w : World) (AA : Pic → HProp) (q vb : Nat) (all : Int) (N : Nat) (l : List Int) (tv : Value) (wx : World) : Prop := tv = .bool true ∧ ∃ s2, PpI all N s2 ∧ Own w (AA s2 * (RpP q s2 * (Nms 64 vb l * emp))) wx
theorem begin_errs (s : Pic) (a : Int) : (pcHas s a = false ∧ pcBeginErr s a = 1) ∨ (pcHas s a = true ∧ s.begun = true ∧ pcBeginErr s a = 6) ∨ (pcHas s a = true ∧ s.begun = false ∧ pcBeginErr s a = 0) := by
  unfold pcBeginErr
  cases h1 : pcHas s a
  · exact .inl ⟨rfl, by simp⟩
  · cases h2 : s.begun
    · exact .inr (.inr ⟨rfl, rfl, by simp⟩)
    · exact .inr (.inl ⟨rfl, rfl, by simp⟩)
noncomputable def ppFill_code : Code := ((Tryd.f4.body.bind (findBlock 4)).getD .skip)
set_option maxRecDepth 1000000 in
set_option maxHeartbeats 4000000 in
theorem ppFill {Q : Exit → Act → World → Prop} {u0 u2 u3 u4 u5 u6 u7 u8 u9 u10 u14 u15 u16 u17 u18 u19 u20 u21 u22 u23 u24 u25 u26 u27 u28 u29 u30 u31 u32 u33 u34 u35 u36 u37 u38 u39 u40 u41 u42 u43 u44 u45 u46 u47 u48 u49 u50 u51 u52 u53 u54 u55 u56 u57 u58 u59 u60 u61 u62 u63 u64 u65 u66 u67 u68 u69 u70 u71 u72 u73 u74 u75 u76 u77 u78 u79 u80 u81 u82 u83 u84 u85 u86 u87 u88 u89 u90 u91 u92 u93 u94 u95 u96 u97 u98 u99 u100 u101 u102 u103 u104 u105 u106 u107 u108 u109 u110 u111 u112 u113 u114 u115 u116 u117 u118 u119 u120 u121 u122 u123 u124 u125 u126 u127 u128 u129 u130 u131 u132 u133 u134 u135 u136 u137 u138 u139 u140 u141 u142 u143 u144 u145 u146 u147 u148 u149 u150 u151 u152 u153 u154 u155 u156 u157 u158 u159 u160 u161 u162 u163 u164 u165 u166 u167 u168 u169 u170 u171 u172 u173 u174 u175 u176 u177 u178 u179 u180 u181 u182 u183 u184 u185 u186 u187 u188 u189 u190 u191 u192 u193 u194 u195 u196 u197 u198 u199 u200 u201 u202 u203 u204 u205 u206 u207 u208 u209 u210 u211 u212 u213 u214 u215 u216 u217 u218 u219 u220 u221 u222 u223 u224 u225 u226 u227 u228 u229 u230 u231 u232 u233 u234 u235 u236 u237 u238 u239 u240 u241 u242 u243 u244 u245 u246 u247 u248 u249 u250 u251 u252 u253 u254 u255 u256 u257 u258 u259 u260 u261 u262 u263 u264 u265 u266 u267 u268 u269 u270 u271 u272 u273 u274 u275 u276 u277 u278 u279 u280 u281 u282 u283 u284 u285 u286 u287 u288 u289 u290 u291 u292 u293 u294 u295 u296 u297 u298 u299 u300 u301 u302 u303 u304 u305 u306 u307 u308 u309 u310 u311 u312 u313 u314 u315 u316 u317 u318 u319 u320 u321 u322 u323 u324 u325 u326 u327 u328 u329 u330 u331 u332 u333 u334 u335 u336 u337 u338 u339 u340 u341 u342 u343 u344 u345 u346 u347 u348 u349 u350 u351 u352 u353 u354 u355 u356 u357 u358 u359 u360 u361 u362 u363 u364 u365 u366 u367 u368 u369 u370 u371 u372 u373 u374 u375 u376 u377 u378 u379 u380 u381 u382 u383 u384 u385 u386 u387 u388 u389 u390 u391 u392 u393 u394 u395 u396 u397 u398 u399 u400 u401 u402 u403 : Value} {w1 : World} (w : World) (R : HProp) (vb k : Nat) (steps : List (List Int)) (row : List Int) (a2 : Addr) (scap rcap : Nat) (rad : Option Addr) (h1 : k < steps.length) (hc1 : steps.length ≤ scap) (hc2 : scap ≤ 9223372036854775807) (HR : Hid (Ints w (.slice rad row.length rcap) row)) (HC : Hid (∀ (w1 : World) (P : HProp), Own w P w1 → w1.cell? (a2.add k) = some (.slice rad row.length rcap))) (HT : Hid (Own w (Nms 64 vb [0, 0, 0, 0] * R) w1))
    (hK : ∀ (v13 v97 v98 v99 v100 v101 v102 v103 v104 v105 v106 v107 v108 v109 v110 v111 v112 v113 v114 v115 v116 v117 v118 : Value) (wx : World), (NmV 64 4 w vb R wx) → Q .normal ⟨List.toArray (u0 :: (.slice (some a2) steps.length scap) :: u2 :: u3 :: u4 :: u5 :: u6 :: u7 :: u8 :: u9 :: u10 :: (.int .i64 (k : Int)) :: (.pointer (some ⟨vb, 0, none⟩)) :: v13 :: u14 :: u15 :: u16 :: u17 :: u18 :: u19 :: u20 :: u21 :: u22 :: u23 :: u24 :: u25 :: u26 :: u27 :: u28 :: u29 :: u30 :: u31 :: u32 :: u33 :: u34 :: u35 :: u36 :: u37 :: u38 :: u39 :: u40 :: u41 :: u42 :: u43 :: u44 :: u45 :: u46 :: u47 :: u48 :: u49 :: u50 :: u51 :: u52 :: u53 :: u54 :: u55 :: u56 :: u57 :: u58 :: u59 :: u60 :: u61 :: u62 :: u63 :: u64 :: u65 :: u66 :: u67 :: u68 :: u69 :: u70 :: u71 :: u72 :: u73 :: u74 :: u75 :: u76 :: u77 :: u78 :: u79 :: u80 :: u81 :: u82 :: u83 :: u84 :: u85 :: u86 :: u87 :: u88 :: u89 :: u90 :: u91 :: u92 :: u93 :: u94 :: u95 :: u96 :: v97 :: v98 :: v99 :: v100 :: v101 :: v102 :: v103 :: v104 :: v105 :: v106 :: v107 :: v108 :: v109 :: v110 :: v111 :: v112 :: v113 :: v114 :: v115 :: v116 :: v117 :: v118 :: u119 :: u120 :: u121 :: u122 :: u123 :: u124 :: u125 :: u126 :: u127 :: u128 :: u129 :: u130 :: u131 :: u132 :: u133 :: u134 :: u135 :: u136 :: u137 :: u138 :: u139 :: u140 :: u141 :: u142 :: u143 :: u144 :: u145 :: u146 :: u147 :: u148 :: u149 :: u150 :: u151 :: u152 :: u153 :: u154 :: u155 :: u156 :: u157 :: u158 :: u159 :: u160 :: u161 :: u162 :: u163 :: u164 :: u165 :: u166 :: u167 :: u168 :: u169 :: u170 :: u171 :: u172 :: u173 :: u174 :: u175 :: u176 :: u177 :: u178 :: u179 :: u180 :: u181 :: u182 :: u183 :: u184 :: u185 :: u186 :: u187 :: u188 :: u189 :: u190 :: u191 :: u192 :: u193 :: u194 :: u195 :: u196 :: u197 :: u198 :: u199 :: u200 :: u201 :: u202 :: u203 :: u204 :: u205 :: u206 :: u207 :: u208 :: u209 :: u210 :: u211 :: u212 :: u213 :: u214 :: u215 :: u216 :: u217 :: u218 :: u219 :: u220 :: u221 :: u222 :: u223 :: u224 :: u225 :: u226 :: u227 :: u228 :: u229 :: u230 :: u231 :: u232 :: u233 :: u234 :: u235 :: u236 :: u237 :: u238 :: u239 :: u240 :: u241 :: u242 :: u243 :: u244 :: u245 :: u246 :: u247 :: u248 :: u249 :: u250 :: u251 :: u252 :: u253 :: u254 :: u255 :: u256 :: u257 :: u258 :: u259 :: u260 :: u261 :: u262 :: u263 :: u264 :: u265 :: u266 :: u267 :: u268 :: u269 :: u270 :: u271 :: u272 :: u273 :: u274 :: u275 :: u276 :: u277 :: u278 :: u279 :: u280 :: u281 :: u282 :: u283 :: u284 :: u285 :: u286 :: u287 :: u288 :: u289 :: u290 :: u291 :: u292 :: u293 :: u294 :: u295 :: u296 :: u297 :: u298 :: u299 :: u300 :: u301 :: u302 :: u303 :: u304 :: u305 :: u306 :: u307 :: u308 :: u309 :: u310 :: u311 :: u312 :: u313 :: u314 :: u315 :: u316 :: u317 :: u318 :: u319 :: u320 :: u321 :: u322 :: u323 :: u324 :: u325 :: u326 :: u327 :: u328 :: u329 :: u330 :: u331 :: u332 :: u333 :: u334 :: u335 :: u336 :: u337 :: u338 :: u339 :: u340 :: u341 :: u342 :: u343 :: u344 :: u345 :: u346 :: u347 :: u348 :: u349 :: u350 :: u351 :: u352 :: u353 :: u354 :: u355 :: u356 :: u357 :: u358 :: u359 :: u360 :: u361 :: u362 :: u363 :: u364 :: u365 :: u366 :: u367 :: u368 :: u369 :: u370 :: u371 :: u372 :: u373 :: u374 :: u375 :: u376 :: u377 :: u378 :: u379 :: u380 :: u381 :: u382 :: u383 :: u384 :: u385 :: u386 :: u387 :: u388 :: u389 :: u390 :: u391 :: u392 :: u393 :: u394 :: u395 :: u396 :: u397 :: u398 :: u399 :: u400 :: u401 :: u402 :: u403 :: []), []⟩ wx) :
    Code.wp Tryd.prog ppFill_code Q ⟨List.toArray (u0 :: (.slice (some a2) steps.length scap) :: u2 :: u3 :: u4 :: u5 :: u6 :: u7 :: u8 :: u9 :: u10 :: (.int .i64 (k : Int)) :: (.pointer (some ⟨vb, 0, none⟩)) :: (.int .i64 0) :: u14 :: u15 :: u16 :: u17 :: u18 :: u19 :: u20 :: u21 :: u22 :: u23 :: u24 :: u25 :: u26 :: u27 :: u28 :: u29 :: u30 :: u31 :: u32 :: u33 :: u34 :: u35 :: u36 :: u37 :: u38 :: u39 :: u40 :: u41 :: u42 :: u43 :: u44 :: u45 :: u46 :: u47 :: u48 :: u49 :: u50 :: u51 :: u52 :: u53 :: u54 :: u55 :: u56 :: u57 :: u58 :: u59 :: u60 :: u61 :: u62 :: u63 :: u64 :: u65 :: u66 :: u67 :: u68 :: u69 :: u70 :: u71 :: u72 :: u73 :: u74 :: u75 :: u76 :: u77 :: u78 :: u79 :: u80 :: u81 :: u82 :: u83 :: u84 :: u85 :: u86 :: u87 :: u88 :: u89 :: u90 :: u91 :: u92 :: u93 :: u94 :: u95 :: u96 :: u97 :: u98 :: u99 :: u100 :: u101 :: u102 :: u103 :: u104 :: u105 :: u106 :: u107 :: u108 :: u109 :: u110 :: u111 :: u112 :: u113 :: u114 :: u115 :: u116 :: u117 :: u118 :: u119 :: u120 :: u121 :: u122 :: u123 :: u124 :: u125 :: u126 :: u127 :: u128 :: u129 :: u130 :: u131 :: u132 :: u133 :: u134 :: u135 :: u136 :: u137 :: u138 :: u139 :: u140 :: u141 :: u142 :: u143 :: u144 :: u145 :: u146 :: u147 :: u148 :: u149 :: u150 :: u151 :: u152 :: u153 :: u154 :: u155 :: u156 :: u157 :: u158 :: u159 :: u160 :: u161 :: u162 :: u163 :: u164 :: u165 :: u166 :: u167 :: u168 :: u169 :: u170 :: u171 :: u172 :: u173 :: u174 :: u175 :: u176 :: u177 :: u178 :: u179 :: u180 :: u181 :: u182 :: u183 :: u184 :: u185 :: u186 :: u187 :: u188 :: u189 :: u190 :: u191 :: u192 :: u193 :: u194 :: u195 :: u196 :: u197 :: u198 :: u199 :: u200 :: u201 :: u202 :: u203 :: u204 :: u205 :: u206 :: u207 :: u208 :: u209 :: u210 :: u211 :: u212 :: u213 :: u214 :: u215 :: u216 :: u217 :: u218 :: u219 :: u220 :: u221 :: u222 :: u223 :: u224 :: u225 :: u226 :: u227 :: u228 :: u229 :: u230 :: u231 :: u232 :: u233 :: u234 :: u235 :: u236 :: u237 :: u238 :: u239 :: u240 :: u241 :: u242 :: u243 :: u244 :: u245 :: u246 :: u247 :: u248 :: u249 :: u250 :: u251 :: u252 :: u253 :: u254 :: u255 :: u256 :: u257 :: u258 :: u259 :: u260 :: u261 :: u262 :: u263 :: u264 :: u265 :: u266 :: u267 :: u268 :: u269 :: u270 :: u271 :: u272 :: u273 :: u274 :: u275 :: u276 :: u277 :: u278 :: u279 :: u280 :: u281 :: u282 :: u283 :: u284 :: u285 :: u286 :: u287 :: u288 :: u289 :: u290 :: u291 :: u292 :: u293 :: u294 :: u295 :: u296 :: u297 :: u298 :: u299 :: u300 :: u301 :: u302 :: u303 :: u304 :: u305 :: u306 :: u307 :: u308 :: u309 :: u310 :: u311 :: u312 :: u313 :: u314 :: u315 :: u316 :: u317 :: u318 :: u319 :: u320 :: u321 :: u322 :: u323 :: u324 :: u325 :: u326 :: u327 :: u328 :: u329 :: u330 :: u331 :: u332 :: u333 :: u334 :: u335 :: u336 :: u337 :: u338 :: u339 :: u340 :: u341 :: u342 :: u343 :: u344 :: u345 :: u346 :: u347 :: u348 :: u349 :: u350 :: u351 :: u352 :: u353 :: u354 :: u355 :: u356 :: u357 :: u358 :: u359 :: u360 :: u361 :: u362 :: u363 :: u364 :: u365 :: u366 :: u367 :: u368 :: u369 :: u370 :: u371 :: u372 :: u373 :: u374 :: u375 :: u376 :: u377 :: u378 :: u379 :: u380 :: u381 :: u382 :: u383 :: u384 :: u385 :: u386 :: u387 :: u388 :: u389 :: u390 :: u391 :: u392 :: u393 :: u394 :: u395 :: u396 :: u397 :: u398 :: u399 :: u400 :: u401 :: u402 :: u403 :: []), []⟩ w1 := by
  conv => arg 2; whnf
  have HK := Lib.hid hK
  clear hK
  go_wp2_with fail
  go_loopw [13] (fun jv w2 => ∃ (j : Nat) (l : List Int), j ≤ 4 ∧ jv = .int .i64 j ∧ Hid (l.length = 4) ∧ Hid (Own w (Nms 64 vb l * R) w2)) (fun jv _ => 4 - (intOf jv).toNat)
  case atStart => exact ⟨0, [0, 0, 0, 0], Nat.zero_le _, rfl, Lib.hid rfl, HT⟩
  case round =>
    obtain ⟨j, l, hj, rfl, hl, hpw⟩ := hrel
    have c1 := HC.out _ _ hpw.out
    have FIN := Lib.hid (show NmV 64 4 w vb R wr from ⟨l, hl.out, hpw.out⟩)
    by_cases h3 : j < row.length
    rotate_left
    · go_wp2_with fail
      apply HK.out
      exact FIN.out
    by_cases h4 : j < 4
    rotate_left
    · go_wp2_with fail
      apply HK.out
      exact FIN.out
    obtain ⟨b3, rfl, hcb⟩ := HR.out.at_later j h3
    have c2 := hcb _ _ hpw.out
    have hjl : j < l.length := by rw [hl.out]; exact h4
    have c3 := hpw.out.nms_cell j hjl
    have c4 := hpw.out.nms_free j
    have HS := Lib.hid (hpw.out.nms_set j row[j])
    have i0 : (0 : Int) ≤ (j : Int) := by omega
    have i3 : (j : Int) < 4 := by omega
    clear hcb
    go_wp2_with fail
    go_roundw
    case rel => exact ⟨j + 1, l.set j row[j], by omega, by go_num, Lib.hid (by rw [List.length_set]; exact hl.out), HS⟩
    case measure => simp [intOf]; omega
noncomputable def ppSwitch_code : Code := ((Tryd.f4.body.bind (findBlock 6)).getD .skip)
set_option maxRecDepth 1000000 in
set_option maxHeartbeats 4000000 in
theorem ppSwitch {Q : Exit → Act → World → Prop} {u1 u2 u3 u4 u6 u8 u9 u11 u13 u15 u16 u17 u18 u19 u20 u21 u22 u23 u24 u25 u26 u27 u28 u29 u30 u31 u32 u33 u34 u35 u36 u37 u38 u39 u40 u41 u42 u43 u44 u45 u46 u47 u48 u49 u50 u51 u52 u53 u54 u55 u56 u57 u58 u59 u60 u61 u62 u63 u64 u65 u66 u67 u68 u69 u70 u71 u72 u73 u74 u75 u76 u77 u78 u79 u80 u81 u82 u83 u84 u85 u86 u87 u88 u89 u90 u91 u92 u93 u94 u95 u96 u97 u98 u99 u100 u101 u102 u103 u104 u105 u106 u107 u108 u109 u110 u111 u112 u113 u114 u115 u116 u117 u118 u119 u120 u121 u122 u123 u124 u125 u127 u128 u129 u130 u131 u132 u133 u134 u135 u136 u137 u138 u139 u140 u141 u142 u143 u144 u145 u146 u147 u148 u149 u150 u151 u152 u153 u154 u155 u156 u157 u158 u159 u160 u161 u162 u163 u164 u165 u166 u167 u168 u169 u170 u171 u172 u173 u174 u175 u176 u177 u178 u179 u180 u181 u182 u183 u184 u185 u186 u187 u188 u189 u190 u191 u192 u193 u194 u195 u196 u197 u198 u199 u200 u201 u202 u203 u204 u205 u206 u207 u208 u209 u210 u211 u212 u213 u214 u215 u216 u217 u218 u219 u220 u221 u222 u223 u224 u225 u226 u227 u228 u229 u230 u231 u232 u233 u234 u235 u236 u237 u238 u239 u240 u241 u242 u243 u244 u245 u246 u247 u248 u249 u250 u251 u252 u253 u254 u255 u256 u257 u258 u259 u260 u261 u262 u263 u264 u265 u266 u267 u268 u269 u270 u271 u272 u273 u274 u275 u276 u277 u278 u279 u280 u281 u282 u283 u284 u285 u286 u287 u288 u289 u290 u291 u292 u293 u294 u295 u296 u297 u298 u299 u300 u301 u302 u303 u304 u305 u306 u307 u308 u309 u310 u311 u312 u313 u314 u315 u316 u317 u318 u319 u320 u321 u322 u323 u324 u325 u326 u327 u328 u329 u330 u331 u332 u333 u334 u335 u336 u337 u338 u339 u340 u341 u342 u343 u344 u345 u346 u347 u348 u349 u350 u351 u352 u353 u354 u355 u356 u357 u358 u359 u360 u361 u362 u363 u364 u365 u366 u367 u368 u369 u370 u371 u372 u373 u374 u375 u376 u377 u378 u379 u380 u381 u382 u383 u384 u385 u386 u387 u388 u389 u390 u391 u392 u393 u394 u395 u396 u397 u398 u399 u400 u401 u402 u403 : Value} {w1 : World} (w : World) (hg : As.Handle w) {p mb1 mb2 mb3 gb go gc : Nat} (q vb N : Nat) (x y z u : Int) (all : Int) (s : Pic) (hI : PpI all N s) (hall : all ≤ 1000000) (hN5 : N ≤ 5) (gad : Option Addr) (gcap : Nat) (HO : Hid (Own w (PicA p mb1 mb2 mb3 gb go gc N s * (RpP q s * (Nms 64 vb [x, y, z, u] * emp))) w1))
    (hK : ∀ (v5 v9 v15 v16 v17 v18 v127 v128 v129 v130 v131 v132 v133 v134 v135 v136 v137 v138 v139 v140 v141 v142 v143 v144 v145 v146 v147 v148 v149 v150 v151 v152 v153 v154 v155 v156 v157 v158 v159 v160 v161 v162 v163 v164 v165 v166 v167 v168 v169 v170 v171 v172 v173 v174 v175 v176 v177 v178 v179 v180 v181 v182 v183 v184 v185 v186 v187 v188 v189 v190 v191 v192 v193 v194 v195 v196 v197 v198 v199 v200 v201 v202 v203 v204 v205 v206 v207 v208 v209 v210 v211 v212 v213 v214 v215 v216 v217 v218 v219 v220 v221 v222 v223 v224 v225 v226 v227 v228 v229 v230 v231 v232 v233 v234 v235 v236 v237 v238 v239 v240 v241 v242 v243 v244 v245 v246 v247 v248 v249 v250 v251 v252 v253 v254 v255 v256 v257 v258 v259 v260 v261 v262 v263 v264 v265 v266 v267 v268 v269 v270 v271 v272 v273 v274 v275 v276 v277 v278 v279 v280 v281 v282 v283 v284 : Value) (wx : World), (PpC w (PicA p mb1 mb2 mb3 gb go gc N) q vb all N [x, y, z, u] v9 wx) → Q .normal ⟨List.toArray ((.slice gad N gcap) :: u1 :: u2 :: u3 :: u4 :: v5 :: u6 :: (.pointer (some ⟨p, 0, none⟩)) :: u8 :: v9 :: (.pointer (some ⟨q, 0, none⟩)) :: u11 :: (.pointer (some ⟨vb, 0, none⟩)) :: u13 :: (.int .i64 (pcWay s y z : Nat)) :: v15 :: v16 :: v17 :: v18 :: u19 :: u20 :: u21 :: u22 :: u23 :: u24 :: u25 :: u26 :: u27 :: u28 :: u29 :: u30 :: u31 :: u32 :: u33 :: u34 :: u35 :: u36 :: u37 :: u38 :: u39 :: u40 :: u41 :: u42 :: u43 :: u44 :: u45 :: u46 :: u47 :: u48 :: u49 :: u50 :: u51 :: u52 :: u53 :: u54 :: u55 :: u56 :: u57 :: u58 :: u59 :: u60 :: u61 :: u62 :: u63 :: u64 :: u65 :: u66 :: u67 :: u68 :: u69 :: u70 :: u71 :: u72 :: u73 :: u74 :: u75 :: u76 :: u77 :: u78 :: u79 :: u80 :: u81 :: u82 :: u83 :: u84 :: u85 :: u86 :: u87 :: u88 :: u89 :: u90 :: u91 :: u92 :: u93 :: u94 :: u95 :: u96 :: u97 :: u98 :: u99 :: u100 :: u101 :: u102 :: u103 :: u104 :: u105 :: u106 :: u107 :: u108 :: u109 :: u110 :: u111 :: u112 :: u113 :: u114 :: u115 :: u116 :: u117 :: u118 :: u119 :: u120 :: u121 :: u122 :: u123 :: u124 :: u125 :: (.int .i64 x) :: v127 :: v128 :: v129 :: v130 :: v131 :: v132 :: v133 :: v134 :: v135 :: v136 :: v137 :: v138 :: v139 :: v140 :: v141 :: v142 :: v143 :: v144 :: v145 :: v146 :: v147 :: v148 :: v149 :: v150 :: v151 :: v152 :: v153 :: v154 :: v155 :: v156 :: v157 :: v158 :: v159 :: v160 :: v161 :: v162 :: v163 :: v164 :: v165 :: v166 :: v167 :: v168 :: v169 :: v170 :: v171 :: v172 :: v173 :: v174 :: v175 :: v176 :: v177 :: v178 :: v179 :: v180 :: v181 :: v182 :: v183 :: v184 :: v185 :: v186 :: v187 :: v188 :: v189 :: v190 :: v191 :: v192 :: v193 :: v194 :: v195 :: v196 :: v197 :: v198 :: v199 :: v200 :: v201 :: v202 :: v203 :: v204 :: v205 :: v206 :: v207 :: v208 :: v209 :: v210 :: v211 :: v212 :: v213 :: v214 :: v215 :: v216 :: v217 :: v218 :: v219 :: v220 :: v221 :: v222 :: v223 :: v224 :: v225 :: v226 :: v227 :: v228 :: v229 :: v230 :: v231 :: v232 :: v233 :: v234 :: v235 :: v236 :: v237 :: v238 :: v239 :: v240 :: v241 :: v242 :: v243 :: v244 :: v245 :: v246 :: v247 :: v248 :: v249 :: v250 :: v251 :: v252 :: v253 :: v254 :: v255 :: v256 :: v257 :: v258 :: v259 :: v260 :: v261 :: v262 :: v263 :: v264 :: v265 :: v266 :: v267 :: v268 :: v269 :: v270 :: v271 :: v272 :: v273 :: v274 :: v275 :: v276 :: v277 :: v278 :: v279 :: v280 :: v281 :: v282 :: v283 :: v284 :: u285 :: u286 :: u287 :: u288 :: u289 :: u290 :: u291 :: u292 :: u293 :: u294 :: u295 :: u296 :: u297 :: u298 :: u299 :: u300 :: u301 :: u302 :: u303 :: u304 :: u305 :: u306 :: u307 :: u308 :: u309 :: u310 :: u311 :: u312 :: u313 :: u314 :: u315 :: u316 :: u317 :: u318 :: u319 :: u320 :: u321 :: u322 :: u323 :: u324 :: u325 :: u326 :: u327 :: u328 :: u329 :: u330 :: u331 :: u332 :: u333 :: u334 :: u335 :: u336 :: u337 :: u338 :: u339 :: u340 :: u341 :: u342 :: u343 :: u344 :: u345 :: u346 :: u347 :: u348 :: u349 :: u350 :: u351 :: u352 :: u353 :: u354 :: u355 :: u356 :: u357 :: u358 :: u359 :: u360 :: u361 :: u362 :: u363 :: u364 :: u365 :: u366 :: u367 :: u368 :: u369 :: u370 :: u371 :: u372 :: u373 :: u374 :: u375 :: u376 :: u377 :: u378 :: u379 :: u380 :: u381 :: u382 :: u383 :: u384 :: u385 :: u386 :: u387 :: u388 :: u389 :: u390 :: u391 :: u392 :: u393 :: u394 :: u395 :: u396 :: u397 :: u398 :: u399 :: u400 :: u401 :: u402 :: u403 :: []), []⟩ wx) :
    Code.wp Tryd.prog ppSwitch_code Q ⟨List.toArray ((.slice gad N gcap) :: u1 :: u2 :: u3 :: u4 :: (.int .i64 0) :: u6 :: (.pointer (some ⟨p, 0, none⟩)) :: u8 :: u9 :: (.pointer (some ⟨q, 0, none⟩)) :: u11 :: (.pointer (some ⟨vb, 0, none⟩)) :: u13 :: (.int .i64 (pcWay s y z : Nat)) :: u15 :: u16 :: u17 :: u18 :: u19 :: u20 :: u21 :: u22 :: u23 :: u24 :: u25 :: u26 :: u27 :: u28 :: u29 :: u30 :: u31 :: u32 :: u33 :: u34 :: u35 :: u36 :: u37 :: u38 :: u39 :: u40 :: u41 :: u42 :: u43 :: u44 :: u45 :: u46 :: u47 :: u48 :: u49 :: u50 :: u51 :: u52 :: u53 :: u54 :: u55 :: u56 :: u57 :: u58 :: u59 :: u60 :: u61 :: u62 :: u63 :: u64 :: u65 :: u66 :: u67 :: u68 :: u69 :: u70 :: u71 :: u72 :: u73 :: u74 :: u75 :: u76 :: u77 :: u78 :: u79 :: u80 :: u81 :: u82 :: u83 :: u84 :: u85 :: u86 :: u87 :: u88 :: u89 :: u90 :: u91 :: u92 :: u93 :: u94 :: u95 :: u96 :: u97 :: u98 :: u99 :: u100 :: u101 :: u102 :: u103 :: u104 :: u105 :: u106 :: u107 :: u108 :: u109 :: u110 :: u111 :: u112 :: u113 :: u114 :: u115 :: u116 :: u117 :: u118 :: u119 :: u120 :: u121 :: u122 :: u123 :: u124 :: u125 :: (.int .i64 x) :: u127 :: u128 :: u129 :: u130 :: u131 :: u132 :: u133 :: u134 :: u135 :: u136 :: u137 :: u138 :: u139 :: u140 :: u141 :: u142 :: u143 :: u144 :: u145 :: u146 :: u147 :: u148 :: u149 :: u150 :: u151 :: u152 :: u153 :: u154 :: u155 :: u156 :: u157 :: u158 :: u159 :: u160 :: u161 :: u162 :: u163 :: u164 :: u165 :: u166 :: u167 :: u168 :: u169 :: u170 :: u171 :: u172 :: u173 :: u174 :: u175 :: u176 :: u177 :: u178 :: u179 :: u180 :: u181 :: u182 :: u183 :: u184 :: u185 :: u186 :: u187 :: u188 :: u189 :: u190 :: u191 :: u192 :: u193 :: u194 :: u195 :: u196 :: u197 :: u198 :: u199 :: u200 :: u201 :: u202 :: u203 :: u204 :: u205 :: u206 :: u207 :: u208 :: u209 :: u210 :: u211 :: u212 :: u213 :: u214 :: u215 :: u216 :: u217 :: u218 :: u219 :: u220 :: u221 :: u222 :: u223 :: u224 :: u225 :: u226 :: u227 :: u228 :: u229 :: u230 :: u231 :: u232 :: u233 :: u234 :: u235 :: u236 :: u237 :: u238 :: u239 :: u240 :: u241 :: u242 :: u243 :: u244 :: u245 :: u246 :: u247 :: u248 :: u249 :: u250 :: u251 :: u252 :: u253 :: u254 :: u255 :: u256 :: u257 :: u258 :: u259 :: u260 :: u261 :: u262 :: u263 :: u264 :: u265 :: u266 :: u267 :: u268 :: u269 :: u270 :: u271 :: u272 :: u273 :: u274 :: u275 :: u276 :: u277 :: u278 :: u279 :: u280 :: u281 :: u282 :: u283 :: u284 :: u285 :: u286 :: u287 :: u288 :: u289 :: u290 :: u291 :: u292 :: u293 :: u294 :: u295 :: u296 :: u297 :: u298 :: u299 :: u300 :: u301 :: u302 :: u303 :: u304 :: u305 :: u306 :: u307 :: u308 :: u309 :: u310 :: u311 :: u312 :: u313 :: u314 :: u315 :: u316 :: u317 :: u318 :: u319 :: u320 :: u321 :: u322 :: u323 :: u324 :: u325 :: u326 :: u327 :: u328 :: u329 :: u330 :: u331 :: u332 :: u333 :: u334 :: u335 :: u336 :: u337 :: u338 :: u339 :: u340 :: u341 :: u342 :: u343 :: u344 :: u345 :: u346 :: u347 :: u348 :: u349 :: u350 :: u351 :: u352 :: u353 :: u354 :: u355 :: u356 :: u357 :: u358 :: u359 :: u360 :: u361 :: u362 :: u363 :: u364 :: u365 :: u366 :: u367 :: u368 :: u369 :: u370 :: u371 :: u372 :: u373 :: u374 :: u375 :: u376 :: u377 :: u378 :: u379 :: u380 :: u381 :: u382 :: u383 :: u384 :: u385 :: u386 :: u387 :: u388 :: u389 :: u390 :: u391 :: u392 :: u393 :: u394 :: u395 :: u396 :: u397 :: u398 :: u399 :: u400 :: u401 :: u402 :: u403 :: []), []⟩ w1 := by
  conv => arg 2; whnf
  have HK := Lib.hid hK
  clear hK
  have hok : PicOk s := picOk_of hI.inv hall
  have d1 : w1.cell? ⟨vb, 1, none⟩ = some (.int .i64 y) := HO.out.third.nms_cell 1 (by simp)
  have d2 : w1.cell? ⟨vb, 2, none⟩ = some (.int .i64 z) := HO.out.third.nms_cell 2 (by simp)
  have d3 : w1.cell? ⟨vb, 3, none⟩ = some (.int .i64 u) := HO.out.third.nms_cell 3 (by simp)
  by_cases h012 : x = 0 ∨ x = 1 ∨ x = 2
  · skip
    obtain ⟨E, hE⟩ : ∃ E, E = pcPayErr s y z u := ⟨_, rfl⟩
    have hni := hI.pay y z u
    obtain ⟨S2, hS2⟩ : ∃ S, S = pcPay s y z u := ⟨_, rfl⟩
    rw [← hS2] at hni
    have tE := same_nat'' E
    obtain ⟨B, hB⟩ : ∃ B, B = (decide (pcWay s y z = 0) && (decide (u < 1) || decide (1000 < u))) := ⟨_, rfl⟩
    obtain ⟨W, hW⟩ : ∃ W, W = pcWay s y z := ⟨_, rfl⟩
    rw [← hW] at HK ⊢
    have HBC : Hid ((W ≠ 0 ∧ B = false) ∨ (W = 0 ∧ u < 1 ∧ B = true) ∨ (W = 0 ∧ ¬ u < 1 ∧ 1000 < u ∧ B = true) ∨ (W = 0 ∧ ¬ u < 1 ∧ ¬ 1000 < u ∧ B = false)) := Lib.hid (by
      rw [hB, ← hW]
      by_cases h1 : W = 0
      · by_cases h2 : u < 1
        · exact .inr (.inl ⟨h1, h2, by simp [h1, h2]⟩)
        · by_cases h3 : 1000 < u
          · exact .inr (.inr (.inl ⟨h1, h2, h3, by simp [h1, h2, h3]⟩))
          · exact .inr (.inr (.inr ⟨h1, h2, h3, by simp [h1, h2, h3]⟩))
      · exact .inl ⟨h1, by simp [h1]⟩)
    have HIS := Lib.hid hI
    obtain ⟨l, hl⟩ : ∃ l, l = [x, y, z, u] := ⟨_, rfl⟩
    have HDC : Hid (∀ w' R, Own w (Nms 64 vb l * R) w' → w'.cell? ⟨vb, 1, none⟩ = some (.int .i64 y) ∧ w'.cell? ⟨vb, 2, none⟩ = some (.int .i64 z) ∧ w'.cell? ⟨vb, 3, none⟩ = some (.int .i64 u)) := Lib.hid (fun w' R h => by
      rw [hl] at h
      exact ⟨h.nms_cell 1 (by simp), h.nms_cell 2 (by simp), h.nms_cell 3 (by simp)⟩)
    rw [← hl] at HO HK
    have HI := Lib.hid hI; have HOK := Lib.hid hok; have HE := Lib.hid hE; have HS2 := Lib.hid hS2; have HNI := Lib.hid hni; have HB := Lib.hid hB; have HW := Lib.hid hW; have HG := Lib.hid hg; have HL := Lib.hid hl
    clear hI hok hE hS2 hni hB hW hg hl
    rcases h012 with rfl | rfl | rfl
    all_goals
      go_upto_region 37 with fail
      go_cut [170] from 159 to 170 (fun v wx => v = .bool B ∧ wx = w1)
      case first =>
        rcases HBC.out with ⟨h1, h2⟩ | ⟨h1, h2, h3⟩ | ⟨h1, h2, h3, h4⟩ | ⟨h1, h2, h3, h4⟩
        · have t1 : (((W : Nat) : Int) == 0) = false := by rw [beq_eq_false_iff_ne]; omega
          subst h2
          clear h1
          go_wp2_with fail
          go_meet
          exact ⟨rfl, rfl⟩
        · subst h1; subst h3
          go_wp2_with fail
          go_meet
          exact ⟨rfl, rfl⟩
        · subst h1; subst h4
          go_wp2_with fail
          go_meet
          exact ⟨rfl, rfl⟩
        · subst h1; subst h4
          go_wp2_with fail
          go_meet
          exact ⟨rfl, rfl⟩
      case rest =>
      obtain ⟨rfl, rfl⟩ := hcut
      go_upto_if 170 with fail
      go_cut [5] from 5 to 5 (fun v wx => v = .int .i64 (E : Int) ∧ Own w (PicA p mb1 mb2 mb3 gb go gc N s * (RpP q S2 * (Nms 64 vb l * emp))) wx)
      case first =>
        refine ppPay w (PicA p mb1 mb2 mb3 gb go gc N s) q vb N _ y z u all s HIS.out hall hN5 W HW.out B HB.out (by rw [← HL.out]; exact HO) ?_
        intros
        rename_i hpp
        rw [← HE.out, ← HS2.out, ← HL.out] at hpp
        go_step
        go_step
        go_meet
        exact hpp
      case rest =>
      obtain ⟨rfl, ho⟩ := hcut
      have HO2 := Lib.hid ho
      clear ho d1 d2 d3 HO
      obtain ⟨d1, d2, d3⟩ := HDC.out _ _ HO2.out.third
      go_wp2_with fail
      refine (pPay_any s y z u HOK.out HO2.out).mono ?_
      rintro e w3 ⟨rfl, ho⟩
      rw [← HS2.out] at ho
      rw [← HE.out]
      have HO3 := Lib.hid ho
      clear ho d1 d2 d3 HO2
      go_wp2_with fail
      refine (sameErr_any HG.out E E HO3.out).mono ?_
      rintro e w4 ⟨rfl, ho⟩
      rw [tE]
      have HO4 := Lib.hid ho
      clear ho HO3
      go_wp2_with fail
      apply HK.out
      exact ⟨rfl, S2, HNI.out, HO4.out⟩
  have t0 : (x == 0) = false := by rw [beq_eq_false_iff_ne]; omega
  have t1 : (x == 1) = false := by rw [beq_eq_false_iff_ne]; omega
  have t2 : (x == 2) = false := by rw [beq_eq_false_iff_ne]; omega
  by_cases h345 : x = 3 ∨ x = 4 ∨ x = 5
  · skip
    obtain ⟨E, hE⟩ : ∃ E, E = pcComeErr s y z := ⟨_, rfl⟩
    obtain ⟨V, hV⟩ : ∃ E, E = pcComeVal s y z := ⟨_, rfl⟩
    have hni := hI.come y z
    obtain ⟨S2, hS2⟩ : ∃ S, S = pcCome s y z := ⟨_, rfl⟩
    rw [← hS2] at hni
    have tE := same_nat'' E
    have tV : (V == V) = true := by simp
    have HIS := Lib.hid hI
    clear h012
    have HI := Lib.hid hI; have HOK := Lib.hid hok; have HE := Lib.hid hE; have HS2 := Lib.hid hS2; have HNI := Lib.hid hni; have HV := Lib.hid hV; have HG := Lib.hid hg
    clear hI hok hE hS2 hni hV hg
    rcases h345 with rfl | rfl | rfl
    all_goals
      clear t0 t1 t2
      go_wp2_with fail
      refine (rpCome_any q s y z HIS.out.inv hall HO.out.second).mono ?_
      rintro e w3 ⟨rfl, ho⟩
      rw [← HV.out, ← HE.out]
      rw [← HS2.out] at ho
      have HO3 := Lib.hid ho.second
      clear ho d1 d2 d3
      have d1 : w3.cell? ⟨vb, 1, none⟩ = some (.int .i64 y) := HO3.out.third.nms_cell 1 (by simp)
      have d2 : w3.cell? ⟨vb, 2, none⟩ = some (.int .i64 z) := HO3.out.third.nms_cell 2 (by simp)
      go_wp2_with fail
      refine (pCome_any s y z HOK.out (picOk_pop HOK.out y z) HO3.out).mono ?_
      rintro e w4 ⟨rfl, ho⟩
      rw [← HV.out, ← HE.out]
      rw [← HS2.out] at ho
      have HO4 := Lib.hid ho
      clear ho d1 d2
      go_wp2_with fail
      refine (sameErr_any HG.out E E HO4.out).mono ?_
      rintro e w5 ⟨rfl, ho⟩
      rw [tE]
      have HO5 := Lib.hid ho
      clear ho
      go_wp2_with fail
      apply HK.out
      exact ⟨by first | rfl | (rw [tV]; rfl) | simp, S2, HNI.out, HO5.out⟩
  have t3 : (x == 3) = false := by rw [beq_eq_false_iff_ne]; omega
  have t4 : (x == 4) = false := by rw [beq_eq_false_iff_ne]; omega
  have t5 : (x == 5) = false := by rw [beq_eq_false_iff_ne]; omega
  have hA : pcHas s y = true ↔ (0 ≤ y ∧ y < (N : Int)) := by unfold pcHas; rw [hI.len]; simp
  clear h012 h345
  rcases begin_errs s y with ⟨h1, h2⟩ | ⟨h1, h2, h3⟩ | ⟨h1, h2, h3⟩
  · have hS : pcBegin s y = s := by unfold pcBegin; rw [h2]; rfl
    have hcs : y < 0 ∨ (¬ y < 0 ∧ (N : Int) ≤ y) := by
      have : ¬ (0 ≤ y ∧ y < (N : Int)) := fun h => by rw [hA.2 h] at h1; cases h1
      omega
    have HIS := Lib.hid hI
    have HI := Lib.hid hI; have HOK := Lib.hid hok; have H1 := Lib.hid h1; have H2 := Lib.hid h2; have HS := Lib.hid hS; have HA := Lib.hid hA; have HG := Lib.hid hg
    clear hI hok h1 h2 hS hA hg
    rcases hcs with h6 | ⟨h6, h7⟩
    all_goals
      go_wp2_with fail
      refine (pBegin_any s y HOK.out HO.out).mono ?_
      rintro e w3 ⟨rfl, ho⟩
      rw [HS.out] at ho
      rw [H2.out]
      have HO3 := Lib.hid ho
      clear ho d1 d2 d3
      go_wp2_with fail
      refine (sameErr_any HG.out 1 1 HO3.out).mono ?_
      rintro e w4 ⟨rfl, ho⟩
      have HO4 := Lib.hid ho
      clear ho
      go_wp2_with fail
      apply HK.out
      exact ⟨rfl, s, HIS.out, HO4.out⟩
  · have hS : pcBegin s y = s := by unfold pcBegin; rw [h3]; rfl
    obtain ⟨y0, yN⟩ := hA.1 h1
    obtain ⟨cs, gv, rows, P, ⟨he, hp⟩, hof⟩ := HO.out.second.rp_open
    obtain ⟨_, c26, _⟩ := hof.rp_cells he
    have c26' : w1.cell? ⟨q, 26, none⟩ = some (.bool true) := by rw [c26, ← h2]; rfl
    have t6 : decide (y < 0) = false := decide_eq_false (by omega)
    have t7 : decide ((N : Int) ≤ y) = false := decide_eq_false (by omega)
    have HIS := Lib.hid hI
    clear c26
    have HI := Lib.hid hI; have HOK := Lib.hid hok; have H1 := Lib.hid h1; have H2 := Lib.hid h2; have H3 := Lib.hid h3; have HS := Lib.hid hS; have HA := Lib.hid hA; have HG := Lib.hid hg; have HE := Lib.hid he; have HP := Lib.hid hp; have HOF := Lib.hid hof
    clear hI hok h1 h2 h3 hS hA hg he hp hof
    go_wp2_with fail
    refine (pBegin_any s y HOK.out HO.out).mono ?_
    rintro e w3 ⟨rfl, ho⟩
    rw [HS.out] at ho
    rw [H3.out]
    have HO3 := Lib.hid ho
    clear ho d1 d2 d3 c26'
    go_wp2_with fail
    refine (sameErr_any HG.out 6 6 HO3.out).mono ?_
    rintro e w4 ⟨rfl, ho⟩
    have HO4 := Lib.hid ho
    clear ho
    go_wp2_with fail
    apply HK.out
    exact ⟨rfl, s, HIS.out, HO4.out⟩
  · obtain ⟨y0, yN⟩ := hA.1 h1
    have hni := hI.begin y
    have hbeg : pcBegin s y = pcWrite { s with begun := true } y := by unfold pcBegin; rw [if_pos h3]
    obtain ⟨cs, gv, rows, P, ⟨he, hp⟩, hof⟩ := HO.out.second.rp_open
    obtain ⟨_, c26, _, _, _, cf⟩ := hof.rp_cells he
    have c26' : w1.cell? ⟨q, 26, none⟩ = some (.bool false) := by rw [c26, ← h2]; rfl
    have f26 := cf 26 none
    have t6 : decide (y < 0) = false := decide_eq_false (by omega)
    have t7 : decide ((N : Int) ≤ y) = false := decide_eq_false (by omega)
    have hno : mget ({ s with begun := true } : Pic).wrote y = none := (hI.inv.beg' h2).2 y
    have hhas : pcHas ({ s with begun := true } : Pic) y = true := h1
    have ho2 : Own w (RpP q { s with begun := true } * (PicA p mb1 mb2 mb3 gb go gc N s * (Nms 64 vb [x, y, z, u] * emp))) (w1.setCell ⟨q, 26, none⟩ (.bool true)) :=
      Own.rp_close (rpOf_begun he) hp ((show Own w (rpBlk q _ * _) _ from Own.setCell (i := 26) (v := .bool true) hof).perm (by ac_rfl))
    have HIS := Lib.hid hI
    have HWR := Lib.hid (rpWrite_any q { s with begun := true } y hhas (show s.gold.length ≤ 5 by rw [hI.len]; exact hN5) hno (fun a b => by
      obtain ⟨r1, r2⟩ := hok.row a b
      exact ⟨r1, fun v hv => by have := r2 v hv; unfold I64; omega⟩) (fun v hv => by have := hok.goldI v hv; unfold I64; omega) ho2)
    rw [← hbeg] at HWR
    obtain ⟨S2, hS2⟩ : ∃ S, S = pcBegin s y := ⟨_, rfl⟩
    rw [← hS2] at HWR hni
    have d1' : (w1.setCell ⟨q, 26, none⟩ (.bool true)).cell? ⟨vb, 1, none⟩ = some (.int .i64 y) := ho2.third.nms_cell 1 (by simp)
    obtain ⟨w2, hw2⟩ : ∃ w', w' = w1.setCell ⟨q, 26, none⟩ (.bool true) := ⟨_, rfl⟩
    rw [← hw2] at HWR d1'
    clear c26 cf ho2
    have HI := Lib.hid hI; have HOK := Lib.hid hok; have H1 := Lib.hid h1; have H2 := Lib.hid h2; have H3 := Lib.hid h3; have HA := Lib.hid hA; have HG := Lib.hid hg; have HE := Lib.hid he; have HP := Lib.hid hp; have HOF := Lib.hid hof; have HNO := Lib.hid hno; have HHAS := Lib.hid hhas; have HBEG := Lib.hid hbeg; have HNI := Lib.hid hni; have HS2 := Lib.hid hS2
    clear hI hok h1 h2 h3 hA hg he hp hof hno hhas hbeg hni hS2
    go_upto_region 31 with fail
    rw [← hw2]
    clear hw2 d1 d2 d3 c26' f26
    go_wp2_with fail
    refine HWR.out.mono ?_
    rintro e w3 ⟨rfl, ho⟩
    have HO3 : Hid (Own w (PicA p mb1 mb2 mb3 gb go gc N s * (RpP q S2 * (Nms 64 vb [x, y, z, u] * emp))) w3) := Lib.hid (ho.perm (by ac_rfl))
    clear ho d1'
    have d1 : w3.cell? ⟨vb, 1, none⟩ = some (.int .i64 y) := HO3.out.third.nms_cell 1 (by simp)
    go_wp2_with fail
    refine (pBegin_any s y HOK.out HO3.out).mono ?_
    rintro e w4 ⟨rfl, ho⟩
    rw [← HS2.out] at ho
    rw [H3.out]
    have HO4 := Lib.hid ho
    clear ho d1
    go_wp2_with fail
    refine (sameErr_any HG.out 0 0 HO4.out).mono ?_
    rintro e w5 ⟨rfl, ho⟩
    have HO5 := Lib.hid ho
    clear ho
    go_wp2_with fail
    apply HK.out
    exact ⟨rfl, S2, HNI.out, HO5.out⟩
end Go.Proofs.YtpgonkecicmanaaDoor
