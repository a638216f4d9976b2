/- PicturePlays: pieces of the law: gold is paid. -/
import Derived.Test.YtpgonkecicmanaaDoorMPicturePlays14
namespace Go.Proofs.YtpgonkecicmanaaDoor
set_option linter.unusedVariables false
set_option linter.unusedSimpArgs false
open Go.RowKit Go.Maps
theorem star_emp_l (P : HProp) : P * emp = P := star_emp P
def PpS (w : World) (AA : Pic → HProp) (q vb : Nat) (l : List Int) (s s2 : Pic) (wx : World) : Prop := Own w (AA s * (RpP q s2 * (Nms 64 vb l * emp))) wx
noncomputable def ppPay_code : Code := ((Tryd.f4.body.bind (findIf 170)).getD .skip)
set_option maxRecDepth 1000000 in
set_option maxHeartbeats 4000000 in
theorem ppPay {Q : Exit → Act → World → Prop} {u0 u1 u2 u3 u4 u6 u7 u8 u9 u11 u13 u14 u15 u16 u17 u18 u19 u20 u21 u22 u23 u24 u25 u26 u27 u28 u29 u30 u31 u32 u33 u34 u35 u36 u37 u38 u39 u40 u41 u42 u43 u44 u45 u46 u47 u48 u49 u50 u51 u52 u53 u54 u55 u56 u57 u58 u59 u60 u61 u62 u63 u64 u65 u66 u67 u68 u69 u70 u71 u72 u73 u74 u75 u76 u77 u78 u79 u80 u81 u82 u83 u84 u85 u86 u87 u88 u89 u90 u91 u92 u93 u94 u95 u96 u97 u98 u99 u100 u101 u102 u103 u104 u105 u106 u107 u108 u109 u110 u111 u112 u113 u114 u115 u116 u117 u118 u119 u120 u121 u122 u123 u124 u125 u126 u127 u128 u129 u130 u131 u132 u133 u134 u135 u136 u137 u138 u139 u140 u141 u142 u143 u144 u145 u146 u147 u148 u149 u150 u151 u152 u153 u154 u155 u156 u157 u158 u159 u160 u161 u162 u163 u164 u165 u166 u167 u168 u169 u171 u172 u173 u174 u175 u176 u177 u178 u179 u180 u181 u182 u183 u184 u185 u186 u187 u188 u189 u190 u191 u192 u193 u194 u195 u196 u197 u198 u199 u200 u201 u202 u203 u204 u205 u206 u207 u208 u209 u210 u211 u212 u213 u214 u215 u216 u217 u218 u219 u220 u221 u222 u223 u224 u225 u226 u227 u228 u229 u230 u231 u232 u233 u234 u235 u236 u237 u238 u239 u240 u241 u242 u243 u244 u245 u246 u247 u248 u249 u250 u251 u252 u253 u254 u255 u256 u257 u258 u259 u260 u261 u262 u263 u264 u265 u266 u267 u268 u269 u270 u271 u272 u273 u274 u275 u276 u277 u278 u279 u280 u281 u282 u283 u284 u285 u286 u287 u288 u289 u290 u291 u292 u293 u294 u295 u296 u297 u298 u299 u300 u301 u302 u303 u304 u305 u306 u307 u308 u309 u310 u311 u312 u313 u314 u315 u316 u317 u318 u319 u320 u321 u322 u323 u324 u325 u326 u327 u328 u329 u330 u331 u332 u333 u334 u335 u336 u337 u338 u339 u340 u341 u342 u343 u344 u345 u346 u347 u348 u349 u350 u351 u352 u353 u354 u355 u356 u357 u358 u359 u360 u361 u362 u363 u364 u365 u366 u367 u368 u369 u370 u371 u372 u373 u374 u375 u376 u377 u378 u379 u380 u381 u382 u383 u384 u385 u386 u387 u388 u389 u390 u391 u392 u393 u394 u395 u396 u397 u398 u399 u400 u401 u402 u403 : Value} {w1 : World} (w : World) (AA : HProp) (q vb N : Nat) (x y z u : Int) (all : Int) (s : Pic) (hI : PpI all N s) (hall : all ≤ 1000000) (hN5 : N ≤ 5) (W : Nat) (hW : W = pcWay s y z) (B : Bool) (hB : B = (decide (pcWay s y z = 0) && (decide (u < 1) || decide (1000 < u)))) (HO : Hid (Own w (AA * (RpP q s * (Nms 64 vb [x, y, z, u] * emp))) w1))
    (hK : ∀ (v5 v171 v172 v173 v174 v175 v176 v177 v178 v179 v180 v181 v182 v183 v184 v185 v186 v187 v188 v189 v190 v191 v192 v193 v194 v195 v196 v197 v198 v199 v200 v201 v202 v203 v204 v205 v206 v207 v208 v209 v210 v211 v212 v213 v214 v215 v216 v217 v218 v219 v220 v221 v222 v223 v224 v225 v226 v227 v228 v229 v230 v231 v232 v233 v234 v235 v236 v237 v238 v239 v240 v241 v242 v243 v244 : Value) (wx : World), (v5 = .int .i64 (pcPayErr s y z u : Nat) ∧ Own w (AA * (RpP q (pcPay s y z u) * (Nms 64 vb [x, y, z, u] * emp))) wx) → Q .normal ⟨List.toArray (u0 :: u1 :: u2 :: u3 :: u4 :: v5 :: u6 :: u7 :: u8 :: u9 :: (.pointer (some ⟨q, 0, none⟩)) :: u11 :: (.pointer (some ⟨vb, 0, none⟩)) :: u13 :: u14 :: u15 :: u16 :: u17 :: u18 :: u19 :: u20 :: u21 :: u22 :: u23 :: u24 :: u25 :: u26 :: u27 :: u28 :: u29 :: u30 :: u31 :: u32 :: u33 :: u34 :: u35 :: u36 :: u37 :: u38 :: u39 :: u40 :: u41 :: u42 :: u43 :: u44 :: u45 :: u46 :: u47 :: u48 :: u49 :: u50 :: u51 :: u52 :: u53 :: u54 :: u55 :: u56 :: u57 :: u58 :: u59 :: u60 :: u61 :: u62 :: u63 :: u64 :: u65 :: u66 :: u67 :: u68 :: u69 :: u70 :: u71 :: u72 :: u73 :: u74 :: u75 :: u76 :: u77 :: u78 :: u79 :: u80 :: u81 :: u82 :: u83 :: u84 :: u85 :: u86 :: u87 :: u88 :: u89 :: u90 :: u91 :: u92 :: u93 :: u94 :: u95 :: u96 :: u97 :: u98 :: u99 :: u100 :: u101 :: u102 :: u103 :: u104 :: u105 :: u106 :: u107 :: u108 :: u109 :: u110 :: u111 :: u112 :: u113 :: u114 :: u115 :: u116 :: u117 :: u118 :: u119 :: u120 :: u121 :: u122 :: u123 :: u124 :: u125 :: u126 :: u127 :: u128 :: u129 :: u130 :: u131 :: u132 :: u133 :: u134 :: u135 :: u136 :: u137 :: u138 :: u139 :: u140 :: u141 :: u142 :: u143 :: u144 :: u145 :: u146 :: u147 :: u148 :: u149 :: u150 :: u151 :: u152 :: u153 :: u154 :: u155 :: u156 :: u157 :: u158 :: u159 :: u160 :: u161 :: u162 :: u163 :: u164 :: u165 :: u166 :: u167 :: u168 :: u169 :: (.bool B) :: v171 :: v172 :: v173 :: v174 :: v175 :: v176 :: v177 :: v178 :: v179 :: v180 :: v181 :: v182 :: v183 :: v184 :: v185 :: v186 :: v187 :: v188 :: v189 :: v190 :: v191 :: v192 :: v193 :: v194 :: v195 :: v196 :: v197 :: v198 :: v199 :: v200 :: v201 :: v202 :: v203 :: v204 :: v205 :: v206 :: v207 :: v208 :: v209 :: v210 :: v211 :: v212 :: v213 :: v214 :: v215 :: v216 :: v217 :: v218 :: v219 :: v220 :: v221 :: v222 :: v223 :: v224 :: v225 :: v226 :: v227 :: v228 :: v229 :: v230 :: v231 :: v232 :: v233 :: v234 :: v235 :: v236 :: v237 :: v238 :: v239 :: v240 :: v241 :: v242 :: v243 :: v244 :: u245 :: u246 :: u247 :: u248 :: u249 :: u250 :: u251 :: u252 :: u253 :: u254 :: u255 :: u256 :: u257 :: u258 :: u259 :: u260 :: u261 :: u262 :: u263 :: u264 :: u265 :: u266 :: u267 :: u268 :: u269 :: u270 :: u271 :: u272 :: u273 :: u274 :: u275 :: u276 :: u277 :: u278 :: u279 :: u280 :: u281 :: u282 :: u283 :: u284 :: u285 :: u286 :: u287 :: u288 :: u289 :: u290 :: u291 :: u292 :: u293 :: u294 :: u295 :: u296 :: u297 :: u298 :: u299 :: u300 :: u301 :: u302 :: u303 :: u304 :: u305 :: u306 :: u307 :: u308 :: u309 :: u310 :: u311 :: u312 :: u313 :: u314 :: u315 :: u316 :: u317 :: u318 :: u319 :: u320 :: u321 :: u322 :: u323 :: u324 :: u325 :: u326 :: u327 :: u328 :: u329 :: u330 :: u331 :: u332 :: u333 :: u334 :: u335 :: u336 :: u337 :: u338 :: u339 :: u340 :: u341 :: u342 :: u343 :: u344 :: u345 :: u346 :: u347 :: u348 :: u349 :: u350 :: u351 :: u352 :: u353 :: u354 :: u355 :: u356 :: u357 :: u358 :: u359 :: u360 :: u361 :: u362 :: u363 :: u364 :: u365 :: u366 :: u367 :: u368 :: u369 :: u370 :: u371 :: u372 :: u373 :: u374 :: u375 :: u376 :: u377 :: u378 :: u379 :: u380 :: u381 :: u382 :: u383 :: u384 :: u385 :: u386 :: u387 :: u388 :: u389 :: u390 :: u391 :: u392 :: u393 :: u394 :: u395 :: u396 :: u397 :: u398 :: u399 :: u400 :: u401 :: u402 :: u403 :: []), []⟩ wx) :
    Code.wp Tryd.prog ppPay_code Q ⟨List.toArray (u0 :: u1 :: u2 :: u3 :: u4 :: (.int .i64 (W : Nat)) :: u6 :: u7 :: u8 :: u9 :: (.pointer (some ⟨q, 0, none⟩)) :: u11 :: (.pointer (some ⟨vb, 0, none⟩)) :: u13 :: u14 :: u15 :: u16 :: u17 :: u18 :: u19 :: u20 :: u21 :: u22 :: u23 :: u24 :: u25 :: u26 :: u27 :: u28 :: u29 :: u30 :: u31 :: u32 :: u33 :: u34 :: u35 :: u36 :: u37 :: u38 :: u39 :: u40 :: u41 :: u42 :: u43 :: u44 :: u45 :: u46 :: u47 :: u48 :: u49 :: u50 :: u51 :: u52 :: u53 :: u54 :: u55 :: u56 :: u57 :: u58 :: u59 :: u60 :: u61 :: u62 :: u63 :: u64 :: u65 :: u66 :: u67 :: u68 :: u69 :: u70 :: u71 :: u72 :: u73 :: u74 :: u75 :: u76 :: u77 :: u78 :: u79 :: u80 :: u81 :: u82 :: u83 :: u84 :: u85 :: u86 :: u87 :: u88 :: u89 :: u90 :: u91 :: u92 :: u93 :: u94 :: u95 :: u96 :: u97 :: u98 :: u99 :: u100 :: u101 :: u102 :: u103 :: u104 :: u105 :: u106 :: u107 :: u108 :: u109 :: u110 :: u111 :: u112 :: u113 :: u114 :: u115 :: u116 :: u117 :: u118 :: u119 :: u120 :: u121 :: u122 :: u123 :: u124 :: u125 :: u126 :: u127 :: u128 :: u129 :: u130 :: u131 :: u132 :: u133 :: u134 :: u135 :: u136 :: u137 :: u138 :: u139 :: u140 :: u141 :: u142 :: u143 :: u144 :: u145 :: u146 :: u147 :: u148 :: u149 :: u150 :: u151 :: u152 :: u153 :: u154 :: u155 :: u156 :: u157 :: u158 :: u159 :: u160 :: u161 :: u162 :: u163 :: u164 :: u165 :: u166 :: u167 :: u168 :: u169 :: (.bool B) :: u171 :: u172 :: u173 :: u174 :: u175 :: u176 :: u177 :: u178 :: u179 :: u180 :: u181 :: u182 :: u183 :: u184 :: u185 :: u186 :: u187 :: u188 :: u189 :: u190 :: u191 :: u192 :: u193 :: u194 :: u195 :: u196 :: u197 :: u198 :: u199 :: u200 :: u201 :: u202 :: u203 :: u204 :: u205 :: u206 :: u207 :: u208 :: u209 :: u210 :: u211 :: u212 :: u213 :: u214 :: u215 :: u216 :: u217 :: u218 :: u219 :: u220 :: u221 :: u222 :: u223 :: u224 :: u225 :: u226 :: u227 :: u228 :: u229 :: u230 :: u231 :: u232 :: u233 :: u234 :: u235 :: u236 :: u237 :: u238 :: u239 :: u240 :: u241 :: u242 :: u243 :: u244 :: u245 :: u246 :: u247 :: u248 :: u249 :: u250 :: u251 :: u252 :: u253 :: u254 :: u255 :: u256 :: u257 :: u258 :: u259 :: u260 :: u261 :: u262 :: u263 :: u264 :: u265 :: u266 :: u267 :: u268 :: u269 :: u270 :: u271 :: u272 :: u273 :: u274 :: u275 :: u276 :: u277 :: u278 :: u279 :: u280 :: u281 :: u282 :: u283 :: u284 :: u285 :: u286 :: u287 :: u288 :: u289 :: u290 :: u291 :: u292 :: u293 :: u294 :: u295 :: u296 :: u297 :: u298 :: u299 :: u300 :: u301 :: u302 :: u303 :: u304 :: u305 :: u306 :: u307 :: u308 :: u309 :: u310 :: u311 :: u312 :: u313 :: u314 :: u315 :: u316 :: u317 :: u318 :: u319 :: u320 :: u321 :: u322 :: u323 :: u324 :: u325 :: u326 :: u327 :: u328 :: u329 :: u330 :: u331 :: u332 :: u333 :: u334 :: u335 :: u336 :: u337 :: u338 :: u339 :: u340 :: u341 :: u342 :: u343 :: u344 :: u345 :: u346 :: u347 :: u348 :: u349 :: u350 :: u351 :: u352 :: u353 :: u354 :: u355 :: u356 :: u357 :: u358 :: u359 :: u360 :: u361 :: u362 :: u363 :: u364 :: u365 :: u366 :: u367 :: u368 :: u369 :: u370 :: u371 :: u372 :: u373 :: u374 :: u375 :: u376 :: u377 :: u378 :: u379 :: u380 :: u381 :: u382 :: u383 :: u384 :: u385 :: u386 :: u387 :: u388 :: u389 :: u390 :: u391 :: u392 :: u393 :: u394 :: u395 :: u396 :: u397 :: u398 :: u399 :: u400 :: u401 :: u402 :: u403 :: []), []⟩ w1 := by
  conv => arg 2; whnf
  have HK := Lib.hid hK
  clear hK
  subst hW
  have hok : PicOk s := picOk_of hI.inv hall
  have d1 : w1.cell? ⟨vb, 1, none⟩ = some (.int .i64 y) := HO.out.third.nms_cell 1 (by simp)
  have d2 : w1.cell? ⟨vb, 2, none⟩ = some (.int .i64 z) := HO.out.third.nms_cell 2 (by simp)
  have d3 : w1.cell? ⟨vb, 3, none⟩ = some (.int .i64 u) := HO.out.third.nms_cell 3 (by simp)
  obtain ⟨E, hE⟩ : ∃ E, E = pcPayErr s y z u := ⟨_, rfl⟩
  rw [← hE] at HK
  rcases pay_errs s y z u with ⟨h1, h2⟩ | ⟨h1, h2, h3⟩ | ⟨h1, h2, h3, h4, h5⟩ | ⟨h1, h2, h3, h4, h5, h6⟩ | ⟨h1, h2, h3, h4, h5, h6⟩
  · have hS : pcPay s y z u = s := by unfold pcPay; rw [h2, if_neg h1]
    have hB0 : B = false := by rw [hB, decide_eq_false h1]; rfl
    subst hB0
    obtain ⟨E0, hE0⟩ : ∃ E, E = pcWay s y z := ⟨_, rfl⟩
    have hEE : E = E0 := by rw [hE, h2, hE0]
    have t0 : (((E0 : Nat) : Int) == 0) = false := by rw [beq_eq_false_iff_ne]; omega
    rw [← hE0]
    rw [hS] at HK
    have HI := Lib.hid hI; have HOK := Lib.hid hok; have HB := Lib.hid hB; have HE := Lib.hid hE; have H1 := Lib.hid h1; have H2 := Lib.hid h2; have HS := Lib.hid hS; have HE0 := Lib.hid hE0; have HEE := Lib.hid hEE
    clear hI hok hB hE h1 h2 hS hE0 hEE
    go_wp2_with fail
    go_quiet (fail)
    go_wp2_with fail
    go_quiet (fail)
    go_wp2_with fail
    apply HK.out
    exact ⟨by rw [HEE.out], HO.out.drewN _⟩
  · have hS : pcPay s y z u = s := by unfold pcPay; rw [h3]; rfl
    have hB0 : B = true := by
      rw [hB, decide_eq_true h1]
      rcases h2 with h2 | ⟨_, h2⟩
      · rw [decide_eq_true h2]; rfl
      · rw [decide_eq_true h2]; simp
    subst hB0
    have hE1 : E = 1 := by rw [hE, h3]
    rw [hS] at HK
    have HI := Lib.hid hI; have HOK := Lib.hid hok; have HB := Lib.hid hB; have HE := Lib.hid hE; have H1 := Lib.hid h1; have H2 := Lib.hid h2; have H3 := Lib.hid h3; have HS := Lib.hid hS; have HE1 := Lib.hid hE1
    clear hI hok hB hE h1 h2 h3 hS hE1
    go_wp2_with fail
    apply HK.out
    exact ⟨by rw [HE1.out]; rfl, HO.out⟩
  all_goals
    obtain ⟨xx, yy, rfl, rfl, hxN, hyN, hx, hy⟩ := wayBd (by rw [hI.len]; exact hN5) h1
    rw [hI.len] at hxN hyN
    have hB0 : B = false := by rw [hB, decide_eq_false h2, decide_eq_false h3]; simp
    subst hB0
    rw [h1]
    obtain ⟨cs, gv, rows, P, ⟨he, hp⟩, hof⟩ := HO.out.second.rp_open
    obtain ⟨gb, go, gc, hgv, hg2, hg3, hgs⟩ := hof.second.gold_shape (s := s) (by rw [hI.len]; omega)
    rw [hI.len] at hgv hg2 hgs
    obtain ⟨c0, _⟩ := hof.rp_cells he
    have hgl := hgs _ _ s.gold hI.len hof.second
    have hgq := hgl.1 xx hxN
    change w1.cell? ⟨gb, go + xx, none⟩ = some (.int .i64 (pcG s (xx : Int))) at hgq
    obtain ⟨g, hg⟩ : ∃ g, g = pcG s (xx : Int) := ⟨_, rfl⟩
    have hgbd := hok.gold (xx : Int)
    rw [← hg] at hgq hgbd h4
    obtain ⟨gb0, gb1⟩ := hgbd
    subst hgv
    have x0 : (0 : Int) ≤ (xx : Int) := by omega
    have xN : (xx : Int) < (N : Int) := by omega
    have x5 : (xx : Int) < 5 := by omega
    have y0 : (0 : Int) ≤ (yy : Int) := by omega
    have y5 : (yy : Int) < 5 := by omega
    have hNc : N ≤ gc := hg2
  · have hS : pcPay s (xx : Int) (yy : Int) u = s := by unfold pcPay; rw [h5]; rfl
    have hE1 : E = 5 := by rw [hE, h5]
    have t4 : decide (g < u) = true := decide_eq_true h4
    rw [hS] at HK
    have HI := Lib.hid hI; have HOK := Lib.hid hok; have HB := Lib.hid hB; have HE := Lib.hid hE; have H1 := Lib.hid h1; have H2 := Lib.hid h2; have H3 := Lib.hid h3; have H4 := Lib.hid h4; have H5 := Lib.hid h5; have HS := Lib.hid hS; have HE1 := Lib.hid hE1; have HE := Lib.hid he; have HP := Lib.hid hp; have HOF := Lib.hid hof; have HGS := Lib.hid hgs; have HGL := Lib.hid hgl; have HG := Lib.hid hg
    clear hI hok hB hE h1 h2 h3 h4 h5 hS hE1 he hp hof hgs hgl hg
    go_wp2_with fail
    go_quiet (fail)
    go_wp2_with fail
    apply HK.out
    exact ⟨by rw [HE1.out]; rfl, HO.out.drewN _⟩
  all_goals
    obtain ⟨ad, cap, e5, hrd⟩ := (hof.perm (show _ = rpBlk q cs * (starL rowP rows * (IntSl (.slice (some ⟨gb, go, none⟩) N gc) s.gold * (Nms 64 vb [x, (xx : Int), (yy : Int), u] * emp * AA))) by ac_rfl)).rp_row he hx hy (fun v hv => by have := (hok.row _ _).2 v hv; unfold I64; omega)
    obtain ⟨X, hX⟩ : ∃ X, X = pcRow s (xx : Int) (yy : Int) := ⟨_, rfl⟩
    have hX' : (rpOf s P).row xx yy = X := by rw [hX]; rfl
    rw [hX'] at e5 hrd
    rw [← hX] at h5
    obtain ⟨L, hL⟩ : ∃ L, L = X.length := ⟨_, rfl⟩
    rw [← hL] at e5 h5
    have t4 : decide (g < u) = false := decide_eq_false h4
    have t40 : ((40 : Int) ≤ (L : Int)) ↔ 40 ≤ L := by omega
  · have hS : pcPay s (xx : Int) (yy : Int) u = s := by unfold pcPay; rw [h6]; rfl
    have hE1 : E = 4 := by rw [hE, h6]
    have t5 : decide ((40 : Int) ≤ (L : Int)) = true := decide_eq_true (by omega)
    rw [hS] at HK
    clear hrd t40
    have HI := Lib.hid hI; have HOK := Lib.hid hok; have HB := Lib.hid hB; have HE := Lib.hid hE; have H1 := Lib.hid h1; have H2 := Lib.hid h2; have H3 := Lib.hid h3; have H4 := Lib.hid h4; have H5 := Lib.hid h5; have H6 := Lib.hid h6; have HS := Lib.hid hS; have HE1 := Lib.hid hE1; have HE := Lib.hid he; have HP := Lib.hid hp; have HOF := Lib.hid hof; have HGS := Lib.hid hgs; have HGL := Lib.hid hgl; have HG := Lib.hid hg; have HX := Lib.hid hX; have HX' := Lib.hid hX'; have HL := Lib.hid hL
    clear hI hok hB hE h1 h2 h3 h4 h5 h6 hS hE1 he hp hof hgs hgl hg hX hX' hL
    go_wp2_with fail
    go_quiet (fail)
    go_wp2_with fail
    go_quiet (fail)
    go_wp2_with fail
    apply HK.out
    first
    | exact ⟨by rw [HE1.out]; rfl, HO.out.drewN _⟩
    | exact ⟨by rw [HE1.out]; rfl, (HO.out.drewN _).drewN _⟩
  · have t5 : decide ((40 : Int) ≤ (L : Int)) = false := decide_eq_false (by omega)
    have hE1 : E = 0 := by rw [hE, h6]
    have hu : 1 ≤ u ∧ u ≤ 1000 := by omega
    obtain ⟨u1, u2⟩ := hu
    have hgu : 0 ≤ g - u := by omega
    have hLb : L ≤ 40 := by omega
    have HIS : Hid (∀ v, RpC (cs.setIfInBounds (1 + xx * 5 + yy) v) (.slice (some ⟨gb, go, none⟩) N gc) (rows.set (xx * 5 + yy) (v, X ++ [u])) (rpOf (pcPay s (xx : Int) (yy : Int) u) P)) := Lib.hid (fun v => by rw [hX]; exact rpOf_pay he hx hy v h6)
    have HPA : Hid (PaI P (pcPay s (xx : Int) (yy : Int) u)) := Lib.hid (hp.pay _ _ _)
    have hgold : (pcPay s (xx : Int) (yy : Int) u).gold = s.gold.set xx (g - u) := by unfold pcPay; rw [if_pos h6, hg]; rfl
    have HRC := Lib.hid he
    clear hrd t40 he
    have HI := Lib.hid hI; have HOK := Lib.hid hok; have HB := Lib.hid hB; have HE := Lib.hid hE; have H1 := Lib.hid h1; have H2 := Lib.hid h2; have H3 := Lib.hid h3; have H4 := Lib.hid h4; have H5 := Lib.hid h5; have H6 := Lib.hid h6; have HE1 := Lib.hid hE1; have HP := Lib.hid hp; have HOF := Lib.hid hof; have HGS := Lib.hid hgs; have HGL := Lib.hid hgl; have HG := Lib.hid hg; have HX := Lib.hid hX; have HX' := Lib.hid hX'; have HL := Lib.hid hL; have HGOLD := Lib.hid hgold
    clear hI hok hB hE h1 h2 h3 h4 h5 h6 hE1 hp hof hgs hgl hg hX hX' hL hgold
    go_wp2_with fail
    go_quiet (fail)
    obtain ⟨n1, hn1⟩ : ∃ n1, n1 = nq := ⟨_, rfl⟩
    rw [← hn1]
    clear hn1
    go_wp2_with fail
    go_quiet (fail)
    go_upto_region 44 with fail
    obtain ⟨w2, hW2⟩ : ∃ x, x = w1.drewN (n1 + nq) := ⟨_, rfl⟩
    rw [← hW2]
    have hof2 : Own w (rpBlk q cs * (IntSl (.slice (some ⟨gb, go, none⟩) N gc) s.gold * (starL rowP rows * (Nms 64 vb [x, (xx : Int), (yy : Int), u] * emp * AA)))) w2 := by
      rw [hW2]; exact (HOF.out.drewN _).perm (by ac_rfl)
    clear hW2 d1 d2 d3 c0 hgq e5
    have d1 : w2.cell? ⟨vb, 1, none⟩ = some (.int .i64 (xx : Int)) := Own.nms_cell (hof2.perm (show _ = Nms 64 vb [x, (xx : Int), (yy : Int), u] * (rpBlk q cs * (IntSl (.slice (some ⟨gb, go, none⟩) N gc) s.gold * (starL rowP rows * (emp * AA)))) by ac_rfl)) 1 (by simp)
    have d3 : w2.cell? ⟨vb, 3, none⟩ = some (.int .i64 u) := Own.nms_cell (hof2.perm (show _ = Nms 64 vb [x, (xx : Int), (yy : Int), u] * (rpBlk q cs * (IntSl (.slice (some ⟨gb, go, none⟩) N gc) s.gold * (starL rowP rows * (emp * AA)))) by ac_rfl)) 3 (by simp)
    obtain ⟨c0, _⟩ := hof2.rp_cells HRC.out
    have hgl2 := HGS.out _ _ s.gold HI.out.len hof2.second
    have hgq : w2.cell? ⟨gb, go + xx, none⟩ = some (.int .i64 g) := by rw [HG.out]; exact hgl2.1 xx hxN
    have hgf := hgl2.2.1 (go + xx) none
    have hof3 := (hgl2.2.2 xx (g - u) hxN).drew
    have HO3 : Hid (Own w (rpBlk q cs * (starL rowP rows * (IntSl (.slice (some ⟨gb, go, none⟩) N gc) (s.gold.set xx (g - u)) * (Nms 64 vb [x, (xx : Int), (yy : Int), u] * (emp * AA))))) (w2.setCell ⟨gb, go + xx, none⟩ (.int .i64 (g - u))).drew) := Lib.hid (hof3.perm (by ac_rfl))
    clear hof2 hgl2 hof3
    refine wp_region_tail 18 (by kernel_rfl) (by kernel_rfl) ?_
    simp only [List.take_succ_cons, List.take_zero, List.drop_succ_cons, List.drop_zero]
    repeat still_step
    refine wpStill_nil ?_
    go_upto_region 45 with fail
    generalize hW3 : (World.drew (World.setCell _ _ _)) = w3 at HO3 ⊢
    clear hW3 d1 d3 c0 hgq hgf
    obtain ⟨GV, hGV⟩ : ∃ G, G = Value.slice (some ⟨gb, go, none⟩) N gc := ⟨_, rfl⟩
    rw [← hGV] at HO3 HIS HRC
    obtain ⟨hl, ad', cap', k1, k2, k3⟩ := Own.rp_take HRC.out hx hy HO3.out
    rw [HX'.out] at k1 k2 k3
    rw [← HL.out] at k1
    have H2' : Hid (Own w (Sl 3 1 (.slice ad' L cap') L (X.map (Value.int .i64)) * (rpBlk q cs * (Nms 64 vb [x, (xx : Int), (yy : Int), u] * (starL rowP (rows.eraseIdx (xx * 5 + yy)) * (IntSl GV (s.gold.set xx (g - u)) * AA))))) w3) := Lib.hid (by
      unfold IntSl at k3
      rw [← HL.out] at k3
      refine k3.perm ?_
      rw [emp_star]
      unfold IntSl
      ac_rfl)
    have HCE : Hid (cs[1 + xx * 5 + yy]? = some (.slice ad' L cap')) := Lib.hid k1
    have HLN := Lib.hid hl
    have e5 : w3.cell? ⟨q, 1 + xx * 5 + yy, none⟩ = some (.slice ad' L cap') := (Own.cell H2'.out.second _).trans k1
    have d1 : w3.cell? ⟨vb, 1, none⟩ = some (.int .i64 (xx : Int)) := Own.nms_cell H2'.out.third 1 (by simp)
    have d2 : w3.cell? ⟨vb, 2, none⟩ = some (.int .i64 (yy : Int)) := Own.nms_cell H2'.out.third 2 (by simp)
    have d3 : w3.cell? ⟨vb, 3, none⟩ = some (.int .i64 u) := Own.nms_cell H2'.out.third 3 (by simp)
    clear k1 k2 k3 HO3
    have HGV := Lib.hid hGV
    clear hGV
    refine wp_region_planH 23 [] [(true, 0), (true, 1), (true, 2), (true, 3), (true, 4), (true, 5), (true, 6), (true, 7), (true, 8), (true, 9), (true, 10), (true, 11), (true, 12), (true, 13), (true, 14), (true, 15), (true, 16), (true, 19), (true, 20), (true, 21), (false, 17), (false, 18), (true, 22)] [23] (fun wS => wS.cell? ⟨q, 1 + xx * 5 + yy, none⟩ = some (.slice ad' L cap') ∧ wS.cell? ⟨vb, 1, none⟩ = some (.int .i64 (xx : Int)) ∧ wS.cell? ⟨vb, 2, none⟩ = some (.int .i64 (yy : Int)) ∧ wS.cell? ⟨vb, 3, none⟩ = some (.int .i64 u)) (by kernel_rfl) (by kernel_rfl) (⟨e5, d1, d2, d3⟩) ?_
    simp only [pickH, pick, List.getElem?_cons_succ, List.getElem?_cons_zero, Option.toList, Option.map_some, List.cons_append, List.nil_append]
    repeat (refine wpPure_step ?_ rfl ?_ ?_; rotate_left; (focus (intro _; first | with_reducible rfl | (go_simp; done) | (go_simp; with_reducible rfl) | rfl)); go_simp)
    refine wpPure_nil ?_
    repeat (refine wpMix_read ?_ rfl ?_ ?_; rotate_left; (focus (intro _ hS; obtain ⟨s1, s2, s3, s4⟩ := hS; first | with_reducible rfl | (go_simp; done) | (go_simp; with_reducible rfl) | rfl)); go_simp)
    refine wpMix_write (fun K hK => ?_)
    go_simp
    obtain ⟨b3, hb_b3⟩ : ∃ zz_, zz_ = (w3).heap.size := ⟨_, rfl⟩
    obtain ⟨w8, hw_w8⟩ : ∃ zz_, zz_ = (w3).alloc (.cells #[.int .i64 u] 3 (0, 0)) := ⟨_, rfl⟩
    have h_HB3 := (H2'.out).alloc (.cells #[.int .i64 u] 3 (0, 0))
    rw [← hb_b3, ← hw_w8] at h_HB3
    have HB3 := Lib.hid h_HB3
    clear h_HB3
    rw [← hb_b3, ← hw_w8]
    clear hb_b3 hw_w8
    have HB5 : Hid (Own w (Sl 3 1 (.slice ad' L cap') L (X.map (Value.int .i64)) * (rpBlk q cs * (Nms 64 vb [x, (xx : Int), (yy : Int), u] * ((blk b3 (.cells #[.int .i64 u] 3 (0, 0))) * (starL rowP (rows.eraseIdx (xx * 5 + yy)) * (IntSl GV (s.gold.set xx (g - u)) * AA)))))) w8.drew) := Lib.hid (HB3.out.drew.perm (by ac_rfl))
    clear HB3 H2' e5 d1 d2 d3
    have e5 : w8.drew.cell? ⟨q, 1 + xx * 5 + yy, none⟩ = some (.slice ad' L cap') := (Own.cell HB5.out.second _).trans HCE.out
    have d1 : w8.drew.cell? ⟨vb, 1, none⟩ = some (.int .i64 (xx : Int)) := Own.nms_cell HB5.out.third 1 (by simp)
    have d2 : w8.drew.cell? ⟨vb, 2, none⟩ = some (.int .i64 (yy : Int)) := Own.nms_cell HB5.out.third 2 (by simp)
    have d3 : w8.drew.cell? ⟨vb, 3, none⟩ = some (.int .i64 u) := Own.nms_cell HB5.out.third 3 (by simp)
    refine hK _ _ ⟨⟨e5, d1, d2, d3⟩, ?_⟩
    clear hK K
    go_simp
    refine wpMix_write (fun K hK => ?_)
    have hsrc : Rd w8.drew (.slice (some ⟨b3, 0, none⟩) 1 1) 1 [.int .i64 u] := Rd_one (fun i v hi => by
      rw [Own.cell HB5.out.fourth]
      match i, hi with
      | 0, hi => exact hi) (Nat.le_refl _) (by unfold maxLen; omega)
    refine step_app rfl _ _ 38 rfl 3 1 8 _ int_info Tryd.underlying38 rfl (by decide) (by rfl) HB5.out (by rfl) (by rfl) hsrc (by intro v hv; simp at hv; subst hv; rfl) (by unfold maxLen; omega) (by omega) ?_
    intro v9 w9 ho9
    have e6 : w9.cell? ⟨q, 1 + xx * 5 + yy, none⟩ = some (.slice ad' L cap') := (Own.cell ho9.second _).trans HCE.out
    have g1 : w9.cell? ⟨vb, 1, none⟩ = some (.int .i64 (xx : Int)) := Own.nms_cell ho9.third 1 (by simp)
    have g2 : w9.cell? ⟨vb, 2, none⟩ = some (.int .i64 (yy : Int)) := Own.nms_cell ho9.third 2 (by simp)
    have g3 : w9.cell? ⟨vb, 3, none⟩ = some (.int .i64 u) := Own.nms_cell ho9.third 3 (by simp)
    have ef : w9.frozen? ⟨q, 1 + xx * 5 + yy, none⟩ = false := Own.free ho9.second _ none
    obtain ⟨ad9, n9, cp9, hv9⟩ : ∃ a b c, v9 = .slice a b c := by
      obtain ⟨a, c, e, _⟩ := Own.rd ho9
      exact ⟨a, _, c, e⟩
    have hset : Own w (rpBlk q (cs.setIfInBounds (1 + xx * 5 + yy) v9) * _) (w9.setCell ⟨q, 1 + xx * 5 + yy, none⟩ v9) := Own.setCell (i := 1 + xx * 5 + yy) (v := v9) ho9.second
    have e1 : Sl 3 1 v9 (L + 1) (X.map (Value.int .i64) ++ [.int .i64 u]) = IntSl v9 (X ++ [u]) := by
      unfold IntSl
      rw [List.length_append, List.map_append, ← HL.out]
      rfl
    rw [e1] at hset
    have HFIN : Hid (Own w (AA * (RpP q (pcPay s (xx : Int) (yy : Int) u) * (Nms 64 vb [x, (xx : Int), (yy : Int), u] * emp))) (w9.setCell ⟨q, 1 + xx * 5 + yy, none⟩ v9)) := Lib.hid (by
      have h1 := rp_put HLN.out (hset.perm (show _ = (blk b3 (.cells #[.int .i64 u] 3 (0, 0))) * (IntSl v9 (X ++ [u]) * (rpBlk q (cs.setIfInBounds (1 + xx * 5 + yy) v9) * (starL rowP (rows.eraseIdx (xx * 5 + yy)) * (IntSl GV (s.gold.set xx (g - u)) * (Nms 64 vb [x, (xx : Int), (yy : Int), u] * AA))))) by ac_rfl)).drop
      have h2 : Own w (RpP q (pcPay s (xx : Int) (yy : Int) u) * (Nms 64 vb [x, (xx : Int), (yy : Int), u] * AA)) (w9.setCell ⟨q, 1 + xx * 5 + yy, none⟩ v9) := by
        refine Own.rp_close (HIS.out v9) HPA.out ?_
        rw [HGOLD.out]
        exact h1.perm (by ac_rfl)
      refine h2.perm ?_
      rw [star_emp_l]
      ac_rfl)
    subst hv9
    clear hsrc ho9 hset HB5 e5 d1 d2 d3 e1
    refine hK _ _ ⟨⟨e6, g1, g2, g3⟩, ?_⟩
    clear hK K
    go_simp
    repeat (refine wpMix_read ?_ rfl ?_ ?_; rotate_left; (focus (intro _ hS; obtain ⟨s1, s2, s3, s4⟩ := hS; first | with_reducible rfl | (go_simp; done) | (go_simp; with_reducible rfl) | rfl)); go_simp)
    refine wpMix_nil ?_
    go_wp2_with fail
    refine NoPanic.normal ?_
    go_wp2_with fail
    apply HK.out
    exact ⟨by rw [HE1.out]; rfl, HFIN.out⟩
end Go.Proofs.YtpgonkecicmanaaDoor
