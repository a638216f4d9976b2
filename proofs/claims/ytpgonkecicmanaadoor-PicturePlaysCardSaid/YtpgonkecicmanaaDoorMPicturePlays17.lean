/- PicturePlays: pieces of the law: what gold is right; the sum. -/
import Derived.Test.YtpgonkecicmanaaDoorMPicturePlays16
namespace Go.Proofs.YtpgonkecicmanaaDoor
set_option linter.unusedVariables false
set_option linter.unusedSimpArgs false
open Go.RowKit Go.Maps
theorem mget_in {K V : Type} [DecidableEq K] {m : List (K × V)} {x : K} {v : V} (h : mget m x = some v) : (x, v) ∈ m := by
  induction m with
  | nil => cases h
  | cons p r ih =>
    unfold mget at h
    by_cases e : p.1 = x
    · rw [if_pos e] at h; cases h; subst e; exact List.mem_cons_self ..
    · rw [if_neg e] at h; exact List.mem_cons_of_mem _ (ih h)
def wroteTo (s : Pic) (k : Nat) : Int := sumU k fun m => (mget s.wrote m).getD 0
theorem wroteTo_bd {s : Pic} (h : PicOk s) (m : Int) : 0 ≤ (mget s.wrote m).getD 0 ∧ (mget s.wrote m).getD 0 ≤ 1000000 := by
  cases hx : mget s.wrote m with
  | none => simp
  | some x => exact h.wrote (m, x) (mget_in hx)
theorem wroteTo_le {s : Pic} (h : PicOk s) : ∀ k : Nat, 0 ≤ wroteTo s k ∧ wroteTo s k ≤ 1000000 * (k : Int)
  | 0 => by unfold wroteTo sumU; omega
  | k + 1 => by
    have ih := wroteTo_le h k
    have h1 := wroteTo_bd h (k : Int)
    unfold wroteTo at ih ⊢
    rw [sumU_succ]
    omega
noncomputable def ppGold_code : Code := ((Tryd.f4.body.bind (findBlock 0)).getD .skip)
set_option maxRecDepth 1000000 in
set_option maxHeartbeats 4000000 in
theorem ppGold {Q : Exit → Act → World → Prop} {u1 u2 u3 u4 u7 u8 u9 u10 u11 u12 u13 u14 u15 u16 u17 u18 u19 u20 u21 u22 u23 u24 u25 u26 u27 u28 u29 u30 u31 u32 u33 u34 u35 u36 u37 u38 u39 u40 u41 u42 u43 u44 u45 u46 u47 u48 u49 u50 u51 u52 u53 u54 u55 u56 u57 u58 u59 u60 u61 u62 u63 u64 u65 u66 u67 u68 u69 u70 u71 u72 u73 u74 u75 u76 u77 u78 u79 u80 u81 u82 u83 u84 u85 u86 u87 u88 u89 u90 u91 u92 u93 u94 u95 u96 u97 u98 u99 u100 u101 u102 u103 u104 u105 u106 u107 u108 u109 u110 u111 u112 u113 u114 u115 u116 u117 u118 u119 u120 u121 u122 u123 u124 u125 u126 u127 u128 u129 u130 u131 u132 u133 u134 u135 u136 u137 u138 u139 u140 u141 u142 u143 u144 u145 u146 u147 u148 u149 u150 u151 u152 u153 u154 u155 u156 u157 u158 u159 u160 u161 u162 u163 u164 u165 u166 u167 u168 u169 u170 u171 u172 u173 u174 u175 u176 u177 u178 u179 u180 u181 u182 u183 u184 u185 u186 u187 u188 u189 u190 u191 u192 u193 u194 u195 u196 u197 u198 u199 u200 u201 u202 u203 u204 u205 u206 u207 u208 u209 u210 u211 u212 u213 u214 u215 u216 u217 u218 u219 u220 u221 u222 u223 u224 u225 u226 u227 u228 u229 u230 u231 u232 u233 u234 u235 u236 u237 u238 u239 u240 u241 u242 u243 u244 u245 u246 u247 u248 u249 u250 u251 u252 u253 u254 u255 u256 u257 u258 u259 u260 u261 u262 u263 u264 u265 u266 u267 u268 u269 u270 u271 u272 u273 u274 u275 u276 u277 u278 u279 u280 u281 u282 u283 u284 u285 u286 u287 u288 u289 u290 u291 u292 u293 u294 u295 u296 u297 u298 u299 u300 u301 u302 u303 u304 u305 u306 u307 u308 u309 u310 u311 u312 u313 u314 u315 u316 u317 u318 u319 u320 u321 u322 u323 u324 u325 u326 u327 u328 u329 u330 u331 u332 u333 u334 u335 u336 u337 u338 u339 u340 u341 u342 u343 u344 u345 u346 u347 u348 u349 u350 u351 u352 u353 u354 u355 u356 u357 u358 u359 u360 u361 u362 u363 u364 u365 u366 u367 u368 u369 u370 u371 u372 u373 u374 u375 u376 u377 u378 u379 u380 u381 u382 u383 u384 u385 u386 u387 u388 u389 u390 u391 u392 u393 u394 u395 u396 u397 u398 u399 u400 u401 u402 u403 : Value} {w1 : World} (gold : List Int) (N : Nat) (gad : Option Addr) (gcap : Nat) (B0 : Bool) (e0 : Int) (he0 : (e0 = 0 ∧ B0 = false) ∨ (e0 = 1 ∧ B0 = true)) (hN : N = gold.length) (hNc : N ≤ gcap) (hgc : gcap ≤ 9223372036854775807) (HG : Hid (Ints w1 (.slice gad N gcap) gold))
    (hK : ∀ (v5 v6 v39 v40 v41 v42 v43 v44 v45 v46 v47 v48 v49 v50 v51 v52 v53 v54 v55 v56 v57 v58 v59 v60 : Value) (wx : World), (((v5 = .int .i64 0 ∧ (B0 || gold.any fun n => !isGold n) = false) ∨ (v5 = .int .i64 1 ∧ (B0 || gold.any fun n => !isGold n) = true)) ∧ wx = w1) → Q .normal ⟨List.toArray ((.slice gad N gcap) :: u1 :: u2 :: u3 :: u4 :: v5 :: v6 :: u7 :: u8 :: u9 :: u10 :: u11 :: u12 :: u13 :: u14 :: u15 :: u16 :: u17 :: u18 :: u19 :: u20 :: u21 :: u22 :: u23 :: u24 :: u25 :: u26 :: u27 :: u28 :: u29 :: u30 :: u31 :: u32 :: u33 :: u34 :: u35 :: u36 :: u37 :: u38 :: v39 :: v40 :: v41 :: v42 :: v43 :: v44 :: v45 :: v46 :: v47 :: v48 :: v49 :: v50 :: v51 :: v52 :: v53 :: v54 :: v55 :: v56 :: v57 :: v58 :: v59 :: v60 :: u61 :: u62 :: u63 :: u64 :: u65 :: u66 :: u67 :: u68 :: u69 :: u70 :: u71 :: u72 :: u73 :: u74 :: u75 :: u76 :: u77 :: u78 :: u79 :: u80 :: u81 :: u82 :: u83 :: u84 :: u85 :: u86 :: u87 :: u88 :: u89 :: u90 :: u91 :: u92 :: u93 :: u94 :: u95 :: u96 :: u97 :: u98 :: u99 :: u100 :: u101 :: u102 :: u103 :: u104 :: u105 :: u106 :: u107 :: u108 :: u109 :: u110 :: u111 :: u112 :: u113 :: u114 :: u115 :: u116 :: u117 :: u118 :: u119 :: u120 :: u121 :: u122 :: u123 :: u124 :: u125 :: u126 :: u127 :: u128 :: u129 :: u130 :: u131 :: u132 :: u133 :: u134 :: u135 :: u136 :: u137 :: u138 :: u139 :: u140 :: u141 :: u142 :: u143 :: u144 :: u145 :: u146 :: u147 :: u148 :: u149 :: u150 :: u151 :: u152 :: u153 :: u154 :: u155 :: u156 :: u157 :: u158 :: u159 :: u160 :: u161 :: u162 :: u163 :: u164 :: u165 :: u166 :: u167 :: u168 :: u169 :: u170 :: u171 :: u172 :: u173 :: u174 :: u175 :: u176 :: u177 :: u178 :: u179 :: u180 :: u181 :: u182 :: u183 :: u184 :: u185 :: u186 :: u187 :: u188 :: u189 :: u190 :: u191 :: u192 :: u193 :: u194 :: u195 :: u196 :: u197 :: u198 :: u199 :: u200 :: u201 :: u202 :: u203 :: u204 :: u205 :: u206 :: u207 :: u208 :: u209 :: u210 :: u211 :: u212 :: u213 :: u214 :: u215 :: u216 :: u217 :: u218 :: u219 :: u220 :: u221 :: u222 :: u223 :: u224 :: u225 :: u226 :: u227 :: u228 :: u229 :: u230 :: u231 :: u232 :: u233 :: u234 :: u235 :: u236 :: u237 :: u238 :: u239 :: u240 :: u241 :: u242 :: u243 :: u244 :: u245 :: u246 :: u247 :: u248 :: u249 :: u250 :: u251 :: u252 :: u253 :: u254 :: u255 :: u256 :: u257 :: u258 :: u259 :: u260 :: u261 :: u262 :: u263 :: u264 :: u265 :: u266 :: u267 :: u268 :: u269 :: u270 :: u271 :: u272 :: u273 :: u274 :: u275 :: u276 :: u277 :: u278 :: u279 :: u280 :: u281 :: u282 :: u283 :: u284 :: u285 :: u286 :: u287 :: u288 :: u289 :: u290 :: u291 :: u292 :: u293 :: u294 :: u295 :: u296 :: u297 :: u298 :: u299 :: u300 :: u301 :: u302 :: u303 :: u304 :: u305 :: u306 :: u307 :: u308 :: u309 :: u310 :: u311 :: u312 :: u313 :: u314 :: u315 :: u316 :: u317 :: u318 :: u319 :: u320 :: u321 :: u322 :: u323 :: u324 :: u325 :: u326 :: u327 :: u328 :: u329 :: u330 :: u331 :: u332 :: u333 :: u334 :: u335 :: u336 :: u337 :: u338 :: u339 :: u340 :: u341 :: u342 :: u343 :: u344 :: u345 :: u346 :: u347 :: u348 :: u349 :: u350 :: u351 :: u352 :: u353 :: u354 :: u355 :: u356 :: u357 :: u358 :: u359 :: u360 :: u361 :: u362 :: u363 :: u364 :: u365 :: u366 :: u367 :: u368 :: u369 :: u370 :: u371 :: u372 :: u373 :: u374 :: u375 :: u376 :: u377 :: u378 :: u379 :: u380 :: u381 :: u382 :: u383 :: u384 :: u385 :: u386 :: u387 :: u388 :: u389 :: u390 :: u391 :: u392 :: u393 :: u394 :: u395 :: u396 :: u397 :: u398 :: u399 :: u400 :: u401 :: u402 :: u403 :: []), []⟩ wx) :
    Code.wp Tryd.prog ppGold_code Q ⟨List.toArray ((.slice gad N gcap) :: u1 :: u2 :: u3 :: u4 :: (.int .i64 e0) :: (.int .i64 0) :: u7 :: u8 :: u9 :: u10 :: u11 :: u12 :: u13 :: u14 :: u15 :: u16 :: u17 :: u18 :: u19 :: u20 :: u21 :: u22 :: u23 :: u24 :: u25 :: u26 :: u27 :: u28 :: u29 :: u30 :: u31 :: u32 :: u33 :: u34 :: u35 :: u36 :: u37 :: u38 :: u39 :: u40 :: u41 :: u42 :: u43 :: u44 :: u45 :: u46 :: u47 :: u48 :: u49 :: u50 :: u51 :: u52 :: u53 :: u54 :: u55 :: u56 :: u57 :: u58 :: u59 :: u60 :: u61 :: u62 :: u63 :: u64 :: u65 :: u66 :: u67 :: u68 :: u69 :: u70 :: u71 :: u72 :: u73 :: u74 :: u75 :: u76 :: u77 :: u78 :: u79 :: u80 :: u81 :: u82 :: u83 :: u84 :: u85 :: u86 :: u87 :: u88 :: u89 :: u90 :: u91 :: u92 :: u93 :: u94 :: u95 :: u96 :: u97 :: u98 :: u99 :: u100 :: u101 :: u102 :: u103 :: u104 :: u105 :: u106 :: u107 :: u108 :: u109 :: u110 :: u111 :: u112 :: u113 :: u114 :: u115 :: u116 :: u117 :: u118 :: u119 :: u120 :: u121 :: u122 :: u123 :: u124 :: u125 :: u126 :: u127 :: u128 :: u129 :: u130 :: u131 :: u132 :: u133 :: u134 :: u135 :: u136 :: u137 :: u138 :: u139 :: u140 :: u141 :: u142 :: u143 :: u144 :: u145 :: u146 :: u147 :: u148 :: u149 :: u150 :: u151 :: u152 :: u153 :: u154 :: u155 :: u156 :: u157 :: u158 :: u159 :: u160 :: u161 :: u162 :: u163 :: u164 :: u165 :: u166 :: u167 :: u168 :: u169 :: u170 :: u171 :: u172 :: u173 :: u174 :: u175 :: u176 :: u177 :: u178 :: u179 :: u180 :: u181 :: u182 :: u183 :: u184 :: u185 :: u186 :: u187 :: u188 :: u189 :: u190 :: u191 :: u192 :: u193 :: u194 :: u195 :: u196 :: u197 :: u198 :: u199 :: u200 :: u201 :: u202 :: u203 :: u204 :: u205 :: u206 :: u207 :: u208 :: u209 :: u210 :: u211 :: u212 :: u213 :: u214 :: u215 :: u216 :: u217 :: u218 :: u219 :: u220 :: u221 :: u222 :: u223 :: u224 :: u225 :: u226 :: u227 :: u228 :: u229 :: u230 :: u231 :: u232 :: u233 :: u234 :: u235 :: u236 :: u237 :: u238 :: u239 :: u240 :: u241 :: u242 :: u243 :: u244 :: u245 :: u246 :: u247 :: u248 :: u249 :: u250 :: u251 :: u252 :: u253 :: u254 :: u255 :: u256 :: u257 :: u258 :: u259 :: u260 :: u261 :: u262 :: u263 :: u264 :: u265 :: u266 :: u267 :: u268 :: u269 :: u270 :: u271 :: u272 :: u273 :: u274 :: u275 :: u276 :: u277 :: u278 :: u279 :: u280 :: u281 :: u282 :: u283 :: u284 :: u285 :: u286 :: u287 :: u288 :: u289 :: u290 :: u291 :: u292 :: u293 :: u294 :: u295 :: u296 :: u297 :: u298 :: u299 :: u300 :: u301 :: u302 :: u303 :: u304 :: u305 :: u306 :: u307 :: u308 :: u309 :: u310 :: u311 :: u312 :: u313 :: u314 :: u315 :: u316 :: u317 :: u318 :: u319 :: u320 :: u321 :: u322 :: u323 :: u324 :: u325 :: u326 :: u327 :: u328 :: u329 :: u330 :: u331 :: u332 :: u333 :: u334 :: u335 :: u336 :: u337 :: u338 :: u339 :: u340 :: u341 :: u342 :: u343 :: u344 :: u345 :: u346 :: u347 :: u348 :: u349 :: u350 :: u351 :: u352 :: u353 :: u354 :: u355 :: u356 :: u357 :: u358 :: u359 :: u360 :: u361 :: u362 :: u363 :: u364 :: u365 :: u366 :: u367 :: u368 :: u369 :: u370 :: u371 :: u372 :: u373 :: u374 :: u375 :: u376 :: u377 :: u378 :: u379 :: u380 :: u381 :: u382 :: u383 :: u384 :: u385 :: u386 :: u387 :: u388 :: u389 :: u390 :: u391 :: u392 :: u393 :: u394 :: u395 :: u396 :: u397 :: u398 :: u399 :: u400 :: u401 :: u402 :: u403 :: []), []⟩ w1 := by
  conv => arg 2; whnf
  have HK := Lib.hid hK
  clear hK
  have HN := Lib.hid hN
  clear hN
  have HE0 := Lib.hid he0
  clear he0
  go_wp2_with fail
  go_loop [6, 5] (fun iv ev => ∃ i : Nat, i ≤ N ∧ iv = .int .i64 (i : Int) ∧ ((ev = .int .i64 0 ∧ Hid ((B0 || (gold.take i).any fun n => !isGold n) = false)) ∨ (ev = .int .i64 1 ∧ Hid ((B0 || gold.any fun n => !isGold n) = true)))) (fun iv _ => N - (intOf iv).toNat)
  case atStart =>
    refine ⟨0, Nat.zero_le _, rfl, ?_⟩
    rcases HE0.out with ⟨rfl, h⟩ | ⟨rfl, h⟩
    · exact .inl ⟨rfl, Lib.hid (by rw [h]; rfl)⟩
    · exact .inr ⟨rfl, Lib.hid (by rw [h]; rfl)⟩
  case round =>
    obtain ⟨i, hi, rfl, hcs⟩ := hrel
    rcases hcs with ⟨rfl, HB⟩ | ⟨rfl, HB⟩
    rotate_left
    · obtain ⟨D, hD⟩ : ∃ D, decide ((i : Int) < (N : Int)) = D := ⟨_, rfl⟩
      cases D
      · go_wp2_with fail
        all_goals (apply HK.out; exact ⟨.inr ⟨rfl, HB.out⟩, rfl⟩)
      · go_wp2_with fail
        all_goals (apply HK.out; exact ⟨.inr ⟨rfl, HB.out⟩, rfl⟩)
    by_cases hlt : i < N
    rotate_left
    · have hiN : gold.take i = gold := List.take_of_length_le (by rw [← HN.out]; omega)
      have t1 : decide ((i : Int) < (N : Int)) = false := decide_eq_false (by omega)
      have HB2 := HB.out
      rw [hiN] at HB2
      have HB3 := Lib.hid HB2
      clear HB2 hiN
      go_wp2_with fail
      apply HK.out
      exact ⟨.inl ⟨rfl, HB3.out⟩, rfl⟩
    have t1 : decide ((i : Int) < (N : Int)) = true := decide_eq_true (by omega)
    have hil : i < gold.length := by rw [← HN.out]; exact hlt
    obtain ⟨aa, rfl, hca⟩ := HG.out.at i hil
    have hnx : (B0 || (gold.take (i + 1)).any fun n => !isGold n) = !isGold gold[i] := by
      have h1 := HB.out
      rw [Bool.or_eq_false_iff] at h1
      rw [List.take_succ_eq_append_getElem hil, List.any_append, h1.1, h1.2]
      simp
    have hany : isGold gold[i] = false → (B0 || gold.any fun n => !isGold n) = true := fun h => by
      rw [Bool.or_eq_true, List.any_eq_true]
      exact .inr ⟨gold[i], List.getElem_mem hil, by rw [h]; rfl⟩
    obtain ⟨g, hg⟩ : ∃ g, g = gold[i] := ⟨_, rfl⟩
    rw [← hg] at hca hnx hany
    have i0 : (0 : Int) ≤ (i : Int) := by omega
    have iN : (i : Int) < (N : Int) := by omega
    by_cases hgd : 0 ≤ g ∧ g ≤ 1000
    · have hs : isGold g = true := by unfold isGold; simp [hgd]
      have h1 : ¬ g < 0 := by omega
      have h2 : ¬ 1000 < g := by omega
      rw [hs] at hnx
      have HNX := Lib.hid hnx
      clear hany hnx hgd
      have HG := Lib.hid hg; have HS := Lib.hid hs
      clear hg hs
      go_wp2
      go_round
      case rel => exact ⟨i + 1, by omega, by go_num, .inl ⟨rfl, Lib.hid (by rw [HNX.out]; rfl)⟩⟩
      case measure => simp [intOf]; omega
    · have hs : isGold g = false := by
        unfold isGold
        by_cases h1 : 0 ≤ g
        · rw [decide_eq_true h1, decide_eq_false (by omega)]; rfl
        · rw [decide_eq_false h1]; rfl
      have hcs : g < 0 ∨ (¬ g < 0 ∧ 1000 < g) := by omega
      have HNX := Lib.hid (hany hs)
      clear hany hnx hgd
      have HG := Lib.hid hg; have HS := Lib.hid hs
      clear hg hs
      rcases hcs with h1 | ⟨h1, h2⟩
      all_goals
        go_wp2
        go_round
        case rel => exact ⟨i + 1, by omega, by go_num, .inr ⟨rfl, Lib.hid HNX.out⟩⟩
        case measure => simp [intOf]; omega
noncomputable def ppSum_code : Code := ((Tryd.f4.body.bind (findIf 349)).getD .skip)
set_option maxRecDepth 1000000 in
set_option maxHeartbeats 4000000 in
theorem ppSum {Q : Exit → Act → World → Prop} {u1 u2 u3 u4 u6 u7 u8 u9 u11 u12 u13 u14 u15 u16 u17 u18 u19 u20 u21 u22 u23 u24 u25 u26 u28 u29 u30 u31 u32 u33 u34 u35 u36 u37 u38 u39 u40 u41 u42 u43 u44 u45 u46 u47 u48 u49 u50 u51 u52 u53 u54 u55 u56 u57 u58 u59 u60 u61 u62 u63 u64 u65 u66 u67 u68 u69 u70 u71 u72 u73 u74 u75 u76 u77 u78 u79 u80 u81 u82 u83 u84 u85 u86 u87 u88 u89 u90 u91 u92 u93 u94 u95 u96 u97 u98 u99 u100 u101 u102 u103 u104 u105 u106 u107 u108 u109 u110 u111 u112 u113 u114 u115 u116 u117 u118 u119 u120 u121 u122 u123 u124 u125 u126 u127 u128 u129 u130 u131 u132 u133 u134 u135 u136 u137 u138 u139 u140 u141 u142 u143 u144 u145 u146 u147 u148 u149 u150 u151 u152 u153 u154 u155 u156 u157 u158 u159 u160 u161 u162 u163 u164 u165 u166 u167 u168 u169 u170 u171 u172 u173 u174 u175 u176 u177 u178 u179 u180 u181 u182 u183 u184 u185 u186 u187 u188 u189 u190 u191 u192 u193 u194 u195 u196 u197 u198 u199 u200 u201 u202 u203 u204 u205 u206 u207 u208 u209 u210 u211 u212 u213 u214 u215 u216 u217 u218 u219 u220 u221 u222 u223 u224 u225 u226 u227 u228 u229 u230 u231 u232 u233 u234 u235 u236 u237 u238 u239 u240 u241 u242 u243 u244 u245 u246 u247 u248 u249 u250 u251 u252 u253 u254 u255 u256 u257 u258 u259 u260 u261 u262 u263 u264 u265 u266 u267 u268 u269 u270 u271 u272 u273 u274 u275 u276 u277 u278 u279 u280 u281 u282 u283 u284 u285 u286 u287 u288 u289 u290 u291 u292 u293 u294 u295 u296 u297 u298 u299 u300 u301 u302 u303 u304 u305 u306 u307 u308 u309 u310 u311 u312 u313 u314 u315 u316 u317 u318 u319 u320 u321 u322 u323 u324 u325 u326 u327 u328 u329 u330 u331 u332 u333 u334 u335 u336 u337 u338 u339 u340 u341 u342 u343 u344 u345 u346 u347 u348 u350 u351 u352 u353 u354 u355 u356 u357 u358 u359 u360 u361 u362 u363 u364 u365 u366 u367 u368 u369 u370 u371 u372 u373 u374 u375 u376 u377 u378 u379 u380 u381 u382 u383 u384 u385 u386 u387 u388 u389 u390 u391 u392 u393 u394 u395 u396 u397 u398 u399 u400 u401 u402 u403 : Value} {w1 : World} (w : World) (q b27 N : Nat) (all : Int) (s : Pic) (hI : PpI all N s) (hall : all ≤ 1000000) (hN5 : N ≤ 5) (gad : Option Addr) (gcap : Nat) (D : Bool) (hD : D = pcDone s) (cs : Array Value) (gv : Value) (rows : List (Value × List Int)) (P : Nat → Nat → Int) (HC : Hid (RpC cs gv rows (rpOf s P))) (R : HProp) (HO : Hid (Own w (SumB b27 0 0 * (rpBlk q cs * R)) w1))
    (hK : ∀ (v5 v28 v350 v351 v352 v353 v354 v355 v356 v357 v358 v359 v360 v361 v362 v363 v364 v365 v366 v367 v368 v369 v370 : Value) (wx : World), (v5 = .int .i64 ((if pcDone s = true then 0 else 6 : Nat) : Int) ∧ Own w (SumB b27 (if pcDone s = true then pcHad s else 0) (if pcDone s = true then s.onWay else 0) * (rpBlk q cs * R)) wx) → Q .normal ⟨List.toArray ((.slice gad N gcap) :: u1 :: u2 :: u3 :: u4 :: v5 :: u6 :: u7 :: u8 :: u9 :: (.pointer (some ⟨q, 0, none⟩)) :: u11 :: u12 :: u13 :: u14 :: u15 :: u16 :: u17 :: u18 :: u19 :: u20 :: u21 :: u22 :: u23 :: u24 :: u25 :: u26 :: (.pointer (some ⟨b27, 0, none⟩)) :: v28 :: u29 :: u30 :: u31 :: u32 :: u33 :: u34 :: u35 :: u36 :: u37 :: u38 :: u39 :: u40 :: u41 :: u42 :: u43 :: u44 :: u45 :: u46 :: u47 :: u48 :: u49 :: u50 :: u51 :: u52 :: u53 :: u54 :: u55 :: u56 :: u57 :: u58 :: u59 :: u60 :: u61 :: u62 :: u63 :: u64 :: u65 :: u66 :: u67 :: u68 :: u69 :: u70 :: u71 :: u72 :: u73 :: u74 :: u75 :: u76 :: u77 :: u78 :: u79 :: u80 :: u81 :: u82 :: u83 :: u84 :: u85 :: u86 :: u87 :: u88 :: u89 :: u90 :: u91 :: u92 :: u93 :: u94 :: u95 :: u96 :: u97 :: u98 :: u99 :: u100 :: u101 :: u102 :: u103 :: u104 :: u105 :: u106 :: u107 :: u108 :: u109 :: u110 :: u111 :: u112 :: u113 :: u114 :: u115 :: u116 :: u117 :: u118 :: u119 :: u120 :: u121 :: u122 :: u123 :: u124 :: u125 :: u126 :: u127 :: u128 :: u129 :: u130 :: u131 :: u132 :: u133 :: u134 :: u135 :: u136 :: u137 :: u138 :: u139 :: u140 :: u141 :: u142 :: u143 :: u144 :: u145 :: u146 :: u147 :: u148 :: u149 :: u150 :: u151 :: u152 :: u153 :: u154 :: u155 :: u156 :: u157 :: u158 :: u159 :: u160 :: u161 :: u162 :: u163 :: u164 :: u165 :: u166 :: u167 :: u168 :: u169 :: u170 :: u171 :: u172 :: u173 :: u174 :: u175 :: u176 :: u177 :: u178 :: u179 :: u180 :: u181 :: u182 :: u183 :: u184 :: u185 :: u186 :: u187 :: u188 :: u189 :: u190 :: u191 :: u192 :: u193 :: u194 :: u195 :: u196 :: u197 :: u198 :: u199 :: u200 :: u201 :: u202 :: u203 :: u204 :: u205 :: u206 :: u207 :: u208 :: u209 :: u210 :: u211 :: u212 :: u213 :: u214 :: u215 :: u216 :: u217 :: u218 :: u219 :: u220 :: u221 :: u222 :: u223 :: u224 :: u225 :: u226 :: u227 :: u228 :: u229 :: u230 :: u231 :: u232 :: u233 :: u234 :: u235 :: u236 :: u237 :: u238 :: u239 :: u240 :: u241 :: u242 :: u243 :: u244 :: u245 :: u246 :: u247 :: u248 :: u249 :: u250 :: u251 :: u252 :: u253 :: u254 :: u255 :: u256 :: u257 :: u258 :: u259 :: u260 :: u261 :: u262 :: u263 :: u264 :: u265 :: u266 :: u267 :: u268 :: u269 :: u270 :: u271 :: u272 :: u273 :: u274 :: u275 :: u276 :: u277 :: u278 :: u279 :: u280 :: u281 :: u282 :: u283 :: u284 :: u285 :: u286 :: u287 :: u288 :: u289 :: u290 :: u291 :: u292 :: u293 :: u294 :: u295 :: u296 :: u297 :: u298 :: u299 :: u300 :: u301 :: u302 :: u303 :: u304 :: u305 :: u306 :: u307 :: u308 :: u309 :: u310 :: u311 :: u312 :: u313 :: u314 :: u315 :: u316 :: u317 :: u318 :: u319 :: u320 :: u321 :: u322 :: u323 :: u324 :: u325 :: u326 :: u327 :: u328 :: u329 :: u330 :: u331 :: u332 :: u333 :: u334 :: u335 :: u336 :: u337 :: u338 :: u339 :: u340 :: u341 :: u342 :: u343 :: u344 :: u345 :: u346 :: u347 :: u348 :: (.bool D) :: v350 :: v351 :: v352 :: v353 :: v354 :: v355 :: v356 :: v357 :: v358 :: v359 :: v360 :: v361 :: v362 :: v363 :: v364 :: v365 :: v366 :: v367 :: v368 :: v369 :: v370 :: u371 :: u372 :: u373 :: u374 :: u375 :: u376 :: u377 :: u378 :: u379 :: u380 :: u381 :: u382 :: u383 :: u384 :: u385 :: u386 :: u387 :: u388 :: u389 :: u390 :: u391 :: u392 :: u393 :: u394 :: u395 :: u396 :: u397 :: u398 :: u399 :: u400 :: u401 :: u402 :: u403 :: []), []⟩ wx) :
    Code.wp Tryd.prog ppSum_code Q ⟨List.toArray ((.slice gad N gcap) :: u1 :: u2 :: u3 :: u4 :: (.int .i64 6) :: u6 :: u7 :: u8 :: u9 :: (.pointer (some ⟨q, 0, none⟩)) :: u11 :: u12 :: u13 :: u14 :: u15 :: u16 :: u17 :: u18 :: u19 :: u20 :: u21 :: u22 :: u23 :: u24 :: u25 :: u26 :: (.pointer (some ⟨b27, 0, none⟩)) :: u28 :: u29 :: u30 :: u31 :: u32 :: u33 :: u34 :: u35 :: u36 :: u37 :: u38 :: u39 :: u40 :: u41 :: u42 :: u43 :: u44 :: u45 :: u46 :: u47 :: u48 :: u49 :: u50 :: u51 :: u52 :: u53 :: u54 :: u55 :: u56 :: u57 :: u58 :: u59 :: u60 :: u61 :: u62 :: u63 :: u64 :: u65 :: u66 :: u67 :: u68 :: u69 :: u70 :: u71 :: u72 :: u73 :: u74 :: u75 :: u76 :: u77 :: u78 :: u79 :: u80 :: u81 :: u82 :: u83 :: u84 :: u85 :: u86 :: u87 :: u88 :: u89 :: u90 :: u91 :: u92 :: u93 :: u94 :: u95 :: u96 :: u97 :: u98 :: u99 :: u100 :: u101 :: u102 :: u103 :: u104 :: u105 :: u106 :: u107 :: u108 :: u109 :: u110 :: u111 :: u112 :: u113 :: u114 :: u115 :: u116 :: u117 :: u118 :: u119 :: u120 :: u121 :: u122 :: u123 :: u124 :: u125 :: u126 :: u127 :: u128 :: u129 :: u130 :: u131 :: u132 :: u133 :: u134 :: u135 :: u136 :: u137 :: u138 :: u139 :: u140 :: u141 :: u142 :: u143 :: u144 :: u145 :: u146 :: u147 :: u148 :: u149 :: u150 :: u151 :: u152 :: u153 :: u154 :: u155 :: u156 :: u157 :: u158 :: u159 :: u160 :: u161 :: u162 :: u163 :: u164 :: u165 :: u166 :: u167 :: u168 :: u169 :: u170 :: u171 :: u172 :: u173 :: u174 :: u175 :: u176 :: u177 :: u178 :: u179 :: u180 :: u181 :: u182 :: u183 :: u184 :: u185 :: u186 :: u187 :: u188 :: u189 :: u190 :: u191 :: u192 :: u193 :: u194 :: u195 :: u196 :: u197 :: u198 :: u199 :: u200 :: u201 :: u202 :: u203 :: u204 :: u205 :: u206 :: u207 :: u208 :: u209 :: u210 :: u211 :: u212 :: u213 :: u214 :: u215 :: u216 :: u217 :: u218 :: u219 :: u220 :: u221 :: u222 :: u223 :: u224 :: u225 :: u226 :: u227 :: u228 :: u229 :: u230 :: u231 :: u232 :: u233 :: u234 :: u235 :: u236 :: u237 :: u238 :: u239 :: u240 :: u241 :: u242 :: u243 :: u244 :: u245 :: u246 :: u247 :: u248 :: u249 :: u250 :: u251 :: u252 :: u253 :: u254 :: u255 :: u256 :: u257 :: u258 :: u259 :: u260 :: u261 :: u262 :: u263 :: u264 :: u265 :: u266 :: u267 :: u268 :: u269 :: u270 :: u271 :: u272 :: u273 :: u274 :: u275 :: u276 :: u277 :: u278 :: u279 :: u280 :: u281 :: u282 :: u283 :: u284 :: u285 :: u286 :: u287 :: u288 :: u289 :: u290 :: u291 :: u292 :: u293 :: u294 :: u295 :: u296 :: u297 :: u298 :: u299 :: u300 :: u301 :: u302 :: u303 :: u304 :: u305 :: u306 :: u307 :: u308 :: u309 :: u310 :: u311 :: u312 :: u313 :: u314 :: u315 :: u316 :: u317 :: u318 :: u319 :: u320 :: u321 :: u322 :: u323 :: u324 :: u325 :: u326 :: u327 :: u328 :: u329 :: u330 :: u331 :: u332 :: u333 :: u334 :: u335 :: u336 :: u337 :: u338 :: u339 :: u340 :: u341 :: u342 :: u343 :: u344 :: u345 :: u346 :: u347 :: u348 :: (.bool D) :: u350 :: u351 :: u352 :: u353 :: u354 :: u355 :: u356 :: u357 :: u358 :: u359 :: u360 :: u361 :: u362 :: u363 :: u364 :: u365 :: u366 :: u367 :: u368 :: u369 :: u370 :: u371 :: u372 :: u373 :: u374 :: u375 :: u376 :: u377 :: u378 :: u379 :: u380 :: u381 :: u382 :: u383 :: u384 :: u385 :: u386 :: u387 :: u388 :: u389 :: u390 :: u391 :: u392 :: u393 :: u394 :: u395 :: u396 :: u397 :: u398 :: u399 :: u400 :: u401 :: u402 :: u403 :: []), []⟩ w1 := by
  conv => arg 2; whnf
  have HK := Lib.hid hK
  clear hK
  have hok : PicOk s := picOk_of hI.inv hall
  rw [← hD] at HK
  cases D
  · have HO2 : Hid (Own w (SumB b27 (if false = true then pcHad s else 0) (if false = true then s.onWay else 0) * (rpBlk q cs * R)) w1) := Lib.hid (by rw [if_neg (by simp), if_neg (by simp)]; exact HO.out)
    have HI := Lib.hid hI; have HD := Lib.hid hD; have HOK := Lib.hid hok
    clear hI hD hok
    go_wp2_with fail
    apply HK.out
    exact ⟨by simp, HO2.out⟩
  have hhad : pcHad s = wroteTo s N := by rw [hI.inv.had, hI.len]; rfl
  have HWB := Lib.hid (wroteTo_bd hok)
  have HWL := Lib.hid (wroteTo_le hok)
  have hon := hok.on
  obtain ⟨on, hon2⟩ : ∃ o, o = s.onWay := ⟨_, rfl⟩
  rw [← hon2] at hon
  have HFN : Hid (∀ w', Own w (SumB b27 (wroteTo s N) on * (rpBlk q cs * R)) w' → Own w (SumB b27 (if true = true then pcHad s else 0) (if true = true then s.onWay else 0) * (rpBlk q cs * R)) w') := Lib.hid (fun w' h => by
    rw [if_pos rfl, if_pos rfl, hhad, ← hon2]; exact h)
  obtain ⟨_, _, c62, _⟩ := Own.rp_cells HC.out HO.out.second
  have c62' : w1.cell? ⟨q, 62, none⟩ = some (.int .i64 on) := by rw [c62, hon2]; rfl
  obtain ⟨k0, k1, kf0, kf1⟩ := HO.out.sumb
  have ho2 : Own w (SumB b27 0 on * (rpBlk q cs * R)) (w1.setCell ⟨b27, 1, none⟩ (.int .i64 on)) := HO.out.setCell (i := 1) (v := .int .i64 on)
  have HO2 : Hid (Own w (SumB b27 (wroteTo s 0) on * (rpBlk q cs * R)) (w1.setCell ⟨b27, 1, none⟩ (.int .i64 on))) := Lib.hid ho2
  obtain ⟨w2, hw2⟩ : ∃ w', w' = w1.setCell ⟨b27, 1, none⟩ (.int .i64 on) := ⟨_, rfl⟩
  rw [← hw2] at HO2
  clear c62 ho2
  have HI := Lib.hid hI; have HD := Lib.hid hD; have HOK := Lib.hid hok; have HHAD := Lib.hid hhad; have HON2 := Lib.hid hon2
  clear hI hD hok hhad hon2
  go_upto_region 71 with fail
  rw [← hw2]
  clear hw2 c62' k0 k1 kf0 kf1 HO
  go_wp2_with fail
  go_loopw [28] (fun kv wr => ∃ k : Nat, k ≤ N ∧ kv = .int .i64 (k : Int) ∧ Hid (Own w (SumB b27 (wroteTo s k) on * (rpBlk q cs * R)) wr)) (fun kv _ => N - (intOf kv).toNat)
  case atStart => exact ⟨0, Nat.zero_le _, rfl, HO2⟩
  case round =>
    clear HO2
    obtain ⟨k, hk, rfl, HP⟩ := hrel
    by_cases hlt : k < N
    rotate_left
    · have hkN : k = N := by omega
      subst hkN
      have t1 : decide ((k : Int) < (k : Int)) = false := decide_eq_false (by omega)
      go_wp2_with fail
      apply HK.out
      exact ⟨by simp, HFN.out _ HP.out⟩
    have t1 : decide ((k : Int) < (N : Int)) = true := decide_eq_true (by omega)
    have k0 : (0 : Int) ≤ (k : Int) := by omega
    have k5 : (k : Int) < 5 := by omega
    have e1 := ((Own.rp_cells HC.out HP.out.second).2.2.2.1 k (by omega)).2
    have hnx : wroteTo s (k + 1) = wroteTo s k + (mget s.wrote (k : Int)).getD 0 := sumU_succ _ _
    have hb1 := HWB.out (k : Int)
    have hb2 := HWL.out k
    obtain ⟨x, hx⟩ : ∃ x, x = (mget s.wrote (k : Int)).getD 0 := ⟨_, rfl⟩
    obtain ⟨T, hT⟩ : ∃ x, x = wroteTo s k := ⟨_, rfl⟩
    have e1' : wr.cell? ⟨q, 32 + k, none⟩ = some (.int .i64 x) := by rw [e1, hx]; rfl
    rw [← hx] at hb1 hnx
    rw [← hT] at hb2 hnx HP
    obtain ⟨x0, x1⟩ := hb1
    obtain ⟨T0, T1⟩ := hb2
    obtain ⟨s0, s1, sf, _⟩ := HP.out.sumb
    have HNW : Hid (Own w (SumB b27 (wroteTo s (k + 1)) on * (rpBlk q cs * R)) (wr.setCell ⟨b27, 0, none⟩ (.int .i64 (T + x))).drew) := Lib.hid (by rw [hnx]; exact (HP.out.sumb_put0 (T + x)).drew)
    clear e1
    have HNX := Lib.hid hnx; have HX := Lib.hid hx; have HT := Lib.hid hT
    clear hnx hx hT
    go_upto_region 74 with fail
    refine wp_region_tail 10 (by kernel_rfl) (by kernel_rfl) ?_
    simp only [List.take_succ_cons, List.take_zero, List.drop_succ_cons, List.drop_zero]
    repeat still_step
    refine wpStill_nil ?_
    go_wp2
    go_roundw
    case rel => exact ⟨k + 1, by omega, by go_num, HNW⟩
    case measure => simp [intOf]; omega
end Go.Proofs.YtpgonkecicmanaaDoor
