/- LogKeeps: parts of the law's text, continued: behind a crash. -/
import Derived.Test.YtljlnhbndkdlcaaDoorMLogKeeps13
namespace Go.Proofs.YtljlnhbndkdlcaaDoor
set_option linter.unusedVariables false
set_option linter.unusedSimpArgs false
open Go.RowKit
theorem Own.sl_front {w0 w : World} {ty : TypeId} {size : Nat} {ad : Option Addr} {n cap k : Nat} {xs : List Value} {R : HProp} (hk : k ≤ n) (h : Own w0 (Sl ty size (.slice ad n cap) n xs * R) w) : Own w0 (Sl ty size (.slice ad k cap) k (xs.take (k * size)) * R) w := by
  refine Own.cons h fun x hx => ?_
  rcases hx with ⟨e, h2, h3, h4⟩ | ⟨b, off, cp, cs, e, h2, h3, h4, h5, h6, h7⟩
  · left
    cases e
    have hk0 : k = 0 := by omega
    subst hk0
    exact ⟨rfl, rfl, by simp, h4⟩
  · right
    cases e
    have hm : k * size ≤ n * size := Nat.mul_le_mul_right _ hk
    refine ⟨b, off, cap, cs, rfl, by omega, h3, by rw [List.length_take]; omega, h5, fun i hi => ?_, h7⟩
    rw [List.length_take] at hi
    rw [h6 i (by omega), List.getElem?_take, if_pos (by omega)]
theorem evs_take (h : List Ev) {k : Nat} (hk : k ≤ h.length) : (h.flatMap evCells).take (k * 3) = (h.take k).flatMap evCells := by
  have e : h.flatMap evCells = (h.take k).flatMap evCells ++ (h.drop k).flatMap evCells := by rw [← List.flatMap_append, List.take_append_drop]
  have hl : ((h.take k).flatMap evCells).length = k * 3 := by rw [cells_len evCells 3 (fun _ => rfl), List.length_take, Nat.min_eq_left hk]
  rw [e, List.take_left' hl]
theorem Own.evs_front {w0 w : World} {ad : Option Addr} {n cap k : Nat} {h : List Ev} {R : HProp} (hn : n = h.length) (hk : k ≤ n) (ho : Own w0 (EvSl (.slice ad n cap) h * R) w) : Own w0 (EvSl (.slice ad k cap) (h.take k) * R) w := by
  subst hn
  have h1 := Own.sl_front hk (show Own w0 (Sl 28 3 (.slice ad h.length cap) h.length (h.flatMap evCells) * R) w from ho)
  rw [evs_take h hk] at h1
  unfold EvSl
  rw [List.length_take, Nat.min_eq_left hk]
  exact h1
theorem Own.ints_front {w0 w : World} {ad : Option Addr} {n cap k : Nat} {l : List Int} {R : HProp} (hn : n = l.length) (hk : k ≤ n) (ho : Own w0 (IntSl (.slice ad n cap) l * R) w) : Own w0 (IntSl (.slice ad k cap) (l.take k) * R) w := by
  subst hn
  have h1 := Own.sl_front hk (show Own w0 (Sl 3 1 (.slice ad l.length cap) l.length (l.map (Value.int .i64)) * R) w from ho)
  rw [Nat.mul_one, ← List.map_take] at h1
  unfold IntSl
  rw [List.length_take, Nat.min_eq_left hk]
  exact h1
theorem lk_intsz (w : World) : (sizeOf 3).run Tryd.prog w = .ok 1 w := Tryd.sizeOf3 w
theorem cut_ints {ad : Option Addr} {n cap k : Nat} (hk : k ≤ cap) (w : World) : (Instr.sliceAt 32 (.slice ad n cap) none (some (.int .i64 (k : Int))) none).run Tryd.prog w = .ok (.slice ad k cap) w := by
  have he : ∀ a : Addr, a.add 0 = a := fun a => by simp [Addr.add]
  simp [Instr.sliceAt, Instr.slice, Instr.sliceBounds, Instr.sliceBound, asIntOf, run_underlying Tryd.underlying32, lk_intsz, hk, Result.andThen]
  cases ad with
  | none => simp
  | some a => simp [he]
noncomputable def lkTest_code : Code := ((Tryd.f6.body.bind (findRegion 48)).getD .skip)
set_option maxRecDepth 1000000 in
set_option maxHeartbeats 4000000 in
theorem lkTest {Q : Exit → Act → World → Prop} {u0 u1 u2 u3 u4 u5 u6 u7 u8 u9 u10 u11 u12 u13 u14 u15 u16 u17 u18 u19 u20 u21 u22 u23 u24 u25 u29 u30 u31 u32 u33 u34 u35 u36 u37 u38 u39 u40 u41 u42 u43 u44 u45 u46 u47 u48 u49 u50 u51 u52 u53 u54 u55 u56 u57 u58 u59 u60 u61 u62 u63 u64 u65 u66 u67 u68 u69 u70 u71 u72 u73 u74 u75 u76 u77 u78 u79 u80 u81 u82 u83 u84 u85 u86 u87 u88 u89 u90 u91 u92 u93 u94 u95 u96 u97 u98 u99 u100 u101 u102 u103 u104 u105 u106 u107 u108 u109 u110 u111 u112 u113 u114 u115 u116 u117 u118 u119 u120 u121 u122 u123 u124 u125 u126 u127 u128 u129 u130 u131 u132 u133 u134 u135 u136 u137 u138 u139 u140 u141 u142 u143 u144 u145 u146 u147 u148 u149 u150 u151 u152 u153 u154 u155 u156 u157 u158 u159 u160 u161 u162 u163 u164 u165 u166 u167 u168 u169 u170 u171 u172 u173 u174 u175 u176 u177 u178 u179 u180 u181 u182 u183 u184 u185 u186 u187 u188 u189 u190 u191 u192 u193 u194 u195 u196 u197 u198 u199 u200 u201 u202 u203 u204 u205 u206 u207 u208 u209 u210 u211 u212 u213 u214 u215 u216 u217 u218 u219 u220 u221 u222 u223 u224 u225 u226 u227 u228 u229 u230 u231 u232 u233 u234 u235 u236 u237 u238 u239 u240 u241 u242 u243 u244 u245 u246 u247 u248 u249 u250 u251 u252 u253 u254 u255 u256 u257 u258 u259 u260 u261 u262 u263 u264 u265 u266 u267 u268 u269 u270 u271 u272 u273 u274 u275 u276 u277 u278 u279 u280 : Value} {w1 : World} (N F : Nat) (keep : Int) (hN : N ≤ 1000) (hF : F ≤ N)
    (hK : ∀ (v200 v201 v202 v203 v204 v205 v206 v207 v208 : Value) (wx : World), (v208 = .bool (decide (0 < keep) && decide (keep < (N : Int) - (F : Int))) ∧ wx = w1) → Q .normal ⟨List.toArray (u0 :: u1 :: u2 :: u3 :: u4 :: u5 :: u6 :: u7 :: u8 :: u9 :: u10 :: u11 :: u12 :: u13 :: u14 :: u15 :: u16 :: u17 :: u18 :: u19 :: u20 :: u21 :: u22 :: u23 :: u24 :: u25 :: (.int .i64 keep) :: (.int .i64 (N : Int)) :: (.int .i64 (F : Int)) :: u29 :: u30 :: u31 :: u32 :: u33 :: u34 :: u35 :: u36 :: u37 :: u38 :: u39 :: u40 :: u41 :: u42 :: u43 :: u44 :: u45 :: u46 :: u47 :: u48 :: u49 :: u50 :: u51 :: u52 :: u53 :: u54 :: u55 :: u56 :: u57 :: u58 :: u59 :: u60 :: u61 :: u62 :: u63 :: u64 :: u65 :: u66 :: u67 :: u68 :: u69 :: u70 :: u71 :: u72 :: u73 :: u74 :: u75 :: u76 :: u77 :: u78 :: u79 :: u80 :: u81 :: u82 :: u83 :: u84 :: u85 :: u86 :: u87 :: u88 :: u89 :: u90 :: u91 :: u92 :: u93 :: u94 :: u95 :: u96 :: u97 :: u98 :: u99 :: u100 :: u101 :: u102 :: u103 :: u104 :: u105 :: u106 :: u107 :: u108 :: u109 :: u110 :: u111 :: u112 :: u113 :: u114 :: u115 :: u116 :: u117 :: u118 :: u119 :: u120 :: u121 :: u122 :: u123 :: u124 :: u125 :: u126 :: u127 :: u128 :: u129 :: u130 :: u131 :: u132 :: u133 :: u134 :: u135 :: u136 :: u137 :: u138 :: u139 :: u140 :: u141 :: u142 :: u143 :: u144 :: u145 :: u146 :: u147 :: u148 :: u149 :: u150 :: u151 :: u152 :: u153 :: u154 :: u155 :: u156 :: u157 :: u158 :: u159 :: u160 :: u161 :: u162 :: u163 :: u164 :: u165 :: u166 :: u167 :: u168 :: u169 :: u170 :: u171 :: u172 :: u173 :: u174 :: u175 :: u176 :: u177 :: u178 :: u179 :: u180 :: u181 :: u182 :: u183 :: u184 :: u185 :: u186 :: u187 :: u188 :: u189 :: u190 :: u191 :: u192 :: u193 :: u194 :: u195 :: u196 :: u197 :: u198 :: u199 :: v200 :: v201 :: v202 :: v203 :: v204 :: v205 :: v206 :: v207 :: v208 :: u209 :: u210 :: u211 :: u212 :: u213 :: u214 :: u215 :: u216 :: u217 :: u218 :: u219 :: u220 :: u221 :: u222 :: u223 :: u224 :: u225 :: u226 :: u227 :: u228 :: u229 :: u230 :: u231 :: u232 :: u233 :: u234 :: u235 :: u236 :: u237 :: u238 :: u239 :: u240 :: u241 :: u242 :: u243 :: u244 :: u245 :: u246 :: u247 :: u248 :: u249 :: u250 :: u251 :: u252 :: u253 :: u254 :: u255 :: u256 :: u257 :: u258 :: u259 :: u260 :: u261 :: u262 :: u263 :: u264 :: u265 :: u266 :: u267 :: u268 :: u269 :: u270 :: u271 :: u272 :: u273 :: u274 :: u275 :: u276 :: u277 :: u278 :: u279 :: u280 :: []), []⟩ wx) :
    Code.wp Tryd.prog lkTest_code Q ⟨List.toArray (u0 :: u1 :: u2 :: u3 :: u4 :: u5 :: u6 :: u7 :: u8 :: u9 :: u10 :: u11 :: u12 :: u13 :: u14 :: u15 :: u16 :: u17 :: u18 :: u19 :: u20 :: u21 :: u22 :: u23 :: u24 :: u25 :: (.int .i64 keep) :: (.int .i64 (N : Int)) :: (.int .i64 (F : Int)) :: u29 :: u30 :: u31 :: u32 :: u33 :: u34 :: u35 :: u36 :: u37 :: u38 :: u39 :: u40 :: u41 :: u42 :: u43 :: u44 :: u45 :: u46 :: u47 :: u48 :: u49 :: u50 :: u51 :: u52 :: u53 :: u54 :: u55 :: u56 :: u57 :: u58 :: u59 :: u60 :: u61 :: u62 :: u63 :: u64 :: u65 :: u66 :: u67 :: u68 :: u69 :: u70 :: u71 :: u72 :: u73 :: u74 :: u75 :: u76 :: u77 :: u78 :: u79 :: u80 :: u81 :: u82 :: u83 :: u84 :: u85 :: u86 :: u87 :: u88 :: u89 :: u90 :: u91 :: u92 :: u93 :: u94 :: u95 :: u96 :: u97 :: u98 :: u99 :: u100 :: u101 :: u102 :: u103 :: u104 :: u105 :: u106 :: u107 :: u108 :: u109 :: u110 :: u111 :: u112 :: u113 :: u114 :: u115 :: u116 :: u117 :: u118 :: u119 :: u120 :: u121 :: u122 :: u123 :: u124 :: u125 :: u126 :: u127 :: u128 :: u129 :: u130 :: u131 :: u132 :: u133 :: u134 :: u135 :: u136 :: u137 :: u138 :: u139 :: u140 :: u141 :: u142 :: u143 :: u144 :: u145 :: u146 :: u147 :: u148 :: u149 :: u150 :: u151 :: u152 :: u153 :: u154 :: u155 :: u156 :: u157 :: u158 :: u159 :: u160 :: u161 :: u162 :: u163 :: u164 :: u165 :: u166 :: u167 :: u168 :: u169 :: u170 :: u171 :: u172 :: u173 :: u174 :: u175 :: u176 :: u177 :: u178 :: u179 :: u180 :: u181 :: u182 :: u183 :: u184 :: u185 :: u186 :: u187 :: u188 :: u189 :: u190 :: u191 :: u192 :: u193 :: u194 :: u195 :: u196 :: u197 :: u198 :: u199 :: u200 :: u201 :: u202 :: u203 :: u204 :: u205 :: u206 :: u207 :: u208 :: u209 :: u210 :: u211 :: u212 :: u213 :: u214 :: u215 :: u216 :: u217 :: u218 :: u219 :: u220 :: u221 :: u222 :: u223 :: u224 :: u225 :: u226 :: u227 :: u228 :: u229 :: u230 :: u231 :: u232 :: u233 :: u234 :: u235 :: u236 :: u237 :: u238 :: u239 :: u240 :: u241 :: u242 :: u243 :: u244 :: u245 :: u246 :: u247 :: u248 :: u249 :: u250 :: u251 :: u252 :: u253 :: u254 :: u255 :: u256 :: u257 :: u258 :: u259 :: u260 :: u261 :: u262 :: u263 :: u264 :: u265 :: u266 :: u267 :: u268 :: u269 :: u270 :: u271 :: u272 :: u273 :: u274 :: u275 :: u276 :: u277 :: u278 :: u279 :: u280 :: []), []⟩ w1 := by
  conv => arg 2; whnf
  have HK := Lib.hid hK
  clear hK
  by_cases h1 : 0 < keep
  · obtain ⟨T, hT⟩ : ∃ T, decide (keep < (N : Int) - (F : Int)) = T := ⟨_, rfl⟩
    have t1 : decide (0 < keep) = true := decide_eq_true h1
    rw [t1, hT] at HK
    cases T
    all_goals
      have H1 := Lib.hid h1
      clear h1
      go_wp2_with fail
      apply HK.out
      exact ⟨rfl, rfl⟩
  · have t1 : decide (0 < keep) = false := decide_eq_false h1
    rw [t1] at HK
    have H1 := Lib.hid h1
    clear h1
    go_wp2_with fail
    apply HK.out
    exact ⟨rfl, rfl⟩
noncomputable def lkHigh_code : Code := ((Tryd.f6.body.bind (findIf 208)).getD .skip)
set_option maxRecDepth 1000000 in
set_option maxHeartbeats 4000000 in
theorem lkHigh {Q : Exit → Act → World → Prop} {u0 u1 u2 u3 u4 u5 u6 u7 u8 u9 u10 u11 u12 u13 u14 u15 u16 u17 u18 u19 u20 u21 u22 u23 u24 u25 u30 u31 u32 u33 u34 u35 u36 u37 u38 u39 u40 u41 u42 u43 u44 u45 u46 u47 u48 u49 u50 u51 u52 u53 u54 u55 u56 u57 u58 u59 u60 u61 u62 u63 u64 u65 u66 u67 u68 u69 u70 u71 u72 u73 u74 u75 u76 u77 u78 u79 u80 u81 u82 u83 u84 u85 u86 u87 u88 u89 u90 u91 u92 u93 u94 u95 u96 u97 u98 u99 u100 u101 u102 u103 u104 u105 u106 u107 u108 u109 u110 u111 u112 u113 u114 u115 u116 u117 u118 u119 u120 u121 u122 u123 u124 u125 u126 u127 u128 u129 u130 u131 u132 u133 u134 u135 u136 u137 u138 u139 u140 u141 u142 u143 u144 u145 u146 u147 u148 u149 u150 u151 u152 u153 u154 u155 u156 u157 u158 u159 u160 u161 u162 u163 u164 u165 u166 u167 u168 u169 u170 u171 u172 u173 u174 u175 u176 u177 u178 u179 u180 u181 u182 u183 u184 u185 u186 u187 u188 u189 u190 u191 u192 u193 u194 u195 u196 u197 u198 u199 u200 u201 u202 u203 u204 u205 u206 u207 u209 u210 u211 u212 u213 u214 u215 u216 u217 u218 u219 u220 u221 u222 u223 u224 u225 u226 u227 u228 u229 u230 u231 u232 u233 u234 u235 u236 u237 u238 u239 u240 u241 u242 u243 u244 u245 u246 u247 u248 u249 u250 u251 u252 u253 u254 u255 u256 u257 u258 u259 u260 u261 u262 u263 u264 u265 u266 u267 u268 u269 u270 u271 u272 u273 u274 u275 u276 u277 u278 u279 u280 : Value} {w1 : World} (N F M : Nat) (keep : Int) (T : Bool) (hN : N ≤ 1000) (hF : F ≤ N) (hT : (decide (0 < keep) && decide (keep < (N : Int) - (F : Int))) = T) (hM : M = F + (if keep ≤ 0 then 0 else if keep ≤ ((N : Nat) : Int) - F then keep.toNat else N - F))
    (hK : ∀ (v29 v209 v210 v211 v212 v213 v214 : Value) (wx : World), (v29 = .int .i64 (M : Int) ∧ wx = w1) → Q .normal ⟨List.toArray (u0 :: u1 :: u2 :: u3 :: u4 :: u5 :: u6 :: u7 :: u8 :: u9 :: u10 :: u11 :: u12 :: u13 :: u14 :: u15 :: u16 :: u17 :: u18 :: u19 :: u20 :: u21 :: u22 :: u23 :: u24 :: u25 :: (.int .i64 keep) :: (.int .i64 (N : Int)) :: (.int .i64 (F : Int)) :: v29 :: u30 :: u31 :: u32 :: u33 :: u34 :: u35 :: u36 :: u37 :: u38 :: u39 :: u40 :: u41 :: u42 :: u43 :: u44 :: u45 :: u46 :: u47 :: u48 :: u49 :: u50 :: u51 :: u52 :: u53 :: u54 :: u55 :: u56 :: u57 :: u58 :: u59 :: u60 :: u61 :: u62 :: u63 :: u64 :: u65 :: u66 :: u67 :: u68 :: u69 :: u70 :: u71 :: u72 :: u73 :: u74 :: u75 :: u76 :: u77 :: u78 :: u79 :: u80 :: u81 :: u82 :: u83 :: u84 :: u85 :: u86 :: u87 :: u88 :: u89 :: u90 :: u91 :: u92 :: u93 :: u94 :: u95 :: u96 :: u97 :: u98 :: u99 :: u100 :: u101 :: u102 :: u103 :: u104 :: u105 :: u106 :: u107 :: u108 :: u109 :: u110 :: u111 :: u112 :: u113 :: u114 :: u115 :: u116 :: u117 :: u118 :: u119 :: u120 :: u121 :: u122 :: u123 :: u124 :: u125 :: u126 :: u127 :: u128 :: u129 :: u130 :: u131 :: u132 :: u133 :: u134 :: u135 :: u136 :: u137 :: u138 :: u139 :: u140 :: u141 :: u142 :: u143 :: u144 :: u145 :: u146 :: u147 :: u148 :: u149 :: u150 :: u151 :: u152 :: u153 :: u154 :: u155 :: u156 :: u157 :: u158 :: u159 :: u160 :: u161 :: u162 :: u163 :: u164 :: u165 :: u166 :: u167 :: u168 :: u169 :: u170 :: u171 :: u172 :: u173 :: u174 :: u175 :: u176 :: u177 :: u178 :: u179 :: u180 :: u181 :: u182 :: u183 :: u184 :: u185 :: u186 :: u187 :: u188 :: u189 :: u190 :: u191 :: u192 :: u193 :: u194 :: u195 :: u196 :: u197 :: u198 :: u199 :: u200 :: u201 :: u202 :: u203 :: u204 :: u205 :: u206 :: u207 :: (.bool T) :: v209 :: v210 :: v211 :: v212 :: v213 :: v214 :: u215 :: u216 :: u217 :: u218 :: u219 :: u220 :: u221 :: u222 :: u223 :: u224 :: u225 :: u226 :: u227 :: u228 :: u229 :: u230 :: u231 :: u232 :: u233 :: u234 :: u235 :: u236 :: u237 :: u238 :: u239 :: u240 :: u241 :: u242 :: u243 :: u244 :: u245 :: u246 :: u247 :: u248 :: u249 :: u250 :: u251 :: u252 :: u253 :: u254 :: u255 :: u256 :: u257 :: u258 :: u259 :: u260 :: u261 :: u262 :: u263 :: u264 :: u265 :: u266 :: u267 :: u268 :: u269 :: u270 :: u271 :: u272 :: u273 :: u274 :: u275 :: u276 :: u277 :: u278 :: u279 :: u280 :: []), []⟩ wx) :
    Code.wp Tryd.prog lkHigh_code Q ⟨List.toArray (u0 :: u1 :: u2 :: u3 :: u4 :: u5 :: u6 :: u7 :: u8 :: u9 :: u10 :: u11 :: u12 :: u13 :: u14 :: u15 :: u16 :: u17 :: u18 :: u19 :: u20 :: u21 :: u22 :: u23 :: u24 :: u25 :: (.int .i64 keep) :: (.int .i64 (N : Int)) :: (.int .i64 (F : Int)) :: (.int .i64 (F : Int)) :: u30 :: u31 :: u32 :: u33 :: u34 :: u35 :: u36 :: u37 :: u38 :: u39 :: u40 :: u41 :: u42 :: u43 :: u44 :: u45 :: u46 :: u47 :: u48 :: u49 :: u50 :: u51 :: u52 :: u53 :: u54 :: u55 :: u56 :: u57 :: u58 :: u59 :: u60 :: u61 :: u62 :: u63 :: u64 :: u65 :: u66 :: u67 :: u68 :: u69 :: u70 :: u71 :: u72 :: u73 :: u74 :: u75 :: u76 :: u77 :: u78 :: u79 :: u80 :: u81 :: u82 :: u83 :: u84 :: u85 :: u86 :: u87 :: u88 :: u89 :: u90 :: u91 :: u92 :: u93 :: u94 :: u95 :: u96 :: u97 :: u98 :: u99 :: u100 :: u101 :: u102 :: u103 :: u104 :: u105 :: u106 :: u107 :: u108 :: u109 :: u110 :: u111 :: u112 :: u113 :: u114 :: u115 :: u116 :: u117 :: u118 :: u119 :: u120 :: u121 :: u122 :: u123 :: u124 :: u125 :: u126 :: u127 :: u128 :: u129 :: u130 :: u131 :: u132 :: u133 :: u134 :: u135 :: u136 :: u137 :: u138 :: u139 :: u140 :: u141 :: u142 :: u143 :: u144 :: u145 :: u146 :: u147 :: u148 :: u149 :: u150 :: u151 :: u152 :: u153 :: u154 :: u155 :: u156 :: u157 :: u158 :: u159 :: u160 :: u161 :: u162 :: u163 :: u164 :: u165 :: u166 :: u167 :: u168 :: u169 :: u170 :: u171 :: u172 :: u173 :: u174 :: u175 :: u176 :: u177 :: u178 :: u179 :: u180 :: u181 :: u182 :: u183 :: u184 :: u185 :: u186 :: u187 :: u188 :: u189 :: u190 :: u191 :: u192 :: u193 :: u194 :: u195 :: u196 :: u197 :: u198 :: u199 :: u200 :: u201 :: u202 :: u203 :: u204 :: u205 :: u206 :: u207 :: (.bool T) :: u209 :: u210 :: u211 :: u212 :: u213 :: u214 :: u215 :: u216 :: u217 :: u218 :: u219 :: u220 :: u221 :: u222 :: u223 :: u224 :: u225 :: u226 :: u227 :: u228 :: u229 :: u230 :: u231 :: u232 :: u233 :: u234 :: u235 :: u236 :: u237 :: u238 :: u239 :: u240 :: u241 :: u242 :: u243 :: u244 :: u245 :: u246 :: u247 :: u248 :: u249 :: u250 :: u251 :: u252 :: u253 :: u254 :: u255 :: u256 :: u257 :: u258 :: u259 :: u260 :: u261 :: u262 :: u263 :: u264 :: u265 :: u266 :: u267 :: u268 :: u269 :: u270 :: u271 :: u272 :: u273 :: u274 :: u275 :: u276 :: u277 :: u278 :: u279 :: u280 :: []), []⟩ w1 := by
  conv => arg 2; whnf
  have HK := Lib.hid hK
  clear hK
  cases T
  · by_cases h1 : 0 < keep
    · have t1 : decide (0 < keep) = true := decide_eq_true h1
      rw [t1] at hT
      have h2 : ¬ keep < (N : Int) - (F : Int) := by simpa using hT
      have hm : M = N := by
        rw [hM, if_neg (by omega)]
        split
        · omega
        · omega
      subst hm
      have H1 := Lib.hid h1; have H2 := Lib.hid h2; have HT := Lib.hid hT; have HM := Lib.hid hM
      clear h1 h2 hT hM
      go_wp2_with fail
      apply HK.out
      exact ⟨rfl, rfl⟩
    · have t1 : decide (0 < keep) = false := decide_eq_false h1
      have hm : M = F := by rw [hM, if_pos (by omega)]; omega
      subst hm
      have H1 := Lib.hid h1; have HT := Lib.hid hT; have HM := Lib.hid hM
      clear h1 hT hM
      go_wp2_with fail
      apply HK.out
      exact ⟨rfl, rfl⟩
  · simp only [Bool.and_eq_true, decide_eq_true_eq] at hT
    obtain ⟨h1, h2⟩ := hT
    have hm : (F : Int) + keep = (M : Int) := by rw [hM, if_neg (by omega), if_pos (by omega)]; omega
    have hwm : wrap64 (M : Int) = (M : Int) := by unfold wrap64; omega
    have HWM := Lib.hid hwm
    have H1 := Lib.hid h1; have H2 := Lib.hid h2; have HM := Lib.hid hM
    clear h1 h2 hM
    go_wp2_with fail
    apply HK.out
    first | exact ⟨rfl, rfl⟩ | exact ⟨by rw [HWM.out], rfl⟩
noncomputable def lkLeft_code : Code := ((Tryd.f6.body.bind (findBlock 4)).getD .skip)
set_option maxRecDepth 1000000 in
set_option maxHeartbeats 4000000 in
theorem lkLeft {Q : Exit → Act → World → Prop} {u0 u1 u2 u3 u4 u5 u6 u7 u8 u9 u10 u11 u12 u13 u14 u15 u17 u18 u19 u20 u21 u22 u23 u24 u25 u26 u27 u28 u32 u33 u34 u35 u36 u37 u38 u39 u40 u41 u42 u43 u44 u45 u46 u47 u48 u49 u50 u51 u52 u53 u54 u55 u56 u57 u58 u59 u60 u61 u62 u63 u64 u65 u66 u67 u68 u69 u70 u71 u72 u73 u74 u75 u76 u77 u78 u79 u80 u81 u82 u83 u84 u85 u86 u87 u88 u89 u90 u91 u92 u93 u94 u95 u96 u97 u98 u99 u100 u101 u102 u103 u104 u105 u106 u107 u108 u109 u110 u111 u112 u113 u114 u115 u116 u117 u118 u119 u120 u121 u122 u123 u124 u125 u126 u127 u128 u129 u130 u131 u132 u133 u134 u135 u136 u137 u138 u139 u140 u141 u142 u143 u144 u145 u146 u147 u148 u149 u150 u151 u152 u153 u154 u155 u156 u157 u158 u159 u160 u161 u162 u163 u164 u165 u166 u167 u168 u169 u170 u171 u172 u173 u174 u175 u176 u177 u178 u179 u180 u181 u182 u183 u184 u185 u186 u187 u188 u189 u190 u191 u192 u193 u194 u195 u196 u197 u198 u199 u200 u201 u202 u203 u204 u205 u206 u207 u208 u209 u210 u211 u212 u213 u214 u215 u216 u217 u218 u219 u220 u221 u222 u223 u224 u225 u226 u227 u228 u229 u230 u231 u232 u233 u234 u235 u236 u237 u238 u239 u240 u241 u242 u243 u244 u245 u246 u247 u248 u249 u250 u251 u252 u253 u254 u255 u256 u257 u258 u259 u260 u261 u262 u263 u264 u265 u266 u267 u268 u269 u270 u271 u272 u273 u274 u275 u276 u277 u278 u279 u280 : Value} {w1 : World} (n mb moff mcap M k : Nat) (h : List Ev) (hn : n = h.length) (hn60 : n ≤ 60) (hmc : n + 1 ≤ mcap) (hm63 : mcap ≤ 9223372036854775807) (hk : k ≤ n) (HC : Hid (∀ j, j ≤ n → w1.cell? ⟨mb, moff + j, none⟩ = some (.int .i64 ((mkL h j : Nat) : Int)))) (HM : Hid (∀ j, j ≤ n → (mkL h j ≤ M ↔ j ≤ k)))
    (hK : ∀ (v30 v31 v215 v216 v217 v218 v219 v220 v221 v222 v223 v224 v225 v226 v227 : Value) (wx : World), (v30 = .int .i64 (k : Int) ∧ wx = w1) → Q .normal ⟨List.toArray (u0 :: u1 :: u2 :: u3 :: u4 :: u5 :: u6 :: u7 :: u8 :: u9 :: u10 :: u11 :: u12 :: u13 :: u14 :: u15 :: (.slice (some ⟨mb, moff, none⟩) (n + 1) mcap) :: u17 :: u18 :: u19 :: u20 :: u21 :: u22 :: u23 :: u24 :: u25 :: u26 :: u27 :: u28 :: (.int .i64 (M : Int)) :: v30 :: v31 :: u32 :: u33 :: u34 :: u35 :: u36 :: u37 :: u38 :: u39 :: u40 :: u41 :: u42 :: u43 :: u44 :: u45 :: u46 :: u47 :: u48 :: u49 :: u50 :: u51 :: u52 :: u53 :: u54 :: u55 :: u56 :: u57 :: u58 :: u59 :: u60 :: u61 :: u62 :: u63 :: u64 :: u65 :: u66 :: u67 :: u68 :: u69 :: u70 :: u71 :: u72 :: u73 :: u74 :: u75 :: u76 :: u77 :: u78 :: u79 :: u80 :: u81 :: u82 :: u83 :: u84 :: u85 :: u86 :: u87 :: u88 :: u89 :: u90 :: u91 :: u92 :: u93 :: u94 :: u95 :: u96 :: u97 :: u98 :: u99 :: u100 :: u101 :: u102 :: u103 :: u104 :: u105 :: u106 :: u107 :: u108 :: u109 :: u110 :: u111 :: u112 :: u113 :: u114 :: u115 :: u116 :: u117 :: u118 :: u119 :: u120 :: u121 :: u122 :: u123 :: u124 :: u125 :: u126 :: u127 :: u128 :: u129 :: u130 :: u131 :: u132 :: u133 :: u134 :: u135 :: u136 :: u137 :: u138 :: u139 :: u140 :: u141 :: u142 :: u143 :: u144 :: u145 :: u146 :: u147 :: u148 :: u149 :: u150 :: u151 :: u152 :: u153 :: u154 :: u155 :: u156 :: u157 :: u158 :: u159 :: u160 :: u161 :: u162 :: u163 :: u164 :: u165 :: u166 :: u167 :: u168 :: u169 :: u170 :: u171 :: u172 :: u173 :: u174 :: u175 :: u176 :: u177 :: u178 :: u179 :: u180 :: u181 :: u182 :: u183 :: u184 :: u185 :: u186 :: u187 :: u188 :: u189 :: u190 :: u191 :: u192 :: u193 :: u194 :: u195 :: u196 :: u197 :: u198 :: u199 :: u200 :: u201 :: u202 :: u203 :: u204 :: u205 :: u206 :: u207 :: u208 :: u209 :: u210 :: u211 :: u212 :: u213 :: u214 :: v215 :: v216 :: v217 :: v218 :: v219 :: v220 :: v221 :: v222 :: v223 :: v224 :: v225 :: v226 :: v227 :: u228 :: u229 :: u230 :: u231 :: u232 :: u233 :: u234 :: u235 :: u236 :: u237 :: u238 :: u239 :: u240 :: u241 :: u242 :: u243 :: u244 :: u245 :: u246 :: u247 :: u248 :: u249 :: u250 :: u251 :: u252 :: u253 :: u254 :: u255 :: u256 :: u257 :: u258 :: u259 :: u260 :: u261 :: u262 :: u263 :: u264 :: u265 :: u266 :: u267 :: u268 :: u269 :: u270 :: u271 :: u272 :: u273 :: u274 :: u275 :: u276 :: u277 :: u278 :: u279 :: u280 :: []), []⟩ wx) :
    Code.wp Tryd.prog lkLeft_code Q ⟨List.toArray (u0 :: u1 :: u2 :: u3 :: u4 :: u5 :: u6 :: u7 :: u8 :: u9 :: u10 :: u11 :: u12 :: u13 :: u14 :: u15 :: (.slice (some ⟨mb, moff, none⟩) (n + 1) mcap) :: u17 :: u18 :: u19 :: u20 :: u21 :: u22 :: u23 :: u24 :: u25 :: u26 :: u27 :: u28 :: (.int .i64 (M : Int)) :: (.int .i64 0) :: (.int .i64 0) :: u32 :: u33 :: u34 :: u35 :: u36 :: u37 :: u38 :: u39 :: u40 :: u41 :: u42 :: u43 :: u44 :: u45 :: u46 :: u47 :: u48 :: u49 :: u50 :: u51 :: u52 :: u53 :: u54 :: u55 :: u56 :: u57 :: u58 :: u59 :: u60 :: u61 :: u62 :: u63 :: u64 :: u65 :: u66 :: u67 :: u68 :: u69 :: u70 :: u71 :: u72 :: u73 :: u74 :: u75 :: u76 :: u77 :: u78 :: u79 :: u80 :: u81 :: u82 :: u83 :: u84 :: u85 :: u86 :: u87 :: u88 :: u89 :: u90 :: u91 :: u92 :: u93 :: u94 :: u95 :: u96 :: u97 :: u98 :: u99 :: u100 :: u101 :: u102 :: u103 :: u104 :: u105 :: u106 :: u107 :: u108 :: u109 :: u110 :: u111 :: u112 :: u113 :: u114 :: u115 :: u116 :: u117 :: u118 :: u119 :: u120 :: u121 :: u122 :: u123 :: u124 :: u125 :: u126 :: u127 :: u128 :: u129 :: u130 :: u131 :: u132 :: u133 :: u134 :: u135 :: u136 :: u137 :: u138 :: u139 :: u140 :: u141 :: u142 :: u143 :: u144 :: u145 :: u146 :: u147 :: u148 :: u149 :: u150 :: u151 :: u152 :: u153 :: u154 :: u155 :: u156 :: u157 :: u158 :: u159 :: u160 :: u161 :: u162 :: u163 :: u164 :: u165 :: u166 :: u167 :: u168 :: u169 :: u170 :: u171 :: u172 :: u173 :: u174 :: u175 :: u176 :: u177 :: u178 :: u179 :: u180 :: u181 :: u182 :: u183 :: u184 :: u185 :: u186 :: u187 :: u188 :: u189 :: u190 :: u191 :: u192 :: u193 :: u194 :: u195 :: u196 :: u197 :: u198 :: u199 :: u200 :: u201 :: u202 :: u203 :: u204 :: u205 :: u206 :: u207 :: u208 :: u209 :: u210 :: u211 :: u212 :: u213 :: u214 :: u215 :: u216 :: u217 :: u218 :: u219 :: u220 :: u221 :: u222 :: u223 :: u224 :: u225 :: u226 :: u227 :: u228 :: u229 :: u230 :: u231 :: u232 :: u233 :: u234 :: u235 :: u236 :: u237 :: u238 :: u239 :: u240 :: u241 :: u242 :: u243 :: u244 :: u245 :: u246 :: u247 :: u248 :: u249 :: u250 :: u251 :: u252 :: u253 :: u254 :: u255 :: u256 :: u257 :: u258 :: u259 :: u260 :: u261 :: u262 :: u263 :: u264 :: u265 :: u266 :: u267 :: u268 :: u269 :: u270 :: u271 :: u272 :: u273 :: u274 :: u275 :: u276 :: u277 :: u278 :: u279 :: u280 :: []), []⟩ w1 := by
  conv => arg 2; whnf
  have HK := Lib.hid hK
  clear hK
  go_wp2_with fail
  go_loopw [31, 30] (fun iv lv wr => ∃ i : Nat, i ≤ n + 1 ∧ iv = .int .i64 i ∧ lv = .int .i64 (lastLow k i : Nat) ∧ wr = w1) (fun iv _ _ => n + 1 - (intOf iv).toNat)
  case atStart => exact ⟨0, by omega, rfl, rfl, rfl⟩
  case round =>
    obtain ⟨i, hi, rfl, rfl, rfl⟩ := hrel
    have hNN := Lib.hid hn
    clear hn
    by_cases hlt : i ≤ n
    rotate_left
    · have hin : i = n + 1 := by omega
      subst hin
      have hl : lastLow k (n + 1) = k := lastLow_end hk
      rw [hl]
      clear hl
      go_wp2_with fail
      apply HK.out
      exact ⟨rfl, rfl⟩
    have hc := HC.out i hlt
    have i0 : (0 : Int) ≤ (i : Int) := by omega
    have iN : (i : Int) < ((n + 1 : Nat) : Int) := by omega
    obtain ⟨x, hx⟩ : ∃ x, x = mkL h i := ⟨_, rfl⟩
    rw [← hx] at hc
    by_cases hik : i ≤ k
    · have hxM : x ≤ M := by rw [hx]; exact (HM.out i hlt).2 hik
      have t1 : decide (x ≤ M) = true := decide_eq_true hxM
      have hl := lastLow_yes hik
      have HX := Lib.hid hx; have HL := Lib.hid hl; have HIK := Lib.hid hik
      clear hx hl hik
      go_wp2_with fail
      go_roundw
      case rel => exact ⟨i + 1, by omega, by go_num, by rw [HL.out], by first | rfl | trivial⟩
      case measure => simp [intOf]; omega
    · have hxM : ¬ x ≤ M := by rw [hx]; exact fun h => hik ((HM.out i hlt).1 h)
      have t1 : decide (x ≤ M) = false := decide_eq_false hxM
      have hl := lastLow_no hik
      have HX := Lib.hid hx; have HL := Lib.hid hl; have HIK := Lib.hid hik
      clear hx hl hik
      go_wp2_with fail
      go_roundw
      case rel => exact ⟨i + 1, by omega, by go_num, by rw [HL.out], by first | rfl | trivial⟩
      case measure => simp [intOf]; omega
end Go.Proofs.YtljlnhbndkdlcaaDoor
/- LogKeeps: the comparison behind a crash. -/
namespace Go.Proofs.YtljlnhbndkdlcaaDoor
set_option linter.unusedVariables false
set_option linter.unusedSimpArgs false
open Go.RowKit
noncomputable def lkCmp_code : Code := ((Tryd.f6.body.bind (findRegion 62)).getD .skip)
set_option maxRecDepth 1000000 in
set_option maxHeartbeats 4000000 in
theorem lkCmp {Q : Exit → Act → World → Prop} {u0 u1 u2 u3 u4 u5 u6 u7 u8 u9 u10 u11 u12 u13 u17 u18 u19 u20 u21 u22 u23 u24 u25 u26 u27 u28 u29 u31 u36 u37 u38 u39 u40 u41 u42 u43 u44 u45 u46 u47 u48 u49 u50 u51 u52 u53 u54 u55 u56 u57 u58 u59 u60 u61 u62 u63 u64 u65 u66 u67 u68 u69 u70 u71 u72 u73 u74 u75 u76 u77 u78 u79 u80 u81 u82 u83 u84 u85 u86 u87 u88 u89 u90 u91 u92 u93 u94 u95 u96 u97 u98 u99 u100 u101 u102 u103 u104 u105 u106 u107 u108 u109 u110 u111 u112 u113 u114 u115 u116 u117 u118 u119 u120 u121 u122 u123 u124 u125 u126 u127 u128 u129 u130 u131 u132 u133 u134 u135 u136 u137 u138 u139 u140 u141 u142 u143 u144 u145 u146 u147 u148 u149 u150 u151 u152 u153 u154 u155 u156 u157 u158 u159 u160 u161 u162 u163 u164 u165 u166 u167 u168 u169 u170 u171 u172 u173 u174 u175 u176 u177 u178 u179 u180 u181 u182 u183 u184 u185 u186 u187 u188 u189 u190 u191 u192 u193 u194 u195 u196 u197 u198 u199 u200 u201 u202 u203 u204 u205 u206 u207 u208 u209 u210 u211 u212 u213 u214 u215 u216 u217 u218 u219 u220 u221 u222 u223 u224 u225 u226 u227 u228 u229 u230 u231 u232 u233 u234 u235 u236 u237 u238 u239 u240 u241 u242 u243 u244 u245 u246 u247 u248 u249 u250 u251 u252 u253 u254 u255 u256 u257 u258 u259 u260 u261 u262 u263 u264 u265 u266 u267 u268 u269 u270 u271 u272 u273 u274 u275 u276 u277 u278 u279 u280 : Value} {w1 : World} (w : World) (p fb1 fb2 k mb moff mcap dcp : Nat) (dad : Option Addr) (s : Lg) (b1 b2 b3 : Bool) (hk : k = s.h.length) (hk60 : k ≤ 60) (hmc : k + 1 ≤ mcap) (hm63 : mcap ≤ 9223372036854775807) (HI : Hid (LgI s)) (HB : Hid (s.bs.length = mkL s.h k ∧ s.safe = mkL s.h k)) (HO : Hid (Own w (LgP p s * (EvSl (.slice dad k dcp) s.h * (IntSl (.slice (some ⟨mb, moff, none⟩) (k + 1) mcap) (mkM s.h) * (FaO fb1 b1 b2 b3 * (FaO fb2 b1 b2 b3 * emp))))) w1))
    (hK : ∀ (v245 v246 v247 v248 v249 v250 v251 v252 v253 v254 v255 v256 v257 v258 v259 v260 v261 v262 v263 v264 v265 v266 v267 v268 v269 v270 v271 v272 v273 v274 v275 v276 v277 v278 v279 v280 : Value) (wx : World), (v280 = .bool false ∧ Own w (LgP p s * (EvSl (.slice dad k dcp) s.h * (IntSl (.slice (some ⟨mb, moff, none⟩) (k + 1) mcap) (mkM s.h) * emp))) wx) → Q .normal ⟨List.toArray (u0 :: u1 :: u2 :: u3 :: u4 :: u5 :: u6 :: u7 :: u8 :: u9 :: u10 :: u11 :: u12 :: u13 :: (.pointer (some ⟨p, 0, none⟩)) :: (.slice dad k dcp) :: (.slice (some ⟨mb, moff, none⟩) (k + 1) mcap) :: u17 :: u18 :: u19 :: u20 :: u21 :: u22 :: u23 :: u24 :: u25 :: u26 :: u27 :: u28 :: u29 :: (.int .i64 (k : Int)) :: u31 :: (.pointer (some ⟨fb1, 0, none⟩)) :: (.nilIface) :: (.pointer (some ⟨fb2, 0, none⟩)) :: (.nilIface) :: u36 :: u37 :: u38 :: u39 :: u40 :: u41 :: u42 :: u43 :: u44 :: u45 :: u46 :: u47 :: u48 :: u49 :: u50 :: u51 :: u52 :: u53 :: u54 :: u55 :: u56 :: u57 :: u58 :: u59 :: u60 :: u61 :: u62 :: u63 :: u64 :: u65 :: u66 :: u67 :: u68 :: u69 :: u70 :: u71 :: u72 :: u73 :: u74 :: u75 :: u76 :: u77 :: u78 :: u79 :: u80 :: u81 :: u82 :: u83 :: u84 :: u85 :: u86 :: u87 :: u88 :: u89 :: u90 :: u91 :: u92 :: u93 :: u94 :: u95 :: u96 :: u97 :: u98 :: u99 :: u100 :: u101 :: u102 :: u103 :: u104 :: u105 :: u106 :: u107 :: u108 :: u109 :: u110 :: u111 :: u112 :: u113 :: u114 :: u115 :: u116 :: u117 :: u118 :: u119 :: u120 :: u121 :: u122 :: u123 :: u124 :: u125 :: u126 :: u127 :: u128 :: u129 :: u130 :: u131 :: u132 :: u133 :: u134 :: u135 :: u136 :: u137 :: u138 :: u139 :: u140 :: u141 :: u142 :: u143 :: u144 :: u145 :: u146 :: u147 :: u148 :: u149 :: u150 :: u151 :: u152 :: u153 :: u154 :: u155 :: u156 :: u157 :: u158 :: u159 :: u160 :: u161 :: u162 :: u163 :: u164 :: u165 :: u166 :: u167 :: u168 :: u169 :: u170 :: u171 :: u172 :: u173 :: u174 :: u175 :: u176 :: u177 :: u178 :: u179 :: u180 :: u181 :: u182 :: u183 :: u184 :: u185 :: u186 :: u187 :: u188 :: u189 :: u190 :: u191 :: u192 :: u193 :: u194 :: u195 :: u196 :: u197 :: u198 :: u199 :: u200 :: u201 :: u202 :: u203 :: u204 :: u205 :: u206 :: u207 :: u208 :: u209 :: u210 :: u211 :: u212 :: u213 :: u214 :: u215 :: u216 :: u217 :: u218 :: u219 :: u220 :: u221 :: u222 :: u223 :: u224 :: u225 :: u226 :: u227 :: u228 :: u229 :: u230 :: u231 :: u232 :: u233 :: u234 :: u235 :: u236 :: u237 :: u238 :: u239 :: u240 :: u241 :: u242 :: u243 :: u244 :: v245 :: v246 :: v247 :: v248 :: v249 :: v250 :: v251 :: v252 :: v253 :: v254 :: v255 :: v256 :: v257 :: v258 :: v259 :: v260 :: v261 :: v262 :: v263 :: v264 :: v265 :: v266 :: v267 :: v268 :: v269 :: v270 :: v271 :: v272 :: v273 :: v274 :: v275 :: v276 :: v277 :: v278 :: v279 :: v280 :: []), []⟩ wx) :
    Code.wp Tryd.prog lkCmp_code Q ⟨List.toArray (u0 :: u1 :: u2 :: u3 :: u4 :: u5 :: u6 :: u7 :: u8 :: u9 :: u10 :: u11 :: u12 :: u13 :: (.pointer (some ⟨p, 0, none⟩)) :: (.slice dad k dcp) :: (.slice (some ⟨mb, moff, none⟩) (k + 1) mcap) :: u17 :: u18 :: u19 :: u20 :: u21 :: u22 :: u23 :: u24 :: u25 :: u26 :: u27 :: u28 :: u29 :: (.int .i64 (k : Int)) :: u31 :: (.pointer (some ⟨fb1, 0, none⟩)) :: (.nilIface) :: (.pointer (some ⟨fb2, 0, none⟩)) :: (.nilIface) :: u36 :: u37 :: u38 :: u39 :: u40 :: u41 :: u42 :: u43 :: u44 :: u45 :: u46 :: u47 :: u48 :: u49 :: u50 :: u51 :: u52 :: u53 :: u54 :: u55 :: u56 :: u57 :: u58 :: u59 :: u60 :: u61 :: u62 :: u63 :: u64 :: u65 :: u66 :: u67 :: u68 :: u69 :: u70 :: u71 :: u72 :: u73 :: u74 :: u75 :: u76 :: u77 :: u78 :: u79 :: u80 :: u81 :: u82 :: u83 :: u84 :: u85 :: u86 :: u87 :: u88 :: u89 :: u90 :: u91 :: u92 :: u93 :: u94 :: u95 :: u96 :: u97 :: u98 :: u99 :: u100 :: u101 :: u102 :: u103 :: u104 :: u105 :: u106 :: u107 :: u108 :: u109 :: u110 :: u111 :: u112 :: u113 :: u114 :: u115 :: u116 :: u117 :: u118 :: u119 :: u120 :: u121 :: u122 :: u123 :: u124 :: u125 :: u126 :: u127 :: u128 :: u129 :: u130 :: u131 :: u132 :: u133 :: u134 :: u135 :: u136 :: u137 :: u138 :: u139 :: u140 :: u141 :: u142 :: u143 :: u144 :: u145 :: u146 :: u147 :: u148 :: u149 :: u150 :: u151 :: u152 :: u153 :: u154 :: u155 :: u156 :: u157 :: u158 :: u159 :: u160 :: u161 :: u162 :: u163 :: u164 :: u165 :: u166 :: u167 :: u168 :: u169 :: u170 :: u171 :: u172 :: u173 :: u174 :: u175 :: u176 :: u177 :: u178 :: u179 :: u180 :: u181 :: u182 :: u183 :: u184 :: u185 :: u186 :: u187 :: u188 :: u189 :: u190 :: u191 :: u192 :: u193 :: u194 :: u195 :: u196 :: u197 :: u198 :: u199 :: u200 :: u201 :: u202 :: u203 :: u204 :: u205 :: u206 :: u207 :: u208 :: u209 :: u210 :: u211 :: u212 :: u213 :: u214 :: u215 :: u216 :: u217 :: u218 :: u219 :: u220 :: u221 :: u222 :: u223 :: u224 :: u225 :: u226 :: u227 :: u228 :: u229 :: u230 :: u231 :: u232 :: u233 :: u234 :: u235 :: u236 :: u237 :: u238 :: u239 :: u240 :: u241 :: u242 :: u243 :: u244 :: u245 :: u246 :: u247 :: u248 :: u249 :: u250 :: u251 :: u252 :: u253 :: u254 :: u255 :: u256 :: u257 :: u258 :: u259 :: u260 :: u261 :: u262 :: u263 :: u264 :: u265 :: u266 :: u267 :: u268 :: u269 :: u270 :: u271 :: u272 :: u273 :: u274 :: u275 :: u276 :: u277 :: u278 :: u279 :: u280 :: []), []⟩ w1 := by
  conv => arg 2; whnf
  have HK := Lib.hid hK
  clear hK
  have HKH := Lib.hid hk
  clear hk
  have hgd : ∀ x ∈ s.h, goodEv x := fun x hx => okEv_good (HI.out.hr.ok x hx)
  have HGD := Lib.hid hgd
  clear hgd
  obtain ⟨Z, hZ⟩ : ∃ x, x = mkL s.h k := ⟨_, rfl⟩
  rw [← hZ] at HB
  have hfacts : ∀ (R' : HProp) (wq : World), Own w (LgP p s * (EvSl (.slice dad k dcp) s.h * (IntSl (.slice (some ⟨mb, moff, none⟩) (k + 1) mcap) (mkM s.h) * (FaO fb1 b1 b2 b3 * (FaO fb2 b1 b2 b3 * R'))))) wq →
      wq.cell? ⟨fb1, 0, none⟩ = some (.bool b1) ∧ wq.cell? ⟨fb1, 1, none⟩ = some (.bool b2) ∧ wq.cell? ⟨fb1, 2, none⟩ = some (.bool b3) ∧ wq.cell? ⟨fb2, 0, none⟩ = some (.bool b1) ∧ wq.cell? ⟨fb2, 1, none⟩ = some (.bool b2) ∧ wq.cell? ⟨fb2, 2, none⟩ = some (.bool b3) ∧ wq.cell? ⟨mb, moff + k, none⟩ = some (.int .i64 (Z : Int)) := by
    intro R' wq hq
    obtain ⟨g0, g1, g2, _⟩ := (Own.fourth hq).fa
    obtain ⟨h0, h1, h2, _⟩ := (Own.fifth hq).fa
    refine ⟨g0, g1, g2, h0, h1, h2, ?_⟩
    obtain ⟨b', off', cap', e, _, _, hc, _⟩ := (Own.third hq).ints_at (by rw [mkM_len]; omega)
    rw [mkM_len, ← HKH.out] at e
    cases e
    have h9 := hc k (by rw [mkM_len, ← HKH.out]; omega)
    rw [h9, hZ]
    have h8 := mkM_get (h := s.h) (j := k) (by rw [← HKH.out]; omega)
    rw [List.getElem?_eq_getElem (by rw [mkM_len, ← HKH.out]; omega)] at h8
    rw [Option.some.inj h8]
  have HFA := Lib.hid hfacts
  obtain ⟨x0, x1, x2, y0, y1, y2, z0⟩ := hfacts _ _ HO.out.drew
  have HZ := Lib.hid hZ
  have k0 : (0 : Int) ≤ (k : Int) := by omega
  have kN : (k : Int) < (k : Int) + 1 := by omega
  have kN2 : (k : Int) < ((k + 1 : Nat) : Int) := by omega
  clear hfacts hZ
  refine wp_region_planH 35 [] [(true, 0), (true, 1), (true, 2), (true, 3), (true, 4), (true, 5), (true, 6), (true, 7), (true, 8), (true, 9), (true, 10), (true, 11), (true, 12), (true, 14), (false, 13), (false, 15), (true, 16), (true, 17), (true, 18), (true, 19), (true, 21), (true, 22), (true, 23), (true, 24), (false, 20), (true, 25), (true, 26), (true, 27), (true, 28), (true, 30), (true, 31), (true, 32), (true, 33), (false, 29), (true, 34)] [35] (fun wS => wS.cell? ⟨fb1, 0, none⟩ = some (.bool b1) ∧ wS.cell? ⟨fb1, 1, none⟩ = some (.bool b2) ∧ wS.cell? ⟨fb1, 2, none⟩ = some (.bool b3) ∧ wS.cell? ⟨fb2, 0, none⟩ = some (.bool b1) ∧ wS.cell? ⟨fb2, 1, none⟩ = some (.bool b2) ∧ wS.cell? ⟨fb2, 2, none⟩ = some (.bool b3) ∧ wS.cell? ⟨mb, moff + k, none⟩ = some (.int .i64 (Z : Int))) (by kernel_rfl) (by kernel_rfl) (⟨x0, x1, x2, y0, y1, y2, z0⟩) ?_
  simp only [pickH, pick, List.getElem?_cons_succ, List.getElem?_cons_zero, Option.toList, Option.map_some, List.cons_append, List.nil_append]
  repeat (refine wpPure_step ?_ rfl ?_ ?_; rotate_left; (focus (intro _; first | with_reducible rfl | (go_simp; done) | (go_simp; with_reducible rfl) | rfl)); go_simp)
  refine wpPure_nil ?_
  repeat (first | (refine wpMix_read ?_ rfl ?_ ?_; rotate_left; (focus (intro _ hS; obtain ⟨s1, s2, s3, s4, s5, s6, s7⟩ := hS; first | with_reducible rfl | (go_simp; done) | (go_simp; with_reducible rfl) | rfl)); go_simp) | (refine wpMix_readW ?_ ?_ ?_ ?_; rotate_left; (focus (first | rfl | (go_simp; done))); (focus (intro _ hS; obtain ⟨s1, s2, s3, s4, s5, s6, s7⟩ := hS; first | with_reducible rfl | (go_simp; done) | (go_simp; with_reducible rfl) | rfl)); go_simp))
  refine wpMix_write (fun K hK => ?_)
  go_simp
  refine (lgAll_any p s HI.out HO.out.drew).mono ?_
  rintro e wA ⟨vA, rfl, ho⟩
  have HOA : Hid (Own w (LgP p s * (EvSl (.slice dad k dcp) s.h * (IntSl (.slice (some ⟨mb, moff, none⟩) (k + 1) mcap) (mkM s.h) * (FaO fb1 b1 b2 b3 * (FaO fb2 b1 b2 b3 * (EvSl vA s.h * emp)))))) wA) := Lib.hid (ho.perm (by ac_rfl))
  have HEA : Hid (Evs wA vA s.h) := Lib.hid (EvSl_reads HGD.out _ ho)
  have HEB : Hid (Evs wA (.slice dad k dcp) s.h) := Lib.hid (EvSl_reads HGD.out _ (Own.second HOA.out))
  clear x0 x1 x2 y0 y1 y2 z0 ho HO
  obtain ⟨x0, x1, x2, y0, y1, y2, z0⟩ := HFA.out _ _ HOA.out
  refine hK _ _ ⟨⟨x0, x1, x2, y0, y1, y2, z0⟩, ?_⟩
  clear hK K
  go_simp
  repeat (first | (refine wpMix_read ?_ rfl ?_ ?_; rotate_left; (focus (intro _ hS; obtain ⟨s1, s2, s3, s4, s5, s6, s7⟩ := hS; first | with_reducible rfl | (go_simp; done) | (go_simp; with_reducible rfl) | rfl)); go_simp) | (refine wpMix_readW ?_ ?_ ?_ ?_; rotate_left; (focus (first | rfl | (go_simp; done))); (focus (intro _ hS; obtain ⟨s1, s2, s3, s4, s5, s6, s7⟩ := hS; first | with_reducible rfl | (go_simp; done) | (go_simp; with_reducible rfl) | rfl)); go_simp))
  refine wpMix_write (fun K hK => ?_)
  go_simp
  refine (sameEv_any vA _ s.h HEA.out HEB.out).mono ?_
  rintro e w' ⟨rfl, n9, rfl⟩
  obtain ⟨wB, hwB⟩ : ∃ x, x = wA.drewN n9 := ⟨_, rfl⟩
  have hob := HOA.out.drewN n9
  rw [← hwB] at hob ⊢
  have HOB := Lib.hid hob
  clear x0 x1 x2 y0 y1 y2 z0 hob HOA HEA HEB hwB
  obtain ⟨x0, x1, x2, y0, y1, y2, z0⟩ := HFA.out _ _ HOB.out
  refine hK _ _ ⟨⟨x0, x1, x2, y0, y1, y2, z0⟩, ?_⟩
  clear hK K
  go_simp
  repeat (first | (refine wpMix_read ?_ rfl ?_ ?_; rotate_left; (focus (intro _ hS; obtain ⟨s1, s2, s3, s4, s5, s6, s7⟩ := hS; first | with_reducible rfl | (go_simp; done) | (go_simp; with_reducible rfl) | rfl)); go_simp) | (refine wpMix_readW ?_ ?_ ?_ ?_; rotate_left; (focus (first | rfl | (go_simp; done))); (focus (intro _ hS; obtain ⟨s1, s2, s3, s4, s5, s6, s7⟩ := hS; first | with_reducible rfl | (go_simp; done) | (go_simp; with_reducible rfl) | rfl)); go_simp))
  refine wpMix_write (fun K hK => ?_)
  go_simp
  refine (lgBytes_any p s HI.out HOB.out).mono ?_
  rintro e w' ⟨rfl, rfl⟩
  rw [HB.out.1]
  refine hK _ _ ⟨⟨x0, x1, x2, y0, y1, y2, z0⟩, ?_⟩
  clear hK K
  go_simp
  repeat (first | (refine wpMix_read ?_ rfl ?_ ?_; rotate_left; (focus (intro _ hS; obtain ⟨s1, s2, s3, s4, s5, s6, s7⟩ := hS; first | with_reducible rfl | (go_simp; done) | (go_simp; with_reducible rfl) | rfl)); go_simp) | (refine wpMix_readW ?_ ?_ ?_ ?_; rotate_left; (focus (first | rfl | (go_simp; done))); (focus (intro _ hS; obtain ⟨s1, s2, s3, s4, s5, s6, s7⟩ := hS; first | with_reducible rfl | (go_simp; done) | (go_simp; with_reducible rfl) | rfl)); go_simp))
  refine wpMix_write (fun K hK => ?_)
  go_simp
  refine (lgSafe_any p s HOB.out).mono ?_
  rintro e w' ⟨rfl, rfl⟩
  rw [HB.out.2]
  refine hK _ _ ⟨⟨x0, x1, x2, y0, y1, y2, z0⟩, ?_⟩
  clear hK K
  go_simp
  repeat (first | (refine wpMix_read ?_ rfl ?_ ?_; rotate_left; (focus (intro _ hS; obtain ⟨s1, s2, s3, s4, s5, s6, s7⟩ := hS; first | with_reducible rfl | (go_simp; done) | (go_simp; with_reducible rfl) | rfl)); go_simp) | (refine wpMix_readW ?_ ?_ ?_ ?_; rotate_left; (focus (first | rfl | (go_simp; done))); (focus (intro _ hS; obtain ⟨s1, s2, s3, s4, s5, s6, s7⟩ := hS; first | with_reducible rfl | (go_simp; done) | (go_simp; with_reducible rfl) | rfl)); go_simp))
  refine wpMix_nil ?_
  go_wp2_with fail
  refine NoPanic.normal ?_
  apply HK.out
  exact ⟨rfl, (HOB.out.perm (show _ = FaO fb1 b1 b2 b3 * (FaO fb2 b1 b2 b3 * (EvSl vA s.h * (LgP p s * (EvSl (.slice dad k dcp) s.h * (IntSl (.slice (some ⟨mb, moff, none⟩) (k + 1) mcap) (mkM s.h) * emp))))) by ac_rfl)).drop.drop.drop⟩
end Go.Proofs.YtljlnhbndkdlcaaDoor
