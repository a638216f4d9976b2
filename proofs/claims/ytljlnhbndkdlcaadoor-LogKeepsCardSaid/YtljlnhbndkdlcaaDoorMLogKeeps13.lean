/- LogKeeps: parts of the law's text. -/
import Derived.Test.YtljlnhbndkdlcaaDoorMLogKeeps9
import Derived.Test.YtljlnhbndkdlcaaDoorMLogKeeps10
import Derived.Test.YtljlnhbndkdlcaaDoorMLogKeeps11
import Derived.Test.YtljlnhbndkdlcaaDoorMLogKeeps12
import Derived.Test.YtljlnhbndkdlcaaDoorMLogKeeps2
namespace Go.Proofs.YtljlnhbndkdlcaaDoor
set_option linter.unusedVariables false
set_option linter.unusedSimpArgs false
open Go.RowKit
/-- A sync, if one is told. -/
noncomputable def lkSync_code : Code := ((Tryd.f6.body.bind (findRegion 21)).getD .skip)
set_option maxRecDepth 1000000 in
set_option maxHeartbeats 4000000 in
theorem lkSync {Q : Exit → Act → World → Prop} {u0 u2 u3 u4 u5 u6 u7 u8 u9 u10 u11 u12 u13 u15 u16 u18 u19 u20 u21 u22 u23 u24 u25 u26 u27 u28 u29 u30 u31 u32 u33 u34 u35 u36 u37 u38 u39 u40 u41 u42 u43 u44 u45 u46 u47 u48 u49 u50 u51 u52 u53 u54 u55 u56 u57 u58 u59 u60 u61 u62 u63 u64 u65 u66 u67 u68 u69 u70 u71 u72 u73 u74 u75 u76 u77 u78 u79 u80 u81 u82 u83 u84 u85 u86 u87 u88 u89 u90 u91 u92 u93 u94 u95 u96 u97 u98 u99 u100 u101 u102 u103 u104 u105 u106 u107 u108 u109 u110 u111 u112 u113 u114 u115 u116 u117 u118 u119 u120 u121 u122 u123 u124 u125 u126 u127 u128 u129 u130 u131 u132 u133 u134 u135 u136 u137 u138 u139 u140 u141 u142 u143 u144 u145 u146 u147 u148 u149 u150 u151 u152 u153 u154 u155 u156 u157 u158 u159 u160 u161 u162 u163 u164 u165 u166 u167 u168 u169 u170 u171 u172 u173 u174 u175 u176 u177 u178 u179 u180 u181 u182 u183 u184 u185 u186 u187 u188 u189 u190 u191 u192 u193 u194 u195 u196 u197 u198 u199 u200 u201 u202 u203 u204 u205 u206 u207 u208 u209 u210 u211 u212 u213 u214 u215 u216 u217 u218 u219 u220 u221 u222 u223 u224 u225 u226 u227 u228 u229 u230 u231 u232 u233 u234 u235 u236 u237 u238 u239 u240 u241 u242 u243 u244 u245 u246 u247 u248 u249 u250 u251 u252 u253 u254 u255 u256 u257 u258 u259 u260 u261 u262 u263 u264 u265 u266 u267 u268 u269 u270 u271 u272 u273 u274 u275 u276 u277 u278 u279 u280 : Value} {w1 : World} (w : World) (X : HProp) (p a ns scap : Nat) (sad : Option Addr) (L : List Int) (s : Lg) (hsc : ns ≤ scap) (hs63 : scap ≤ 9223372036854775807) (HSY : Hid (∀ R', Reads w R' (.slice sad ns scap) L)) (HLN : Hid (L.length = ns)) (HI : Hid (LgI s)) (HO : Hid (Own w (LgP p s * X) w1))
    (hK : ∀ (v110 v111 v112 v113 v114 v115 v116 v117 v118 v119 v120 v121 v122 v123 v124 v125 v126 v127 v128 v129 v130 v131 v132 : Value) (wx : World), (v132 = .bool false ∧ ∃ s', LgI s' ∧ s'.h = s.h ∧ Own w (LgP p s' * X) wx) → Q .normal ⟨List.toArray (u0 :: (.slice sad ns scap) :: u2 :: u3 :: u4 :: u5 :: u6 :: u7 :: u8 :: u9 :: u10 :: u11 :: u12 :: u13 :: (.pointer (some ⟨p, 0, none⟩)) :: u15 :: u16 :: (.int .i64 (a : Int)) :: u18 :: u19 :: u20 :: u21 :: u22 :: u23 :: u24 :: u25 :: u26 :: u27 :: u28 :: u29 :: u30 :: u31 :: u32 :: u33 :: u34 :: u35 :: u36 :: u37 :: u38 :: u39 :: u40 :: u41 :: u42 :: u43 :: u44 :: u45 :: u46 :: u47 :: u48 :: u49 :: u50 :: u51 :: u52 :: u53 :: u54 :: u55 :: u56 :: u57 :: u58 :: u59 :: u60 :: u61 :: u62 :: u63 :: u64 :: u65 :: u66 :: u67 :: u68 :: u69 :: u70 :: u71 :: u72 :: u73 :: u74 :: u75 :: u76 :: u77 :: u78 :: u79 :: u80 :: u81 :: u82 :: u83 :: u84 :: u85 :: u86 :: u87 :: u88 :: u89 :: u90 :: u91 :: u92 :: u93 :: u94 :: u95 :: u96 :: u97 :: u98 :: u99 :: u100 :: u101 :: u102 :: u103 :: u104 :: u105 :: u106 :: u107 :: u108 :: u109 :: v110 :: v111 :: v112 :: v113 :: v114 :: v115 :: v116 :: v117 :: v118 :: v119 :: v120 :: v121 :: v122 :: v123 :: v124 :: v125 :: v126 :: v127 :: v128 :: v129 :: v130 :: v131 :: v132 :: u133 :: u134 :: u135 :: u136 :: u137 :: u138 :: u139 :: u140 :: u141 :: u142 :: u143 :: u144 :: u145 :: u146 :: u147 :: u148 :: u149 :: u150 :: u151 :: u152 :: u153 :: u154 :: u155 :: u156 :: u157 :: u158 :: u159 :: u160 :: u161 :: u162 :: u163 :: u164 :: u165 :: u166 :: u167 :: u168 :: u169 :: u170 :: u171 :: u172 :: u173 :: u174 :: u175 :: u176 :: u177 :: u178 :: u179 :: u180 :: u181 :: u182 :: u183 :: u184 :: u185 :: u186 :: u187 :: u188 :: u189 :: u190 :: u191 :: u192 :: u193 :: u194 :: u195 :: u196 :: u197 :: u198 :: u199 :: u200 :: u201 :: u202 :: u203 :: u204 :: u205 :: u206 :: u207 :: u208 :: u209 :: u210 :: u211 :: u212 :: u213 :: u214 :: u215 :: u216 :: u217 :: u218 :: u219 :: u220 :: u221 :: u222 :: u223 :: u224 :: u225 :: u226 :: u227 :: u228 :: u229 :: u230 :: u231 :: u232 :: u233 :: u234 :: u235 :: u236 :: u237 :: u238 :: u239 :: u240 :: u241 :: u242 :: u243 :: u244 :: u245 :: u246 :: u247 :: u248 :: u249 :: u250 :: u251 :: u252 :: u253 :: u254 :: u255 :: u256 :: u257 :: u258 :: u259 :: u260 :: u261 :: u262 :: u263 :: u264 :: u265 :: u266 :: u267 :: u268 :: u269 :: u270 :: u271 :: u272 :: u273 :: u274 :: u275 :: u276 :: u277 :: u278 :: u279 :: u280 :: []), []⟩ wx) :
    Code.wp Tryd.prog lkSync_code Q ⟨List.toArray (u0 :: (.slice sad ns scap) :: u2 :: u3 :: u4 :: u5 :: u6 :: u7 :: u8 :: u9 :: u10 :: u11 :: u12 :: u13 :: (.pointer (some ⟨p, 0, none⟩)) :: u15 :: u16 :: (.int .i64 (a : Int)) :: u18 :: u19 :: u20 :: u21 :: u22 :: u23 :: u24 :: u25 :: u26 :: u27 :: u28 :: u29 :: u30 :: u31 :: u32 :: u33 :: u34 :: u35 :: u36 :: u37 :: u38 :: u39 :: u40 :: u41 :: u42 :: u43 :: u44 :: u45 :: u46 :: u47 :: u48 :: u49 :: u50 :: u51 :: u52 :: u53 :: u54 :: u55 :: u56 :: u57 :: u58 :: u59 :: u60 :: u61 :: u62 :: u63 :: u64 :: u65 :: u66 :: u67 :: u68 :: u69 :: u70 :: u71 :: u72 :: u73 :: u74 :: u75 :: u76 :: u77 :: u78 :: u79 :: u80 :: u81 :: u82 :: u83 :: u84 :: u85 :: u86 :: u87 :: u88 :: u89 :: u90 :: u91 :: u92 :: u93 :: u94 :: u95 :: u96 :: u97 :: u98 :: u99 :: u100 :: u101 :: u102 :: u103 :: u104 :: u105 :: u106 :: u107 :: u108 :: u109 :: u110 :: u111 :: u112 :: u113 :: u114 :: u115 :: u116 :: u117 :: u118 :: u119 :: u120 :: u121 :: u122 :: u123 :: u124 :: u125 :: u126 :: u127 :: u128 :: u129 :: u130 :: u131 :: u132 :: u133 :: u134 :: u135 :: u136 :: u137 :: u138 :: u139 :: u140 :: u141 :: u142 :: u143 :: u144 :: u145 :: u146 :: u147 :: u148 :: u149 :: u150 :: u151 :: u152 :: u153 :: u154 :: u155 :: u156 :: u157 :: u158 :: u159 :: u160 :: u161 :: u162 :: u163 :: u164 :: u165 :: u166 :: u167 :: u168 :: u169 :: u170 :: u171 :: u172 :: u173 :: u174 :: u175 :: u176 :: u177 :: u178 :: u179 :: u180 :: u181 :: u182 :: u183 :: u184 :: u185 :: u186 :: u187 :: u188 :: u189 :: u190 :: u191 :: u192 :: u193 :: u194 :: u195 :: u196 :: u197 :: u198 :: u199 :: u200 :: u201 :: u202 :: u203 :: u204 :: u205 :: u206 :: u207 :: u208 :: u209 :: u210 :: u211 :: u212 :: u213 :: u214 :: u215 :: u216 :: u217 :: u218 :: u219 :: u220 :: u221 :: u222 :: u223 :: u224 :: u225 :: u226 :: u227 :: u228 :: u229 :: u230 :: u231 :: u232 :: u233 :: u234 :: u235 :: u236 :: u237 :: u238 :: u239 :: u240 :: u241 :: u242 :: u243 :: u244 :: u245 :: u246 :: u247 :: u248 :: u249 :: u250 :: u251 :: u252 :: u253 :: u254 :: u255 :: u256 :: u257 :: u258 :: u259 :: u260 :: u261 :: u262 :: u263 :: u264 :: u265 :: u266 :: u267 :: u268 :: u269 :: u270 :: u271 :: u272 :: u273 :: u274 :: u275 :: u276 :: u277 :: u278 :: u279 :: u280 :: []), []⟩ w1 := by
  conv => arg 2; whnf
  have HK := Lib.hid hK
  clear hK
  have a0 : (0 : Int) ≤ (a : Int) := by omega
  by_cases han : a < ns
  rotate_left
  · go_wp2_with fail
    apply HK.out
    exact ⟨rfl, s, HI.out, rfl, HO.out⟩
  obtain ⟨sa, hsa, hc⟩ := (HSY.out _ _ HO.out).at a (by rw [HLN.out]; exact han)
  subst hsa
  have aN : (a : Int) < (ns : Int) := by omega
  obtain ⟨y, hy⟩ : ∃ y, y = L[a]'(by rw [HLN.out]; exact han) := ⟨_, rfl⟩
  rw [← hy] at hc
  clear hy
  by_cases h1 : y = 1
  rotate_left
  · have t1 : (y == 1) = false := by rw [beq_eq_false_iff_ne]; exact h1
    have H1 := Lib.hid h1
    clear h1
    go_wp2_with fail
    apply HK.out
    exact ⟨rfl, s, HI.out, rfl, HO.out⟩
  subst h1
  obtain ⟨E, hE⟩ : ∃ x, x = lgSyncErr s := ⟨_, rfl⟩
  obtain ⟨s', hs'⟩ : ∃ x, x = lgSync s := ⟨_, rfl⟩
  have HI2 : Hid (LgI s') := Lib.hid (by rw [hs']; exact HI.out.sync)
  have HH2 : Hid (s'.h = s.h) := Lib.hid (by rw [hs']; exact sync_h s)
  have HSF : Hid (E = 0 → s'.safe = s'.bs.length) := Lib.hid (fun h => by rw [hs']; exact sync_safe (by rw [← hE]; exact h))
  have HE := Lib.hid hE; have HS' := Lib.hid hs'
  clear hE hs'
  go_wp2_with fail
  refine (lgSync_any p s HI.out HO.out).mono ?_
  rintro e w2 ⟨rfl, ho⟩
  rw [← HE.out]
  rw [← HS'.out] at ho
  have HO2 := Lib.hid ho
  clear ho HO hc
  by_cases h0 : E = 0
  rotate_left
  · have hee := errV_ne h0
    rw [hee]
    clear hee
    have H0 := Lib.hid h0
    clear h0
    go_wp2_with fail
    apply HK.out
    exact ⟨rfl, s', HI2.out, HH2.out, HO2.out⟩
  have hsf := HSF.out h0
  subst h0
  rw [errV0]
  have HSQ := Lib.hid hsf
  clear hsf HE HSF
  go_wp2_with fail
  refine (lgSafe_any p s' HO2.out).mono ?_
  rintro e w' ⟨rfl, rfl⟩
  rw [HSQ.out]
  obtain ⟨N, hN⟩ : ∃ x, x = s'.bs.length := ⟨_, rfl⟩
  rw [← hN]
  have HNN := Lib.hid hN
  clear hN
  go_wp2_with fail
  refine (lgBytes_any p s' HI2.out HO2.out).mono ?_
  rintro e w' ⟨rfl, rfl⟩
  rw [← HNN.out]
  have t2 : ((N : Int) != (N : Int)) = false := by simp
  go_wp2_with fail
  apply HK.out
  exact ⟨rfl, s', HI2.out, HH2.out, HO2.out⟩
noncomputable def lkTold_code : Code := ((Tryd.f6.body.bind (findRegion 32)).getD .skip)
set_option maxRecDepth 1000000 in
set_option maxHeartbeats 4000000 in
theorem lkTold {Q : Exit → Act → World → Prop} {u0 u1 u2 u3 u4 u5 u6 u7 u8 u9 u10 u11 u12 u13 u14 u15 u16 u17 u18 u19 u20 u21 u22 u23 u26 u27 u28 u29 u30 u31 u32 u33 u34 u35 u36 u37 u38 u39 u40 u41 u42 u43 u44 u45 u46 u47 u48 u49 u50 u51 u52 u53 u54 u55 u56 u57 u58 u59 u60 u61 u62 u63 u64 u65 u66 u67 u68 u69 u70 u71 u72 u73 u74 u75 u76 u77 u78 u79 u80 u81 u82 u83 u84 u85 u86 u87 u88 u89 u90 u91 u92 u93 u94 u95 u96 u97 u98 u99 u100 u101 u102 u103 u104 u105 u106 u107 u108 u109 u110 u111 u112 u113 u114 u115 u116 u117 u118 u119 u120 u121 u122 u123 u124 u125 u126 u127 u128 u129 u130 u131 u132 u133 u134 u135 u136 u137 u138 u139 u140 u141 u142 u143 u144 u145 u146 u147 u148 u149 u150 u151 u152 u153 u154 u155 u156 u157 u158 u159 u160 u161 u162 u163 u164 u165 u166 u167 u168 u169 u170 u171 u172 u173 u174 u175 u176 u177 u178 u179 u180 u181 u182 u183 u184 u185 u186 u187 u188 u189 u190 u191 u192 u193 u194 u195 u196 u197 u198 u199 u200 u201 u202 u203 u204 u205 u206 u207 u208 u209 u210 u211 u212 u213 u214 u215 u216 u217 u218 u219 u220 u221 u222 u223 u224 u225 u226 u227 u228 u229 u230 u231 u232 u233 u234 u235 u236 u237 u238 u239 u240 u241 u242 u243 u244 u245 u246 u247 u248 u249 u250 u251 u252 u253 u254 u255 u256 u257 u258 u259 u260 u261 u262 u263 u264 u265 u266 u267 u268 u269 u270 u271 u272 u273 u274 u275 u276 u277 u278 u279 u280 : Value} {w1 : World} (B1 B2 : Bool) (hB : (B1 || B2) = true)
    (hK : ∀ (v160 v161 v162 v163 v164 v165 : Value) (wx : World), (v165 = .bool false ∧ wx = w1) → Q .normal ⟨List.toArray (u0 :: u1 :: u2 :: u3 :: u4 :: u5 :: u6 :: u7 :: u8 :: u9 :: u10 :: u11 :: u12 :: u13 :: u14 :: u15 :: u16 :: u17 :: u18 :: u19 :: u20 :: u21 :: u22 :: u23 :: (.bool B1) :: (.bool B2) :: u26 :: u27 :: u28 :: u29 :: u30 :: u31 :: u32 :: u33 :: u34 :: u35 :: u36 :: u37 :: u38 :: u39 :: u40 :: u41 :: u42 :: u43 :: u44 :: u45 :: u46 :: u47 :: u48 :: u49 :: u50 :: u51 :: u52 :: u53 :: u54 :: u55 :: u56 :: u57 :: u58 :: u59 :: u60 :: u61 :: u62 :: u63 :: u64 :: u65 :: u66 :: u67 :: u68 :: u69 :: u70 :: u71 :: u72 :: u73 :: u74 :: u75 :: u76 :: u77 :: u78 :: u79 :: u80 :: u81 :: u82 :: u83 :: u84 :: u85 :: u86 :: u87 :: u88 :: u89 :: u90 :: u91 :: u92 :: u93 :: u94 :: u95 :: u96 :: u97 :: u98 :: u99 :: u100 :: u101 :: u102 :: u103 :: u104 :: u105 :: u106 :: u107 :: u108 :: u109 :: u110 :: u111 :: u112 :: u113 :: u114 :: u115 :: u116 :: u117 :: u118 :: u119 :: u120 :: u121 :: u122 :: u123 :: u124 :: u125 :: u126 :: u127 :: u128 :: u129 :: u130 :: u131 :: u132 :: u133 :: u134 :: u135 :: u136 :: u137 :: u138 :: u139 :: u140 :: u141 :: u142 :: u143 :: u144 :: u145 :: u146 :: u147 :: u148 :: u149 :: u150 :: u151 :: u152 :: u153 :: u154 :: u155 :: u156 :: u157 :: u158 :: u159 :: v160 :: v161 :: v162 :: v163 :: v164 :: v165 :: u166 :: u167 :: u168 :: u169 :: u170 :: u171 :: u172 :: u173 :: u174 :: u175 :: u176 :: u177 :: u178 :: u179 :: u180 :: u181 :: u182 :: u183 :: u184 :: u185 :: u186 :: u187 :: u188 :: u189 :: u190 :: u191 :: u192 :: u193 :: u194 :: u195 :: u196 :: u197 :: u198 :: u199 :: u200 :: u201 :: u202 :: u203 :: u204 :: u205 :: u206 :: u207 :: u208 :: u209 :: u210 :: u211 :: u212 :: u213 :: u214 :: u215 :: u216 :: u217 :: u218 :: u219 :: u220 :: u221 :: u222 :: u223 :: u224 :: u225 :: u226 :: u227 :: u228 :: u229 :: u230 :: u231 :: u232 :: u233 :: u234 :: u235 :: u236 :: u237 :: u238 :: u239 :: u240 :: u241 :: u242 :: u243 :: u244 :: u245 :: u246 :: u247 :: u248 :: u249 :: u250 :: u251 :: u252 :: u253 :: u254 :: u255 :: u256 :: u257 :: u258 :: u259 :: u260 :: u261 :: u262 :: u263 :: u264 :: u265 :: u266 :: u267 :: u268 :: u269 :: u270 :: u271 :: u272 :: u273 :: u274 :: u275 :: u276 :: u277 :: u278 :: u279 :: u280 :: []), []⟩ wx) :
    Code.wp Tryd.prog lkTold_code Q ⟨List.toArray (u0 :: u1 :: u2 :: u3 :: u4 :: u5 :: u6 :: u7 :: u8 :: u9 :: u10 :: u11 :: u12 :: u13 :: u14 :: u15 :: u16 :: u17 :: u18 :: u19 :: u20 :: u21 :: u22 :: u23 :: (.bool B1) :: (.bool B2) :: u26 :: u27 :: u28 :: u29 :: u30 :: u31 :: u32 :: u33 :: u34 :: u35 :: u36 :: u37 :: u38 :: u39 :: u40 :: u41 :: u42 :: u43 :: u44 :: u45 :: u46 :: u47 :: u48 :: u49 :: u50 :: u51 :: u52 :: u53 :: u54 :: u55 :: u56 :: u57 :: u58 :: u59 :: u60 :: u61 :: u62 :: u63 :: u64 :: u65 :: u66 :: u67 :: u68 :: u69 :: u70 :: u71 :: u72 :: u73 :: u74 :: u75 :: u76 :: u77 :: u78 :: u79 :: u80 :: u81 :: u82 :: u83 :: u84 :: u85 :: u86 :: u87 :: u88 :: u89 :: u90 :: u91 :: u92 :: u93 :: u94 :: u95 :: u96 :: u97 :: u98 :: u99 :: u100 :: u101 :: u102 :: u103 :: u104 :: u105 :: u106 :: u107 :: u108 :: u109 :: u110 :: u111 :: u112 :: u113 :: u114 :: u115 :: u116 :: u117 :: u118 :: u119 :: u120 :: u121 :: u122 :: u123 :: u124 :: u125 :: u126 :: u127 :: u128 :: u129 :: u130 :: u131 :: u132 :: u133 :: u134 :: u135 :: u136 :: u137 :: u138 :: u139 :: u140 :: u141 :: u142 :: u143 :: u144 :: u145 :: u146 :: u147 :: u148 :: u149 :: u150 :: u151 :: u152 :: u153 :: u154 :: u155 :: u156 :: u157 :: u158 :: u159 :: u160 :: u161 :: u162 :: u163 :: u164 :: u165 :: u166 :: u167 :: u168 :: u169 :: u170 :: u171 :: u172 :: u173 :: u174 :: u175 :: u176 :: u177 :: u178 :: u179 :: u180 :: u181 :: u182 :: u183 :: u184 :: u185 :: u186 :: u187 :: u188 :: u189 :: u190 :: u191 :: u192 :: u193 :: u194 :: u195 :: u196 :: u197 :: u198 :: u199 :: u200 :: u201 :: u202 :: u203 :: u204 :: u205 :: u206 :: u207 :: u208 :: u209 :: u210 :: u211 :: u212 :: u213 :: u214 :: u215 :: u216 :: u217 :: u218 :: u219 :: u220 :: u221 :: u222 :: u223 :: u224 :: u225 :: u226 :: u227 :: u228 :: u229 :: u230 :: u231 :: u232 :: u233 :: u234 :: u235 :: u236 :: u237 :: u238 :: u239 :: u240 :: u241 :: u242 :: u243 :: u244 :: u245 :: u246 :: u247 :: u248 :: u249 :: u250 :: u251 :: u252 :: u253 :: u254 :: u255 :: u256 :: u257 :: u258 :: u259 :: u260 :: u261 :: u262 :: u263 :: u264 :: u265 :: u266 :: u267 :: u268 :: u269 :: u270 :: u271 :: u272 :: u273 :: u274 :: u275 :: u276 :: u277 :: u278 :: u279 :: u280 :: []), []⟩ w1 := by
  conv => arg 2; whnf
  have HK := Lib.hid hK
  clear hK
  cases B1
  · have h2 : B2 = true := by simpa using hB
    subst h2
    clear hB
    go_wp2_with fail
    apply HK.out
    exact ⟨rfl, rfl⟩
  · clear hB
    go_wp2_with fail
    apply HK.out
    exact ⟨rfl, rfl⟩
def LkO (w : World) (p : Nat) (s : Lg) (dv mv : Value) (wr : World) : Prop := Own w (LgP p s * (EvSl dv s.h * (IntSl mv (mkM s.h) * emp))) wr
noncomputable def lkStep_code : Code := ((Tryd.f6.body.bind (findBlock 3)).getD .skip)
set_option maxRecDepth 1000000 in
set_option maxHeartbeats 4000000 in
theorem lkStep {Q : Exit → Act → World → Prop} {u2 u3 u4 u5 u6 u7 u8 u9 u10 u11 u12 u13 u18 u19 u20 u21 u22 u23 u24 u25 u26 u27 u28 u29 u30 u31 u32 u33 u34 u35 u36 u37 u38 u39 u40 u41 u42 u43 u44 u45 u46 u47 u48 u49 u50 u51 u52 u53 u54 u55 u56 u57 u58 u59 u60 u61 u62 u63 u64 u65 u66 u67 u68 u69 u70 u71 u72 u73 u74 u75 u76 u77 u78 u79 u80 u81 u82 u83 u84 u85 u86 u87 u88 u89 u90 u91 u92 u93 u94 u95 u96 u97 u98 u99 u100 u101 u102 u103 u104 u105 u106 u107 u108 u109 u110 u111 u112 u113 u114 u115 u116 u117 u118 u119 u120 u121 u122 u123 u124 u125 u126 u127 u128 u129 u130 u131 u132 u133 u134 u135 u136 u137 u138 u139 u140 u141 u142 u143 u144 u145 u146 u147 u148 u149 u150 u151 u152 u153 u154 u155 u156 u157 u158 u159 u160 u161 u162 u163 u164 u165 u166 u167 u168 u169 u170 u171 u172 u173 u174 u175 u176 u177 u178 u179 u180 u181 u182 u183 u184 u185 u186 u187 u188 u189 u190 u191 u192 u193 u194 u195 u196 u197 u198 u199 u200 u201 u202 u203 u204 u205 u206 u207 u208 u209 u210 u211 u212 u213 u214 u215 u216 u217 u218 u219 u220 u221 u222 u223 u224 u225 u226 u227 u228 u229 u230 u231 u232 u233 u234 u235 u236 u237 u238 u239 u240 u241 u242 u243 u244 u245 u246 u247 u248 u249 u250 u251 u252 u253 u254 u255 u256 u257 u258 u259 u260 u261 u262 u263 u264 u265 u266 u267 u268 u269 u270 u271 u272 u273 u274 u275 u276 u277 u278 u279 u280 : Value} {w1 : World} (w : World) (p a ns scap nl lcap : Nat) (sad lad : Option Addr) (L : List Int) (l : List Ev) (s : Lg) (dv mv : Value) (hg : As.Handle w) (hsc : ns ≤ scap) (hs63 : scap ≤ 9223372036854775807) (HSY : Hid (∀ R', Reads w R' (.slice sad ns scap) L)) (HLN : Hid (L.length = ns)) (hlc : nl ≤ lcap) (hl63 : lcap ≤ 9223372036854775807) (HLV : Hid (∀ R', ReadsE w R' (.slice lad nl lcap) l)) (HLL : Hid (l.length = nl)) (ha : a < nl) (HI : Hid (LgI s)) (HO : Hid (LkO w p s dv mv w1))
    (hK : ∀ (v8 v15 v16 v17 v20 v21 v22 v23 v24 v25 v110 v111 v112 v113 v114 v115 v116 v117 v118 v119 v120 v121 v122 v123 v124 v125 v126 v127 v128 v129 v130 v131 v132 v133 v134 v135 v136 v137 v138 v139 v140 v141 v142 v143 v144 v145 v146 v147 v148 v149 v150 v151 v152 v153 v154 v155 v156 v157 v158 v159 v160 v161 v162 v163 v164 v165 v166 v167 v168 v169 v170 v171 v172 v173 v174 v175 v176 v177 v178 v179 v180 v181 v182 v183 : Value) (wx : World), (v17 = .int .i64 ((a : Int) + 1) ∧ ∃ s', LgI s' ∧ LkO w p s' v15 v16 wx) → Q .normal ⟨List.toArray ((.slice lad nl lcap) :: (.slice sad ns scap) :: u2 :: u3 :: u4 :: u5 :: u6 :: u7 :: v8 :: u9 :: u10 :: u11 :: u12 :: u13 :: (.pointer (some ⟨p, 0, none⟩)) :: v15 :: v16 :: v17 :: u18 :: u19 :: v20 :: v21 :: v22 :: v23 :: v24 :: v25 :: u26 :: u27 :: u28 :: u29 :: u30 :: u31 :: u32 :: u33 :: u34 :: u35 :: u36 :: u37 :: u38 :: u39 :: u40 :: u41 :: u42 :: u43 :: u44 :: u45 :: u46 :: u47 :: u48 :: u49 :: u50 :: u51 :: u52 :: u53 :: u54 :: u55 :: u56 :: u57 :: u58 :: u59 :: u60 :: u61 :: u62 :: u63 :: u64 :: u65 :: u66 :: u67 :: u68 :: u69 :: u70 :: u71 :: u72 :: u73 :: u74 :: u75 :: u76 :: u77 :: u78 :: u79 :: u80 :: u81 :: u82 :: u83 :: u84 :: u85 :: u86 :: u87 :: u88 :: u89 :: u90 :: u91 :: u92 :: u93 :: u94 :: u95 :: u96 :: u97 :: u98 :: u99 :: u100 :: u101 :: u102 :: u103 :: u104 :: u105 :: u106 :: u107 :: u108 :: u109 :: v110 :: v111 :: v112 :: v113 :: v114 :: v115 :: v116 :: v117 :: v118 :: v119 :: v120 :: v121 :: v122 :: v123 :: v124 :: v125 :: v126 :: v127 :: v128 :: v129 :: v130 :: v131 :: v132 :: v133 :: v134 :: v135 :: v136 :: v137 :: v138 :: v139 :: v140 :: v141 :: v142 :: v143 :: v144 :: v145 :: v146 :: v147 :: v148 :: v149 :: v150 :: v151 :: v152 :: v153 :: v154 :: v155 :: v156 :: v157 :: v158 :: v159 :: v160 :: v161 :: v162 :: v163 :: v164 :: v165 :: v166 :: v167 :: v168 :: v169 :: v170 :: v171 :: v172 :: v173 :: v174 :: v175 :: v176 :: v177 :: v178 :: v179 :: v180 :: v181 :: v182 :: v183 :: u184 :: u185 :: u186 :: u187 :: u188 :: u189 :: u190 :: u191 :: u192 :: u193 :: u194 :: u195 :: u196 :: u197 :: u198 :: u199 :: u200 :: u201 :: u202 :: u203 :: u204 :: u205 :: u206 :: u207 :: u208 :: u209 :: u210 :: u211 :: u212 :: u213 :: u214 :: u215 :: u216 :: u217 :: u218 :: u219 :: u220 :: u221 :: u222 :: u223 :: u224 :: u225 :: u226 :: u227 :: u228 :: u229 :: u230 :: u231 :: u232 :: u233 :: u234 :: u235 :: u236 :: u237 :: u238 :: u239 :: u240 :: u241 :: u242 :: u243 :: u244 :: u245 :: u246 :: u247 :: u248 :: u249 :: u250 :: u251 :: u252 :: u253 :: u254 :: u255 :: u256 :: u257 :: u258 :: u259 :: u260 :: u261 :: u262 :: u263 :: u264 :: u265 :: u266 :: u267 :: u268 :: u269 :: u270 :: u271 :: u272 :: u273 :: u274 :: u275 :: u276 :: u277 :: u278 :: u279 :: u280 :: []), []⟩ wx) :
    Code.wp Tryd.prog lkStep_code Q ⟨List.toArray ((.slice lad nl lcap) :: (.slice sad ns scap) :: u2 :: u3 :: u4 :: u5 :: u6 :: u7 :: u8 :: u9 :: u10 :: u11 :: u12 :: u13 :: (.pointer (some ⟨p, 0, none⟩)) :: (dv) :: (mv) :: (.int .i64 (a : Int)) :: u18 :: u19 :: u20 :: u21 :: u22 :: u23 :: u24 :: u25 :: u26 :: u27 :: u28 :: u29 :: u30 :: u31 :: u32 :: u33 :: u34 :: u35 :: u36 :: u37 :: u38 :: u39 :: u40 :: u41 :: u42 :: u43 :: u44 :: u45 :: u46 :: u47 :: u48 :: u49 :: u50 :: u51 :: u52 :: u53 :: u54 :: u55 :: u56 :: u57 :: u58 :: u59 :: u60 :: u61 :: u62 :: u63 :: u64 :: u65 :: u66 :: u67 :: u68 :: u69 :: u70 :: u71 :: u72 :: u73 :: u74 :: u75 :: u76 :: u77 :: u78 :: u79 :: u80 :: u81 :: u82 :: u83 :: u84 :: u85 :: u86 :: u87 :: u88 :: u89 :: u90 :: u91 :: u92 :: u93 :: u94 :: u95 :: u96 :: u97 :: u98 :: u99 :: u100 :: u101 :: u102 :: u103 :: u104 :: u105 :: u106 :: u107 :: u108 :: u109 :: u110 :: u111 :: u112 :: u113 :: u114 :: u115 :: u116 :: u117 :: u118 :: u119 :: u120 :: u121 :: u122 :: u123 :: u124 :: u125 :: u126 :: u127 :: u128 :: u129 :: u130 :: u131 :: u132 :: u133 :: u134 :: u135 :: u136 :: u137 :: u138 :: u139 :: u140 :: u141 :: u142 :: u143 :: u144 :: u145 :: u146 :: u147 :: u148 :: u149 :: u150 :: u151 :: u152 :: u153 :: u154 :: u155 :: u156 :: u157 :: u158 :: u159 :: u160 :: u161 :: u162 :: u163 :: u164 :: u165 :: u166 :: u167 :: u168 :: u169 :: u170 :: u171 :: u172 :: u173 :: u174 :: u175 :: u176 :: u177 :: u178 :: u179 :: u180 :: u181 :: u182 :: u183 :: u184 :: u185 :: u186 :: u187 :: u188 :: u189 :: u190 :: u191 :: u192 :: u193 :: u194 :: u195 :: u196 :: u197 :: u198 :: u199 :: u200 :: u201 :: u202 :: u203 :: u204 :: u205 :: u206 :: u207 :: u208 :: u209 :: u210 :: u211 :: u212 :: u213 :: u214 :: u215 :: u216 :: u217 :: u218 :: u219 :: u220 :: u221 :: u222 :: u223 :: u224 :: u225 :: u226 :: u227 :: u228 :: u229 :: u230 :: u231 :: u232 :: u233 :: u234 :: u235 :: u236 :: u237 :: u238 :: u239 :: u240 :: u241 :: u242 :: u243 :: u244 :: u245 :: u246 :: u247 :: u248 :: u249 :: u250 :: u251 :: u252 :: u253 :: u254 :: u255 :: u256 :: u257 :: u258 :: u259 :: u260 :: u261 :: u262 :: u263 :: u264 :: u265 :: u266 :: u267 :: u268 :: u269 :: u270 :: u271 :: u272 :: u273 :: u274 :: u275 :: u276 :: u277 :: u278 :: u279 :: u280 :: []), []⟩ w1 := by
  conv => arg 2; whnf
  have HK := Lib.hid hK
  clear hK
  have HG := Lib.hid hg
  clear hg
  go_upto_region 21 with fail
  refine lkSync w (EvSl dv s.h * (IntSl mv (mkM s.h) * emp)) p a ns scap sad L s hsc hs63 HSY HLN HI HO.out ?_
  intros
  rename_i wq hpp
  obtain ⟨rfl, s1, hI1, hh1, ho⟩ := hpp
  rw [← hh1] at ho
  have HO1 := Lib.hid ho
  have HI1 := Lib.hid hI1
  have hlen := hI1.hr.1
  clear ho hI1 hh1 HO HI
  obtain ⟨H, hH⟩ : ∃ x, x = s1.h := ⟨_, rfl⟩
  have HHE := Lib.hid hH
  have hgH : ∀ x ∈ H, goodEv x := by rw [hH]; exact fun x hx => okEv_good (HI1.out.hr.ok x hx)
  have HGH := Lib.hid hgH
  rw [← hH] at hlen HO1
  obtain ⟨dn, hdn⟩ : ∃ x, x = H.length := ⟨_, rfl⟩
  obtain ⟨dad, dcp, hdv, hdc, _⟩ := Own.rd (show Own w (Sl 28 3 dv _ _ * _) wq from Own.second HO1.out)
  rw [← hdn] at hdv hdc hlen
  subst hdv
  have HDN := Lib.hid hdn
  clear hH hgH hdn
  have HO2 : Hid (Own w (Sl 28 3 (.slice none 0 0) 0 [] * (LgP p s1 * (EvSl (.slice dad dn dcp) H * (IntSl mv (mkM H) * emp)))) wq) := Lib.hid (HO1.out.sl_nil _ _)
  have HSRC : Hid (Rd wq (.slice dad dn dcp) dn (H.flatMap evCells)) := Lib.hid (by
    have h9 := Own.rd (show Own w (Sl 28 3 (.slice dad dn dcp) H.length (H.flatMap evCells) * _) wq from Own.second HO1.out)
    rw [← HDN.out] at h9; exact h9)
  obtain ⟨aa, pb, po, ps, e1, hea, hcs, hgx⟩ := (HLV.out emp).at (HO1.out.drop.drop.drop) a (by rw [HLL.out]; exact ha)
  subst e1
  obtain ⟨x, hx⟩ : ∃ x, x = evAt l a := ⟨_, rfl⟩
  rw [← hx] at hcs hgx
  obtain ⟨y1, y2, y3⟩ := x
  simp only at hcs
  have HCS := Lib.hid hcs
  have HGX := Lib.hid hgx
  clear hcs hgx hx HO1
  have a0 : (0 : Int) ≤ (a : Int) := by omega
  have aN : (a : Int) < (nl : Int) := by omega
  go_upto_region 25 with (at_builtin; refine wpList_app rfl _ _ 33 rfl 28 3 24 _ info_ev Tryd.underlying33 rfl (by decide) rfl HO2.out rfl (cells_len evCells 3 (fun _ => rfl) _ |>.trans (by rw [HDN.out])) HSRC.out (ev_one _) (by unfold maxLen; omega) (by omega) ?_; intro v2 w2 ho2)
  have HO3 : Hid (Own w (Sl 28 3 v2 dn (H.flatMap evCells) * (LgP p s1 * (EvSl (.slice dad dn dcp) H * (IntSl mv (mkM H) * emp)))) w2) := Lib.hid (by
    have h9 := ho2
    rw [Nat.zero_add, List.nil_append] at h9
    exact h9)
  obtain ⟨ad2, cp2, hv2, _⟩ := Own.rd HO3.out
  subst hv2
  obtain ⟨c0, c1, c2⟩ := HCS.out _ HO3.out.drop.drop.drop.drop
  clear ho2 HO2 HSRC
  go_upto_region 26 with (at_builtin; refine wpList_app rfl _ _ 33 rfl 28 3 24 _ info_ev Tryd.underlying33 rfl (by decide) rfl (HO3.out.alloc' _) rfl (by rfl) (Rd_lit (by simp) (by unfold maxLen; omega)) (by intro u hu; simp at hu; rcases hu with rfl | rfl | rfl <;> rfl) (by unfold maxLen; omega) (by omega) ?_; intro v4 w4 ho4)
  have HO4 : Hid (Own w (EvSl v4 (H ++ [(y1, y2, y3)]) * (LgP p s1 * (EvSl (.slice dad dn dcp) H * (IntSl mv (mkM H) * emp)))) w4) := Lib.hid (Own.evs_snoc (l2 := [(y1, y2, y3)]) (by
    rw [← HDN.out]
    exact ho4))
  have HGN : Hid (∀ z ∈ H ++ [(y1, y2, y3)], goodEv z) := Lib.hid (fun z hz => by
    rcases List.mem_append.1 hz with hz | hz
    · exact HGH.out z hz
    · rw [List.mem_singleton.1 hz]; exact HGX.out)
  clear ho4 HO3 c0 c1 c2
  go_wp2_with fail
  refine (refRight_any _ (H ++ [(y1, y2, y3)]) HO4.out (EvSl_reads HGN.out)).mono ?_
  rintro e w5 ⟨rfl, ho⟩
  have hde := do_err (s := s1) (y1, y2, y3)
  rw [← HHE.out] at hde
  obtain ⟨F, hF⟩ : ∃ x, x = (histR (H ++ [(y1, y2, y3)])).2 := ⟨_, rfl⟩
  obtain ⟨E, hE⟩ : ∃ x, x = lgErr s1 (y1, y2, y3) := ⟨_, rfl⟩
  obtain ⟨s2, hs2⟩ : ∃ x, x = lgDo s1 (y1, y2, y3) := ⟨_, rfl⟩
  rw [← hF]
  rw [← hE, ← hF] at hde
  have HI2 : Hid (LgI s2) := Lib.hid (by rw [hs2]; exact HI1.out.do _)
  have HNIL : Hid (E = 0 → s2.h = H ++ [(y1, y2, y3)] ∧ s2.bs.length = (encH (H ++ [(y1, y2, y3)])).length ∧ s1.bs.length + 2 ≤ s2.bs.length) := Lib.hid (fun h => by
    obtain ⟨h1, h2, h3, _⟩ := do_nil (by rw [← hE]; exact h) HI1.out
    rw [← hs2, ← HHE.out] at h1
    rw [← hs2, ← HHE.out] at h2
    rw [← hs2] at h3
    exact ⟨h1, h2, h3⟩)
  have HKEEP : Hid (E ≠ 0 → s2.h = H) := Lib.hid (fun h => by rw [hs2, HHE.out]; exact do_keep (by rw [← hE]; exact h))
  have HO5 : Hid (Own w (LgP p s1 * (EvSl v4 (H ++ [(y1, y2, y3)]) * (EvSl (.slice dad dn dcp) H * (IntSl mv (mkM H) * emp)))) w5) := Lib.hid (Own.second ho)
  clear ho HO4
  have HDE := Lib.hid hde; have HF := Lib.hid hF; have HE := Lib.hid hE; have HS2 := Lib.hid hs2
  clear hde hF hE hs2
  go_wp2_with fail
  refine (lgBytes_any p s1 HI1.out HO5.out).mono ?_
  rintro e w' ⟨rfl, rfl⟩
  obtain ⟨N1, hN1⟩ : ∃ x, x = s1.bs.length := ⟨_, rfl⟩
  rw [← hN1]
  have hb1 := HI1.out.len
  rw [← hN1] at hb1
  have HN1Q := Lib.hid hN1
  clear hN1
  obtain ⟨c0, c1, c2⟩ := HCS.out _ HO5.out.drop.drop.drop.drop
  go_wp2_with fail
  refine (lgDo_any p s1 (y1, y2, y3) HI1.out HGX.out HO5.out).mono ?_
  rintro e w6 ⟨rfl, ho⟩
  rw [← HE.out]
  rw [← HS2.out] at ho
  have HO6 := Lib.hid ho
  clear ho HO5 c0 c1 c2
  go_wp2_with fail
  refine (sameErr_any HG.out E 6 HO6.out).mono ?_
  rintro e w7 ⟨rfl, ho⟩
  have HO7 := Lib.hid ho
  clear ho HO6
  obtain ⟨B1, hB1⟩ : ∃ x, ((E : Int) == 6) = x := ⟨_, rfl⟩
  obtain ⟨B2, hB2⟩ : ∃ x, ((E : Int) == (F : Int)) = x := ⟨_, rfl⟩
  have hBB : (B1 || B2) = true := by
    rw [← hB1, ← hB2]
    rcases HDE.out with h | h
    · rw [h]; rfl
    · rw [h]; simp
  rw [hB1]
  have HB2 := Lib.hid hB2
  clear hB1 hB2
  go_wp2_with fail
  refine (sameErr_any HG.out E F HO7.out).mono ?_
  rintro e w8 ⟨rfl, ho⟩
  rw [HB2.out]
  have HO8 := Lib.hid ho
  clear ho HO7 HB2
  go_upto_region 32 with fail
  refine lkTold B1 B2 hBB ?_
  intros
  rename_i hpp
  obtain ⟨rfl, rfl⟩ := hpp
  clear hBB
  rename_i w9
  by_cases h0 : E = 0
  rotate_left
  · have hee := errV_ne h0
    rw [hee]
    clear hee
    have hk := HKEEP.out h0
    have H0 := Lib.hid h0
    clear h0
    have HK2 := Lib.hid hk
    clear hk
    have HO9 : Hid (Own w (LgP p s2 * (EvSl (.slice dad dn dcp) H * (IntSl mv (mkM H) * emp))) w9) := Lib.hid (Own.second HO8.out).drop
    clear HO8
    go_wp2_with fail
    refine (lgAll_any p s2 HI2.out HO9.out).mono ?_
    rintro e wA ⟨vA, rfl, ho⟩
    rw [HK2.out] at ho
    have HOA := Lib.hid ho
    have HEA : Hid (Evs wA vA H) := Lib.hid (EvSl_reads HGH.out _ ho)
    have HEB : Hid (Evs wA (.slice dad dn dcp) H) := Lib.hid (EvSl_reads HGH.out _ (Own.third ho))
    clear ho HO9
    go_wp2_with fail
    refine (sameEv_any vA _ H HEA.out HEB.out).mono ?_
    rintro e w' ⟨rfl, n9, rfl⟩
    go_wp2_with fail
    apply HK.out
    refine ⟨by go_num, s2, HI2.out, ?_⟩
    unfold LkO
    rw [HK2.out]
    exact HOA.out.drop.drewN _
  subst h0
  rw [errV0]
  obtain ⟨hn1, hn2, hn3⟩ := HNIL.out rfl
  obtain ⟨N2, hN2⟩ : ∃ x, x = s2.bs.length := ⟨_, rfl⟩
  rw [← hN2] at hn2 hn3
  rw [← HN1Q.out] at hn3
  have hb2 := HI2.out.len
  rw [← hN2] at hb2
  have HN2Q := Lib.hid hN2
  have HNH := Lib.hid hn1
  have HNL := Lib.hid hn2
  clear hN2 hn1 hn2
  have HO9 : Hid (Own w (LgP p s2 * (EvSl v4 (H ++ [(y1, y2, y3)]) * (IntSl mv (mkM H) * emp))) w9) := Lib.hid (Own.third HO8.out).drop
  clear HO8
  go_wp2_with fail
  refine (lgBytes_any p s2 HI2.out HO9.out).mono ?_
  rintro e w' ⟨rfl, rfl⟩
  rw [← HN2Q.out]
  have t1 : decide ((N2 : Int) < (N1 : Int) + 2) = false := decide_eq_false (by omega)
  go_wp2_with fail
  refine (lgBytes_any p s2 HI2.out HO9.out).mono ?_
  rintro e w' ⟨rfl, rfl⟩
  rw [← HN2Q.out]
  have hml : (mkM H).length ≤ 100 := by rw [mkM_len, ← HDN.out]; omega
  have HM := Lib.hid (mkM_snoc H (y1, y2, y3))
  rw [← HNL.out] at HM
  obtain ⟨M, hM⟩ : ∃ x, x = mkM H := ⟨_, rfl⟩
  rw [← hM] at HO9 hml HM
  clear hM
  have HOP : Hid (Own w (IntSl mv M * (LgP p s2 * (EvSl v4 (H ++ [(y1, y2, y3)]) * emp))) _) := Lib.hid (Own.third HO9.out)
  clear HO9
  go_wp2_with (at_builtin; refine wpList_app rfl _ _ 32 rfl 3 1 8 _ info_int Tryd.underlying32 rfl (by decide) rfl ((HOP.out.alloc' _)) rfl (by rfl) (Rd_lit (by simp) (by unfold maxLen; omega)) (by intro u hu; simp at hu; subst hu; rfl) (by unfold maxLen; omega) (by omega) ?_; intro v' w' hown; have HN2 := Lib.hid hown; clear hown)
  have HOB : Hid (Own w (LgP p s2 * (EvSl v4 (H ++ [(y1, y2, y3)]) * (IntSl v' (mkM (H ++ [(y1, y2, y3)])) * emp))) w') := Lib.hid (by
    rw [HM.out]
    unfold IntSl
    rw [List.map_append, List.length_append]
    exact Own.perm HN2.out (by
      show Sl _ _ _ _ _ * _ = LgP p s2 * (EvSl v4 (H ++ [(y1, y2, y3)]) * (Sl _ _ _ _ _ * emp))
      ac_rfl))
  clear HN2 HOP
  go_wp2_with fail
  refine (lgAll_any p s2 HI2.out HOB.out).mono ?_
  rintro e wC ⟨vC, rfl, ho⟩
  rw [HNH.out] at ho
  have HOC := Lib.hid ho
  have HEA : Hid (Evs wC vC (H ++ [(y1, y2, y3)])) := Lib.hid (EvSl_reads HGN.out _ ho)
  have HEB : Hid (Evs wC v4 (H ++ [(y1, y2, y3)])) := Lib.hid (EvSl_reads HGN.out _ (Own.third ho))
  clear ho HOB
  go_wp2_with fail
  refine (sameEv_any vC _ (H ++ [(y1, y2, y3)]) HEA.out HEB.out).mono ?_
  rintro e w' ⟨rfl, n9, rfl⟩
  go_wp2_with fail
  apply HK.out
  refine ⟨by go_num, s2, HI2.out, ?_⟩
  unfold LkO
  rw [HNH.out]
  exact HOC.out.drop.drewN _
end Go.Proofs.YtljlnhbndkdlcaaDoor
