/- LogKeeps: a round. -/
import Derived.Test.YtljlnhbndkdlcaaDoorMLogKeeps14
import Derived.Test.YtljlnhbndkdlcaaDoorMLogKeeps11
import Derived.Test.YtljlnhbndkdlcaaDoorRows
import Derived.ChangeSame
import Derived.ChangeVars
import Derived.JoinedOf
import Derived.LaidLaws
import Derived.LaidHandle
import Derived.Stop.Joined
namespace Go.Proofs.YtljlnhbndkdlcaaDoor
set_option linter.unusedVariables false
set_option linter.unusedSimpArgs false
open Go.RowKit
noncomputable def lkFail_code : Code := ((Tryd.f6.body.bind (findIf 93)).getD .skip)
set_option maxRecDepth 1000000 in
set_option maxHeartbeats 4000000 in
theorem lkFail {Q : Exit → Act → World → Prop} {u0 u1 u3 u4 u5 u6 u7 u8 u9 u10 u11 u12 u13 u15 u16 u17 u19 u20 u21 u22 u23 u24 u25 u26 u27 u28 u29 u30 u31 u32 u33 u34 u35 u36 u37 u38 u39 u40 u41 u42 u43 u44 u45 u46 u47 u48 u49 u50 u51 u52 u53 u54 u55 u56 u57 u58 u59 u60 u61 u62 u63 u64 u65 u66 u67 u68 u69 u70 u71 u72 u73 u74 u75 u76 u77 u78 u79 u80 u81 u82 u83 u84 u85 u86 u87 u88 u89 u90 u91 u92 u94 u95 u96 u97 u98 u99 u100 u101 u102 u103 u104 u105 u106 u107 u108 u109 u110 u111 u112 u113 u114 u115 u116 u117 u118 u119 u120 u121 u122 u123 u124 u125 u126 u127 u128 u129 u130 u131 u132 u133 u134 u135 u136 u137 u138 u139 u140 u141 u142 u143 u144 u145 u146 u147 u148 u149 u150 u151 u152 u153 u154 u155 u156 u157 u158 u159 u160 u161 u162 u163 u164 u165 u166 u167 u168 u169 u170 u171 u172 u173 u174 u175 u176 u177 u178 u179 u180 u181 u182 u183 u184 u185 u186 u187 u188 u189 u190 u191 u192 u193 u194 u195 u196 u197 u198 u199 u200 u201 u202 u203 u204 u205 u206 u207 u208 u209 u210 u211 u212 u213 u214 u215 u216 u217 u218 u219 u220 u221 u222 u223 u224 u225 u226 u227 u228 u229 u230 u231 u232 u233 u234 u235 u236 u237 u238 u239 u240 u241 u242 u243 u244 u245 u246 u247 u248 u249 u250 u251 u252 u253 u254 u255 u256 u257 u258 u259 u260 u261 u262 u263 u264 u265 u266 u267 u268 u269 u270 u271 u272 u273 u274 u275 u276 u277 u278 u279 u280 : Value} {w1 : World} (w : World) (X : HProp) (p r nf fcap : Nat) (fad : Option Addr) (L : List Int) (s : Lg) (T : Bool) (hT : decide (r < nf) = T) (hfc : nf ≤ fcap) (hf63 : fcap ≤ 9223372036854775807) (HFV : Hid (∀ R', Reads w R' (.slice fad nf fcap) L)) (HFL : Hid (L.length = nf)) (HFI : Hid (∀ y ∈ L, I64 y)) (HI : Hid (LgI s)) (HO : Hid (Own w (LgP p s * X) w1))
    (hK : ∀ (v94 v95 v96 v97 v98 v99 : Value) (wx : World), (∃ s', LgI s' ∧ s'.h = s.h ∧ Own w (LgP p s' * X) wx) → Q .normal ⟨List.toArray (u0 :: u1 :: (.slice fad nf fcap) :: u3 :: u4 :: u5 :: u6 :: u7 :: u8 :: u9 :: u10 :: u11 :: u12 :: u13 :: (.pointer (some ⟨p, 0, none⟩)) :: u15 :: u16 :: u17 :: (.int .i64 (r : Int)) :: u19 :: u20 :: u21 :: u22 :: u23 :: u24 :: u25 :: u26 :: u27 :: u28 :: u29 :: u30 :: u31 :: u32 :: u33 :: u34 :: u35 :: u36 :: u37 :: u38 :: u39 :: u40 :: u41 :: u42 :: u43 :: u44 :: u45 :: u46 :: u47 :: u48 :: u49 :: u50 :: u51 :: u52 :: u53 :: u54 :: u55 :: u56 :: u57 :: u58 :: u59 :: u60 :: u61 :: u62 :: u63 :: u64 :: u65 :: u66 :: u67 :: u68 :: u69 :: u70 :: u71 :: u72 :: u73 :: u74 :: u75 :: u76 :: u77 :: u78 :: u79 :: u80 :: u81 :: u82 :: u83 :: u84 :: u85 :: u86 :: u87 :: u88 :: u89 :: u90 :: u91 :: u92 :: (.bool T) :: v94 :: v95 :: v96 :: v97 :: v98 :: v99 :: u100 :: u101 :: u102 :: u103 :: u104 :: u105 :: u106 :: u107 :: u108 :: u109 :: u110 :: u111 :: u112 :: u113 :: u114 :: u115 :: u116 :: u117 :: u118 :: u119 :: u120 :: u121 :: u122 :: u123 :: u124 :: u125 :: u126 :: u127 :: u128 :: u129 :: u130 :: u131 :: u132 :: u133 :: u134 :: u135 :: u136 :: u137 :: u138 :: u139 :: u140 :: u141 :: u142 :: u143 :: u144 :: u145 :: u146 :: u147 :: u148 :: u149 :: u150 :: u151 :: u152 :: u153 :: u154 :: u155 :: u156 :: u157 :: u158 :: u159 :: u160 :: u161 :: u162 :: u163 :: u164 :: u165 :: u166 :: u167 :: u168 :: u169 :: u170 :: u171 :: u172 :: u173 :: u174 :: u175 :: u176 :: u177 :: u178 :: u179 :: u180 :: u181 :: u182 :: u183 :: u184 :: u185 :: u186 :: u187 :: u188 :: u189 :: u190 :: u191 :: u192 :: u193 :: u194 :: u195 :: u196 :: u197 :: u198 :: u199 :: u200 :: u201 :: u202 :: u203 :: u204 :: u205 :: u206 :: u207 :: u208 :: u209 :: u210 :: u211 :: u212 :: u213 :: u214 :: u215 :: u216 :: u217 :: u218 :: u219 :: u220 :: u221 :: u222 :: u223 :: u224 :: u225 :: u226 :: u227 :: u228 :: u229 :: u230 :: u231 :: u232 :: u233 :: u234 :: u235 :: u236 :: u237 :: u238 :: u239 :: u240 :: u241 :: u242 :: u243 :: u244 :: u245 :: u246 :: u247 :: u248 :: u249 :: u250 :: u251 :: u252 :: u253 :: u254 :: u255 :: u256 :: u257 :: u258 :: u259 :: u260 :: u261 :: u262 :: u263 :: u264 :: u265 :: u266 :: u267 :: u268 :: u269 :: u270 :: u271 :: u272 :: u273 :: u274 :: u275 :: u276 :: u277 :: u278 :: u279 :: u280 :: []), []⟩ wx) :
    Code.wp Tryd.prog lkFail_code Q ⟨List.toArray (u0 :: u1 :: (.slice fad nf fcap) :: u3 :: u4 :: u5 :: u6 :: u7 :: u8 :: u9 :: u10 :: u11 :: u12 :: u13 :: (.pointer (some ⟨p, 0, none⟩)) :: u15 :: u16 :: u17 :: (.int .i64 (r : Int)) :: u19 :: u20 :: u21 :: u22 :: u23 :: u24 :: u25 :: u26 :: u27 :: u28 :: u29 :: u30 :: u31 :: u32 :: u33 :: u34 :: u35 :: u36 :: u37 :: u38 :: u39 :: u40 :: u41 :: u42 :: u43 :: u44 :: u45 :: u46 :: u47 :: u48 :: u49 :: u50 :: u51 :: u52 :: u53 :: u54 :: u55 :: u56 :: u57 :: u58 :: u59 :: u60 :: u61 :: u62 :: u63 :: u64 :: u65 :: u66 :: u67 :: u68 :: u69 :: u70 :: u71 :: u72 :: u73 :: u74 :: u75 :: u76 :: u77 :: u78 :: u79 :: u80 :: u81 :: u82 :: u83 :: u84 :: u85 :: u86 :: u87 :: u88 :: u89 :: u90 :: u91 :: u92 :: (.bool T) :: u94 :: u95 :: u96 :: u97 :: u98 :: u99 :: u100 :: u101 :: u102 :: u103 :: u104 :: u105 :: u106 :: u107 :: u108 :: u109 :: u110 :: u111 :: u112 :: u113 :: u114 :: u115 :: u116 :: u117 :: u118 :: u119 :: u120 :: u121 :: u122 :: u123 :: u124 :: u125 :: u126 :: u127 :: u128 :: u129 :: u130 :: u131 :: u132 :: u133 :: u134 :: u135 :: u136 :: u137 :: u138 :: u139 :: u140 :: u141 :: u142 :: u143 :: u144 :: u145 :: u146 :: u147 :: u148 :: u149 :: u150 :: u151 :: u152 :: u153 :: u154 :: u155 :: u156 :: u157 :: u158 :: u159 :: u160 :: u161 :: u162 :: u163 :: u164 :: u165 :: u166 :: u167 :: u168 :: u169 :: u170 :: u171 :: u172 :: u173 :: u174 :: u175 :: u176 :: u177 :: u178 :: u179 :: u180 :: u181 :: u182 :: u183 :: u184 :: u185 :: u186 :: u187 :: u188 :: u189 :: u190 :: u191 :: u192 :: u193 :: u194 :: u195 :: u196 :: u197 :: u198 :: u199 :: u200 :: u201 :: u202 :: u203 :: u204 :: u205 :: u206 :: u207 :: u208 :: u209 :: u210 :: u211 :: u212 :: u213 :: u214 :: u215 :: u216 :: u217 :: u218 :: u219 :: u220 :: u221 :: u222 :: u223 :: u224 :: u225 :: u226 :: u227 :: u228 :: u229 :: u230 :: u231 :: u232 :: u233 :: u234 :: u235 :: u236 :: u237 :: u238 :: u239 :: u240 :: u241 :: u242 :: u243 :: u244 :: u245 :: u246 :: u247 :: u248 :: u249 :: u250 :: u251 :: u252 :: u253 :: u254 :: u255 :: u256 :: u257 :: u258 :: u259 :: u260 :: u261 :: u262 :: u263 :: u264 :: u265 :: u266 :: u267 :: u268 :: u269 :: u270 :: u271 :: u272 :: u273 :: u274 :: u275 :: u276 :: u277 :: u278 :: u279 :: u280 :: []), []⟩ w1 := by
  conv => arg 2; whnf
  have HK := Lib.hid hK
  clear hK
  cases T
  · clear hT
    go_wp2_with fail
    apply HK.out
    exact ⟨s, HI.out, rfl, HO.out⟩
  · have hr : r < nf := by simpa using hT
    obtain ⟨fa, hfa, hc⟩ := (HFV.out _ _ HO.out).at r (by rw [HFL.out]; exact hr)
    subst hfa
    obtain ⟨y, hy⟩ : ∃ y, y = L[r]'(by rw [HFL.out]; exact hr) := ⟨_, rfl⟩
    have hyI : I64 y := by rw [hy]; exact HFI.out _ (List.getElem_mem _)
    rw [← hy] at hc
    have r0 : (0 : Int) ≤ (r : Int) := by omega
    have rN : (r : Int) < (nf : Int) := by omega
    have HY := Lib.hid hy; have HYI := Lib.hid hyI; have HT := Lib.hid hT
    clear hy hyI hT
    go_wp2_with fail
    refine (lgFail_any p s y HO.out).mono ?_
    rintro e w2 ⟨rfl, ho⟩
    have HO2 := Lib.hid ho
    clear ho HO
    go_wp2_with fail
    apply HK.out
    exact ⟨lgFail s y, HI.out.fail HYI.out, rfl, HO2.out⟩
noncomputable def lkKeep_code : Code := ((Tryd.f6.body.bind (findIf 187)).getD .skip)
set_option maxRecDepth 1000000 in
set_option maxHeartbeats 4000000 in
theorem lkKeep {Q : Exit → Act → World → Prop} {u0 u1 u2 u4 u5 u6 u7 u8 u9 u10 u11 u12 u13 u14 u15 u16 u17 u19 u20 u21 u22 u23 u24 u25 u27 u28 u29 u30 u31 u32 u33 u34 u35 u36 u37 u38 u39 u40 u41 u42 u43 u44 u45 u46 u47 u48 u49 u50 u51 u52 u53 u54 u55 u56 u57 u58 u59 u60 u61 u62 u63 u64 u65 u66 u67 u68 u69 u70 u71 u72 u73 u74 u75 u76 u77 u78 u79 u80 u81 u82 u83 u84 u85 u86 u87 u88 u89 u90 u91 u92 u93 u94 u95 u96 u97 u98 u99 u100 u101 u102 u103 u104 u105 u106 u107 u108 u109 u110 u111 u112 u113 u114 u115 u116 u117 u118 u119 u120 u121 u122 u123 u124 u125 u126 u127 u128 u129 u130 u131 u132 u133 u134 u135 u136 u137 u138 u139 u140 u141 u142 u143 u144 u145 u146 u147 u148 u149 u150 u151 u152 u153 u154 u155 u156 u157 u158 u159 u160 u161 u162 u163 u164 u165 u166 u167 u168 u169 u170 u171 u172 u173 u174 u175 u176 u177 u178 u179 u180 u181 u182 u183 u184 u185 u186 u188 u189 u190 u191 u192 u193 u194 u195 u196 u197 u198 u199 u200 u201 u202 u203 u204 u205 u206 u207 u208 u209 u210 u211 u212 u213 u214 u215 u216 u217 u218 u219 u220 u221 u222 u223 u224 u225 u226 u227 u228 u229 u230 u231 u232 u233 u234 u235 u236 u237 u238 u239 u240 u241 u242 u243 u244 u245 u246 u247 u248 u249 u250 u251 u252 u253 u254 u255 u256 u257 u258 u259 u260 u261 u262 u263 u264 u265 u266 u267 u268 u269 u270 u271 u272 u273 u274 u275 u276 u277 u278 u279 u280 : Value} {w1 : World} (w : World) (X : HProp) (r nk kcap : Nat) (kad : Option Addr) (L : List Int) (T : Bool) (hT : decide (r < nk) = T) (hkc : nk ≤ kcap) (hk63 : kcap ≤ 9223372036854775807) (HKV : Hid (∀ R', Reads w R' (.slice kad nk kcap) L)) (HKL : Hid (L.length = nk)) (HO : Hid (Own w X w1))
    (hK : ∀ (v26 v188 v189 v190 v191 : Value) (wx : World), ((∃ y : Int, v26 = .int .i64 y) ∧ wx = w1) → Q .normal ⟨List.toArray (u0 :: u1 :: u2 :: (.slice kad nk kcap) :: u4 :: u5 :: u6 :: u7 :: u8 :: u9 :: u10 :: u11 :: u12 :: u13 :: u14 :: u15 :: u16 :: u17 :: (.int .i64 (r : Int)) :: u19 :: u20 :: u21 :: u22 :: u23 :: u24 :: u25 :: v26 :: u27 :: u28 :: u29 :: u30 :: u31 :: u32 :: u33 :: u34 :: u35 :: u36 :: u37 :: u38 :: u39 :: u40 :: u41 :: u42 :: u43 :: u44 :: u45 :: u46 :: u47 :: u48 :: u49 :: u50 :: u51 :: u52 :: u53 :: u54 :: u55 :: u56 :: u57 :: u58 :: u59 :: u60 :: u61 :: u62 :: u63 :: u64 :: u65 :: u66 :: u67 :: u68 :: u69 :: u70 :: u71 :: u72 :: u73 :: u74 :: u75 :: u76 :: u77 :: u78 :: u79 :: u80 :: u81 :: u82 :: u83 :: u84 :: u85 :: u86 :: u87 :: u88 :: u89 :: u90 :: u91 :: u92 :: u93 :: u94 :: u95 :: u96 :: u97 :: u98 :: u99 :: u100 :: u101 :: u102 :: u103 :: u104 :: u105 :: u106 :: u107 :: u108 :: u109 :: u110 :: u111 :: u112 :: u113 :: u114 :: u115 :: u116 :: u117 :: u118 :: u119 :: u120 :: u121 :: u122 :: u123 :: u124 :: u125 :: u126 :: u127 :: u128 :: u129 :: u130 :: u131 :: u132 :: u133 :: u134 :: u135 :: u136 :: u137 :: u138 :: u139 :: u140 :: u141 :: u142 :: u143 :: u144 :: u145 :: u146 :: u147 :: u148 :: u149 :: u150 :: u151 :: u152 :: u153 :: u154 :: u155 :: u156 :: u157 :: u158 :: u159 :: u160 :: u161 :: u162 :: u163 :: u164 :: u165 :: u166 :: u167 :: u168 :: u169 :: u170 :: u171 :: u172 :: u173 :: u174 :: u175 :: u176 :: u177 :: u178 :: u179 :: u180 :: u181 :: u182 :: u183 :: u184 :: u185 :: u186 :: (.bool T) :: v188 :: v189 :: v190 :: v191 :: u192 :: u193 :: u194 :: u195 :: u196 :: u197 :: u198 :: u199 :: u200 :: u201 :: u202 :: u203 :: u204 :: u205 :: u206 :: u207 :: u208 :: u209 :: u210 :: u211 :: u212 :: u213 :: u214 :: u215 :: u216 :: u217 :: u218 :: u219 :: u220 :: u221 :: u222 :: u223 :: u224 :: u225 :: u226 :: u227 :: u228 :: u229 :: u230 :: u231 :: u232 :: u233 :: u234 :: u235 :: u236 :: u237 :: u238 :: u239 :: u240 :: u241 :: u242 :: u243 :: u244 :: u245 :: u246 :: u247 :: u248 :: u249 :: u250 :: u251 :: u252 :: u253 :: u254 :: u255 :: u256 :: u257 :: u258 :: u259 :: u260 :: u261 :: u262 :: u263 :: u264 :: u265 :: u266 :: u267 :: u268 :: u269 :: u270 :: u271 :: u272 :: u273 :: u274 :: u275 :: u276 :: u277 :: u278 :: u279 :: u280 :: []), []⟩ wx) :
    Code.wp Tryd.prog lkKeep_code Q ⟨List.toArray (u0 :: u1 :: u2 :: (.slice kad nk kcap) :: u4 :: u5 :: u6 :: u7 :: u8 :: u9 :: u10 :: u11 :: u12 :: u13 :: u14 :: u15 :: u16 :: u17 :: (.int .i64 (r : Int)) :: u19 :: u20 :: u21 :: u22 :: u23 :: u24 :: u25 :: (.int .i64 0) :: u27 :: u28 :: u29 :: u30 :: u31 :: u32 :: u33 :: u34 :: u35 :: u36 :: u37 :: u38 :: u39 :: u40 :: u41 :: u42 :: u43 :: u44 :: u45 :: u46 :: u47 :: u48 :: u49 :: u50 :: u51 :: u52 :: u53 :: u54 :: u55 :: u56 :: u57 :: u58 :: u59 :: u60 :: u61 :: u62 :: u63 :: u64 :: u65 :: u66 :: u67 :: u68 :: u69 :: u70 :: u71 :: u72 :: u73 :: u74 :: u75 :: u76 :: u77 :: u78 :: u79 :: u80 :: u81 :: u82 :: u83 :: u84 :: u85 :: u86 :: u87 :: u88 :: u89 :: u90 :: u91 :: u92 :: u93 :: u94 :: u95 :: u96 :: u97 :: u98 :: u99 :: u100 :: u101 :: u102 :: u103 :: u104 :: u105 :: u106 :: u107 :: u108 :: u109 :: u110 :: u111 :: u112 :: u113 :: u114 :: u115 :: u116 :: u117 :: u118 :: u119 :: u120 :: u121 :: u122 :: u123 :: u124 :: u125 :: u126 :: u127 :: u128 :: u129 :: u130 :: u131 :: u132 :: u133 :: u134 :: u135 :: u136 :: u137 :: u138 :: u139 :: u140 :: u141 :: u142 :: u143 :: u144 :: u145 :: u146 :: u147 :: u148 :: u149 :: u150 :: u151 :: u152 :: u153 :: u154 :: u155 :: u156 :: u157 :: u158 :: u159 :: u160 :: u161 :: u162 :: u163 :: u164 :: u165 :: u166 :: u167 :: u168 :: u169 :: u170 :: u171 :: u172 :: u173 :: u174 :: u175 :: u176 :: u177 :: u178 :: u179 :: u180 :: u181 :: u182 :: u183 :: u184 :: u185 :: u186 :: (.bool T) :: u188 :: u189 :: u190 :: u191 :: u192 :: u193 :: u194 :: u195 :: u196 :: u197 :: u198 :: u199 :: u200 :: u201 :: u202 :: u203 :: u204 :: u205 :: u206 :: u207 :: u208 :: u209 :: u210 :: u211 :: u212 :: u213 :: u214 :: u215 :: u216 :: u217 :: u218 :: u219 :: u220 :: u221 :: u222 :: u223 :: u224 :: u225 :: u226 :: u227 :: u228 :: u229 :: u230 :: u231 :: u232 :: u233 :: u234 :: u235 :: u236 :: u237 :: u238 :: u239 :: u240 :: u241 :: u242 :: u243 :: u244 :: u245 :: u246 :: u247 :: u248 :: u249 :: u250 :: u251 :: u252 :: u253 :: u254 :: u255 :: u256 :: u257 :: u258 :: u259 :: u260 :: u261 :: u262 :: u263 :: u264 :: u265 :: u266 :: u267 :: u268 :: u269 :: u270 :: u271 :: u272 :: u273 :: u274 :: u275 :: u276 :: u277 :: u278 :: u279 :: u280 :: []), []⟩ w1 := by
  conv => arg 2; whnf
  have HK := Lib.hid hK
  clear hK
  cases T
  · clear hT
    go_wp2_with fail
    apply HK.out
    exact ⟨⟨0, rfl⟩, rfl⟩
  · have hr : r < nk := by simpa using hT
    obtain ⟨fa, hfa, hc⟩ := (HKV.out _ _ HO.out).at r (by rw [HKL.out]; exact hr)
    subst hfa
    obtain ⟨y, hy⟩ : ∃ y, y = L[r]'(by rw [HKL.out]; exact hr) := ⟨_, rfl⟩
    rw [← hy] at hc
    have r0 : (0 : Int) ≤ (r : Int) := by omega
    have rN : (r : Int) < (nk : Int) := by omega
    have HY := Lib.hid hy; have HT := Lib.hid hT
    clear hy hT
    go_wp2_with fail
    apply HK.out
    exact ⟨⟨y, rfl⟩, rfl⟩
noncomputable def lkRound_code : Code := ((Tryd.f6.body.bind (findBlock 1)).getD .skip)
set_option maxRecDepth 1000000 in
set_option maxHeartbeats 4000000 in
theorem lkRound {Q : Exit → Act → World → Prop} {u4 u5 u6 u7 u8 u9 u10 u11 u12 u13 u19 u20 u21 u22 u23 u24 u25 u26 u27 u28 u29 u30 u31 u32 u33 u34 u35 u36 u37 u38 u39 u40 u41 u42 u43 u44 u45 u46 u47 u48 u49 u50 u51 u52 u53 u54 u55 u56 u57 u58 u59 u60 u61 u62 u63 u64 u65 u66 u67 u68 u69 u70 u71 u72 u73 u74 u75 u76 u77 u78 u79 u80 u81 u82 u83 u84 u85 u86 u87 u88 u89 u90 u91 u92 u93 u94 u95 u96 u97 u98 u99 u100 u101 u102 u103 u104 u105 u106 u107 u108 u109 u110 u111 u112 u113 u114 u115 u116 u117 u118 u119 u120 u121 u122 u123 u124 u125 u126 u127 u128 u129 u130 u131 u132 u133 u134 u135 u136 u137 u138 u139 u140 u141 u142 u143 u144 u145 u146 u147 u148 u149 u150 u151 u152 u153 u154 u155 u156 u157 u158 u159 u160 u161 u162 u163 u164 u165 u166 u167 u168 u169 u170 u171 u172 u173 u174 u175 u176 u177 u178 u179 u180 u181 u182 u183 u184 u185 u186 u187 u188 u189 u190 u191 u192 u193 u194 u195 u196 u197 u198 u199 u200 u201 u202 u203 u204 u205 u206 u207 u208 u209 u210 u211 u212 u213 u214 u215 u216 u217 u218 u219 u220 u221 u222 u223 u224 u225 u226 u227 u228 u229 u230 u231 u232 u233 u234 u235 u236 u237 u238 u239 u240 u241 u242 u243 u244 u245 u246 u247 u248 u249 u250 u251 u252 u253 u254 u255 u256 u257 u258 u259 u260 u261 u262 u263 u264 u265 u266 u267 u268 u269 u270 u271 u272 u273 u274 u275 u276 u277 u278 u279 u280 : Value} {w1 : World} (w : World) (p a r nl lcap ns scap nf fcap nk kcap : Nat) (lad sad fad kad : Option Addr) (l : List Ev) (syncs fails keeps : List Int) (s : Lg) (dv mv : Value) (hg : As.Handle w) (hlc : nl ≤ lcap) (hl63 : lcap ≤ 9223372036854775807) (hsc : ns ≤ scap) (hs63 : scap ≤ 9223372036854775807) (hfc : nf ≤ fcap) (hf63 : fcap ≤ 9223372036854775807) (hkc : nk ≤ kcap) (hk63 : kcap ≤ 9223372036854775807) (HLV : Hid (∀ R', ReadsE w R' (.slice lad nl lcap) l)) (HSY : Hid (∀ R', Reads w R' (.slice sad ns scap) syncs)) (HFV : Hid (∀ R', Reads w R' (.slice fad nf fcap) fails)) (HFI : Hid (∀ y ∈ fails, I64 y)) (HKV : Hid (∀ R', Reads w R' (.slice kad nk kcap) keeps)) (HLL : Hid (l.length = nl)) (HSL : Hid (syncs.length = ns)) (HFL : Hid (fails.length = nf)) (HKL : Hid (keeps.length = nk)) (ha : a ≤ nl) (hr : r < 4) (HI : Hid (LgI s)) (HO : Hid (LkO w p s dv mv w1))
    (hK : ∀ (v8 v15 v16 v17 v19 v20 v21 v22 v23 v24 v25 v26 v27 v28 v29 v30 v31 v32 v33 v34 v35 v90 v91 v92 v93 v94 v95 v96 v97 v98 v99 v100 v101 v102 v103 v104 v105 v106 v107 v108 v109 v110 v111 v112 v113 v114 v115 v116 v117 v118 v119 v120 v121 v122 v123 v124 v125 v126 v127 v128 v129 v130 v131 v132 v133 v134 v135 v136 v137 v138 v139 v140 v141 v142 v143 v144 v145 v146 v147 v148 v149 v150 v151 v152 v153 v154 v155 v156 v157 v158 v159 v160 v161 v162 v163 v164 v165 v166 v167 v168 v169 v170 v171 v172 v173 v174 v175 v176 v177 v178 v179 v180 v181 v182 v183 v184 v185 v186 v187 v188 v189 v190 v191 v192 v193 v194 v195 v196 v197 v198 v199 v200 v201 v202 v203 v204 v205 v206 v207 v208 v209 v210 v211 v212 v213 v214 v215 v216 v217 v218 v219 v220 v221 v222 v223 v224 v225 v226 v227 v228 v229 v230 v231 v232 v233 v234 v235 v236 v237 v238 v239 v240 v241 v242 v243 v244 v245 v246 v247 v248 v249 v250 v251 v252 v253 v254 v255 v256 v257 v258 v259 v260 v261 v262 v263 v264 v265 v266 v267 v268 v269 v270 v271 v272 v273 v274 v275 v276 v277 v278 v279 v280 : Value) (wx : World), (∃ (a' : Nat) (s' : Lg), a' ≤ nl ∧ v17 = .int .i64 (a' : Int) ∧ LgI s' ∧ LkO w p s' v15 v16 wx) → Q .normal ⟨List.toArray ((.slice lad nl lcap) :: (.slice sad ns scap) :: (.slice fad nf fcap) :: (.slice kad nk kcap) :: u4 :: u5 :: u6 :: u7 :: v8 :: u9 :: u10 :: u11 :: u12 :: u13 :: (.pointer (some ⟨p, 0, none⟩)) :: v15 :: v16 :: v17 :: (.int .i64 (r : Int)) :: v19 :: v20 :: v21 :: v22 :: v23 :: v24 :: v25 :: v26 :: v27 :: v28 :: v29 :: v30 :: v31 :: v32 :: v33 :: v34 :: v35 :: u36 :: u37 :: u38 :: u39 :: u40 :: u41 :: u42 :: u43 :: u44 :: u45 :: u46 :: u47 :: u48 :: u49 :: u50 :: u51 :: u52 :: u53 :: u54 :: u55 :: u56 :: u57 :: u58 :: u59 :: u60 :: u61 :: u62 :: u63 :: u64 :: u65 :: u66 :: u67 :: u68 :: u69 :: u70 :: u71 :: u72 :: u73 :: u74 :: u75 :: u76 :: u77 :: u78 :: u79 :: u80 :: u81 :: u82 :: u83 :: u84 :: u85 :: u86 :: u87 :: u88 :: u89 :: v90 :: v91 :: v92 :: v93 :: v94 :: v95 :: v96 :: v97 :: v98 :: v99 :: v100 :: v101 :: v102 :: v103 :: v104 :: v105 :: v106 :: v107 :: v108 :: v109 :: v110 :: v111 :: v112 :: v113 :: v114 :: v115 :: v116 :: v117 :: v118 :: v119 :: v120 :: v121 :: v122 :: v123 :: v124 :: v125 :: v126 :: v127 :: v128 :: v129 :: v130 :: v131 :: v132 :: v133 :: v134 :: v135 :: v136 :: v137 :: v138 :: v139 :: v140 :: v141 :: v142 :: v143 :: v144 :: v145 :: v146 :: v147 :: v148 :: v149 :: v150 :: v151 :: v152 :: v153 :: v154 :: v155 :: v156 :: v157 :: v158 :: v159 :: v160 :: v161 :: v162 :: v163 :: v164 :: v165 :: v166 :: v167 :: v168 :: v169 :: v170 :: v171 :: v172 :: v173 :: v174 :: v175 :: v176 :: v177 :: v178 :: v179 :: v180 :: v181 :: v182 :: v183 :: v184 :: v185 :: v186 :: v187 :: v188 :: v189 :: v190 :: v191 :: v192 :: v193 :: v194 :: v195 :: v196 :: v197 :: v198 :: v199 :: v200 :: v201 :: v202 :: v203 :: v204 :: v205 :: v206 :: v207 :: v208 :: v209 :: v210 :: v211 :: v212 :: v213 :: v214 :: v215 :: v216 :: v217 :: v218 :: v219 :: v220 :: v221 :: v222 :: v223 :: v224 :: v225 :: v226 :: v227 :: v228 :: v229 :: v230 :: v231 :: v232 :: v233 :: v234 :: v235 :: v236 :: v237 :: v238 :: v239 :: v240 :: v241 :: v242 :: v243 :: v244 :: v245 :: v246 :: v247 :: v248 :: v249 :: v250 :: v251 :: v252 :: v253 :: v254 :: v255 :: v256 :: v257 :: v258 :: v259 :: v260 :: v261 :: v262 :: v263 :: v264 :: v265 :: v266 :: v267 :: v268 :: v269 :: v270 :: v271 :: v272 :: v273 :: v274 :: v275 :: v276 :: v277 :: v278 :: v279 :: v280 :: []), []⟩ wx) :
    Code.wp Tryd.prog lkRound_code Q ⟨List.toArray ((.slice lad nl lcap) :: (.slice sad ns scap) :: (.slice fad nf fcap) :: (.slice kad nk kcap) :: u4 :: u5 :: u6 :: u7 :: u8 :: u9 :: u10 :: u11 :: u12 :: u13 :: (.pointer (some ⟨p, 0, none⟩)) :: (dv) :: (mv) :: (.int .i64 (a : Int)) :: (.int .i64 (r : Int)) :: u19 :: u20 :: u21 :: u22 :: u23 :: u24 :: u25 :: u26 :: u27 :: u28 :: u29 :: u30 :: u31 :: u32 :: u33 :: u34 :: u35 :: u36 :: u37 :: u38 :: u39 :: u40 :: u41 :: u42 :: u43 :: u44 :: u45 :: u46 :: u47 :: u48 :: u49 :: u50 :: u51 :: u52 :: u53 :: u54 :: u55 :: u56 :: u57 :: u58 :: u59 :: u60 :: u61 :: u62 :: u63 :: u64 :: u65 :: u66 :: u67 :: u68 :: u69 :: u70 :: u71 :: u72 :: u73 :: u74 :: u75 :: u76 :: u77 :: u78 :: u79 :: u80 :: u81 :: u82 :: u83 :: u84 :: u85 :: u86 :: u87 :: u88 :: u89 :: u90 :: u91 :: u92 :: u93 :: u94 :: u95 :: u96 :: u97 :: u98 :: u99 :: u100 :: u101 :: u102 :: u103 :: u104 :: u105 :: u106 :: u107 :: u108 :: u109 :: u110 :: u111 :: u112 :: u113 :: u114 :: u115 :: u116 :: u117 :: u118 :: u119 :: u120 :: u121 :: u122 :: u123 :: u124 :: u125 :: u126 :: u127 :: u128 :: u129 :: u130 :: u131 :: u132 :: u133 :: u134 :: u135 :: u136 :: u137 :: u138 :: u139 :: u140 :: u141 :: u142 :: u143 :: u144 :: u145 :: u146 :: u147 :: u148 :: u149 :: u150 :: u151 :: u152 :: u153 :: u154 :: u155 :: u156 :: u157 :: u158 :: u159 :: u160 :: u161 :: u162 :: u163 :: u164 :: u165 :: u166 :: u167 :: u168 :: u169 :: u170 :: u171 :: u172 :: u173 :: u174 :: u175 :: u176 :: u177 :: u178 :: u179 :: u180 :: u181 :: u182 :: u183 :: u184 :: u185 :: u186 :: u187 :: u188 :: u189 :: u190 :: u191 :: u192 :: u193 :: u194 :: u195 :: u196 :: u197 :: u198 :: u199 :: u200 :: u201 :: u202 :: u203 :: u204 :: u205 :: u206 :: u207 :: u208 :: u209 :: u210 :: u211 :: u212 :: u213 :: u214 :: u215 :: u216 :: u217 :: u218 :: u219 :: u220 :: u221 :: u222 :: u223 :: u224 :: u225 :: u226 :: u227 :: u228 :: u229 :: u230 :: u231 :: u232 :: u233 :: u234 :: u235 :: u236 :: u237 :: u238 :: u239 :: u240 :: u241 :: u242 :: u243 :: u244 :: u245 :: u246 :: u247 :: u248 :: u249 :: u250 :: u251 :: u252 :: u253 :: u254 :: u255 :: u256 :: u257 :: u258 :: u259 :: u260 :: u261 :: u262 :: u263 :: u264 :: u265 :: u266 :: u267 :: u268 :: u269 :: u270 :: u271 :: u272 :: u273 :: u274 :: u275 :: u276 :: u277 :: u278 :: u279 :: u280 :: []), []⟩ w1 := by
  conv => arg 2; whnf
  have HK := Lib.hid hK
  clear hK
  have HG := Lib.hid hg
  clear hg
  obtain ⟨T1, hT1⟩ : ∃ T, decide (r < nf) = T := ⟨_, rfl⟩
  have HT1 := Lib.hid hT1
  go_upto_if 93 with fail
  refine lkFail w (EvSl dv s.h * (IntSl mv (mkM s.h) * emp)) p r nf fcap fad fails s T1 HT1.out hfc hf63 HFV HFL HFI HI HO.out ?_
  intros
  rename_i wq hpp
  obtain ⟨s1, hI1, hh1, ho⟩ := hpp
  rw [← hh1] at ho
  have HO1 : Hid (LkO w p s1 dv mv wq) := Lib.hid ho
  have HI1 := Lib.hid hI1
  clear ho hI1 hh1 hT1 HO HI
  go_wp2_with fail
  go_loopw [17, 19, 15, 16] (fun av kv dv mv wr => ∃ (a k : Nat) (s : Lg), a ≤ nl ∧ k ≤ 16 ∧ av = .int .i64 a ∧ kv = .int .i64 k ∧ Hid (LgI s) ∧ Hid (LkO w p s dv mv wr)) (fun _ kv _ _ _ => 17 - (intOf kv).toNat)
  case atStart => exact ⟨a, 0, s1, ha, by omega, rfl, rfl, HI1, HO1⟩
  case round =>
    clear HO1 HI1
    obtain ⟨b, k, s2, hb, hk, rfl, rfl, HI, HO⟩ := hrel
    by_cases hgo : k < 16 ∧ b < nl
    · obtain ⟨hk16, hbn⟩ := hgo
      have hg' := HG.out
      have k16 : (k : Int) < 16 := by omega
      go_upto_block 3 with fail
      refine lkStep w p b ns scap nl lcap sad lad syncs l s2 u15 u16 hg' hsc hs63 HSY HSL hlc hl63 HLV HLL hbn HI HO ?_
      intros
      rename_i wr2 hpp
      obtain ⟨rfl, s3, hI3, ho⟩ := hpp
      have HO2 := Lib.hid ho
      have HI2 := Lib.hid hI3
      clear ho hI3 HO HI hg'
      go_wp2_with fail
      go_roundw
      case rel => exact ⟨b + 1, k + 1, s3, by omega, by omega, by go_num, by go_num, HI2, HO2⟩
      case measure => simp [intOf]; omega
    have hcs : ¬ k < 16 ∨ (k < 16 ∧ ¬ b < nl) := by omega
    clear hgo
    obtain ⟨T2, hT2⟩ : ∃ T, decide (r < nk) = T := ⟨_, rfl⟩
    obtain ⟨n, hn⟩ : ∃ x, x = s2.h.length := ⟨_, rfl⟩
    have hn60 := HI.out.hr.1
    rw [← hn] at hn60
    obtain ⟨mb, moff, mcap, hmv, hmc, hm63, hmcell, _⟩ := (Own.third HO.out).ints_at (by rw [mkM_len]; omega)
    rw [mkM_len, ← hn] at hmv hmc
    have hm63' : mcap ≤ 9223372036854775807 := hm63
    obtain ⟨dad, dcp, hdv, hdc, _⟩ := Own.rd (show Own w (Sl 28 3 u15 _ _ * _) wr from Own.second HO.out)
    rw [← hn] at hdv hdc
    subst hmv
    subst hdv
    have HNH := Lib.hid hn
    have HT2 := Lib.hid hT2
    clear hn hmcell hm63
    rcases hcs with h1 | ⟨h1, h2⟩
    all_goals
      go_upto_if 187 with fail
      refine lkKeep w (LgP p s2 * (EvSl (.slice dad n dcp) s2.h * (IntSl (.slice (some ⟨mb, moff, none⟩) (n + 1) mcap) (mkM s2.h) * emp))) r nk kcap kad keeps T2 HT2.out hkc hk63 HKV HKL (Lib.hid HO.out) ?_
      intros
      rename_i hpp
      obtain ⟨⟨keep, rfl⟩, rfl⟩ := hpp
      clear hT2
      go_wp2_with fail
      refine (lgBytes_any p s2 HI.out HO.out).mono ?_
      rintro e w' ⟨rfl, rfl⟩
      obtain ⟨N, hN⟩ : ∃ x, x = s2.bs.length := ⟨_, rfl⟩
      rw [← hN]
      have hN1 := HI.out.len
      rw [← hN] at hN1
      have HNQ := Lib.hid hN
      clear hN
      go_wp2_with fail
      refine (lgSafe_any p s2 HO.out).mono ?_
      rintro e w' ⟨rfl, rfl⟩
      obtain ⟨F, hF⟩ : ∃ x, x = s2.safe := ⟨_, rfl⟩
      rw [← hF]
      have hF1 := HI.out.safe
      rw [← hF, ← HNQ.out] at hF1
      have HFQ := Lib.hid hF
      clear hF
      go_wp2_with fail
      refine (lgCrash_any p s2 keep HI.out HO.out).mono ?_
      rintro e w3 ⟨rfl, ho⟩
      have hcl := crash_len s2 keep HI.out
      have hcu := (lg_cut HI.out keep).1
      have hmk := fun (j : Nat) (hj : j ≤ n) => mk_cut HI.out keep (i := j) (by rw [← HNH.out]; exact hj)
      have hch : (lgCrash s2 keep).h = s2.h.take (lgCut s2 keep) := rfl
      have hMd : lgHigh s2 keep = F + (if keep ≤ 0 then 0 else if keep ≤ ((N : Nat) : Int) - F then keep.toNat else N - F) := by rw [HFQ.out, HNQ.out]; rfl
      obtain ⟨s3, hs3⟩ : ∃ x, x = lgCrash s2 keep := ⟨_, rfl⟩
      have HI3 : Hid (LgI s3) := Lib.hid (by rw [hs3]; exact HI.out.crash keep)
      obtain ⟨c, hc⟩ : ∃ x, x = lgCut s2 keep := ⟨_, rfl⟩
      obtain ⟨M, hM⟩ : ∃ x, x = lgHigh s2 keep := ⟨_, rfl⟩
      rw [← hs3, ← hc] at hcl hch
      rw [← hc, ← HNH.out] at hcu
      rw [← hc, ← hM] at hmk
      rw [← hM] at hMd
      rw [← hs3] at ho
      have HO3 := Lib.hid ho
      have HMK := Lib.hid hmk
      have HMD := Lib.hid hMd
      have HCL := Lib.hid hcl
      have HCH := Lib.hid hch
      clear ho hcl hmk hMd hs3 hc hM hch HO
      have HC : Hid (∀ j, j ≤ n → w3.cell? ⟨mb, moff + j, none⟩ = some (.int .i64 ((mkL s2.h j : Nat) : Int))) := Lib.hid (fun j hj => by
        obtain ⟨b', off', cap', e, _, _, hcc, _⟩ := (Own.third HO3.out).ints_at (by rw [mkM_len]; omega)
        rw [mkM_len, ← HNH.out] at e
        cases e
        have h9 := hcc j (by rw [mkM_len, ← HNH.out]; omega)
        rw [h9]
        have h8 := mkM_get (h := s2.h) (j := j) (by rw [← HNH.out]; exact hj)
        rw [List.getElem?_eq_getElem (by rw [mkM_len, ← HNH.out]; omega)] at h8
        rw [Option.some.inj h8])
      go_upto_region 48 with fail
      refine lkTest N F keep hN1 hF1 ?_
      intros
      rename_i hpp
      obtain ⟨rfl, rfl⟩ := hpp
      obtain ⟨T3, hT3⟩ : ∃ T, (decide (0 < keep) && decide (keep < (N : Int) - (F : Int))) = T := ⟨_, rfl⟩
      rw [hT3]
      have HT3 := Lib.hid hT3
      clear hT3
      go_upto_if 208 with fail
      refine lkHigh N F M keep T3 hN1 hF1 HT3.out HMD.out ?_
      intros
      rename_i hpp
      obtain ⟨rfl, rfl⟩ := hpp
      go_upto_block 4 with fail
      refine lkLeft n mb moff mcap M c s2.h HNH.out hn60 hmc hm63' hcu HC HMK ?_
      intros
      rename_i w4 hpp
      obtain ⟨rfl, rfl⟩ := hpp
      have hkc2 : c ≤ dcp := by omega
      have hcutE := fun wq => cut_ev (ad := dad) (n := n) hkc2 wq
      have hkm2 : c + 1 ≤ mcap := by omega
      have hcutM : ∀ wq : World, (Instr.sliceAt 32 (.slice (some ⟨mb, moff, none⟩) (n + 1) mcap) none (some (.int .i64 ((c : Int) + 1))) none).run Tryd.prog wq = .ok (.slice (some ⟨mb, moff, none⟩) (c + 1) mcap) wq := fun wq => cut_ints (k := c + 1) hkm2 wq
      have HO4 : Hid (Own w (LgP p s3 * (EvSl (.slice dad c dcp) s3.h * (IntSl (.slice (some ⟨mb, moff, none⟩) (c + 1) mcap) (mkM s3.h) * emp))) w4) := Lib.hid (by
        have g1 := Own.evs_front (k := c) HNH.out hcu (Own.second HO3.out)
        have g2 := Own.ints_front (k := c + 1) (by rw [mkM_len, ← HNH.out]) (by omega) (g1.perm (show _ = IntSl (.slice (some ⟨mb, moff, none⟩) (n + 1) mcap) (mkM s2.h) * (LgP p s3 * (EvSl (.slice dad c dcp) (s2.h.take c) * emp)) by ac_rfl))
        rw [mkM_take (by rw [← HNH.out]; exact hcu), ← HCH.out] at g2
        exact g2.perm (by ac_rfl))
      have hlc3 : c = s3.h.length := by rw [HCH.out, List.length_take, ← HNH.out]; omega
      have hfe : facesErr s3.h = 0 := (histR_ok _).2 HI3.out.hr
      have hbs3 : s3.bs.length = mkL s3.h c ∧ s3.safe = mkL s3.h c := by
        have e1 : mkL s3.h c = mkL s2.h c := by unfold mkL; rw [HCH.out, List.take_take, Nat.min_self]
        rw [e1]; exact HCL.out
      have HFE := Lib.hid hfe
      have HLC3 := Lib.hid hlc3
      have HBS3 := Lib.hid hbs3
      clear hfe hlc3 hbs3 HC HMK HO3
      obtain ⟨b1, hb1⟩ : ∃ x, x = facesF s3.h := ⟨_, rfl⟩
      obtain ⟨b2, hb2⟩ : ∃ x, x = facesC s3.h := ⟨_, rfl⟩
      obtain ⟨b3, hb3⟩ : ∃ x, x = facesT s3.h := ⟨_, rfl⟩
      have HFC := lgFaces_any p s3 HI3.out HO4.out
      rw [HFE.out, errV0, ← hb1, ← hb2, ← hb3] at HFC
      have HFCH := Lib.hid HFC
      have HQ1 := Lib.hid hb1; have HQ2 := Lib.hid hb2; have HQ3 := Lib.hid hb3
      clear HFC hb1 hb2 hb3
      go_wp2_with fail
      refine (HFCH.out).mono ?_
      rintro e w5 ⟨rfl, ho⟩
      obtain ⟨fb1, hb_fb1⟩ : ∃ zz_, zz_ = (w5).heap.size := ⟨_, rfl⟩
      obtain ⟨w6, hw_w6⟩ : ∃ zz_, zz_ = (w5).alloc (.cells #[.bool b1, .bool b2, .bool b3] 54 (0, 0)) := ⟨_, rfl⟩
      have h_H6 := (ho).alloc (.cells #[.bool b1, .bool b2, .bool b3] 54 (0, 0))
      rw [← hb_fb1, ← hw_w6] at h_H6
      have H6 := Lib.hid h_H6
      clear h_H6
      have HO6 : Hid (Own w (FaO fb1 b1 b2 b3 * (LgP p s3 * (EvSl (.slice dad c dcp) s3.h * (IntSl (.slice (some ⟨mb, moff, none⟩) (c + 1) mcap) (mkM s3.h) * emp)))) w6) := H6
      clear ho H6 HO4 HFCH hcutE hcutM
      go_upto_region 61 with fail
      rw [← hb_fb1, ← hw_w6]
      clear hb_fb1 hw_w6
      have HVE : Hid (∀ z ∈ s3.h, goodEv z) := Lib.hid (fun z hz => okEv_good (HI3.out.hr.ok z hz))
      have HFD := facesOf_any (.slice dad c dcp) s3.h HO6.out (fun wq hq => EvSl_reads HVE.out _ (Own.third hq))
      rw [HFE.out, errV0, ← HQ1.out, ← HQ2.out, ← HQ3.out] at HFD
      have HFDH := Lib.hid HFD
      clear HFD
      go_wp2_with fail
      refine (HFDH.out).mono ?_
      rintro e w7 ⟨rfl, ho⟩
      obtain ⟨fb2, hb_fb2⟩ : ∃ zz_, zz_ = (w7).heap.size := ⟨_, rfl⟩
      obtain ⟨w8, hw_w8⟩ : ∃ zz_, zz_ = (w7).alloc (.cells #[.bool b1, .bool b2, .bool b3] 54 (0, 0)) := ⟨_, rfl⟩
      have h_H8 := (ho).alloc (.cells #[.bool b1, .bool b2, .bool b3] 54 (0, 0))
      rw [← hb_fb2, ← hw_w8] at h_H8
      have H8 := Lib.hid h_H8
      clear h_H8
      have HO8 : Hid (Own w (LgP p s3 * (EvSl (.slice dad c dcp) s3.h * (IntSl (.slice (some ⟨mb, moff, none⟩) (c + 1) mcap) (mkM s3.h) * (FaO fb1 b1 b2 b3 * (FaO fb2 b1 b2 b3 * emp))))) w8) := Lib.hid (Own.perm (show Own w (FaO fb2 b1 b2 b3 * (FaO fb1 b1 b2 b3 * (LgP p s3 * (EvSl (.slice dad c dcp) s3.h * (IntSl (.slice (some ⟨mb, moff, none⟩) (c + 1) mcap) (mkM s3.h) * emp))))) w8 from H8.out) (by ac_rfl))
      clear ho H8 HO6 HFDH
      go_upto_region 62 with fail
      rw [← hb_fb2, ← hw_w8]
      clear hb_fb2 hw_w8
      refine lkCmp w p fb1 fb2 c mb moff mcap dcp dad s3 b1 b2 b3 HLC3.out (by omega) hkm2 hm63' HI3 HBS3 HO8 ?_
      intros
      rename_i w9 hpp
      obtain ⟨rfl, ho⟩ := hpp
      have HO9 := Lib.hid ho
      clear ho HO8
      go_wp2_with fail
      apply HK.out
      exact ⟨b, s3, hb, rfl, HI3.out, HO9.out⟩
end Go.Proofs.YtljlnhbndkdlcaaDoor
/- The package-level variable errors.errorType as the rows list it: what a walk has of it; a world that meets it. (After the guide's Toyas example.) -/
namespace Go.Proofs.YtljlnhbndkdlcaaDoor
set_option linter.unusedVariables false
set_option linter.unusedSimpArgs false
open Go.ChangeShapes Go.WideShapes Go.RowKit
theorem errt : Tryd.prog.globalNamed "errors.errorType" = some 0 := by kernel_rfl
theorem rtt : (Tryd.prog.cutTypes.find? (·.1 == "internal/reflectlite.rtype")).map (·.2) = some 135 := by kernel_rfl
theorem oneRow : ((List.range 189).filter fun t => Tryd.prog.rowNamed t [101, 114, 114, 111, 114]) = [25] := by kernel_rfl
theorem typesSize : Tryd.prog.types.size = 189 := by kernel_rfl
def theLaid : List (String × DataW Unit) := [("errors.errorType", Rows.laid_errors_errorType)]
theorem handle_of_laid {W : World} (h : laidMetH Tryd.prog theLaid W) : As.Handle W := by
  have h' : laidMet Tryd.prog [] W ∧ handlesMet Tryd.prog theLaid W := h
  obtain ⟨name, u, ty, e1, e2, e3, e4, e5⟩ := h'.2 _ (List.mem_singleton.2 rfl)
  have en : name = [101, 114, 114, 111, 114] := (Option.some.inj e1).symm
  subst en
  obtain rfl := Option.some.inj (rtt.symm.trans e2)
  have hm : ty ∈ (List.range 189).filter fun t => Tryd.prog.rowNamed t [101, 114, 114, 111, 114] := List.mem_filter.2 ⟨List.mem_range.2 (by rw [← typesSize]; exact e3), e4⟩
  rw [oneRow] at hm
  obtain rfl := List.mem_singleton.1 hm
  have hh : typeHandle Tryd.prog 25 = .pointer (some ⟨5, 25, none⟩) := by kernel_rfl
  rw [hh] at e5
  unfold As.Handle
  simpa using World.var?_cell errt e5 0
def laidWorld (P : Program) (os : Os) : World :=
  { World.holding P os ⟨#[], #[], []⟩ with heap := (World.holding P os ⟨#[], #[], []⟩).heap.setIfInBounds 0 (.cells #[.iface 135 (.agg #[.pointer (some ⟨5, 25, none⟩)])] 106 (0, 0)) }
theorem laidWorld_met (os : Os) (args : Array Value) : laidMetH Tryd.prog theLaid ((laidWorld Tryd.prog os).forCall (fun _ _ => 0) ⟨#[], args, []⟩).memory :=
  laidMetH_of_parts (laidMet_nil _ _) (by kernel_rfl)
end Go.Proofs.YtljlnhbndkdlcaaDoor
/- LogKeeps: what is safe is kept: behind a crash there is the history of as many events as are whole among the bytes that are left; what stopped did nothing. -/
namespace Go.Proofs.YtljlnhbndkdlcaaDoor
set_option linter.unusedVariables false
set_option linter.unusedSimpArgs false
open Go.RowKit
set_option maxRecDepth 100000 in
set_option maxHeartbeats 4000000 in
theorem logKeeps_law (w : World) (hg : As.Handle w) (vl : Value) (l : List Ev) (hl : Evs w vl l) (vs : Value) (syncs : List Int) (hs : Ints w vs syncs) (vf : Value) (fails : List Int) (hf : Ints w vf fails) (vk : Value) (keeps : List Int) (hk : Ints w vk keeps) :
    Calls Tryd.prog 6 #[vl, vs, vf, vk] w fun e w' => e = .returned (.bool true) ∧ Below w.heap.size w w' := by
  obtain ⟨lad, lcap, rfl, hlc, hl63⟩ := hl.shape
  obtain ⟨sad, scap, rfl, hsc, hs63⟩ := hs.shape
  obtain ⟨fad, fcap, rfl, hfc, hf63⟩ := hf.shape
  obtain ⟨kad, kcap, rfl, hkc, hk63⟩ := hk.shape
  obtain ⟨nl, hnl⟩ : ∃ x, x = l.length := ⟨_, rfl⟩
  obtain ⟨ns, hns⟩ : ∃ x, x = syncs.length := ⟨_, rfl⟩
  obtain ⟨nf, hnf⟩ : ∃ x, x = fails.length := ⟨_, rfl⟩
  obtain ⟨nk, hnk⟩ : ∃ x, x = keeps.length := ⟨_, rfl⟩
  rw [← hnl] at hl hlc ⊢
  rw [← hns] at hs hsc ⊢
  rw [← hnf] at hf hfc ⊢
  rw [← hnk] at hk hkc ⊢
  have HLV : Hid (∀ R', ReadsE w R' (.slice lad nl lcap) l) := Lib.hid (fun R' => hl.reads)
  have HSY : Hid (∀ R', Reads w R' (.slice sad ns scap) syncs) := Lib.hid (fun R' => hs.reads)
  have HFV : Hid (∀ R', Reads w R' (.slice fad nf fcap) fails) := Lib.hid (fun R' => hf.reads)
  have HFI : Hid (∀ y ∈ fails, I64 y) := Lib.hid hf.2
  have HKV : Hid (∀ R', Reads w R' (.slice kad nk kcap) keeps) := Lib.hid (fun R' => hk.reads)
  have HLL := Lib.hid hnl.symm
  have HSL := Lib.hid hns.symm
  have HFL := Lib.hid hnf.symm
  have HKL := Lib.hid hnk.symm
  have HO0 := Lib.hid (Own.start w)
  clear hl hs hf hk hnl hns hnf hnk
  have HG := Lib.hid hg
  clear hg
  go_enter Tryd.func6, Tryd.ntmps6
  go_wp2_with fail
  refine (lgNew_any HO0.out).mono ?_
  rintro e w1 ⟨p0, rfl, ho⟩
  have HO1 := Lib.hid ho
  clear ho HO0
  go_wp2_with fail
  refine (lgDo_any p0 lgNew k1E lgNew_I ⟨by unfold I64 k1E; simp, by unfold I64 k1E; simp, by unfold I64 k1E; simp⟩ HO1.out).mono ?_
  rintro e w2 ⟨rfl, ho⟩
  rw [kS1_is.1, errV0]
  have HO2 : Hid (Own w (LgP p0 kS1 * emp) w2) := Lib.hid ho
  have HI2 : Hid (LgI kS1) := Lib.hid (lgNew_I.do k1E)
  clear ho HO1
  go_wp2_with fail
  refine (lgSync_any p0 kS1 HI2.out HO2.out).mono ?_
  rintro e w3 ⟨rfl, ho⟩
  rw [kS2_is.1, errV0]
  have HO3 : Hid (Own w (LgP p0 kS2 * emp) w3) := Lib.hid ho
  have HI3 : Hid (LgI kS2) := Lib.hid HI2.out.sync
  clear ho HO2
  go_wp2_with fail
  refine (lgDo_any p0 kS2 k2E HI3.out ⟨by unfold I64 k2E; simp, by unfold I64 k2E; simp, by unfold I64 k2E; simp⟩ HO3.out).mono ?_
  rintro e w4 ⟨rfl, ho⟩
  rw [kS3_is.1, errV0]
  have HO4 : Hid (Own w (LgP p0 kS3 * emp) w4) := Lib.hid ho
  clear ho HO3
  go_wp2_with fail
  refine (lgCrash_any p0 kS3 0 kS3_I HO4.out).mono ?_
  rintro e w5 ⟨rfl, ho⟩
  obtain ⟨s5, hs5⟩ : ∃ x, x = lgCrash kS3 0 := ⟨_, rfl⟩
  have HI5 : Hid (LgI s5) := Lib.hid (by rw [hs5]; exact kS3_I.crash 0)
  have hh5 : s5.h = [k1E] := by rw [hs5]; exact kS_crash
  have hb5 : s5.bs.length = s5.safe := by rw [hs5]; rfl
  rw [← hs5] at ho
  have HO5 := Lib.hid ho
  have HH5 := Lib.hid hh5; have HB5 := Lib.hid hb5
  clear hh5 hb5
  clear ho HO4 hs5
  go_wp2_with fail
  refine (lgAll_any p0 s5 HI5.out HO5.out).mono ?_
  rintro e w6 ⟨v6, rfl, ho⟩
  rw [HH5.out] at ho
  obtain ⟨a6, hv6⟩ : ∃ b6 off6 cp6, v6 = .slice (some ⟨b6, off6, none⟩) 1 cp6 ∧ 1 ≤ cp6 ∧ w6.cell? ⟨b6, off6 + 2, none⟩ = some (.int .i64 1) := by
    obtain ⟨b, off, cap, e, h1, _, hc, _⟩ := Own.sl_at (show Own w (Sl 28 3 v6 1 [.int .i64 0, .int .i64 2, .int .i64 1] * _) w6 from ho) (by simp)
    exact ⟨b, off, cap, e, h1, hc 2 _ rfl⟩
  obtain ⟨off6, cp6, rfl, hcp6, hc6⟩ := hv6
  have HO6 := Lib.hid ho.drop
  clear ho HO5
  go_wp2_with fail
  refine (lgBytes_any p0 s5 HI5.out HO6.out).mono ?_
  rintro e w' ⟨rfl, rfl⟩
  rw [HB5.out]
  obtain ⟨N5, hN5⟩ : ∃ x, x = s5.safe := ⟨_, rfl⟩
  rw [← hN5]
  have HN5 := Lib.hid hN5
  clear hN5
  go_wp2_with fail
  refine (lgSafe_any p0 s5 HO6.out).mono ?_
  rintro e w' ⟨rfl, rfl⟩
  rw [← HN5.out]
  have t5 : ((N5 : Int) != (N5 : Int)) = false := by simp
  go_wp2_with fail
  refine (lgNew_any HO6.out).mono ?_
  rintro e w7 ⟨p, rfl, ho⟩
  clear hc6 t5 HO6
  have ho7 : Own w (LgP p lgNew * emp) w7 := (Own.second ho).drop
  obtain ⟨mb, hb_mb⟩ : ∃ zz_, zz_ = (w7).heap.size := ⟨_, rfl⟩
  obtain ⟨w8, hw_w8⟩ : ∃ zz_, zz_ = (w7).alloc (.cells #[.int .i64 0] 3 (0, 0)) := ⟨_, rfl⟩
  have h_H8 := (ho7).alloc (.cells #[.int .i64 0] 3 (0, 0))
  rw [← hb_mb, ← hw_w8] at h_H8
  have H8 := Lib.hid h_H8
  clear h_H8
  have HO8 : Hid (LkO w p lgNew (.slice none 0 0) (.slice (some ⟨mb, 0, none⟩) 1 1) w8) := Lib.hid (by
    have h1 : Own w (IntSl (.slice (some ⟨mb, 0, none⟩) 1 1) (mkM []) * (LgP p lgNew * emp)) w8 := Own.sl_mk (cs := #[.int .i64 0]) (Nat.le_refl _) (by unfold maxLen; omega) rfl (by simp) (fun i hi => by
      have h0 : i = 0 := by simpa [mkM] using hi
      subst h0
      rfl) H8.out
    have h2 := Own.evs_nil h1
    exact h2.perm (by show EvSl _ [] * (IntSl _ (mkM []) * (LgP p lgNew * emp)) = LgP p lgNew * (EvSl _ [] * (IntSl _ (mkM []) * emp)); ac_rfl))
  clear ho ho7 H8
  go_upto_region 12 with fail
  rw [← hb_mb, ← hw_w8]
  clear hb_mb hw_w8
  go_wp2_with fail
  go_loopw [17, 18, 15, 16] (fun av rv dv mv wr => ∃ (a r : Nat) (s : Lg), a ≤ nl ∧ r ≤ 4 ∧ av = .int .i64 a ∧ rv = .int .i64 r ∧ Hid (LgI s) ∧ Hid (LkO w p s dv mv wr)) (fun _ rv _ _ _ => 5 - (intOf rv).toNat)
  case atStart => exact ⟨0, 0, lgNew, by omega, by omega, rfl, rfl, Lib.hid lgNew_I, HO8⟩
  case round =>
    clear HO8
    obtain ⟨a, r, s, ha, hr, rfl, rfl, HI, HO⟩ := hrel
    by_cases hgo : r ≤ nf ∧ r < 4
    · obtain ⟨hrf, hr4⟩ := hgo
      have hg' := HG.out
      go_upto_block 1 with fail
      refine lkRound w p a r nl lcap ns scap nf fcap nk kcap lad sad fad kad l syncs fails keeps s u15 u16 hg' hlc hl63 hsc hs63 hfc hf63 hkc hk63 HLV HSY HFV HFI HKV HLL HSL HFL HKL ha hr4 HI HO ?_
      intros
      rename_i wr2 hpp
      obtain ⟨a', s', ha', rfl, hI', ho⟩ := hpp
      have HO2 := Lib.hid ho
      have HI2 := Lib.hid hI'
      clear ho hI' HO HI hg'
      go_wp2_with fail
      go_roundw
      case rel => exact ⟨a', r + 1, s', ha', by omega, rfl, by go_num, HI2, HO2⟩
      case measure => simp [intOf]; omega
    have hcs : ¬ r ≤ nf ∨ (r ≤ nf ∧ ¬ r < 4) := by omega
    clear hgo
    rcases hcs with h1 | ⟨h1, h2⟩
    all_goals
      go_wp2
      go_ret
      exact ⟨rfl, Own.below HO.out⟩
end Go.Proofs.YtljlnhbndkdlcaaDoor
