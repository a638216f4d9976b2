/- FlushSame: parts of the law's walk. -/
import Derived.Test.YtkgnjkokbiefgaaFlushSameP
import Derived.Test.YtkgnjkokbiefgaaFlush3
import Derived.Test.YtkgnjkokbiefgaaRefView
import Derived.Test.YtkgnjkokbiefgaaTri
import Derived.Deep.DeepCutAuto
import Derived.Deep.CutBlock
namespace Go.Proofs.Ytkgnjkokbiefgaa
set_option linter.unusedVariables false
set_option linter.unusedSimpArgs false
open Go.RowKit
noncomputable def fsFill_code : Code := ((Try.f11.body.bind (findBlock 2)).getD .skip)
set_option maxRecDepth 1000000 in
set_option maxHeartbeats 4000000 in
theorem fsFill {Q : Exit → Act → World → Prop} {u0 u2 u3 u4 u5 u6 u7 u8 u9 u10 u11 u12 u13 u14 u15 u19 u20 u21 u22 u23 u24 u25 u26 u27 u28 u29 u30 u31 u32 u33 u34 u35 u36 u37 u38 u39 u40 u41 u42 u43 u44 u45 u46 u47 u48 u49 u50 u51 u52 u53 u54 u55 u56 u57 u58 u59 u60 u61 u62 u63 u64 u65 u66 u67 u68 u69 u70 u71 u72 u73 u74 u75 u76 u77 u78 u79 u80 u81 u82 u83 u84 u85 u86 u87 u88 u89 u90 u91 u92 u93 u94 u95 u96 u97 u98 u99 u100 u101 u102 u103 u104 u105 u106 u107 u108 u109 u110 u111 u112 u113 u114 u115 u116 u117 u118 u119 u120 u121 u122 u123 u124 u125 u126 u127 u128 u129 u130 u131 u132 u133 u134 u135 u136 u137 u138 u139 u140 u141 u142 u143 u144 u145 u146 u147 u148 u149 u150 u151 u152 u153 u154 u155 u156 u157 u158 u159 u160 u161 u162 u163 u164 u165 u166 u167 u168 u169 u170 u171 u172 u173 u174 u175 u176 u177 u178 u179 u180 u181 u182 u183 u184 u185 u186 u187 u188 u189 u190 u191 u192 u193 u194 u195 u196 u197 u198 u199 u200 u201 u202 u203 u204 u205 u206 u207 u208 u209 u210 u211 u212 u213 u214 u215 u216 u217 u218 u219 u220 u221 u222 u223 u224 u225 u226 u227 u228 u229 u230 u231 u232 u233 u234 u235 u236 u237 u238 u239 u240 u241 u242 u243 u244 u245 u246 u247 u248 u249 u250 u251 u252 u253 u254 u255 u256 u257 u258 u259 u260 u261 u262 u263 u264 u265 u266 u267 u268 u269 u270 u271 u272 u273 u274 u275 u276 u277 u278 u279 : Value} {w1 : World} (w : World) (R : HProp) (vb k : Nat) (steps : List (List Int)) (row : List Int) (a2 : Addr) (scap rcap : Nat) (rad : Option Addr) (h1 : k < steps.length) (hc1 : steps.length ≤ scap) (hc2 : scap ≤ 9223372036854775807) (HR : Hid (Ints w (.slice rad row.length rcap) row)) (HC : Hid (∀ (w1 : World) (P : HProp), Own w P w1 → w1.cell? (a2.add k) = some (.slice rad row.length rcap))) (HT : Hid (Own w (Nms 94 vb [0, 0, 0] * R) w1))
    (hK : ∀ (v18 v93 v94 v95 v96 v97 v98 v99 v100 v101 v102 v103 v104 v105 v106 v107 v108 v109 v110 v111 v112 v113 v114 : Value) (wx : World), (NmV 94 3 w vb R wx) → Q .normal ⟨List.toArray (u0 :: (.slice (some a2) steps.length scap) :: u2 :: u3 :: u4 :: u5 :: u6 :: u7 :: u8 :: u9 :: u10 :: u11 :: u12 :: u13 :: u14 :: u15 :: (.int .i64 (k : Int)) :: (.pointer (some ⟨vb, 0, none⟩)) :: v18 :: u19 :: u20 :: u21 :: u22 :: u23 :: u24 :: u25 :: u26 :: u27 :: u28 :: u29 :: u30 :: u31 :: u32 :: u33 :: u34 :: u35 :: u36 :: u37 :: u38 :: u39 :: u40 :: u41 :: u42 :: u43 :: u44 :: u45 :: u46 :: u47 :: u48 :: u49 :: u50 :: u51 :: u52 :: u53 :: u54 :: u55 :: u56 :: u57 :: u58 :: u59 :: u60 :: u61 :: u62 :: u63 :: u64 :: u65 :: u66 :: u67 :: u68 :: u69 :: u70 :: u71 :: u72 :: u73 :: u74 :: u75 :: u76 :: u77 :: u78 :: u79 :: u80 :: u81 :: u82 :: u83 :: u84 :: u85 :: u86 :: u87 :: u88 :: u89 :: u90 :: u91 :: u92 :: v93 :: v94 :: v95 :: v96 :: v97 :: v98 :: v99 :: v100 :: v101 :: v102 :: v103 :: v104 :: v105 :: v106 :: v107 :: v108 :: v109 :: v110 :: v111 :: v112 :: v113 :: v114 :: u115 :: u116 :: u117 :: u118 :: u119 :: u120 :: u121 :: u122 :: u123 :: u124 :: u125 :: u126 :: u127 :: u128 :: u129 :: u130 :: u131 :: u132 :: u133 :: u134 :: u135 :: u136 :: u137 :: u138 :: u139 :: u140 :: u141 :: u142 :: u143 :: u144 :: u145 :: u146 :: u147 :: u148 :: u149 :: u150 :: u151 :: u152 :: u153 :: u154 :: u155 :: u156 :: u157 :: u158 :: u159 :: u160 :: u161 :: u162 :: u163 :: u164 :: u165 :: u166 :: u167 :: u168 :: u169 :: u170 :: u171 :: u172 :: u173 :: u174 :: u175 :: u176 :: u177 :: u178 :: u179 :: u180 :: u181 :: u182 :: u183 :: u184 :: u185 :: u186 :: u187 :: u188 :: u189 :: u190 :: u191 :: u192 :: u193 :: u194 :: u195 :: u196 :: u197 :: u198 :: u199 :: u200 :: u201 :: u202 :: u203 :: u204 :: u205 :: u206 :: u207 :: u208 :: u209 :: u210 :: u211 :: u212 :: u213 :: u214 :: u215 :: u216 :: u217 :: u218 :: u219 :: u220 :: u221 :: u222 :: u223 :: u224 :: u225 :: u226 :: u227 :: u228 :: u229 :: u230 :: u231 :: u232 :: u233 :: u234 :: u235 :: u236 :: u237 :: u238 :: u239 :: u240 :: u241 :: u242 :: u243 :: u244 :: u245 :: u246 :: u247 :: u248 :: u249 :: u250 :: u251 :: u252 :: u253 :: u254 :: u255 :: u256 :: u257 :: u258 :: u259 :: u260 :: u261 :: u262 :: u263 :: u264 :: u265 :: u266 :: u267 :: u268 :: u269 :: u270 :: u271 :: u272 :: u273 :: u274 :: u275 :: u276 :: u277 :: u278 :: u279 :: []), []⟩ wx) :
    Code.wp Try.prog fsFill_code Q ⟨List.toArray (u0 :: (.slice (some a2) steps.length scap) :: u2 :: u3 :: u4 :: u5 :: u6 :: u7 :: u8 :: u9 :: u10 :: u11 :: u12 :: u13 :: u14 :: u15 :: (.int .i64 (k : Int)) :: (.pointer (some ⟨vb, 0, none⟩)) :: (.int .i64 0) :: u19 :: u20 :: u21 :: u22 :: u23 :: u24 :: u25 :: u26 :: u27 :: u28 :: u29 :: u30 :: u31 :: u32 :: u33 :: u34 :: u35 :: u36 :: u37 :: u38 :: u39 :: u40 :: u41 :: u42 :: u43 :: u44 :: u45 :: u46 :: u47 :: u48 :: u49 :: u50 :: u51 :: u52 :: u53 :: u54 :: u55 :: u56 :: u57 :: u58 :: u59 :: u60 :: u61 :: u62 :: u63 :: u64 :: u65 :: u66 :: u67 :: u68 :: u69 :: u70 :: u71 :: u72 :: u73 :: u74 :: u75 :: u76 :: u77 :: u78 :: u79 :: u80 :: u81 :: u82 :: u83 :: u84 :: u85 :: u86 :: u87 :: u88 :: u89 :: u90 :: u91 :: u92 :: u93 :: u94 :: u95 :: u96 :: u97 :: u98 :: u99 :: u100 :: u101 :: u102 :: u103 :: u104 :: u105 :: u106 :: u107 :: u108 :: u109 :: u110 :: u111 :: u112 :: u113 :: u114 :: u115 :: u116 :: u117 :: u118 :: u119 :: u120 :: u121 :: u122 :: u123 :: u124 :: u125 :: u126 :: u127 :: u128 :: u129 :: u130 :: u131 :: u132 :: u133 :: u134 :: u135 :: u136 :: u137 :: u138 :: u139 :: u140 :: u141 :: u142 :: u143 :: u144 :: u145 :: u146 :: u147 :: u148 :: u149 :: u150 :: u151 :: u152 :: u153 :: u154 :: u155 :: u156 :: u157 :: u158 :: u159 :: u160 :: u161 :: u162 :: u163 :: u164 :: u165 :: u166 :: u167 :: u168 :: u169 :: u170 :: u171 :: u172 :: u173 :: u174 :: u175 :: u176 :: u177 :: u178 :: u179 :: u180 :: u181 :: u182 :: u183 :: u184 :: u185 :: u186 :: u187 :: u188 :: u189 :: u190 :: u191 :: u192 :: u193 :: u194 :: u195 :: u196 :: u197 :: u198 :: u199 :: u200 :: u201 :: u202 :: u203 :: u204 :: u205 :: u206 :: u207 :: u208 :: u209 :: u210 :: u211 :: u212 :: u213 :: u214 :: u215 :: u216 :: u217 :: u218 :: u219 :: u220 :: u221 :: u222 :: u223 :: u224 :: u225 :: u226 :: u227 :: u228 :: u229 :: u230 :: u231 :: u232 :: u233 :: u234 :: u235 :: u236 :: u237 :: u238 :: u239 :: u240 :: u241 :: u242 :: u243 :: u244 :: u245 :: u246 :: u247 :: u248 :: u249 :: u250 :: u251 :: u252 :: u253 :: u254 :: u255 :: u256 :: u257 :: u258 :: u259 :: u260 :: u261 :: u262 :: u263 :: u264 :: u265 :: u266 :: u267 :: u268 :: u269 :: u270 :: u271 :: u272 :: u273 :: u274 :: u275 :: u276 :: u277 :: u278 :: u279 :: []), []⟩ w1 := by
  conv => arg 2; whnf
  have HK := Lib.hid hK
  clear hK
  go_wp2_with fail
  go_loopw [18] (fun jv w2 => ∃ (j : Nat) (l : List Int), j ≤ 3 ∧ jv = .int .i64 j ∧ Hid (l.length = 3) ∧ Hid (Own w (Nms 94 vb l * R) w2)) (fun jv _ => 3 - (intOf jv).toNat)
  case atStart => exact ⟨0, [0, 0, 0], Nat.zero_le _, rfl, Lib.hid rfl, HT⟩
  case round =>
    obtain ⟨j, l, hj, rfl, hl, hpw⟩ := hrel
    have c1 := HC.out _ _ hpw.out
    have FIN := Lib.hid (show NmV 94 3 w vb R wr from ⟨l, hl.out, hpw.out⟩)
    by_cases h3 : j < row.length
    rotate_left
    · go_wp2_with fail
      apply HK.out
      exact FIN.out
    by_cases h4 : j < 3
    rotate_left
    · go_wp2_with fail
      apply HK.out
      exact FIN.out
    obtain ⟨b3, rfl, hcb⟩ := HR.out.at_later j h3
    have c2 := hcb _ _ hpw.out
    have hjl : j < l.length := by rw [hl.out]; exact h4
    have c3 := hpw.out.nms_cell j hjl
    have c4 := hpw.out.nms_free j
    have HS := Lib.hid (hpw.out.nms_set j row[j])
    have i0 : (0 : Int) ≤ (j : Int) := by omega
    have i3 : (j : Int) < 3 := by omega
    clear hcb
    go_wp2_with fail
    go_roundw
    case rel => exact ⟨j + 1, l.set j row[j], by omega, by go_num, Lib.hid (by rw [List.length_set]; exact hl.out), HS⟩
    case measure => simp [intOf]; omega
/-- Those who stay, one behind the other: each heard the same words. -/
noncomputable def fsIn_code : Code := ((Try.f11.body.bind (findBlock 7)).getD .skip)
set_option maxRecDepth 1000000 in
set_option maxHeartbeats 4000000 in
theorem fsIn {Q : Exit → Act → World → Prop} {u0 u1 u2 u3 u4 u5 u6 u7 u8 u9 u10 u11 u12 u13 u14 u15 u16 u17 u18 u19 u20 u21 u22 u23 u25 u27 u29 u30 u31 u32 u33 u34 u35 u36 u37 u38 u39 u40 u41 u42 u43 u44 u45 u46 u47 u48 u49 u50 u51 u52 u53 u54 u55 u56 u57 u58 u59 u60 u61 u62 u63 u64 u65 u66 u67 u68 u69 u70 u71 u72 u73 u74 u75 u76 u77 u78 u79 u80 u81 u82 u83 u84 u85 u86 u87 u88 u89 u90 u91 u92 u93 u94 u95 u96 u97 u98 u99 u100 u101 u102 u103 u104 u105 u106 u107 u108 u109 u110 u111 u112 u113 u114 u115 u116 u117 u118 u119 u120 u121 u122 u123 u124 u125 u126 u127 u128 u129 u130 u131 u132 u133 u134 u135 u136 u137 u138 u139 u140 u141 u142 u143 u144 u145 u146 u147 u148 u149 u150 u151 u152 u153 u154 u155 u156 u157 u158 u159 u160 u161 u162 u163 u164 u165 u166 u167 u168 u169 u170 u171 u172 u173 u174 u175 u176 u177 u178 u179 u180 u181 u182 u183 u184 u185 u186 u187 u188 u189 u190 u191 u192 u193 u194 u195 u196 u197 u198 u199 u200 u201 u202 u203 u204 u205 u206 u207 u208 u209 u210 u211 u212 u213 u214 u215 u216 u217 u218 u219 u220 u221 u222 u223 u224 u225 u226 u227 u228 u229 u230 u231 u232 u233 u234 u235 u236 u237 u238 u239 u240 u241 u242 u243 u244 u245 u246 u247 u248 u249 u250 u251 u252 u253 u254 u255 u256 u257 u258 u259 u260 u261 u262 u263 u264 u265 u266 u267 u268 u269 u270 u271 u272 u273 u274 u275 u276 u277 u278 u279 : Value} {w1 : World} (w : World) (R : HProp) (X Y : List Int) (va vb : Value) (hx : Reads w R va X) (hy : Reads w R vb Y) (hs : ∀ y ∈ Y, y ∈ X) (hl : Y.length ≤ 1000) (HO : Hid (Own w R w1))
    (hK : ∀ (v6 v28 v29 v202 v203 v204 v205 v206 v207 v208 v209 v210 v211 v212 v213 v214 v215 : Value) (wx : World), (Own w R wx) → Q .normal ⟨List.toArray (u0 :: u1 :: u2 :: u3 :: u4 :: u5 :: v6 :: u7 :: u8 :: u9 :: u10 :: u11 :: u12 :: u13 :: u14 :: u15 :: u16 :: u17 :: u18 :: u19 :: u20 :: u21 :: u22 :: u23 :: (va) :: u25 :: (vb) :: u27 :: v28 :: v29 :: u30 :: u31 :: u32 :: u33 :: u34 :: u35 :: u36 :: u37 :: u38 :: u39 :: u40 :: u41 :: u42 :: u43 :: u44 :: u45 :: u46 :: u47 :: u48 :: u49 :: u50 :: u51 :: u52 :: u53 :: u54 :: u55 :: u56 :: u57 :: u58 :: u59 :: u60 :: u61 :: u62 :: u63 :: u64 :: u65 :: u66 :: u67 :: u68 :: u69 :: u70 :: u71 :: u72 :: u73 :: u74 :: u75 :: u76 :: u77 :: u78 :: u79 :: u80 :: u81 :: u82 :: u83 :: u84 :: u85 :: u86 :: u87 :: u88 :: u89 :: u90 :: u91 :: u92 :: u93 :: u94 :: u95 :: u96 :: u97 :: u98 :: u99 :: u100 :: u101 :: u102 :: u103 :: u104 :: u105 :: u106 :: u107 :: u108 :: u109 :: u110 :: u111 :: u112 :: u113 :: u114 :: u115 :: u116 :: u117 :: u118 :: u119 :: u120 :: u121 :: u122 :: u123 :: u124 :: u125 :: u126 :: u127 :: u128 :: u129 :: u130 :: u131 :: u132 :: u133 :: u134 :: u135 :: u136 :: u137 :: u138 :: u139 :: u140 :: u141 :: u142 :: u143 :: u144 :: u145 :: u146 :: u147 :: u148 :: u149 :: u150 :: u151 :: u152 :: u153 :: u154 :: u155 :: u156 :: u157 :: u158 :: u159 :: u160 :: u161 :: u162 :: u163 :: u164 :: u165 :: u166 :: u167 :: u168 :: u169 :: u170 :: u171 :: u172 :: u173 :: u174 :: u175 :: u176 :: u177 :: u178 :: u179 :: u180 :: u181 :: u182 :: u183 :: u184 :: u185 :: u186 :: u187 :: u188 :: u189 :: u190 :: u191 :: u192 :: u193 :: u194 :: u195 :: u196 :: u197 :: u198 :: u199 :: u200 :: u201 :: v202 :: v203 :: v204 :: v205 :: v206 :: v207 :: v208 :: v209 :: v210 :: v211 :: v212 :: v213 :: v214 :: v215 :: u216 :: u217 :: u218 :: u219 :: u220 :: u221 :: u222 :: u223 :: u224 :: u225 :: u226 :: u227 :: u228 :: u229 :: u230 :: u231 :: u232 :: u233 :: u234 :: u235 :: u236 :: u237 :: u238 :: u239 :: u240 :: u241 :: u242 :: u243 :: u244 :: u245 :: u246 :: u247 :: u248 :: u249 :: u250 :: u251 :: u252 :: u253 :: u254 :: u255 :: u256 :: u257 :: u258 :: u259 :: u260 :: u261 :: u262 :: u263 :: u264 :: u265 :: u266 :: u267 :: u268 :: u269 :: u270 :: u271 :: u272 :: u273 :: u274 :: u275 :: u276 :: u277 :: u278 :: u279 :: []), []⟩ wx) :
    Code.wp Try.prog fsIn_code Q ⟨List.toArray (u0 :: u1 :: u2 :: u3 :: u4 :: u5 :: u6 :: u7 :: u8 :: u9 :: u10 :: u11 :: u12 :: u13 :: u14 :: u15 :: u16 :: u17 :: u18 :: u19 :: u20 :: u21 :: u22 :: u23 :: (va) :: u25 :: (vb) :: u27 :: (.int .i64 0) :: u29 :: u30 :: u31 :: u32 :: u33 :: u34 :: u35 :: u36 :: u37 :: u38 :: u39 :: u40 :: u41 :: u42 :: u43 :: u44 :: u45 :: u46 :: u47 :: u48 :: u49 :: u50 :: u51 :: u52 :: u53 :: u54 :: u55 :: u56 :: u57 :: u58 :: u59 :: u60 :: u61 :: u62 :: u63 :: u64 :: u65 :: u66 :: u67 :: u68 :: u69 :: u70 :: u71 :: u72 :: u73 :: u74 :: u75 :: u76 :: u77 :: u78 :: u79 :: u80 :: u81 :: u82 :: u83 :: u84 :: u85 :: u86 :: u87 :: u88 :: u89 :: u90 :: u91 :: u92 :: u93 :: u94 :: u95 :: u96 :: u97 :: u98 :: u99 :: u100 :: u101 :: u102 :: u103 :: u104 :: u105 :: u106 :: u107 :: u108 :: u109 :: u110 :: u111 :: u112 :: u113 :: u114 :: u115 :: u116 :: u117 :: u118 :: u119 :: u120 :: u121 :: u122 :: u123 :: u124 :: u125 :: u126 :: u127 :: u128 :: u129 :: u130 :: u131 :: u132 :: u133 :: u134 :: u135 :: u136 :: u137 :: u138 :: u139 :: u140 :: u141 :: u142 :: u143 :: u144 :: u145 :: u146 :: u147 :: u148 :: u149 :: u150 :: u151 :: u152 :: u153 :: u154 :: u155 :: u156 :: u157 :: u158 :: u159 :: u160 :: u161 :: u162 :: u163 :: u164 :: u165 :: u166 :: u167 :: u168 :: u169 :: u170 :: u171 :: u172 :: u173 :: u174 :: u175 :: u176 :: u177 :: u178 :: u179 :: u180 :: u181 :: u182 :: u183 :: u184 :: u185 :: u186 :: u187 :: u188 :: u189 :: u190 :: u191 :: u192 :: u193 :: u194 :: u195 :: u196 :: u197 :: u198 :: u199 :: u200 :: u201 :: u202 :: u203 :: u204 :: u205 :: u206 :: u207 :: u208 :: u209 :: u210 :: u211 :: u212 :: u213 :: u214 :: u215 :: u216 :: u217 :: u218 :: u219 :: u220 :: u221 :: u222 :: u223 :: u224 :: u225 :: u226 :: u227 :: u228 :: u229 :: u230 :: u231 :: u232 :: u233 :: u234 :: u235 :: u236 :: u237 :: u238 :: u239 :: u240 :: u241 :: u242 :: u243 :: u244 :: u245 :: u246 :: u247 :: u248 :: u249 :: u250 :: u251 :: u252 :: u253 :: u254 :: u255 :: u256 :: u257 :: u258 :: u259 :: u260 :: u261 :: u262 :: u263 :: u264 :: u265 :: u266 :: u267 :: u268 :: u269 :: u270 :: u271 :: u272 :: u273 :: u274 :: u275 :: u276 :: u277 :: u278 :: u279 :: []), []⟩ w1 := by
  conv => arg 2; whnf
  have HK := Lib.hid hK
  clear hK
  obtain ⟨xa, xc, rfl, _, _⟩ := (hx _ HO.out).shape
  obtain ⟨ya, yc, rfl, _, _⟩ := (hy _ HO.out).shape
  have HX := Lib.hid hx; have HY := Lib.hid hy; have HS := Lib.hid hs
  clear hx hy hs
  go_wp2_with fail
  go_loopw [28] (fun jv w2 => ∃ j : Nat, j ≤ Y.length ∧ jv = .int .i64 j ∧ Hid (Own w R w2)) (fun jv _ => Y.length - (intOf jv).toNat)
  case atStart => exact ⟨0, Nat.zero_le _, rfl, HO⟩
  case round =>
    obtain ⟨j, hj, rfl, HP⟩ := hrel
    by_cases hlt : j < Y.length
    rotate_left
    · go_wp2_with fail
      apply HK.out
      exact HP.out
    obtain ⟨aa, rfl, hca⟩ := (HY.out _ HP.out).at j hlt
    have hin : decide (Y[j] ∈ X) = true := by simpa using HS.out _ (List.getElem_mem hlt)
    obtain ⟨y, hyy⟩ : ∃ y, y = Y[j] := ⟨_, rfl⟩
    rw [← hyy] at hca hin
    have HYY := Lib.hid hyy; have HIN := Lib.hid hin
    clear hyy hin
    go_wp2_with fail
    refine (refIn_any _ X y _ (HX.out _ HP.out)).mono ?_
    rintro e w2 ⟨rfl, rfl⟩
    rw [HIN.out]
    go_wp2_with fail
    go_roundw
    case rel => exact ⟨j + 1, by omega, by go_num, HP⟩
    case measure => simp [intOf]; omega
noncomputable def fsLoop_code : Code := ((Try.f11.body.bind (findBlock 5)).getD .skip)
set_option maxRecDepth 1000000 in
set_option maxHeartbeats 4000000 in
theorem fsLoop {Q : Exit → Act → World → Prop} {u0 u1 u2 u3 u4 u5 u6 u7 u8 u9 u10 u11 u12 u14 u15 u16 u17 u18 u20 u21 u22 u26 u27 u28 u29 u30 u31 u32 u33 u34 u35 u36 u37 u38 u39 u40 u41 u42 u43 u44 u45 u46 u47 u48 u49 u50 u51 u52 u53 u54 u55 u56 u57 u58 u59 u60 u61 u62 u63 u64 u65 u66 u67 u68 u69 u70 u71 u72 u73 u74 u75 u76 u77 u78 u79 u80 u81 u82 u83 u84 u85 u86 u87 u88 u89 u90 u91 u92 u93 u94 u95 u96 u97 u98 u99 u100 u101 u102 u103 u104 u105 u106 u107 u108 u109 u110 u111 u112 u113 u114 u115 u116 u117 u118 u119 u120 u121 u122 u123 u124 u125 u126 u127 u128 u129 u130 u131 u132 u133 u134 u135 u136 u137 u138 u139 u140 u141 u142 u143 u144 u145 u146 u147 u148 u149 u150 u151 u152 u153 u154 u155 u156 u157 u158 u159 u160 u161 u162 u163 u164 u165 u166 u167 u168 u169 u170 u171 u172 u173 u174 u175 u176 u177 u178 u179 u180 u181 u182 u183 u184 u185 u186 u187 u188 u189 u190 u191 u192 u193 u194 u195 u196 u197 u198 u199 u200 u201 u202 u203 u204 u205 u206 u207 u208 u209 u210 u211 u212 u213 u214 u215 u216 u217 u218 u219 u220 u221 u222 u223 u224 u225 u226 u227 u228 u229 u230 u231 u232 u233 u234 u235 u236 u237 u238 u239 u240 u241 u242 u243 u244 u245 u246 u247 u248 u249 u250 u251 u252 u253 u254 u255 u256 u257 u258 u259 u260 u261 u262 u263 u264 u265 u266 u267 u268 u269 u270 u271 u272 u273 u274 u275 u276 u277 u278 u279 : Value} {w1 : World} (w : World) (p b : Nat) (n : Int) (hn : 0 ≤ n ∧ n ≤ 1000000) (s : Fl) (hok : flOk s) (K X : List Int) (vk vx vv : Value) (R : HProp) (hkk : ∀ y ∈ K, I64 y ∧ flHeardErr s y n = 0 ∧ (flRow s (n, y)).length = X.length ∧ ∀ z ∈ flRow s (n, y), z ∈ X) (hX : X.length ≤ 1000 ∧ ∀ x ∈ X, I64 x) (hK1 : K.length ≤ 1000) (HO : Hid (Own w (FlP p s * (VwO b n vv * (IntSl vk K * (IntSl vx X * R)))) w1))
    (hK : ∀ (v6 v25 v26 v27 v28 v29 v176 v177 v178 v179 v180 v181 v182 v183 v184 v185 v186 v187 v188 v189 v190 v191 v192 v193 v194 v195 v196 v197 v198 v199 v200 v201 v202 v203 v204 v205 v206 v207 v208 v209 v210 v211 v212 v213 v214 v215 : Value) (wx : World), (Own w (FlP p s * (VwO b n vv * (IntSl vk K * (IntSl vx X * R)))) wx) → Q .normal ⟨List.toArray (u0 :: u1 :: u2 :: u3 :: u4 :: u5 :: v6 :: u7 :: u8 :: u9 :: u10 :: u11 :: u12 :: (.pointer (some ⟨p, 0, none⟩)) :: u14 :: u15 :: u16 :: u17 :: u18 :: (.pointer (some ⟨b, 0, none⟩)) :: u20 :: u21 :: u22 :: (vk) :: (vx) :: v25 :: v26 :: v27 :: v28 :: v29 :: u30 :: u31 :: u32 :: u33 :: u34 :: u35 :: u36 :: u37 :: u38 :: u39 :: u40 :: u41 :: u42 :: u43 :: u44 :: u45 :: u46 :: u47 :: u48 :: u49 :: u50 :: u51 :: u52 :: u53 :: u54 :: u55 :: u56 :: u57 :: u58 :: u59 :: u60 :: u61 :: u62 :: u63 :: u64 :: u65 :: u66 :: u67 :: u68 :: u69 :: u70 :: u71 :: u72 :: u73 :: u74 :: u75 :: u76 :: u77 :: u78 :: u79 :: u80 :: u81 :: u82 :: u83 :: u84 :: u85 :: u86 :: u87 :: u88 :: u89 :: u90 :: u91 :: u92 :: u93 :: u94 :: u95 :: u96 :: u97 :: u98 :: u99 :: u100 :: u101 :: u102 :: u103 :: u104 :: u105 :: u106 :: u107 :: u108 :: u109 :: u110 :: u111 :: u112 :: u113 :: u114 :: u115 :: u116 :: u117 :: u118 :: u119 :: u120 :: u121 :: u122 :: u123 :: u124 :: u125 :: u126 :: u127 :: u128 :: u129 :: u130 :: u131 :: u132 :: u133 :: u134 :: u135 :: u136 :: u137 :: u138 :: u139 :: u140 :: u141 :: u142 :: u143 :: u144 :: u145 :: u146 :: u147 :: u148 :: u149 :: u150 :: u151 :: u152 :: u153 :: u154 :: u155 :: u156 :: u157 :: u158 :: u159 :: u160 :: u161 :: u162 :: u163 :: u164 :: u165 :: u166 :: u167 :: u168 :: u169 :: u170 :: u171 :: u172 :: u173 :: u174 :: u175 :: v176 :: v177 :: v178 :: v179 :: v180 :: v181 :: v182 :: v183 :: v184 :: v185 :: v186 :: v187 :: v188 :: v189 :: v190 :: v191 :: v192 :: v193 :: v194 :: v195 :: v196 :: v197 :: v198 :: v199 :: v200 :: v201 :: v202 :: v203 :: v204 :: v205 :: v206 :: v207 :: v208 :: v209 :: v210 :: v211 :: v212 :: v213 :: v214 :: v215 :: u216 :: u217 :: u218 :: u219 :: u220 :: u221 :: u222 :: u223 :: u224 :: u225 :: u226 :: u227 :: u228 :: u229 :: u230 :: u231 :: u232 :: u233 :: u234 :: u235 :: u236 :: u237 :: u238 :: u239 :: u240 :: u241 :: u242 :: u243 :: u244 :: u245 :: u246 :: u247 :: u248 :: u249 :: u250 :: u251 :: u252 :: u253 :: u254 :: u255 :: u256 :: u257 :: u258 :: u259 :: u260 :: u261 :: u262 :: u263 :: u264 :: u265 :: u266 :: u267 :: u268 :: u269 :: u270 :: u271 :: u272 :: u273 :: u274 :: u275 :: u276 :: u277 :: u278 :: u279 :: []), []⟩ wx) :
    Code.wp Try.prog fsLoop_code Q ⟨List.toArray (u0 :: u1 :: u2 :: u3 :: u4 :: u5 :: u6 :: u7 :: u8 :: u9 :: u10 :: u11 :: u12 :: (.pointer (some ⟨p, 0, none⟩)) :: u14 :: u15 :: u16 :: u17 :: u18 :: (.pointer (some ⟨b, 0, none⟩)) :: u20 :: u21 :: u22 :: (vk) :: (vx) :: (.int .i64 1) :: u26 :: u27 :: u28 :: u29 :: u30 :: u31 :: u32 :: u33 :: u34 :: u35 :: u36 :: u37 :: u38 :: u39 :: u40 :: u41 :: u42 :: u43 :: u44 :: u45 :: u46 :: u47 :: u48 :: u49 :: u50 :: u51 :: u52 :: u53 :: u54 :: u55 :: u56 :: u57 :: u58 :: u59 :: u60 :: u61 :: u62 :: u63 :: u64 :: u65 :: u66 :: u67 :: u68 :: u69 :: u70 :: u71 :: u72 :: u73 :: u74 :: u75 :: u76 :: u77 :: u78 :: u79 :: u80 :: u81 :: u82 :: u83 :: u84 :: u85 :: u86 :: u87 :: u88 :: u89 :: u90 :: u91 :: u92 :: u93 :: u94 :: u95 :: u96 :: u97 :: u98 :: u99 :: u100 :: u101 :: u102 :: u103 :: u104 :: u105 :: u106 :: u107 :: u108 :: u109 :: u110 :: u111 :: u112 :: u113 :: u114 :: u115 :: u116 :: u117 :: u118 :: u119 :: u120 :: u121 :: u122 :: u123 :: u124 :: u125 :: u126 :: u127 :: u128 :: u129 :: u130 :: u131 :: u132 :: u133 :: u134 :: u135 :: u136 :: u137 :: u138 :: u139 :: u140 :: u141 :: u142 :: u143 :: u144 :: u145 :: u146 :: u147 :: u148 :: u149 :: u150 :: u151 :: u152 :: u153 :: u154 :: u155 :: u156 :: u157 :: u158 :: u159 :: u160 :: u161 :: u162 :: u163 :: u164 :: u165 :: u166 :: u167 :: u168 :: u169 :: u170 :: u171 :: u172 :: u173 :: u174 :: u175 :: u176 :: u177 :: u178 :: u179 :: u180 :: u181 :: u182 :: u183 :: u184 :: u185 :: u186 :: u187 :: u188 :: u189 :: u190 :: u191 :: u192 :: u193 :: u194 :: u195 :: u196 :: u197 :: u198 :: u199 :: u200 :: u201 :: u202 :: u203 :: u204 :: u205 :: u206 :: u207 :: u208 :: u209 :: u210 :: u211 :: u212 :: u213 :: u214 :: u215 :: u216 :: u217 :: u218 :: u219 :: u220 :: u221 :: u222 :: u223 :: u224 :: u225 :: u226 :: u227 :: u228 :: u229 :: u230 :: u231 :: u232 :: u233 :: u234 :: u235 :: u236 :: u237 :: u238 :: u239 :: u240 :: u241 :: u242 :: u243 :: u244 :: u245 :: u246 :: u247 :: u248 :: u249 :: u250 :: u251 :: u252 :: u253 :: u254 :: u255 :: u256 :: u257 :: u258 :: u259 :: u260 :: u261 :: u262 :: u263 :: u264 :: u265 :: u266 :: u267 :: u268 :: u269 :: u270 :: u271 :: u272 :: u273 :: u274 :: u275 :: u276 :: u277 :: u278 :: u279 :: []), []⟩ w1 := by
  conv => arg 2; whnf
  have HK := Lib.hid hK
  clear hK
  obtain ⟨ka, kc, rfl⟩ := HO.out.third.int_shape
  obtain ⟨xa, xc, rfl⟩ := HO.out.fourth.int_shape
  have hRK : ∀ R', Reads w (IntSl (.slice ka K.length kc) K * R') (.slice ka K.length kc) K := fun R' => IntSl_reads (fun y hy => (hkk y hy).1)
  have hRX : ∀ R', Reads w (IntSl (.slice xa X.length xc) X * R') (.slice xa X.length xc) X := fun R' => IntSl_reads hX.2
  obtain ⟨n0, n1⟩ := hn
  have HKK := Lib.hid hkk; have HRK := Lib.hid hRK; have HRX := Lib.hid hRX; have HOK := Lib.hid hok
  clear hkk hRK hRX hok
  go_wp2_with fail
  go_loopw [25] (fun jv w2 => ∃ j : Nat, 1 ≤ j ∧ j ≤ max 1 K.length ∧ jv = .int .i64 j ∧ Hid (Own w (FlP p s * (VwO b n vv * (IntSl (.slice ka K.length kc) K * (IntSl (.slice xa X.length xc) X * R)))) w2)) (fun jv _ => K.length - (intOf jv).toNat)
  case atStart => exact ⟨1, Nat.le_refl _, by omega, rfl, HO⟩
  case round =>
    obtain ⟨j, hj1, hj, rfl, HP⟩ := hrel
    by_cases hlt : j < K.length
    rotate_left
    · go_wp2_with fail
      apply HK.out
      exact HP.out
    obtain ⟨y, hyy⟩ : ∃ y, y = K[j] := ⟨_, rfl⟩
    obtain ⟨hyI, hye, hyl, hym⟩ := HKK.out _ (List.getElem_mem hlt)
    rw [← hyy] at hyI hye hyl hym
    obtain ⟨aa, rfl, hca⟩ := (HRK.out _ _ HP.out.drew.third).at j hlt
    rw [← hyy] at hca
    have c0 : wr.drew.cell? ⟨b, 0, none⟩ = some (.int .i64 n) := HP.out.drew.second.vw.1
    obtain ⟨Y, hY⟩ : ∃ Y, Y = flRow s (n, y) := ⟨_, rfl⟩
    have hyh : flHeard s y n = Y := by unfold flHeard; rw [if_pos hye, hY]
    rw [← hY] at hyl hym
    have hYI : ∀ z ∈ Y, I64 z := fun z hz => hX.2 z (hym z hz)
    have hne : ((X.length : Int) != (Y.length : Int)) = false := by rw [hyl]; simp
    have hyl2 : Y.length ≤ 1000 := by omega
    have HYL := Lib.hid hyl; have HYY := Lib.hid hyy; have HYI := Lib.hid hyI; have HYE := Lib.hid hye; have HYM := Lib.hid hym; have HY := Lib.hid hY; have HYH := Lib.hid hyh; have HYI := Lib.hid hYI
    clear hyl hyy hyI hye hym hY hyh hYI
    go_upto_region 38 with fail
    refine wp_region_planH 12 [] [(true, 0), (true, 1), (true, 2), (true, 3), (true, 4), (true, 5), (true, 6), (false, 7), (true, 8), (true, 9), (true, 10), (false, 11)] [12] (fun wS => wS.cell? (aa.add j) = some (.int .i64 y) ∧ wS.cell? ⟨b, 0, none⟩ = some (.int .i64 n)) (by kernel_rfl) (by kernel_rfl) (⟨hca, c0⟩) ?_
    simp only [pickH, pick, List.getElem?_cons_succ, List.getElem?_cons_zero, Option.toList, Option.map_some, List.cons_append, List.nil_append]
    repeat (refine wpPure_step ?_ rfl ?_ ?_; rotate_left; (focus (intro _; first | with_reducible rfl | (go_simp; done) | (go_simp; with_reducible rfl) | rfl)); go_simp)
    refine wpPure_nil ?_
    repeat (refine wpMix_read ?_ rfl ?_ ?_; rotate_left; (focus (intro _ hS; obtain ⟨s1, s2⟩ := hS; first | with_reducible rfl | (go_simp; done) | (go_simp; with_reducible rfl) | rfl)); go_simp)
    refine wpMix_write (fun K hK => ?_)
    go_simp
    refine (flHeard_any p s y n HOK.out (by unfold I64; omega) HP.out.drew).mono ?_
    rintro e w2 ⟨v2, rfl, ho2⟩
    rw [HYE.out, errV0]
    rw [HYH.out] at ho2
    obtain ⟨ya, yc, rfl⟩ := ho2.int_shape
    have d0 : w2.cell? ⟨b, 0, none⟩ = some (.int .i64 n) := ho2.third.vw.1
    have d1 : w2.cell? (aa.add j) = some (.int .i64 y) := by
      obtain ⟨a', e1, hc'⟩ := (HRK.out _ _ ho2.fourth).at j hlt
      injection e1 with e1
      rw [← HYY.out] at hc'
      rw [e1]; exact hc'
    have HO2 := Lib.hid ho2
    clear ho2
    refine hK _ _ ⟨⟨d1, d0⟩, ?_⟩
    clear hK K
    go_simp
    repeat (refine wpMix_read ?_ rfl ?_ ?_; rotate_left; (focus (intro _ hS; obtain ⟨s1, s2⟩ := hS; first | with_reducible rfl | (go_simp; done) | (go_simp; with_reducible rfl) | rfl)); go_simp)
    refine wpMix_write (fun K hK => ?_)
    go_simp
    refine hK _ _ ⟨⟨d1, d0⟩, ?_⟩
    clear hK K
    go_simp
    refine wpMix_nil ?_
    go_wp2_with fail
    refine NoPanic.normal ?_
    go_upto_block 7 with fail
    clear hca c0 d0 d1
    refine fsIn w _ X Y _ _ ((HRX.out _).more.more.more.more) (IntSl_reads HYI.out) HYM.out hyl2 HO2 ?_
    intros
    rename_i hcut
    have HO3 := Lib.hid hcut.drop
    go_wp2_with fail
    go_roundw
    case rel => exact ⟨j + 1, by omega, by omega, by go_num, HO3⟩
    case measure => simp [intOf]; omega
/-- The last loops: of a member no word comes twice. -/
noncomputable def fsAll_code : Code := ((Try.f11.body.bind (findBlock 10)).getD .skip)
set_option maxRecDepth 1000000 in
set_option maxHeartbeats 4000000 in
theorem fsAll {Q : Exit → Act → World → Prop} {u0 u1 u2 u3 u4 u5 u6 u7 u8 u9 u10 u11 u12 u14 u15 u16 u17 u18 u19 u20 u21 u22 u23 u24 u25 u26 u27 u28 u29 u31 u32 u33 u34 u35 u36 u37 u38 u39 u40 u41 u42 u43 u44 u45 u46 u47 u48 u49 u50 u51 u52 u53 u54 u55 u56 u57 u58 u59 u60 u61 u62 u63 u64 u65 u66 u67 u68 u69 u70 u71 u72 u73 u74 u75 u76 u77 u78 u79 u80 u81 u82 u83 u84 u85 u86 u87 u88 u89 u90 u91 u92 u93 u94 u95 u96 u97 u98 u99 u100 u101 u102 u103 u104 u105 u106 u107 u108 u109 u110 u111 u112 u113 u114 u115 u116 u117 u118 u119 u120 u121 u122 u123 u124 u125 u126 u127 u128 u129 u130 u131 u132 u133 u134 u135 u136 u137 u138 u139 u140 u141 u142 u143 u144 u145 u146 u147 u148 u149 u150 u151 u152 u153 u154 u155 u156 u157 u158 u159 u160 u161 u162 u163 u164 u165 u166 u167 u168 u169 u170 u171 u172 u173 u174 u175 u176 u177 u178 u179 u180 u181 u182 u183 u184 u185 u186 u187 u188 u189 u190 u191 u192 u193 u194 u195 u196 u197 u198 u199 u200 u201 u202 u203 u204 u205 u206 u207 u208 u209 u210 u211 u212 u213 u214 u215 u216 u217 u218 u219 u220 u221 u222 u223 u224 u225 u226 u227 u228 u229 u230 u231 u232 u233 u234 u235 u236 u237 u238 u239 u240 u241 u242 u243 u244 u245 u246 u247 u248 u249 u250 u251 u252 u253 u254 u255 u256 u257 u258 u259 u260 u261 u262 u263 u264 u265 u266 u267 u268 u269 u270 u271 u272 u273 u274 u275 u276 u277 u278 u279 : Value} {w1 : World} (w : World) (p m : Nat) (hm : m < 5) (s : Fl) (hinv : flInv s) (R : HProp) (HO : Hid (Own w (FlP p s * R) w1))
    (hK : ∀ (v6 v31 v32 v33 v34 v35 v36 v240 v241 v242 v243 v244 v245 v246 v247 v248 v249 v250 v251 v252 v253 v254 v255 v256 v257 v258 v259 v260 v261 v262 v263 v264 v265 v266 v267 v268 v269 v270 v271 v272 v273 v274 v275 v276 v277 v278 v279 : Value) (wx : World), (Own w (FlP p s * R) wx) → Q .normal ⟨List.toArray (u0 :: u1 :: u2 :: u3 :: u4 :: u5 :: v6 :: u7 :: u8 :: u9 :: u10 :: u11 :: u12 :: (.pointer (some ⟨p, 0, none⟩)) :: u14 :: u15 :: u16 :: u17 :: u18 :: u19 :: u20 :: u21 :: u22 :: u23 :: u24 :: u25 :: u26 :: u27 :: u28 :: u29 :: (.int .i64 (m : Int)) :: v31 :: v32 :: v33 :: v34 :: v35 :: v36 :: u37 :: u38 :: u39 :: u40 :: u41 :: u42 :: u43 :: u44 :: u45 :: u46 :: u47 :: u48 :: u49 :: u50 :: u51 :: u52 :: u53 :: u54 :: u55 :: u56 :: u57 :: u58 :: u59 :: u60 :: u61 :: u62 :: u63 :: u64 :: u65 :: u66 :: u67 :: u68 :: u69 :: u70 :: u71 :: u72 :: u73 :: u74 :: u75 :: u76 :: u77 :: u78 :: u79 :: u80 :: u81 :: u82 :: u83 :: u84 :: u85 :: u86 :: u87 :: u88 :: u89 :: u90 :: u91 :: u92 :: u93 :: u94 :: u95 :: u96 :: u97 :: u98 :: u99 :: u100 :: u101 :: u102 :: u103 :: u104 :: u105 :: u106 :: u107 :: u108 :: u109 :: u110 :: u111 :: u112 :: u113 :: u114 :: u115 :: u116 :: u117 :: u118 :: u119 :: u120 :: u121 :: u122 :: u123 :: u124 :: u125 :: u126 :: u127 :: u128 :: u129 :: u130 :: u131 :: u132 :: u133 :: u134 :: u135 :: u136 :: u137 :: u138 :: u139 :: u140 :: u141 :: u142 :: u143 :: u144 :: u145 :: u146 :: u147 :: u148 :: u149 :: u150 :: u151 :: u152 :: u153 :: u154 :: u155 :: u156 :: u157 :: u158 :: u159 :: u160 :: u161 :: u162 :: u163 :: u164 :: u165 :: u166 :: u167 :: u168 :: u169 :: u170 :: u171 :: u172 :: u173 :: u174 :: u175 :: u176 :: u177 :: u178 :: u179 :: u180 :: u181 :: u182 :: u183 :: u184 :: u185 :: u186 :: u187 :: u188 :: u189 :: u190 :: u191 :: u192 :: u193 :: u194 :: u195 :: u196 :: u197 :: u198 :: u199 :: u200 :: u201 :: u202 :: u203 :: u204 :: u205 :: u206 :: u207 :: u208 :: u209 :: u210 :: u211 :: u212 :: u213 :: u214 :: u215 :: u216 :: u217 :: u218 :: u219 :: u220 :: u221 :: u222 :: u223 :: u224 :: u225 :: u226 :: u227 :: u228 :: u229 :: u230 :: u231 :: u232 :: u233 :: u234 :: u235 :: u236 :: u237 :: u238 :: u239 :: v240 :: v241 :: v242 :: v243 :: v244 :: v245 :: v246 :: v247 :: v248 :: v249 :: v250 :: v251 :: v252 :: v253 :: v254 :: v255 :: v256 :: v257 :: v258 :: v259 :: v260 :: v261 :: v262 :: v263 :: v264 :: v265 :: v266 :: v267 :: v268 :: v269 :: v270 :: v271 :: v272 :: v273 :: v274 :: v275 :: v276 :: v277 :: v278 :: v279 :: []), []⟩ wx) :
    Code.wp Try.prog fsAll_code Q ⟨List.toArray (u0 :: u1 :: u2 :: u3 :: u4 :: u5 :: u6 :: u7 :: u8 :: u9 :: u10 :: u11 :: u12 :: (.pointer (some ⟨p, 0, none⟩)) :: u14 :: u15 :: u16 :: u17 :: u18 :: u19 :: u20 :: u21 :: u22 :: u23 :: u24 :: u25 :: u26 :: u27 :: u28 :: u29 :: (.int .i64 (m : Int)) :: u31 :: u32 :: u33 :: u34 :: u35 :: u36 :: u37 :: u38 :: u39 :: u40 :: u41 :: u42 :: u43 :: u44 :: u45 :: u46 :: u47 :: u48 :: u49 :: u50 :: u51 :: u52 :: u53 :: u54 :: u55 :: u56 :: u57 :: u58 :: u59 :: u60 :: u61 :: u62 :: u63 :: u64 :: u65 :: u66 :: u67 :: u68 :: u69 :: u70 :: u71 :: u72 :: u73 :: u74 :: u75 :: u76 :: u77 :: u78 :: u79 :: u80 :: u81 :: u82 :: u83 :: u84 :: u85 :: u86 :: u87 :: u88 :: u89 :: u90 :: u91 :: u92 :: u93 :: u94 :: u95 :: u96 :: u97 :: u98 :: u99 :: u100 :: u101 :: u102 :: u103 :: u104 :: u105 :: u106 :: u107 :: u108 :: u109 :: u110 :: u111 :: u112 :: u113 :: u114 :: u115 :: u116 :: u117 :: u118 :: u119 :: u120 :: u121 :: u122 :: u123 :: u124 :: u125 :: u126 :: u127 :: u128 :: u129 :: u130 :: u131 :: u132 :: u133 :: u134 :: u135 :: u136 :: u137 :: u138 :: u139 :: u140 :: u141 :: u142 :: u143 :: u144 :: u145 :: u146 :: u147 :: u148 :: u149 :: u150 :: u151 :: u152 :: u153 :: u154 :: u155 :: u156 :: u157 :: u158 :: u159 :: u160 :: u161 :: u162 :: u163 :: u164 :: u165 :: u166 :: u167 :: u168 :: u169 :: u170 :: u171 :: u172 :: u173 :: u174 :: u175 :: u176 :: u177 :: u178 :: u179 :: u180 :: u181 :: u182 :: u183 :: u184 :: u185 :: u186 :: u187 :: u188 :: u189 :: u190 :: u191 :: u192 :: u193 :: u194 :: u195 :: u196 :: u197 :: u198 :: u199 :: u200 :: u201 :: u202 :: u203 :: u204 :: u205 :: u206 :: u207 :: u208 :: u209 :: u210 :: u211 :: u212 :: u213 :: u214 :: u215 :: u216 :: u217 :: u218 :: u219 :: u220 :: u221 :: u222 :: u223 :: u224 :: u225 :: u226 :: u227 :: u228 :: u229 :: u230 :: u231 :: u232 :: u233 :: u234 :: u235 :: u236 :: u237 :: u238 :: u239 :: u240 :: u241 :: u242 :: u243 :: u244 :: u245 :: u246 :: u247 :: u248 :: u249 :: u250 :: u251 :: u252 :: u253 :: u254 :: u255 :: u256 :: u257 :: u258 :: u259 :: u260 :: u261 :: u262 :: u263 :: u264 :: u265 :: u266 :: u267 :: u268 :: u269 :: u270 :: u271 :: u272 :: u273 :: u274 :: u275 :: u276 :: u277 :: u278 :: u279 :: []), []⟩ w1 := by
  conv => arg 2; whnf
  have HK := Lib.hid hK
  clear hK
  obtain ⟨N, hN⟩ : ∃ N : Nat, s.n = N := ⟨s.n.toNat, by have := hinv.1.1; omega⟩
  have hN1 : N ≤ 1000000 := by have := hinv.1.1; omega
  have hok := hinv.1.ok
  have hfd : ∀ (n : Int) (v : Value) (w : World), (Instr.field 39 (.agg #[.int .i64 n, v]) 0).run Try.prog w = .ok (.int .i64 n) w := fun _ _ _ => by kernel_rfl
  have HINV := Lib.hid hinv; have HOK := Lib.hid hok; have HN := Lib.hid hN
  clear hinv hok hN
  have hrl : ∀ k : Nat, (flRows s m k).length ≤ 1000 * k := by
    intro k
    induction k with
    | zero => simp [flRows]
    | succ k ih =>
      have := (HOK.out.2.2.2 ((k : Int), (m : Int))).1
      simp only [flRows, List.length_append]; omega
  have HRL := Lib.hid hrl
  clear hrl
  go_wp2_with fail
  go_loopw [31, 32] (fun av kv w2 => ∃ k : Nat, k ≤ N + 1 ∧ k ≤ 121 ∧ kv = .int .i64 k ∧ Hid (Own w (IntSl av (flRows s m k) * (FlP p s * R)) w2)) (fun _ kv _ => 121 - (intOf kv).toNat)
  case atStart => exact ⟨0, Nat.zero_le _, Nat.zero_le _, rfl, Lib.hid (HO.out.sl_nil _ _)⟩
  case round =>
    obtain ⟨k, hk, hk2, rfl, HP⟩ := hrel
    go_wp2_with fail
    refine (flView_any p s HOK.out HP.out.second).mono ?_
    rintro e w2 ⟨v2, rfl, ho2⟩
    have HO2 := Lib.hid ho2.drop.second
    clear ho2
    rw [HN.out]
    by_cases h1 : k ≤ N
    rotate_left
    · have t1 : decide ((k : Int) ≤ (N : Int)) = false := by simp; omega
      go_wp2_with fail
      apply HK.out
      exact HO2.out.drop
    have t1 : decide ((k : Int) ≤ (N : Int)) = true := by simp; omega
    by_cases h2 : k ≤ 120
    rotate_left
    · have t2 : decide ((k : Int) ≤ 120) = false := by simp; omega
      go_wp2_with fail
      apply HK.out
      exact HO2.out.drop
    have t2 : decide ((k : Int) ≤ 120) = true := by simp; omega
    have he : flHeardErr s m k = 0 := by
      unfold flHeardErr
      rw [if_neg (by simp [isMember]; omega), if_neg (by omega), if_neg (by rw [HN.out]; omega)]
    obtain ⟨Y, hY⟩ : ∃ Y, Y = flRow s ((k : Int), (m : Int)) := ⟨_, rfl⟩
    have hh : flHeard s m k = Y := by unfold flHeard; rw [if_pos he, hY]
    have hYI : ∀ y ∈ Y, I64 y := by rw [hY]; exact (HOK.out.2.2.2 _).2
    have hYl : Y.length ≤ 1000 := by rw [hY]; exact (HOK.out.2.2.2 _).1
    have hnew : ∀ j (hj : j < Y.length), Y[j] ∉ flRows s m k ++ Y.take j := by
      intro j hj
      subst hY
      exact flRows_new HINV.out hj rfl
    have hrk := HRL.out k
    obtain ⟨A, hA⟩ : ∃ A, A = flRows s m k := ⟨_, rfl⟩
    rw [← hA] at hrk hnew
    have HO3 : Hid (Own w (IntSl u31 A * (FlP p s * R)) w2) := by rw [hA]; exact HO2
    have hAI : ∀ y ∈ A, I64 y := by
      rw [hA]; intro y hy
      obtain ⟨j, _, h⟩ := mem_flRows hy
      exact (HOK.out.2.2.2 _).2 y h
    have HE := Lib.hid he; have HH := Lib.hid hh; have HYI := Lib.hid hYI; have HNEW := Lib.hid hnew; have HA := Lib.hid hA; have HAI := Lib.hid hAI; have HY := Lib.hid hY
    clear he hh hYI hnew hA hAI hY
    clear HP HO2
    go_wp2_with fail
    refine (flHeard_any p s m k HOK.out (by unfold I64; omega) HO3.out.second).mono ?_
    rintro e w4 ⟨v4, rfl, ho4⟩
    rw [HE.out, errV0]
    rw [HH.out] at ho4
    obtain ⟨ya, yc, rfl⟩ := ho4.int_shape
    have HO4 : Hid (Own w (IntSl u31 (A ++ Y.take 0) * (IntSl (.slice ya Y.length yc) Y * (FlP p s * R))) w4) := Lib.hid (by rw [List.take_zero, List.append_nil]; exact ho4.third)
    clear ho4 HO3
    have HRY : Hid (∀ R', Reads w (IntSl (.slice ya Y.length yc) Y * R') (.slice ya Y.length yc) Y) := Lib.hid (fun R' => IntSl_reads HYI.out)
    go_upto_block 13 with fail
    go_wp2_with fail
    go_loopw [31, 35] (fun av jv w2 => ∃ j : Nat, j ≤ Y.length ∧ jv = .int .i64 j ∧ Hid (Own w (IntSl av (A ++ Y.take j) * (IntSl (.slice ya Y.length yc) Y * (FlP p s * R))) w2)) (fun _ jv _ => Y.length - (intOf jv).toNat)
    case atStart => exact ⟨0, Nat.zero_le _, rfl, HO4⟩
    case round =>
      obtain ⟨j, hj, rfl, HQ⟩ := hrel
      obtain ⟨aa, ac, hs⟩ := HQ.out.int_shape
      subst hs
      have hlen : (A ++ Y.take j).length ≤ 130000 := by simp only [List.length_append, List.length_take]; omega
      by_cases hjt : j < Y.length
      rotate_left
      · have hje : A ++ Y.take j = flRows s m (k + 1) := by rw [List.take_of_length_le (by omega), HA.out, HY.out]; rfl
        have HJE := Lib.hid hje
        clear hje
        go_wp2_with fail
        go_roundw
        case rel => exact ⟨k + 1, by omega, by omega, by go_num, Lib.hid (by rw [← HJE.out]; exact HQ.out.second.drop)⟩
        case measure => simp [intOf]; omega
      obtain ⟨ab, rfl, hcb⟩ := (HRY.out _ _ HQ.out.second).at j hjt
      obtain ⟨y, hyy⟩ : ∃ y, y = Y[j] := ⟨_, rfl⟩
      rw [← hyy] at hcb
      have hin : decide (y ∈ A ++ Y.take j) = false := by rw [decide_eq_false_iff_not, hyy]; exact HNEW.out j hjt
      have hnx : A ++ Y.take (j + 1) = A ++ Y.take j ++ [y] := by rw [List.take_add_one, List.getElem?_eq_getElem hjt, ← hyy, List.append_assoc]; rfl
      obtain ⟨L, hL⟩ : ∃ L, L = A ++ Y.take j := ⟨_, rfl⟩
      rw [← hL] at hlen hin hnx HQ
      have hLI : ∀ z ∈ L, I64 z := by
        rw [hL]; intro z hz
        rcases List.mem_append.1 hz with hz | hz
        · exact HAI.out z hz
        · exact HYI.out z (List.mem_of_mem_take hz)
      rw [← hL]
      have hcb' : ∀ o, (wr.alloc o).cell? (ab.add j) = some (.int .i64 y) := fun o => by
        obtain ⟨a', e1, hc'⟩ := (HRY.out _ _ (HQ.out.second.alloc' o)).at j hjt
        injection e1 with e1
        rw [← hyy] at hc'
        rw [e1]; exact hc'
      have HYY := Lib.hid hyy; have HIN := Lib.hid hin; have HNX := Lib.hid hnx; have HL := Lib.hid hL; have HLI := Lib.hid hLI
      clear hyy hin hnx hL hLI
      go_wp2_with fail
      refine (refIn_any _ L y _ (IntSl_reads HLI.out _ HQ.out)).mono ?_
      rintro e w5 ⟨rfl, rfl⟩
      rw [HIN.out]
      go_wp2_with (at_builtin; refine wpList_app rfl _ _ 27 rfl 3 1 8 _ info_int Try.underlying27 rfl (by decide) rfl ((HQ.out.alloc' _)) rfl (by rfl) (Rd_lit (by simp) (by unfold maxLen; omega)) (by intro u hu; simp at hu; subst hu; rfl) (by unfold maxLen; omega) (by omega) ?_; intro v' w' hown; have HN2 := Lib.hid hown; clear hown)
      go_wp2_with fail
      go_roundw
      case rel => exact ⟨j + 1, by omega, by go_num, Lib.hid (by rw [HNX.out]; exact HN2.out.perm (by unfold IntSl; rw [List.length_append, List.map_append]; rfl))⟩
      case measure => simp [intOf]; omega
end Go.Proofs.Ytkgnjkokbiefgaa
