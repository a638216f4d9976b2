/- LeaderPlays: pieces of the law. -/
import Derived.Test.YteelldblfmhjlaaDoorLeaderPlaysP
import Derived.Test.YteelldblfmhjlaaDoorLeaderBack
import Derived.Test.YteelldblfmhjlaaDoorPiece
import Derived.Deep.DeepCutAuto
import Derived.Deep.CutBlock
namespace Go.Proofs.YteelldblfmhjlaaDoor
set_option linter.unusedVariables false
set_option linter.unusedSimpArgs false
open Go.RowKit
noncomputable def lqFill_code : Code := ((Tryd.f10.body.bind (findBlock 2)).getD .skip)
set_option maxRecDepth 1000000 in
set_option maxHeartbeats 4000000 in
theorem lqFill {Q : Exit → Act → World → Prop} {u0 u2 u3 u4 u5 u6 u7 u8 u9 u13 u14 u15 u16 u17 u18 u19 u20 u21 u22 u23 u24 u25 u26 u27 u28 u29 u30 u31 u32 u33 u34 u35 u36 u37 u38 u39 u40 u41 u42 u43 u44 u45 u46 u47 u48 u49 u50 u51 u52 u53 u54 u55 u56 u57 u58 u59 u60 u61 u62 u63 u64 u65 u66 u67 u68 u69 u70 u71 u72 u73 u74 u75 u76 u77 u78 u79 u80 u81 u82 u83 u84 u85 u86 u87 u88 u89 u90 u91 u92 u93 u94 u95 u96 u97 u98 u99 u100 u101 u102 u103 u104 u105 u106 u107 u108 u109 u110 u111 u112 u113 u114 u115 u116 u117 u118 u119 u120 u121 u122 u123 u124 u125 u126 u127 u128 u129 u130 u131 u132 u133 u134 u135 u136 u137 u138 u139 u140 u141 u142 u143 u144 u145 u146 u147 u148 u149 u150 u151 u152 u153 u154 u155 u156 u157 u158 u159 u160 u161 u162 u163 u164 u165 u166 u167 u168 u169 u170 u171 u172 u173 u174 u175 u176 u177 u178 u179 u180 u181 u182 u183 u184 u185 u186 u187 u188 u189 u190 u191 u192 u193 u194 u195 u196 u197 u198 u199 u200 u201 u202 u203 u204 u205 u206 u207 u208 u209 u210 u211 u212 u213 u214 u215 u216 u217 u218 u219 u220 u221 u222 u223 u224 u225 u226 u227 u228 u229 u230 u231 u232 u233 u234 u235 u236 u237 u238 u239 u240 u241 u242 u243 u244 u245 u246 u247 u248 u249 u250 u251 u252 u253 u254 u255 u256 u257 u258 u259 u260 u261 u262 u263 u264 u265 u266 u267 u268 u269 u270 u271 u272 u273 u274 u275 u276 u277 u278 u279 : Value} {w1 : World} (w : World) (R : HProp) (vb k : Nat) (steps : List (List Int)) (row : List Int) (a2 : Addr) (scap rcap : Nat) (rad : Option Addr) (h1 : k < steps.length) (hc1 : steps.length ≤ scap) (hc2 : scap ≤ 9223372036854775807) (HR : Hid (Ints w (.slice rad row.length rcap) row)) (HC : Hid (∀ (w1 : World) (P : HProp), Own w P w1 → w1.cell? (a2.add k) = some (.slice rad row.length rcap))) (HT : Hid (Own w (Tri vb [0, 0, 0] * R) w1))
    (hK : ∀ (v12 v63 v64 v65 v66 v67 v68 v69 v70 v71 v72 v73 v74 v75 v76 v77 v78 v79 v80 v81 v82 v83 v84 : Value) (wx : World), (FpV w vb R wx) → Q .normal ⟨List.toArray (u0 :: (.slice (some a2) steps.length scap) :: u2 :: u3 :: u4 :: u5 :: u6 :: u7 :: u8 :: u9 :: (.int .i64 (k : Int)) :: (.pointer (some ⟨vb, 0, none⟩)) :: v12 :: u13 :: u14 :: u15 :: u16 :: u17 :: u18 :: u19 :: u20 :: u21 :: u22 :: u23 :: u24 :: u25 :: u26 :: u27 :: u28 :: u29 :: u30 :: u31 :: u32 :: u33 :: u34 :: u35 :: u36 :: u37 :: u38 :: u39 :: u40 :: u41 :: u42 :: u43 :: u44 :: u45 :: u46 :: u47 :: u48 :: u49 :: u50 :: u51 :: u52 :: u53 :: u54 :: u55 :: u56 :: u57 :: u58 :: u59 :: u60 :: u61 :: u62 :: v63 :: v64 :: v65 :: v66 :: v67 :: v68 :: v69 :: v70 :: v71 :: v72 :: v73 :: v74 :: v75 :: v76 :: v77 :: v78 :: v79 :: v80 :: v81 :: v82 :: v83 :: v84 :: u85 :: u86 :: u87 :: u88 :: u89 :: u90 :: u91 :: u92 :: u93 :: u94 :: u95 :: u96 :: u97 :: u98 :: u99 :: u100 :: u101 :: u102 :: u103 :: u104 :: u105 :: u106 :: u107 :: u108 :: u109 :: u110 :: u111 :: u112 :: u113 :: u114 :: u115 :: u116 :: u117 :: u118 :: u119 :: u120 :: u121 :: u122 :: u123 :: u124 :: u125 :: u126 :: u127 :: u128 :: u129 :: u130 :: u131 :: u132 :: u133 :: u134 :: u135 :: u136 :: u137 :: u138 :: u139 :: u140 :: u141 :: u142 :: u143 :: u144 :: u145 :: u146 :: u147 :: u148 :: u149 :: u150 :: u151 :: u152 :: u153 :: u154 :: u155 :: u156 :: u157 :: u158 :: u159 :: u160 :: u161 :: u162 :: u163 :: u164 :: u165 :: u166 :: u167 :: u168 :: u169 :: u170 :: u171 :: u172 :: u173 :: u174 :: u175 :: u176 :: u177 :: u178 :: u179 :: u180 :: u181 :: u182 :: u183 :: u184 :: u185 :: u186 :: u187 :: u188 :: u189 :: u190 :: u191 :: u192 :: u193 :: u194 :: u195 :: u196 :: u197 :: u198 :: u199 :: u200 :: u201 :: u202 :: u203 :: u204 :: u205 :: u206 :: u207 :: u208 :: u209 :: u210 :: u211 :: u212 :: u213 :: u214 :: u215 :: u216 :: u217 :: u218 :: u219 :: u220 :: u221 :: u222 :: u223 :: u224 :: u225 :: u226 :: u227 :: u228 :: u229 :: u230 :: u231 :: u232 :: u233 :: u234 :: u235 :: u236 :: u237 :: u238 :: u239 :: u240 :: u241 :: u242 :: u243 :: u244 :: u245 :: u246 :: u247 :: u248 :: u249 :: u250 :: u251 :: u252 :: u253 :: u254 :: u255 :: u256 :: u257 :: u258 :: u259 :: u260 :: u261 :: u262 :: u263 :: u264 :: u265 :: u266 :: u267 :: u268 :: u269 :: u270 :: u271 :: u272 :: u273 :: u274 :: u275 :: u276 :: u277 :: u278 :: u279 :: []), []⟩ wx) :
    Code.wp Tryd.prog lqFill_code Q ⟨List.toArray (u0 :: (.slice (some a2) steps.length scap) :: u2 :: u3 :: u4 :: u5 :: u6 :: u7 :: u8 :: u9 :: (.int .i64 (k : Int)) :: (.pointer (some ⟨vb, 0, none⟩)) :: (.int .i64 0) :: u13 :: u14 :: u15 :: u16 :: u17 :: u18 :: u19 :: u20 :: u21 :: u22 :: u23 :: u24 :: u25 :: u26 :: u27 :: u28 :: u29 :: u30 :: u31 :: u32 :: u33 :: u34 :: u35 :: u36 :: u37 :: u38 :: u39 :: u40 :: u41 :: u42 :: u43 :: u44 :: u45 :: u46 :: u47 :: u48 :: u49 :: u50 :: u51 :: u52 :: u53 :: u54 :: u55 :: u56 :: u57 :: u58 :: u59 :: u60 :: u61 :: u62 :: u63 :: u64 :: u65 :: u66 :: u67 :: u68 :: u69 :: u70 :: u71 :: u72 :: u73 :: u74 :: u75 :: u76 :: u77 :: u78 :: u79 :: u80 :: u81 :: u82 :: u83 :: u84 :: u85 :: u86 :: u87 :: u88 :: u89 :: u90 :: u91 :: u92 :: u93 :: u94 :: u95 :: u96 :: u97 :: u98 :: u99 :: u100 :: u101 :: u102 :: u103 :: u104 :: u105 :: u106 :: u107 :: u108 :: u109 :: u110 :: u111 :: u112 :: u113 :: u114 :: u115 :: u116 :: u117 :: u118 :: u119 :: u120 :: u121 :: u122 :: u123 :: u124 :: u125 :: u126 :: u127 :: u128 :: u129 :: u130 :: u131 :: u132 :: u133 :: u134 :: u135 :: u136 :: u137 :: u138 :: u139 :: u140 :: u141 :: u142 :: u143 :: u144 :: u145 :: u146 :: u147 :: u148 :: u149 :: u150 :: u151 :: u152 :: u153 :: u154 :: u155 :: u156 :: u157 :: u158 :: u159 :: u160 :: u161 :: u162 :: u163 :: u164 :: u165 :: u166 :: u167 :: u168 :: u169 :: u170 :: u171 :: u172 :: u173 :: u174 :: u175 :: u176 :: u177 :: u178 :: u179 :: u180 :: u181 :: u182 :: u183 :: u184 :: u185 :: u186 :: u187 :: u188 :: u189 :: u190 :: u191 :: u192 :: u193 :: u194 :: u195 :: u196 :: u197 :: u198 :: u199 :: u200 :: u201 :: u202 :: u203 :: u204 :: u205 :: u206 :: u207 :: u208 :: u209 :: u210 :: u211 :: u212 :: u213 :: u214 :: u215 :: u216 :: u217 :: u218 :: u219 :: u220 :: u221 :: u222 :: u223 :: u224 :: u225 :: u226 :: u227 :: u228 :: u229 :: u230 :: u231 :: u232 :: u233 :: u234 :: u235 :: u236 :: u237 :: u238 :: u239 :: u240 :: u241 :: u242 :: u243 :: u244 :: u245 :: u246 :: u247 :: u248 :: u249 :: u250 :: u251 :: u252 :: u253 :: u254 :: u255 :: u256 :: u257 :: u258 :: u259 :: u260 :: u261 :: u262 :: u263 :: u264 :: u265 :: u266 :: u267 :: u268 :: u269 :: u270 :: u271 :: u272 :: u273 :: u274 :: u275 :: u276 :: u277 :: u278 :: u279 :: []), []⟩ w1 := by
  conv => arg 2; whnf
  have HK := Lib.hid hK
  clear hK
  go_wp2_with fail
  go_loopw [12] (fun jv w2 => ∃ (j : Nat) (l : List Int), j ≤ 3 ∧ jv = .int .i64 j ∧ Hid (l.length = 3) ∧ Hid (Own w (Tri vb l * R) w2)) (fun jv _ => 3 - (intOf jv).toNat)
  case atStart => exact ⟨0, [0, 0, 0], Nat.zero_le _, rfl, Lib.hid rfl, HT⟩
  case round =>
    obtain ⟨j, l, hj, rfl, hl, hpw⟩ := hrel
    have c1 := HC.out _ _ hpw.out
    have fin : FpV w vb R wr := by
      obtain ⟨x, y, z, rfl⟩ : ∃ x y z, l = [x, y, z] := by
        have h3 := hl.out
        match l, h3 with
        | [x, y, z], _ => exact ⟨x, y, z, rfl⟩
      exact ⟨x, y, z, hpw.out⟩
    have FIN := Lib.hid fin
    clear fin
    by_cases h3 : j < row.length
    rotate_left
    · go_wp2_with fail
      apply HK.out
      exact FIN.out
    by_cases h4 : j < 3
    rotate_left
    · go_wp2_with fail
      apply HK.out
      exact FIN.out
    obtain ⟨b3, rfl, hcb⟩ := HR.out.at_later j h3
    have c2 := hcb _ _ hpw.out
    have hjl : j < l.length := by rw [hl.out]; exact h4
    have c3 := hpw.out.tri_cell j hjl
    have c4 := hpw.out.tri_free j
    have HS := Lib.hid (hpw.out.tri_set j row[j])
    have i0 : (0 : Int) ≤ (j : Int) := by omega
    have i3 : (j : Int) < 3 := by omega
    clear hcb
    go_wp2_with fail
    go_roundw
    case rel => exact ⟨j + 1, l.set j row[j], by omega, by go_num, Lib.hid (by rw [List.length_set]; exact hl.out), HS⟩
    case measure => simp [intOf]; omega
noncomputable def lqSay_code : Code := ((Tryd.f10.body.bind (findIf 111)).getD .skip)
set_option maxRecDepth 1000000 in
set_option maxHeartbeats 4000000 in
theorem lqSay {Q : Exit → Act → World → Prop} {u0 u1 u2 u3 u4 u6 u7 u8 u10 u12 u13 u16 u17 u18 u19 u20 u21 u22 u23 u24 u25 u26 u27 u28 u29 u30 u31 u32 u33 u34 u35 u36 u37 u38 u39 u40 u41 u42 u43 u44 u45 u46 u47 u48 u49 u50 u51 u52 u53 u54 u55 u56 u57 u58 u59 u60 u61 u62 u63 u64 u65 u66 u67 u68 u69 u70 u71 u72 u73 u74 u75 u76 u77 u78 u79 u80 u81 u82 u83 u84 u85 u86 u87 u88 u89 u90 u91 u92 u93 u94 u95 u96 u97 u98 u99 u100 u101 u102 u103 u104 u105 u106 u107 u108 u109 u110 u112 u113 u114 u115 u116 u117 u118 u119 u120 u121 u122 u123 u124 u125 u126 u127 u128 u129 u130 u131 u132 u133 u134 u135 u136 u137 u138 u139 u140 u141 u142 u143 u144 u145 u146 u147 u148 u149 u150 u151 u152 u153 u154 u155 u156 u157 u158 u159 u160 u161 u162 u163 u164 u165 u166 u167 u168 u169 u170 u171 u172 u173 u174 u175 u176 u177 u178 u179 u180 u181 u182 u183 u184 u185 u186 u187 u188 u189 u190 u191 u192 u193 u194 u195 u196 u197 u198 u199 u200 u201 u202 u203 u204 u205 u206 u207 u208 u209 u210 u211 u212 u213 u214 u215 u216 u217 u218 u219 u220 u221 u222 u223 u224 u225 u226 u227 u228 u229 u230 u231 u232 u233 u234 u235 u236 u237 u238 u239 u240 u241 u242 u243 u244 u245 u246 u247 u248 u249 u250 u251 u252 u253 u254 u255 u256 u257 u258 u259 u260 u261 u262 u263 u264 u265 u266 u267 u268 u269 u270 u271 u272 u273 u274 u275 u276 u277 u278 u279 : Value} {w2 : World} (w : World) (p q vb tb W cap : Nat) (x y z : Int) (l : Ld) (ad : Option Addr) (was c : Bool) (HCZ : Hid (c = !isWord z)) (HWAS : Hid (decide (z ∈ l.words) = was)) (HWD : Hid (W = l.words.length)) (hW30 : W ≤ 30) (HN2 : Hid (Own w (Pr2 tb 0 0 * (RlO q l (.slice ad W cap) * (LdP p l * (Tri vb [x, y, z] * emp)))) w2))
    (hK : ∀ (v5 v112 v113 v114 v115 v116 v117 v118 v119 v120 v121 v122 v123 v124 v125 v126 v127 v128 v129 v130 v131 : Value) (wx : World), (LqD w p q vb tb x y z l v5 wx) → Q .normal ⟨List.toArray (u0 :: u1 :: u2 :: u3 :: u4 :: v5 :: u6 :: u7 :: u8 :: (.pointer (some ⟨q, 0, none⟩)) :: u10 :: (.pointer (some ⟨vb, 0, none⟩)) :: u12 :: u13 :: (.pointer (some ⟨tb, 0, none⟩)) :: (.bool was) :: u16 :: u17 :: u18 :: u19 :: u20 :: u21 :: u22 :: u23 :: u24 :: u25 :: u26 :: u27 :: u28 :: u29 :: u30 :: u31 :: u32 :: u33 :: u34 :: u35 :: u36 :: u37 :: u38 :: u39 :: u40 :: u41 :: u42 :: u43 :: u44 :: u45 :: u46 :: u47 :: u48 :: u49 :: u50 :: u51 :: u52 :: u53 :: u54 :: u55 :: u56 :: u57 :: u58 :: u59 :: u60 :: u61 :: u62 :: u63 :: u64 :: u65 :: u66 :: u67 :: u68 :: u69 :: u70 :: u71 :: u72 :: u73 :: u74 :: u75 :: u76 :: u77 :: u78 :: u79 :: u80 :: u81 :: u82 :: u83 :: u84 :: u85 :: u86 :: u87 :: u88 :: u89 :: u90 :: u91 :: u92 :: u93 :: u94 :: u95 :: u96 :: u97 :: u98 :: u99 :: u100 :: u101 :: u102 :: u103 :: u104 :: u105 :: u106 :: u107 :: u108 :: u109 :: u110 :: (.bool c) :: v112 :: v113 :: v114 :: v115 :: v116 :: v117 :: v118 :: v119 :: v120 :: v121 :: v122 :: v123 :: v124 :: v125 :: v126 :: v127 :: v128 :: v129 :: v130 :: v131 :: u132 :: u133 :: u134 :: u135 :: u136 :: u137 :: u138 :: u139 :: u140 :: u141 :: u142 :: u143 :: u144 :: u145 :: u146 :: u147 :: u148 :: u149 :: u150 :: u151 :: u152 :: u153 :: u154 :: u155 :: u156 :: u157 :: u158 :: u159 :: u160 :: u161 :: u162 :: u163 :: u164 :: u165 :: u166 :: u167 :: u168 :: u169 :: u170 :: u171 :: u172 :: u173 :: u174 :: u175 :: u176 :: u177 :: u178 :: u179 :: u180 :: u181 :: u182 :: u183 :: u184 :: u185 :: u186 :: u187 :: u188 :: u189 :: u190 :: u191 :: u192 :: u193 :: u194 :: u195 :: u196 :: u197 :: u198 :: u199 :: u200 :: u201 :: u202 :: u203 :: u204 :: u205 :: u206 :: u207 :: u208 :: u209 :: u210 :: u211 :: u212 :: u213 :: u214 :: u215 :: u216 :: u217 :: u218 :: u219 :: u220 :: u221 :: u222 :: u223 :: u224 :: u225 :: u226 :: u227 :: u228 :: u229 :: u230 :: u231 :: u232 :: u233 :: u234 :: u235 :: u236 :: u237 :: u238 :: u239 :: u240 :: u241 :: u242 :: u243 :: u244 :: u245 :: u246 :: u247 :: u248 :: u249 :: u250 :: u251 :: u252 :: u253 :: u254 :: u255 :: u256 :: u257 :: u258 :: u259 :: u260 :: u261 :: u262 :: u263 :: u264 :: u265 :: u266 :: u267 :: u268 :: u269 :: u270 :: u271 :: u272 :: u273 :: u274 :: u275 :: u276 :: u277 :: u278 :: u279 :: []), []⟩ wx) :
    Code.wp Tryd.prog lqSay_code Q ⟨List.toArray (u0 :: u1 :: u2 :: u3 :: u4 :: (.int .i64 0) :: u6 :: u7 :: u8 :: (.pointer (some ⟨q, 0, none⟩)) :: u10 :: (.pointer (some ⟨vb, 0, none⟩)) :: u12 :: u13 :: (.pointer (some ⟨tb, 0, none⟩)) :: (.bool was) :: u16 :: u17 :: u18 :: u19 :: u20 :: u21 :: u22 :: u23 :: u24 :: u25 :: u26 :: u27 :: u28 :: u29 :: u30 :: u31 :: u32 :: u33 :: u34 :: u35 :: u36 :: u37 :: u38 :: u39 :: u40 :: u41 :: u42 :: u43 :: u44 :: u45 :: u46 :: u47 :: u48 :: u49 :: u50 :: u51 :: u52 :: u53 :: u54 :: u55 :: u56 :: u57 :: u58 :: u59 :: u60 :: u61 :: u62 :: u63 :: u64 :: u65 :: u66 :: u67 :: u68 :: u69 :: u70 :: u71 :: u72 :: u73 :: u74 :: u75 :: u76 :: u77 :: u78 :: u79 :: u80 :: u81 :: u82 :: u83 :: u84 :: u85 :: u86 :: u87 :: u88 :: u89 :: u90 :: u91 :: u92 :: u93 :: u94 :: u95 :: u96 :: u97 :: u98 :: u99 :: u100 :: u101 :: u102 :: u103 :: u104 :: u105 :: u106 :: u107 :: u108 :: u109 :: u110 :: (.bool c) :: u112 :: u113 :: u114 :: u115 :: u116 :: u117 :: u118 :: u119 :: u120 :: u121 :: u122 :: u123 :: u124 :: u125 :: u126 :: u127 :: u128 :: u129 :: u130 :: u131 :: u132 :: u133 :: u134 :: u135 :: u136 :: u137 :: u138 :: u139 :: u140 :: u141 :: u142 :: u143 :: u144 :: u145 :: u146 :: u147 :: u148 :: u149 :: u150 :: u151 :: u152 :: u153 :: u154 :: u155 :: u156 :: u157 :: u158 :: u159 :: u160 :: u161 :: u162 :: u163 :: u164 :: u165 :: u166 :: u167 :: u168 :: u169 :: u170 :: u171 :: u172 :: u173 :: u174 :: u175 :: u176 :: u177 :: u178 :: u179 :: u180 :: u181 :: u182 :: u183 :: u184 :: u185 :: u186 :: u187 :: u188 :: u189 :: u190 :: u191 :: u192 :: u193 :: u194 :: u195 :: u196 :: u197 :: u198 :: u199 :: u200 :: u201 :: u202 :: u203 :: u204 :: u205 :: u206 :: u207 :: u208 :: u209 :: u210 :: u211 :: u212 :: u213 :: u214 :: u215 :: u216 :: u217 :: u218 :: u219 :: u220 :: u221 :: u222 :: u223 :: u224 :: u225 :: u226 :: u227 :: u228 :: u229 :: u230 :: u231 :: u232 :: u233 :: u234 :: u235 :: u236 :: u237 :: u238 :: u239 :: u240 :: u241 :: u242 :: u243 :: u244 :: u245 :: u246 :: u247 :: u248 :: u249 :: u250 :: u251 :: u252 :: u253 :: u254 :: u255 :: u256 :: u257 :: u258 :: u259 :: u260 :: u261 :: u262 :: u263 :: u264 :: u265 :: u266 :: u267 :: u268 :: u269 :: u270 :: u271 :: u272 :: u273 :: u274 :: u275 :: u276 :: u277 :: u278 :: u279 :: []), []⟩ w2 := by
  conv => arg 2; whnf
  have HK := Lib.hid hK
  clear hK
  obtain ⟨g1, g2, g3, g4, g5, g6, g7, g8⟩ := lq_facts HN2.out
  cases c
  rotate_left
  · have hz : isWord z = false := by have := HCZ.out; simpa using this.symm
    have hE := ldSay_err1 (l := l) hz
    have HZ := Lib.hid hz; have HE := Lib.hid hE
    clear hz hE
    go_wp2_with fail
    apply HK.out
    exact LqD.mk HE.out HN2.out
  have hz : isWord z = true := by have := HCZ.out; simpa using this.symm
  cases was
  rotate_left
  · have hE := ldSay_err7 (l := l) hz (by simpa using HWAS.out)
    have HZ := Lib.hid hz; have HE := Lib.hid hE
    clear hz hE
    go_wp2_with fail
    apply HK.out
    exact LqD.mk HE.out HN2.out
  · have hE := ldSay_err0 (l := l) hz (by simpa using HWAS.out)
    have hzw : 1 ≤ z ∧ z ≤ 30 := by simpa [isWord] using hz
    have HZ := Lib.hid hz; have HE := Lib.hid hE
    clear hz hE
    go_wp2_with fail
    refine wp_region_tail 8 (by kernel_rfl) (by kernel_rfl) ?_
    simp only [List.take_succ_cons, List.take_zero, List.drop_succ_cons, List.drop_zero]
    repeat still_step
    refine wpStill_nil ?_
    go_wp2_with fail
    have hp3 := (HN2.out.pr2_put (W : Int) z).drew
    obtain ⟨w3, hw3⟩ : ∃ w3, w3 = ((w2.setCell ⟨tb, 0, none⟩ (.int .i64 (W : Int))).setCell ⟨tb, 1, none⟩ (.int .i64 z)).drew := ⟨_, rfl⟩
    rw [← hw3] at hp3 ⊢
    clear g1 g2 g3 g4 g5 g6 g7 g8 hw3
    obtain ⟨g1, g2, g3, g4, g5, g6, g7, g8⟩ := lq_facts hp3
    have hsl : Own w (IntSl (.slice ad W cap) l.words * (blk q (.cells (rlCells l (.slice ad W cap)).toArray 91 (0, 0)) * (Pr2 tb W z * (LdP p l * (Tri vb [x, y, z] * emp))))) w3 := (hp3.perm (star_left_comm _ _ _)).rl_sl
    have hal := fun o => lq_facts (hp3.alloc' o)
    have hb1 := (hsl.alloc' (.cells #[.int .i64 z] 3)).drew
    unfold IntSl at hb1
    rw [← HWD.out] at hb1
    have HL2 := Lib.hid (show W + 1 ≤ maxLen by unfold maxLen; omega)
    have HL3 := Lib.hid (show (W + 1) * 8 ≤ 140737488355328 by omega)
    have HO1 := Lib.hid hb1
    have HAL := Lib.hid hal
    clear hp3 hsl hb1 hal
    refine wp_region_planH 11 [] [(true, 0), (true, 1), (true, 2), (true, 3), (true, 4), (true, 5), (true, 6), (false, 7), (false, 8), (true, 9), (true, 10)] [11] (fun wS => wS.cell? ⟨q, 1, none⟩ = some (.slice ad W cap) ∧ wS.cell? ⟨vb, 2, none⟩ = some (.int .i64 z)) (by kernel_rfl) (by kernel_rfl) (⟨g1, g4⟩) ?_
    simp only [pickH, pick, List.getElem?_cons_succ, List.getElem?_cons_zero, Option.toList, Option.map_some, List.cons_append, List.nil_append]
    repeat (refine wpPure_step ?_ rfl ?_ ?_; rotate_left; (focus (intro _; first | with_reducible rfl | (go_simp; done) | (go_simp; with_reducible rfl) | rfl)); go_simp)
    refine wpPure_nil ?_
    repeat (refine wpMix_read ?_ rfl ?_ ?_; rotate_left; (focus (intro _ hS; obtain ⟨s1, s2⟩ := hS; first | with_reducible rfl | (go_simp; done) | (go_simp; with_reducible rfl) | rfl)); go_simp)
    refine wpMix_write (fun K hK => ?_)
    go_simp
    refine hK _ _ ⟨⟨(HAL.out _).1, (HAL.out _).2.2.2.1⟩, ?_⟩
    clear hK K
    go_simp
    refine wpMix_write (fun K hK => ?_)
    refine step_app rfl _ _ 22 rfl 3 1 8 _ int_info Tryd.underlying22 rfl (by decide) (by rfl) HO1.out (by rfl) (by rfl) (Rd_lit (by simp) (by unfold maxLen; omega)) (by intro u hu; simp at hu; subst hu; rfl) HL2.out HL3.out ?_
    intro v' w4 hown'
    obtain ⟨ad', cp', hv', _⟩ := Own.rd hown'
    have hown2 : Own w (IntSl v' (l.words ++ [z]) * (blk q (.cells (rlCells l (.slice ad W cap)).toArray 91 (0, 0)) * (Pr2 tb W z * (LdP p l * (Tri vb [x, y, z] * emp))))) w4 := by
      unfold IntSl
      rw [List.length_append, List.length_singleton, List.map_append, ← HWD.out]
      exact hown'
    have k1 := rl_cells (hown2.perm (star_left_comm _ _ _))
    have k2 := (hown2.perm (show _ = Tri vb [x, y, z] * (IntSl v' (l.words ++ [z]) * (blk q (.cells (rlCells l (.slice ad W cap)).toArray 91 (0, 0)) * (Pr2 tb W z * (LdP p l * emp)))) by ac_rfl)).tri_cell 2 (by simp)
    have k3 := k1.2.2.2 1 none
    have hsay := Own.rl_say hown2
    subst hv'
    have HS := Lib.hid (hsay.perm (show _ = Pr2 tb W z * (RlO q ⟨l.words ++ [z], l.mem⟩ (.slice ad' (W + 1) cp') * (LdP p l * (Tri vb [x, y, z] * emp))) by ac_rfl))
    have k1' := k1.2.1
    clear hown' hown2 hsay k1
    refine hK _ _ ⟨⟨k1', k2⟩, ?_⟩
    clear hK K
    go_simp
    repeat (refine wpMix_read ?_ rfl ?_ ?_; rotate_left; (focus (intro _ hS; obtain ⟨s1, s2⟩ := hS; first | with_reducible rfl | (go_simp; done) | (go_simp; with_reducible rfl) | rfl)); go_simp)
    refine wpMix_nil ?_
    go_wp2_with fail
    refine NoPanic.normal ?_
    go_wp2_with fail
    apply HK.out
    exact LqD.mk (by rw [HWD.out]; exact HE.out) HS.out

noncomputable def lqTake_code : Code := ((Tryd.f10.body.bind (findIf 148)).getD .skip)
set_option maxRecDepth 1000000 in
set_option maxHeartbeats 4000000 in
theorem lqTake {Q : Exit → Act → World → Prop} {u0 u1 u2 u3 u4 u6 u7 u8 u10 u12 u13 u14 u15 u16 u17 u19 u20 u21 u22 u23 u24 u25 u26 u27 u28 u29 u30 u31 u32 u33 u34 u35 u36 u37 u38 u39 u40 u41 u42 u43 u44 u45 u46 u47 u48 u49 u50 u51 u52 u53 u54 u55 u56 u57 u58 u59 u60 u61 u62 u63 u64 u65 u66 u67 u68 u69 u70 u71 u72 u73 u74 u75 u76 u77 u78 u79 u80 u81 u82 u83 u84 u85 u86 u87 u88 u89 u90 u91 u92 u93 u94 u95 u96 u97 u98 u99 u100 u101 u102 u103 u104 u105 u106 u107 u108 u109 u110 u111 u112 u113 u114 u115 u116 u117 u118 u119 u120 u121 u122 u123 u124 u125 u126 u127 u128 u129 u130 u131 u132 u133 u134 u135 u136 u137 u138 u139 u140 u141 u142 u143 u144 u145 u146 u147 u149 u150 u151 u152 u153 u154 u155 u156 u157 u158 u159 u160 u161 u162 u163 u164 u165 u166 u167 u168 u169 u170 u171 u172 u173 u174 u175 u176 u177 u178 u179 u180 u181 u182 u183 u184 u185 u186 u187 u188 u189 u190 u191 u192 u193 u194 u195 u196 u197 u198 u199 u200 u201 u202 u203 u204 u205 u206 u207 u208 u209 u210 u211 u212 u213 u214 u215 u216 u217 u218 u219 u220 u221 u222 u223 u224 u225 u226 u227 u228 u229 u230 u231 u232 u233 u234 u235 u236 u237 u238 u239 u240 u241 u242 u243 u244 u245 u246 u247 u248 u249 u250 u251 u252 u253 u254 u255 u256 u257 u258 u259 u260 u261 u262 u263 u264 u265 u266 u267 u268 u269 u270 u271 u272 u273 u274 u275 u276 u277 u278 u279 : Value} {w2 : World} (w : World) (N p q vb W cap : Nat) (x y z : Int) (l : Ld) (ad : Option Addr) (inn : Bool) (hN2 : N ≤ 5) (HI : Hid (LdInv N l)) (HINN : Hid (inn = inR y N)) (HWD : Hid (W = l.words.length)) (hW30 : W ≤ 30) (hcp1 : W ≤ cap) (hcp2 : cap ≤ 9223372036854775807) (HN2 : Hid (Own w (RlO q l (.slice ad W cap) * (LdP p l * (Tri vb [x, y, z] * emp))) w2))
    (hK : ∀ (v5 v18 v19 v149 v150 v151 v152 v153 v154 v155 v156 v157 v158 v159 v160 v161 v162 v163 v164 v165 v166 v167 v168 v169 v170 v171 v172 v173 v174 v175 v176 v177 v178 v179 v180 v181 v182 v183 v184 : Value) (wx : World), (LqT w p q vb W x y z l v5 v18 wx) → Q .normal ⟨List.toArray (u0 :: u1 :: u2 :: u3 :: u4 :: v5 :: u6 :: u7 :: u8 :: (.pointer (some ⟨q, 0, none⟩)) :: u10 :: (.pointer (some ⟨vb, 0, none⟩)) :: u12 :: u13 :: u14 :: u15 :: u16 :: u17 :: v18 :: v19 :: u20 :: u21 :: u22 :: u23 :: u24 :: u25 :: u26 :: u27 :: u28 :: u29 :: u30 :: u31 :: u32 :: u33 :: u34 :: u35 :: u36 :: u37 :: u38 :: u39 :: u40 :: u41 :: u42 :: u43 :: u44 :: u45 :: u46 :: u47 :: u48 :: u49 :: u50 :: u51 :: u52 :: u53 :: u54 :: u55 :: u56 :: u57 :: u58 :: u59 :: u60 :: u61 :: u62 :: u63 :: u64 :: u65 :: u66 :: u67 :: u68 :: u69 :: u70 :: u71 :: u72 :: u73 :: u74 :: u75 :: u76 :: u77 :: u78 :: u79 :: u80 :: u81 :: u82 :: u83 :: u84 :: u85 :: u86 :: u87 :: u88 :: u89 :: u90 :: u91 :: u92 :: u93 :: u94 :: u95 :: u96 :: u97 :: u98 :: u99 :: u100 :: u101 :: u102 :: u103 :: u104 :: u105 :: u106 :: u107 :: u108 :: u109 :: u110 :: u111 :: u112 :: u113 :: u114 :: u115 :: u116 :: u117 :: u118 :: u119 :: u120 :: u121 :: u122 :: u123 :: u124 :: u125 :: u126 :: u127 :: u128 :: u129 :: u130 :: u131 :: u132 :: u133 :: u134 :: u135 :: u136 :: u137 :: u138 :: u139 :: u140 :: u141 :: u142 :: u143 :: u144 :: u145 :: u146 :: u147 :: (.bool (!inn)) :: v149 :: v150 :: v151 :: v152 :: v153 :: v154 :: v155 :: v156 :: v157 :: v158 :: v159 :: v160 :: v161 :: v162 :: v163 :: v164 :: v165 :: v166 :: v167 :: v168 :: v169 :: v170 :: v171 :: v172 :: v173 :: v174 :: v175 :: v176 :: v177 :: v178 :: v179 :: v180 :: v181 :: v182 :: v183 :: v184 :: u185 :: u186 :: u187 :: u188 :: u189 :: u190 :: u191 :: u192 :: u193 :: u194 :: u195 :: u196 :: u197 :: u198 :: u199 :: u200 :: u201 :: u202 :: u203 :: u204 :: u205 :: u206 :: u207 :: u208 :: u209 :: u210 :: u211 :: u212 :: u213 :: u214 :: u215 :: u216 :: u217 :: u218 :: u219 :: u220 :: u221 :: u222 :: u223 :: u224 :: u225 :: u226 :: u227 :: u228 :: u229 :: u230 :: u231 :: u232 :: u233 :: u234 :: u235 :: u236 :: u237 :: u238 :: u239 :: u240 :: u241 :: u242 :: u243 :: u244 :: u245 :: u246 :: u247 :: u248 :: u249 :: u250 :: u251 :: u252 :: u253 :: u254 :: u255 :: u256 :: u257 :: u258 :: u259 :: u260 :: u261 :: u262 :: u263 :: u264 :: u265 :: u266 :: u267 :: u268 :: u269 :: u270 :: u271 :: u272 :: u273 :: u274 :: u275 :: u276 :: u277 :: u278 :: u279 :: []), []⟩ wx) :
    Code.wp Tryd.prog lqTake_code Q ⟨List.toArray (u0 :: u1 :: u2 :: u3 :: u4 :: (.int .i64 0) :: u6 :: u7 :: u8 :: (.pointer (some ⟨q, 0, none⟩)) :: u10 :: (.pointer (some ⟨vb, 0, none⟩)) :: u12 :: u13 :: u14 :: u15 :: u16 :: u17 :: (.slice none 0 0) :: u19 :: u20 :: u21 :: u22 :: u23 :: u24 :: u25 :: u26 :: u27 :: u28 :: u29 :: u30 :: u31 :: u32 :: u33 :: u34 :: u35 :: u36 :: u37 :: u38 :: u39 :: u40 :: u41 :: u42 :: u43 :: u44 :: u45 :: u46 :: u47 :: u48 :: u49 :: u50 :: u51 :: u52 :: u53 :: u54 :: u55 :: u56 :: u57 :: u58 :: u59 :: u60 :: u61 :: u62 :: u63 :: u64 :: u65 :: u66 :: u67 :: u68 :: u69 :: u70 :: u71 :: u72 :: u73 :: u74 :: u75 :: u76 :: u77 :: u78 :: u79 :: u80 :: u81 :: u82 :: u83 :: u84 :: u85 :: u86 :: u87 :: u88 :: u89 :: u90 :: u91 :: u92 :: u93 :: u94 :: u95 :: u96 :: u97 :: u98 :: u99 :: u100 :: u101 :: u102 :: u103 :: u104 :: u105 :: u106 :: u107 :: u108 :: u109 :: u110 :: u111 :: u112 :: u113 :: u114 :: u115 :: u116 :: u117 :: u118 :: u119 :: u120 :: u121 :: u122 :: u123 :: u124 :: u125 :: u126 :: u127 :: u128 :: u129 :: u130 :: u131 :: u132 :: u133 :: u134 :: u135 :: u136 :: u137 :: u138 :: u139 :: u140 :: u141 :: u142 :: u143 :: u144 :: u145 :: u146 :: u147 :: (.bool (!inn)) :: u149 :: u150 :: u151 :: u152 :: u153 :: u154 :: u155 :: u156 :: u157 :: u158 :: u159 :: u160 :: u161 :: u162 :: u163 :: u164 :: u165 :: u166 :: u167 :: u168 :: u169 :: u170 :: u171 :: u172 :: u173 :: u174 :: u175 :: u176 :: u177 :: u178 :: u179 :: u180 :: u181 :: u182 :: u183 :: u184 :: u185 :: u186 :: u187 :: u188 :: u189 :: u190 :: u191 :: u192 :: u193 :: u194 :: u195 :: u196 :: u197 :: u198 :: u199 :: u200 :: u201 :: u202 :: u203 :: u204 :: u205 :: u206 :: u207 :: u208 :: u209 :: u210 :: u211 :: u212 :: u213 :: u214 :: u215 :: u216 :: u217 :: u218 :: u219 :: u220 :: u221 :: u222 :: u223 :: u224 :: u225 :: u226 :: u227 :: u228 :: u229 :: u230 :: u231 :: u232 :: u233 :: u234 :: u235 :: u236 :: u237 :: u238 :: u239 :: u240 :: u241 :: u242 :: u243 :: u244 :: u245 :: u246 :: u247 :: u248 :: u249 :: u250 :: u251 :: u252 :: u253 :: u254 :: u255 :: u256 :: u257 :: u258 :: u259 :: u260 :: u261 :: u262 :: u263 :: u264 :: u265 :: u266 :: u267 :: u268 :: u269 :: u270 :: u271 :: u272 :: u273 :: u274 :: u275 :: u276 :: u277 :: u278 :: u279 :: []), []⟩ w2 := by
  conv => arg 2; whnf
  have HK := Lib.hid hK
  clear hK
  cases inn
  · have he : ldErr l y z = 1 := by unfold ldErr; rw [if_pos (by rw [HI.out.len]; exact HINN.out.symm)]
    have HE := Lib.hid he
    clear he
    go_wp2_with fail
    apply HK.out
    exact LqT.no HE.out (by simp) HN2.out
  have hin : inR y N = true := HINN.out.symm
  have hy : 0 ≤ y ∧ y < (N : Int) := by simpa [inR] using hin
  obtain ⟨r, rfl⟩ := Int.eq_ofNat_of_zero_le hy.1
  have hrN : r < N := by omega
  have hrl : r < l.mem.length := by rw [HI.out.len]; exact hrN
  obtain ⟨_, c1, c2, c3⟩ := HN2.out.rl_facts
  have hT := (HN2.out.perm (show _ = Tri vb [x, (r : Int), z] * (RlO q l (.slice ad W cap) * (LdP p l * emp)) by ac_rfl))
  have d1 := hT.tri_cell 1 (by simp)
  have d2 := hT.tri_cell 2 (by simp)
  simp only [List.getElem_cons_succ, List.getElem_cons_zero] at d1 d2
  have hlen : inR (r : Int) l.mem.length = true := by rw [HI.out.len]; exact hin
  have HIN := Lib.hid hin; have HLEN := Lib.hid hlen
  clear hin hlen
  clear hT hy
  by_cases z1 : z < 0
  · have he : ldErr l r z = 5 := by unfold ldErr; rw [if_neg (by rw [HLEN.out]; simp), if_pos z1]
    have t1 : decide (z < 0) = true := by simpa using z1
    have HE := Lib.hid he; have C2 := Lib.hid c2; have C3 := Lib.hid c3
    clear he c2 c3
    go_wp2_with fail
    go_quiet (fail)
    go_wp2_with fail
    apply HK.out
    exact LqT.no HE.out (by simp) (HN2.out.drewN _)
  have t1 : decide (z < 0) = false := by simpa using z1
  by_cases z2 : (W : Int) ≤ z
  · have he : ldErr l r z = 5 := by unfold ldErr; rw [if_neg (by rw [HLEN.out]; simp), if_neg z1, if_pos (by rw [← HWD.out]; exact z2)]
    have t2 : decide ((W : Int) ≤ z) = true := by simpa using z2
    have HE := Lib.hid he; have C2 := Lib.hid c2; have C3 := Lib.hid c3
    clear he c2 c3
    go_wp2_with fail
    go_quiet (fail)
    go_wp2_with fail
    apply HK.out
    exact LqT.no HE.out (by simp) (HN2.out.drewN _)
  have t2 : decide ((W : Int) ≤ z) = false := by simpa using z2
  have he : ldErr l r z = 0 := by unfold ldErr; rw [if_neg (by rw [HLEN.out]; simp), if_neg z1, if_neg (by rw [← HWD.out]; exact z2)]
  obtain ⟨c, rfl⟩ := Int.eq_ofNat_of_zero_le (show 0 ≤ z by omega)
  have hc31 : c < 31 := by omega
  have i0 : (0 : Int) ≤ (r : Int) := by omega
  have i5 : (r : Int) < 5 := by omega
  have j0 : (0 : Int) ≤ (c : Int) := by omega
  have j5 : (c : Int) < 31 := by omega
  have hf := HI.out.fit.2.2 _ (ldGet_mem HLEN.out)
  have hh := HI.out.had _ (ldGet_mem HLEN.out)
  obtain ⟨f0, f1, f2, f3⟩ := ldInv_far HI.out he
  obtain ⟨h0, hh0⟩ : ∃ h, h = (ldGet l r).2 := ⟨_, rfl⟩
  obtain ⟨F, hFd⟩ : ∃ h, h = ldFar l r c := ⟨_, rfl⟩
  rw [← hh0] at hf hh f1
  rw [← hFd] at f0 f1 f2 f3
  rw [← HWD.out] at hf f0
  have cr := fun k hk => c2 r k (by omega) hk
  rw [← rl_ad hrl] at cr
  have hcf := c3 (2 + r * 31 + c) none
  obtain ⟨bb, hbb⟩ : ∃ b, b = decide ((c : Int) ∈ (l.mem.getD r ([], 0)).1) := ⟨_, rfl⟩
  have ccell := c2 r c (by omega) hc31
  rw [← hbb] at ccell
  clear hbb
  have HCR := Lib.hid cr
  have f0' := f0
  have f1' := f1
  have HE := Lib.hid he; have C2 := Lib.hid c2; have C3 := Lib.hid c3; have HF := Lib.hid hf; have HH := Lib.hid hh; have F2 := Lib.hid f2; have F3 := Lib.hid f3; have HH0 := Lib.hid hh0; have HFD := Lib.hid hFd
  clear he c2 c3 hf hh f2 f3 hh0 hFd
  clear cr
  go_wp2_with fail
  go_quiet (fail)
  go_wp2_with fail
  refine (refHeard_any q r W h0 cap ad (ldGet l r).1 _ (by omega) (by omega) (show (w2.drewN nq).cell? ⟨q, 1, none⟩ = some (.slice ad W cap) from c1) (fun k hk => show (w2.drewN nq).cell? ⟨q, 2 + r * 31 + k, none⟩ = _ from HCR.out k hk) HF.out.1 HH.out.1 (.inr HH.out.2)).mono ?_
  rintro e w' ⟨rfl, rfl⟩
  go_wp2_with fail
  refine wp_region_tail 9 (by kernel_rfl) (by kernel_rfl) ?_
  simp only [List.take_succ_cons, List.take_zero, List.drop_succ_cons, List.drop_zero]
  repeat still_step
  refine wpStill_nil ?_
  go_wp2_with fail
  have hcome := ((HN2.out.drewN (nq + 1)).rl_come (r := r) (k := c) (h' := F) hrl (by rw [HI.out.len]; exact hN2) hc31)
  have htk : ldTake l r c = ⟨l.words, l.mem.set r (setPut (l.mem.getD r ([], 0)).1 c, F)⟩ := by
    unfold ldTake
    rw [if_pos HE.out, Int.toNat_natCast, rl_ad hrl, ← HFD.out]
  rw [← htk] at hcome
  obtain ⟨w3, hw3⟩ : ∃ w3, w3 = ((w2.drewN (nq + 1)).setCell ⟨q, 2 + r * 31 + c, none⟩ (.bool true)) := ⟨_, rfl⟩
  rw [← hw3] at hcome ⊢
  have HCM := Lib.hid hcome
  have hof := hcome.rl_facts
  have hT3 := (hcome.perm (show _ = Tri vb [x, (r : Int), (c : Int)] * (RlO q (ldTake l r c) (.slice ad W cap) * (LdP p l * emp)) by ac_rfl))
  have e1 := hT3.tri_cell 1 (by simp)
  simp only [List.getElem_cons_succ, List.getElem_cons_zero] at e1
  have g1 := hof.2.1
  have gr := fun k hk => hof.2.2.1 r k (by omega) hk
  have hgr : ((ldTake l r c).mem.getD r ([], 0)).1 = setPut (ldGet l r).1 c := by rw [htk, rl_ad hrl]; simp [hrl]
  rw [hgr] at gr
  have hsl := slice_mid (P := Tryd.prog) (e := 3) Tryd.underlying22 int_size1 (ad := ad) (cp := cap) f1' f0' hcp1
  have HGR := Lib.hid gr
  have hor : F = W ∨ ((F : Nat) : Int) ∉ setPut (ldGet l r).1 c := .inr F3.out
  have HOF := Lib.hid hof; have HOR := Lib.hid hor
  clear hof hor
  clear hcome htk hw3 hgr gr hT3 d1 d2 c1 hcf ccell
  go_quiet ((go_at_call 47; exact quiet_same (refHeard_any q r W F cap ad (setPut (ldGet l r).1 c) _ (by omega) (by omega) (show (w3.drewN _).cell? ⟨q, 1, none⟩ = some (.slice ad W cap) from g1) (fun k hk => show (w3.drewN _).cell? ⟨q, 2 + r * 31 + k, none⟩ = _ from HGR.out k hk) f0' F2.out HOR.out)))
  go_wp2_with fail
  apply HK.out
  refine ⟨by rw [HE.out]; rfl, ad, cap, HCM.out.drewN _, fun w' hi => ?_, _, _, _, rfl⟩
  have hm := Ints.mid hi f1' f0'
  unfold ldOut
  rw [if_pos HE.out, ← HFD.out, ← HH0.out]
  exact hm
noncomputable def lqLacks_code : Code := ((Tryd.f10.body.bind (findBlock 4)).getD .skip)
set_option maxRecDepth 1000000 in
set_option maxHeartbeats 4000000 in
theorem lqLacks {Q : Exit → Act → World → Prop} {u0 u1 u2 u3 u4 u5 u6 u7 u8 u10 u12 u14 u15 u16 u17 u18 u19 u20 u21 u23 u25 u26 u27 u28 u29 u30 u31 u32 u33 u34 u35 u36 u37 u38 u39 u40 u41 u42 u43 u44 u45 u46 u47 u48 u49 u50 u51 u52 u53 u54 u55 u56 u57 u58 u59 u60 u61 u62 u63 u64 u65 u66 u67 u68 u69 u70 u71 u72 u73 u74 u75 u76 u77 u78 u79 u80 u81 u82 u83 u84 u85 u86 u87 u88 u89 u90 u91 u92 u93 u94 u95 u96 u97 u98 u99 u100 u101 u102 u103 u104 u105 u106 u107 u108 u109 u110 u111 u112 u113 u114 u115 u116 u117 u118 u119 u120 u121 u122 u123 u124 u125 u126 u127 u128 u129 u130 u131 u132 u133 u134 u135 u136 u137 u138 u139 u140 u141 u142 u143 u144 u145 u146 u147 u148 u149 u150 u151 u152 u153 u154 u155 u156 u157 u158 u159 u160 u161 u162 u163 u164 u165 u166 u167 u168 u169 u170 u171 u172 u173 u174 u175 u176 u177 u178 u179 u180 u181 u182 u183 u184 u185 u186 u187 u188 u189 u190 u191 u192 u193 u194 u195 u196 u197 u198 u199 u200 u201 u202 u203 u204 u205 u206 u207 u208 u209 u210 u211 u212 u213 u214 u215 u216 u217 u218 u219 u220 u221 u222 u223 u224 u225 u226 u227 u228 u229 u230 u231 u232 u233 u234 u235 u236 u237 u238 u239 u240 u241 u242 u243 u244 u245 u246 u247 u248 u249 u250 u251 u252 u253 u254 u255 u256 u257 u258 u259 u260 u261 u262 u263 u264 u265 u266 u267 u268 u269 u270 u271 u272 u273 u274 u275 u276 u277 u278 u279 : Value} {w2 : World} (w : World) (N p q vb W cap : Nat) (x y z : Int) (l : Ld) (ad : Option Addr) (inn : Bool) (hN2 : N ≤ 5) (HI : Hid (LdInv N l)) (HINN : Hid (inn = inR y N)) (HWD : Hid (W = l.words.length)) (hW30 : W ≤ 30) (HN2 : Hid (Own w (RlO q l (.slice ad W cap) * (LdP p l * (Tri vb [x, y, z] * emp))) w2))
    (hK : ∀ (v22 v24 v204 v205 v206 v207 v208 v209 v210 v211 v212 v213 v214 v215 v216 v217 v218 v219 v220 v221 v222 v223 v224 v225 v226 v227 v228 v229 : Value) (wx : World), (Own w (IntSl v22 (ldLacks l y) * (RlO q l (.slice ad W cap) * (LdP p l * (Tri vb [x, y, z] * emp)))) wx) → Q .normal ⟨List.toArray (u0 :: u1 :: u2 :: u3 :: u4 :: u5 :: u6 :: u7 :: u8 :: (.pointer (some ⟨q, 0, none⟩)) :: u10 :: (.pointer (some ⟨vb, 0, none⟩)) :: u12 :: (.bool inn) :: u14 :: u15 :: u16 :: u17 :: u18 :: u19 :: u20 :: u21 :: v22 :: u23 :: v24 :: u25 :: u26 :: u27 :: u28 :: u29 :: u30 :: u31 :: u32 :: u33 :: u34 :: u35 :: u36 :: u37 :: u38 :: u39 :: u40 :: u41 :: u42 :: u43 :: u44 :: u45 :: u46 :: u47 :: u48 :: u49 :: u50 :: u51 :: u52 :: u53 :: u54 :: u55 :: u56 :: u57 :: u58 :: u59 :: u60 :: u61 :: u62 :: u63 :: u64 :: u65 :: u66 :: u67 :: u68 :: u69 :: u70 :: u71 :: u72 :: u73 :: u74 :: u75 :: u76 :: u77 :: u78 :: u79 :: u80 :: u81 :: u82 :: u83 :: u84 :: u85 :: u86 :: u87 :: u88 :: u89 :: u90 :: u91 :: u92 :: u93 :: u94 :: u95 :: u96 :: u97 :: u98 :: u99 :: u100 :: u101 :: u102 :: u103 :: u104 :: u105 :: u106 :: u107 :: u108 :: u109 :: u110 :: u111 :: u112 :: u113 :: u114 :: u115 :: u116 :: u117 :: u118 :: u119 :: u120 :: u121 :: u122 :: u123 :: u124 :: u125 :: u126 :: u127 :: u128 :: u129 :: u130 :: u131 :: u132 :: u133 :: u134 :: u135 :: u136 :: u137 :: u138 :: u139 :: u140 :: u141 :: u142 :: u143 :: u144 :: u145 :: u146 :: u147 :: u148 :: u149 :: u150 :: u151 :: u152 :: u153 :: u154 :: u155 :: u156 :: u157 :: u158 :: u159 :: u160 :: u161 :: u162 :: u163 :: u164 :: u165 :: u166 :: u167 :: u168 :: u169 :: u170 :: u171 :: u172 :: u173 :: u174 :: u175 :: u176 :: u177 :: u178 :: u179 :: u180 :: u181 :: u182 :: u183 :: u184 :: u185 :: u186 :: u187 :: u188 :: u189 :: u190 :: u191 :: u192 :: u193 :: u194 :: u195 :: u196 :: u197 :: u198 :: u199 :: u200 :: u201 :: u202 :: u203 :: v204 :: v205 :: v206 :: v207 :: v208 :: v209 :: v210 :: v211 :: v212 :: v213 :: v214 :: v215 :: v216 :: v217 :: v218 :: v219 :: v220 :: v221 :: v222 :: v223 :: v224 :: v225 :: v226 :: v227 :: v228 :: v229 :: u230 :: u231 :: u232 :: u233 :: u234 :: u235 :: u236 :: u237 :: u238 :: u239 :: u240 :: u241 :: u242 :: u243 :: u244 :: u245 :: u246 :: u247 :: u248 :: u249 :: u250 :: u251 :: u252 :: u253 :: u254 :: u255 :: u256 :: u257 :: u258 :: u259 :: u260 :: u261 :: u262 :: u263 :: u264 :: u265 :: u266 :: u267 :: u268 :: u269 :: u270 :: u271 :: u272 :: u273 :: u274 :: u275 :: u276 :: u277 :: u278 :: u279 :: []), []⟩ wx) :
    Code.wp Tryd.prog lqLacks_code Q ⟨List.toArray (u0 :: u1 :: u2 :: u3 :: u4 :: u5 :: u6 :: u7 :: u8 :: (.pointer (some ⟨q, 0, none⟩)) :: u10 :: (.pointer (some ⟨vb, 0, none⟩)) :: u12 :: (.bool inn) :: u14 :: u15 :: u16 :: u17 :: u18 :: u19 :: u20 :: u21 :: (.slice none 0 0) :: u23 :: (.int .i64 0) :: u25 :: u26 :: u27 :: u28 :: u29 :: u30 :: u31 :: u32 :: u33 :: u34 :: u35 :: u36 :: u37 :: u38 :: u39 :: u40 :: u41 :: u42 :: u43 :: u44 :: u45 :: u46 :: u47 :: u48 :: u49 :: u50 :: u51 :: u52 :: u53 :: u54 :: u55 :: u56 :: u57 :: u58 :: u59 :: u60 :: u61 :: u62 :: u63 :: u64 :: u65 :: u66 :: u67 :: u68 :: u69 :: u70 :: u71 :: u72 :: u73 :: u74 :: u75 :: u76 :: u77 :: u78 :: u79 :: u80 :: u81 :: u82 :: u83 :: u84 :: u85 :: u86 :: u87 :: u88 :: u89 :: u90 :: u91 :: u92 :: u93 :: u94 :: u95 :: u96 :: u97 :: u98 :: u99 :: u100 :: u101 :: u102 :: u103 :: u104 :: u105 :: u106 :: u107 :: u108 :: u109 :: u110 :: u111 :: u112 :: u113 :: u114 :: u115 :: u116 :: u117 :: u118 :: u119 :: u120 :: u121 :: u122 :: u123 :: u124 :: u125 :: u126 :: u127 :: u128 :: u129 :: u130 :: u131 :: u132 :: u133 :: u134 :: u135 :: u136 :: u137 :: u138 :: u139 :: u140 :: u141 :: u142 :: u143 :: u144 :: u145 :: u146 :: u147 :: u148 :: u149 :: u150 :: u151 :: u152 :: u153 :: u154 :: u155 :: u156 :: u157 :: u158 :: u159 :: u160 :: u161 :: u162 :: u163 :: u164 :: u165 :: u166 :: u167 :: u168 :: u169 :: u170 :: u171 :: u172 :: u173 :: u174 :: u175 :: u176 :: u177 :: u178 :: u179 :: u180 :: u181 :: u182 :: u183 :: u184 :: u185 :: u186 :: u187 :: u188 :: u189 :: u190 :: u191 :: u192 :: u193 :: u194 :: u195 :: u196 :: u197 :: u198 :: u199 :: u200 :: u201 :: u202 :: u203 :: u204 :: u205 :: u206 :: u207 :: u208 :: u209 :: u210 :: u211 :: u212 :: u213 :: u214 :: u215 :: u216 :: u217 :: u218 :: u219 :: u220 :: u221 :: u222 :: u223 :: u224 :: u225 :: u226 :: u227 :: u228 :: u229 :: u230 :: u231 :: u232 :: u233 :: u234 :: u235 :: u236 :: u237 :: u238 :: u239 :: u240 :: u241 :: u242 :: u243 :: u244 :: u245 :: u246 :: u247 :: u248 :: u249 :: u250 :: u251 :: u252 :: u253 :: u254 :: u255 :: u256 :: u257 :: u258 :: u259 :: u260 :: u261 :: u262 :: u263 :: u264 :: u265 :: u266 :: u267 :: u268 :: u269 :: u270 :: u271 :: u272 :: u273 :: u274 :: u275 :: u276 :: u277 :: u278 :: u279 :: []), []⟩ w2 := by
  conv => arg 2; whnf
  have HK := Lib.hid hK
  clear hK
  cases inn
  · have hla : ldLacks l y = [] := by unfold ldLacks; rw [HI.out.len, if_neg (by rw [← HINN.out]; simp)]
    obtain ⟨_, c1, _, _⟩ := HN2.out.rl_facts
    have HLA := Lib.hid hla
    clear hla
    go_wp2_with fail
    go_loopw [22, 24] (fun nv jv wr => ∃ j : Nat, jv = .int .i64 j ∧ nv = .slice none 0 0 ∧ j = 0 ∧ wr = w2) (fun _ _ _ => 0)
    case atStart => exact ⟨0, rfl, rfl, rfl, rfl⟩
    case round =>
      obtain ⟨j, rfl, rfl, rfl, rfl⟩ := hrel
      go_wp2_with fail
      all_goals
        apply HK.out
        rw [HLA.out]
        exact HN2.out.sl_nil _ _
  have hin : inR y N = true := HINN.out.symm
  have hy : 0 ≤ y ∧ y < (N : Int) := by simpa [inR] using hin
  obtain ⟨r, rfl⟩ := Int.eq_ofNat_of_zero_le hy.1
  have hrN : r < N := by omega
  have hrl : r < l.mem.length := by rw [HI.out.len]; exact hrN
  have i0 : (0 : Int) ≤ (r : Int) := by omega
  have i5 : (r : Int) < 5 := by omega
  obtain ⟨C, hC⟩ : ∃ C, C = (ldGet l r).1 := ⟨_, rfl⟩
  have hla : ldLacks l r = ((List.range W).map (fun i : Nat => (i : Int))).filter (fun x => decide (x ∉ C)) := by unfold ldLacks; rw [HI.out.len, if_pos hin, hC, HWD.out]
  have HF : Hid (∀ (v : Value) (L : List Int) (w' : World), Own w (IntSl v L * (RlO q l (.slice ad W cap) * (LdP p l * (Tri vb [x, (r : Int), z] * emp)))) w' → w'.cell? ⟨q, 1, none⟩ = some (.slice ad W cap) ∧ w'.cell? ⟨vb, 1, none⟩ = some (.int .i64 r) ∧ ∀ k : Nat, k < 31 → w'.cell? ⟨q, 2 + r * 31 + k, none⟩ = some (.bool (decide ((k : Int) ∈ C)))) := Lib.hid (fun v L w' h => by
    have h1 := h.drop.rl_facts
    have h2 := (h.perm (show _ = Tri vb [x, (r : Int), z] * (IntSl v L * (RlO q l (.slice ad W cap) * (LdP p l * emp))) by ac_rfl)).tri_cell 1 (by simp)
    exact ⟨h1.2.1, h2, fun k hk => by rw [hC, rl_ad hrl]; exact h1.2.2.1 r k (by omega) hk⟩)
  have HIN := Lib.hid hin; have HLA := Lib.hid hla; have HC := Lib.hid hC
  clear hin hla hC
  clear hy
  go_wp2_with fail
  go_loopw [22, 24] (fun nv jv wr => ∃ j : Nat, j ≤ W ∧ jv = .int .i64 j ∧ Hid (Own w (IntSl nv (((List.range j).map (fun i : Nat => (i : Int))).filter (fun x => decide (x ∉ C))) * (RlO q l (.slice ad W cap) * (LdP p l * (Tri vb [x, (r : Int), z] * emp)))) wr)) (fun _ jv _ => W - (intOf jv).toNat)
  case atStart => exact ⟨0, Nat.zero_le _, rfl, Lib.hid (HN2.out.sl_nil _ _)⟩
  case round =>
    obtain ⟨j, hj, rfl, hp⟩ := hrel
    obtain ⟨g1, g2, g3⟩ := HF.out _ _ _ hp.out
    by_cases h3 : j < W
    rotate_left
    · have t1 : decide (j < W) = false := by simpa using h3
      have hjW : j = W := by omega
      have G3 := Lib.hid g3; have HJW := Lib.hid hjW
      clear g3 hjW
      go_wp2_with fail
      apply HK.out
      rw [HLA.out]
      have hpo := hp.out
      rw [HJW.out] at hpo
      exact hpo
    have t1 : decide (j < W) = true := by simpa using h3
    have g3j := g3 j (by omega)
    have j0 : (0 : Int) ≤ (j : Int) := by omega
    have j5 : (j : Int) < 31 := by omega
    have hls := lacks_snoc C j
    have hlen : (((List.range j).map (fun i : Nat => (i : Int))).filter (fun x => decide (x ∉ C))).length ≤ j := by
      refine Nat.le_trans (List.length_filter_le _ _) ?_
      simp
    by_cases hm : (j : Int) ∈ C
    · rw [decide_eq_true hm] at g3j
      rw [if_pos hm, List.append_nil] at hls
      have G3 := Lib.hid g3; have HLS := Lib.hid hls; have HM := Lib.hid hm; have HLEN := Lib.hid hlen
      clear g3 hls hm hlen
      go_wp2_with fail
      go_quiet (fail)
      go_wp2_with fail
      go_roundw
      case rel => exact ⟨j + 1, by omega, by go_num, Lib.hid (by rw [HLS.out]; exact hp.out.drewN _)⟩
      case measure => simp [intOf]; omega
    · rw [decide_eq_false hm] at g3j
      rw [if_neg hm] at hls
      have fin : ∀ (v' : Value) (w' : World), Own w (Sl 3 1 v' ((((List.range j).map (fun i : Nat => (i : Int))).filter (fun x => decide (x ∉ C))).length + 1) ((((List.range j).map (fun i : Nat => (i : Int))).filter (fun x => decide (x ∉ C))).map (Value.int .i64) ++ [Value.int .i64 (j : Int)]) * (RlO q l (.slice ad W cap) * (LdP p l * (Tri vb [x, (r : Int), z] * emp)))) w' → Own w (IntSl v' (((List.range (j + 1)).map (fun i : Nat => (i : Int))).filter (fun x => decide (x ∉ C))) * (RlO q l (.slice ad W cap) * (LdP p l * (Tri vb [x, (r : Int), z] * emp)))) w' := fun v' w' h => by
        rw [hls]
        unfold IntSl
        rw [List.map_append, List.length_append]
        exact h
      obtain ⟨LL, hLL⟩ : ∃ L, L = ((List.range j).map (fun i : Nat => (i : Int))).filter (fun x => decide (x ∉ C)) := ⟨_, rfl⟩
      have hp2 := hp.out
      rw [← hLL] at fin hp2 hlen
      have HP2 := Lib.hid hp2
      have G3 := Lib.hid g3; have HLS := Lib.hid hls; have HM := Lib.hid hm; have FIN := Lib.hid fin; have HLL := Lib.hid hLL
      clear g3 hls hm fin hLL
      clear hp2 hp
      go_wp2_with fail
      go_quiet (fail)
      go_wp2_with (at_builtin; refine wpList_app rfl _ _ 22 rfl 3 1 8 _ info_int Tryd.underlying22 rfl (by decide) rfl (((HP2.out.drewN _).alloc' _)) rfl (by rfl) (Rd_lit (by simp) (by unfold maxLen; omega)) (by intro u hu; simp at hu; subst hu; rfl) (by unfold maxLen; omega) (by omega) ?_; intro v' w' hown; have HN := Lib.hid hown; clear hown)
      go_wp2_with fail
      go_roundw
      case rel => exact ⟨j + 1, by omega, by go_num, Lib.hid (FIN.out _ _ HN.out)⟩
      case measure => simp [intOf]; omega
noncomputable def lqHeard_code : Code := ((Tryd.f10.body.bind (findIf 230)).getD .skip)
set_option maxRecDepth 1000000 in
set_option maxHeartbeats 4000000 in
theorem lqHeard {Q : Exit → Act → World → Prop} {u0 u1 u2 u3 u4 u5 u6 u7 u8 u10 u12 u13 u14 u15 u16 u17 u18 u19 u20 u21 u22 u24 u25 u26 u27 u28 u29 u30 u31 u32 u33 u34 u35 u36 u37 u38 u39 u40 u41 u42 u43 u44 u45 u46 u47 u48 u49 u50 u51 u52 u53 u54 u55 u56 u57 u58 u59 u60 u61 u62 u63 u64 u65 u66 u67 u68 u69 u70 u71 u72 u73 u74 u75 u76 u77 u78 u79 u80 u81 u82 u83 u84 u85 u86 u87 u88 u89 u90 u91 u92 u93 u94 u95 u96 u97 u98 u99 u100 u101 u102 u103 u104 u105 u106 u107 u108 u109 u110 u111 u112 u113 u114 u115 u116 u117 u118 u119 u120 u121 u122 u123 u124 u125 u126 u127 u128 u129 u130 u131 u132 u133 u134 u135 u136 u137 u138 u139 u140 u141 u142 u143 u144 u145 u146 u147 u148 u149 u150 u151 u152 u153 u154 u155 u156 u157 u158 u159 u160 u161 u162 u163 u164 u165 u166 u167 u168 u169 u170 u171 u172 u173 u174 u175 u176 u177 u178 u179 u180 u181 u182 u183 u184 u185 u186 u187 u188 u189 u190 u191 u192 u193 u194 u195 u196 u197 u198 u199 u200 u201 u202 u203 u204 u205 u206 u207 u208 u209 u210 u211 u212 u213 u214 u215 u216 u217 u218 u219 u220 u221 u222 u223 u224 u225 u226 u227 u228 u229 u231 u232 u233 u234 u235 u236 u237 u238 u239 u240 u241 u242 u243 u244 u245 u246 u247 u248 u249 u250 u251 u252 u253 u254 u255 u256 u257 u258 u259 u260 u261 u262 u263 u264 u265 u266 u267 u268 u269 u270 u271 u272 u273 u274 u275 u276 u277 u278 u279 : Value} {w2 : World} (w : World) (N p q vb W cap : Nat) (x y z : Int) (l : Ld) (ad : Option Addr) (inn : Bool) (vl : Value) (LL : List Int) (hN2 : N ≤ 5) (HI : Hid (LdInv N l)) (HINN : Hid (inn = inR y N)) (HWD : Hid (W = l.words.length)) (hW30 : W ≤ 30) (hcp1 : W ≤ cap) (HN2 : Hid (Own w (IntSl vl LL * (RlO q l (.slice ad W cap) * (LdP p l * (Tri vb [x, y, z] * emp)))) w2))
    (hK : ∀ (v23 v231 v232 v233 v234 v235 v236 v237 v238 v239 : Value) (wx : World), ((∃ n, wx = w2.drewN n) ∧ (∃ ad' n' cap', v23 = .slice ad' n' cap') ∧ (∀ w', Ints w' (.slice ad W cap) l.words → Ints w' v23 (ldHeard l y))) → Q .normal ⟨List.toArray (u0 :: u1 :: u2 :: u3 :: u4 :: u5 :: u6 :: u7 :: u8 :: (.pointer (some ⟨q, 0, none⟩)) :: u10 :: (.pointer (some ⟨vb, 0, none⟩)) :: u12 :: u13 :: u14 :: u15 :: u16 :: u17 :: u18 :: u19 :: u20 :: u21 :: u22 :: v23 :: u24 :: u25 :: u26 :: u27 :: u28 :: u29 :: u30 :: u31 :: u32 :: u33 :: u34 :: u35 :: u36 :: u37 :: u38 :: u39 :: u40 :: u41 :: u42 :: u43 :: u44 :: u45 :: u46 :: u47 :: u48 :: u49 :: u50 :: u51 :: u52 :: u53 :: u54 :: u55 :: u56 :: u57 :: u58 :: u59 :: u60 :: u61 :: u62 :: u63 :: u64 :: u65 :: u66 :: u67 :: u68 :: u69 :: u70 :: u71 :: u72 :: u73 :: u74 :: u75 :: u76 :: u77 :: u78 :: u79 :: u80 :: u81 :: u82 :: u83 :: u84 :: u85 :: u86 :: u87 :: u88 :: u89 :: u90 :: u91 :: u92 :: u93 :: u94 :: u95 :: u96 :: u97 :: u98 :: u99 :: u100 :: u101 :: u102 :: u103 :: u104 :: u105 :: u106 :: u107 :: u108 :: u109 :: u110 :: u111 :: u112 :: u113 :: u114 :: u115 :: u116 :: u117 :: u118 :: u119 :: u120 :: u121 :: u122 :: u123 :: u124 :: u125 :: u126 :: u127 :: u128 :: u129 :: u130 :: u131 :: u132 :: u133 :: u134 :: u135 :: u136 :: u137 :: u138 :: u139 :: u140 :: u141 :: u142 :: u143 :: u144 :: u145 :: u146 :: u147 :: u148 :: u149 :: u150 :: u151 :: u152 :: u153 :: u154 :: u155 :: u156 :: u157 :: u158 :: u159 :: u160 :: u161 :: u162 :: u163 :: u164 :: u165 :: u166 :: u167 :: u168 :: u169 :: u170 :: u171 :: u172 :: u173 :: u174 :: u175 :: u176 :: u177 :: u178 :: u179 :: u180 :: u181 :: u182 :: u183 :: u184 :: u185 :: u186 :: u187 :: u188 :: u189 :: u190 :: u191 :: u192 :: u193 :: u194 :: u195 :: u196 :: u197 :: u198 :: u199 :: u200 :: u201 :: u202 :: u203 :: u204 :: u205 :: u206 :: u207 :: u208 :: u209 :: u210 :: u211 :: u212 :: u213 :: u214 :: u215 :: u216 :: u217 :: u218 :: u219 :: u220 :: u221 :: u222 :: u223 :: u224 :: u225 :: u226 :: u227 :: u228 :: u229 :: (.bool inn) :: v231 :: v232 :: v233 :: v234 :: v235 :: v236 :: v237 :: v238 :: v239 :: u240 :: u241 :: u242 :: u243 :: u244 :: u245 :: u246 :: u247 :: u248 :: u249 :: u250 :: u251 :: u252 :: u253 :: u254 :: u255 :: u256 :: u257 :: u258 :: u259 :: u260 :: u261 :: u262 :: u263 :: u264 :: u265 :: u266 :: u267 :: u268 :: u269 :: u270 :: u271 :: u272 :: u273 :: u274 :: u275 :: u276 :: u277 :: u278 :: u279 :: []), []⟩ wx) :
    Code.wp Tryd.prog lqHeard_code Q ⟨List.toArray (u0 :: u1 :: u2 :: u3 :: u4 :: u5 :: u6 :: u7 :: u8 :: (.pointer (some ⟨q, 0, none⟩)) :: u10 :: (.pointer (some ⟨vb, 0, none⟩)) :: u12 :: u13 :: u14 :: u15 :: u16 :: u17 :: u18 :: u19 :: u20 :: u21 :: u22 :: (.slice none 0 0) :: u24 :: u25 :: u26 :: u27 :: u28 :: u29 :: u30 :: u31 :: u32 :: u33 :: u34 :: u35 :: u36 :: u37 :: u38 :: u39 :: u40 :: u41 :: u42 :: u43 :: u44 :: u45 :: u46 :: u47 :: u48 :: u49 :: u50 :: u51 :: u52 :: u53 :: u54 :: u55 :: u56 :: u57 :: u58 :: u59 :: u60 :: u61 :: u62 :: u63 :: u64 :: u65 :: u66 :: u67 :: u68 :: u69 :: u70 :: u71 :: u72 :: u73 :: u74 :: u75 :: u76 :: u77 :: u78 :: u79 :: u80 :: u81 :: u82 :: u83 :: u84 :: u85 :: u86 :: u87 :: u88 :: u89 :: u90 :: u91 :: u92 :: u93 :: u94 :: u95 :: u96 :: u97 :: u98 :: u99 :: u100 :: u101 :: u102 :: u103 :: u104 :: u105 :: u106 :: u107 :: u108 :: u109 :: u110 :: u111 :: u112 :: u113 :: u114 :: u115 :: u116 :: u117 :: u118 :: u119 :: u120 :: u121 :: u122 :: u123 :: u124 :: u125 :: u126 :: u127 :: u128 :: u129 :: u130 :: u131 :: u132 :: u133 :: u134 :: u135 :: u136 :: u137 :: u138 :: u139 :: u140 :: u141 :: u142 :: u143 :: u144 :: u145 :: u146 :: u147 :: u148 :: u149 :: u150 :: u151 :: u152 :: u153 :: u154 :: u155 :: u156 :: u157 :: u158 :: u159 :: u160 :: u161 :: u162 :: u163 :: u164 :: u165 :: u166 :: u167 :: u168 :: u169 :: u170 :: u171 :: u172 :: u173 :: u174 :: u175 :: u176 :: u177 :: u178 :: u179 :: u180 :: u181 :: u182 :: u183 :: u184 :: u185 :: u186 :: u187 :: u188 :: u189 :: u190 :: u191 :: u192 :: u193 :: u194 :: u195 :: u196 :: u197 :: u198 :: u199 :: u200 :: u201 :: u202 :: u203 :: u204 :: u205 :: u206 :: u207 :: u208 :: u209 :: u210 :: u211 :: u212 :: u213 :: u214 :: u215 :: u216 :: u217 :: u218 :: u219 :: u220 :: u221 :: u222 :: u223 :: u224 :: u225 :: u226 :: u227 :: u228 :: u229 :: (.bool inn) :: u231 :: u232 :: u233 :: u234 :: u235 :: u236 :: u237 :: u238 :: u239 :: u240 :: u241 :: u242 :: u243 :: u244 :: u245 :: u246 :: u247 :: u248 :: u249 :: u250 :: u251 :: u252 :: u253 :: u254 :: u255 :: u256 :: u257 :: u258 :: u259 :: u260 :: u261 :: u262 :: u263 :: u264 :: u265 :: u266 :: u267 :: u268 :: u269 :: u270 :: u271 :: u272 :: u273 :: u274 :: u275 :: u276 :: u277 :: u278 :: u279 :: []), []⟩ w2 := by
  conv => arg 2; whnf
  have HK := Lib.hid hK
  clear hK
  cases inn
  · have hla : ldHeard l y = [] := by unfold ldHeard; rw [HI.out.len, if_neg (by rw [← HINN.out]; simp)]
    have HLA := Lib.hid hla
    clear hla
    go_wp2_with fail
    apply HK.out
    exact ⟨⟨0, rfl⟩, ⟨_, _, _, rfl⟩, fun w' _ => by rw [HLA.out]; exact Ints_nil w'⟩
  have hin : inR y N = true := HINN.out.symm
  have hy : 0 ≤ y ∧ y < (N : Int) := by simpa [inR] using hin
  obtain ⟨r, rfl⟩ := Int.eq_ofNat_of_zero_le hy.1
  have hrN : r < N := by omega
  have hrl : r < l.mem.length := by rw [HI.out.len]; exact hrN
  have i0 : (0 : Int) ≤ (r : Int) := by omega
  have i5 : (r : Int) < 5 := by omega
  have hlen : inR (r : Int) l.mem.length = true := by rw [HI.out.len]; exact hin
  have h1 := HN2.out.drop.rl_facts
  have d1 := (HN2.out.perm (show _ = Tri vb [x, (r : Int), z] * (IntSl vl LL * (RlO q l (.slice ad W cap) * (LdP p l * emp))) by ac_rfl)).tri_cell 1 (by simp)
  simp only [List.getElem_cons_succ, List.getElem_cons_zero] at d1
  have hf := HI.out.fit.2.2 _ (ldGet_mem hlen)
  have hh := HI.out.had _ (ldGet_mem hlen)
  obtain ⟨h0, hh0⟩ : ∃ h, h = (ldGet l r).2 := ⟨_, rfl⟩
  rw [← hh0] at hf hh
  rw [← HWD.out] at hf
  have hfW : h0 ≤ W := hf.1
  have g1 := h1.2.1
  have gr := fun k hk => h1.2.2.1 r k (by omega) hk
  rw [← rl_ad hrl] at gr
  have hsl := cut_back (P := Tryd.prog) (e := 3) Tryd.underlying22 int_size1 (ad := ad) hfW hcp1
  have HGR := Lib.hid gr
  have H1 := Lib.hid h1; have HH := Lib.hid hh; have HF := Lib.hid hf; have HH0 := Lib.hid hh0; have HLEN := Lib.hid hlen; have HIN := Lib.hid hin
  clear h1 hh hf hh0 hlen hin
  clear gr hy
  go_wp2_with fail
  go_quiet ((go_at_call 47; exact quiet_same (refHeard_any q r W h0 cap ad (ldGet l r).1 _ (by omega) (by omega) (show (w2.drewN _).cell? ⟨q, 1, none⟩ = some (.slice ad W cap) from g1) (fun k hk => show (w2.drewN _).cell? ⟨q, 2 + r * 31 + k, none⟩ = _ from HGR.out k hk) hfW HH.out.1 (.inr HH.out.2))))
  go_wp2_with fail
  apply HK.out
  refine ⟨⟨_, rfl⟩, ⟨_, _, _, rfl⟩, fun w' hi => ?_⟩
  have hm := Ints.front hi hfW
  unfold ldHeard
  rw [if_pos HLEN.out, ← HH0.out]
  exact hm
noncomputable def lqSwitch_code : Code := ((Tryd.f10.body.bind (findIf 96)).getD .skip)
set_option maxRecDepth 1000000 in
set_option maxHeartbeats 4000000 in
theorem lqSwitch {Q : Exit → Act → World → Prop} {u0 u1 u2 u3 u4 u7 u8 u10 u12 u14 u15 u16 u17 u18 u19 u20 u21 u22 u23 u24 u25 u26 u27 u28 u29 u30 u31 u32 u33 u34 u35 u36 u37 u38 u39 u40 u41 u42 u43 u44 u45 u46 u47 u48 u49 u50 u51 u52 u53 u54 u55 u56 u57 u58 u59 u60 u61 u62 u63 u64 u65 u66 u67 u68 u69 u70 u71 u72 u73 u74 u75 u76 u77 u78 u79 u80 u81 u82 u83 u84 u85 u86 u87 u88 u89 u90 u91 u92 u93 u94 u95 u97 u98 u99 u100 u101 u102 u103 u104 u105 u106 u107 u108 u109 u110 u111 u112 u113 u114 u115 u116 u117 u118 u119 u120 u121 u122 u123 u124 u125 u126 u127 u128 u129 u130 u131 u132 u133 u134 u135 u136 u137 u138 u139 u140 u141 u142 u143 u144 u145 u146 u147 u148 u149 u150 u151 u152 u153 u154 u155 u156 u157 u158 u159 u160 u161 u162 u163 u164 u165 u166 u167 u168 u169 u170 u171 u172 u173 u174 u175 u176 u177 u178 u179 u180 u181 u182 u183 u184 u185 u186 u187 u188 u189 u190 u191 u192 u193 u194 u195 u196 u197 u198 u199 u200 u201 u202 u203 u204 u205 u206 u207 u208 u209 u210 u211 u212 u213 u214 u215 u216 u217 u218 u219 u220 u221 u222 u223 u224 u225 u226 u227 u228 u229 u230 u231 u232 u233 u234 u235 u236 u237 u238 u239 u240 u241 u242 u243 u244 u245 u246 u247 u248 u249 u250 u251 u252 u253 u254 u255 u256 u257 u258 u259 u260 u261 u262 u263 u264 u265 u266 u267 u268 u269 u270 u271 u272 u273 u274 u275 u276 u277 u278 u279 : Value} {wc : World} (w : World) (N p q vb : Nat) (x y z : Int) (l : Ld) (inn B : Bool) (HG : Hid (As.Handle w)) (hN2 : N ≤ 5) (HI : Hid (LdInv N l)) (HINN : Hid (inn = inR y N)) (HT : Hid (Own w (Tri vb [x, y, z] * (LdP p l * (RlP q l * emp))) wc))
    (hK : ∀ (v5 v8 v14 v15 v16 v17 v18 v19 v20 v21 v97 v98 v99 v100 v101 v102 v103 v104 v105 v106 v107 v108 v109 v110 v111 v112 v113 v114 v115 v116 v117 v118 v119 v120 v121 v122 v123 v124 v125 v126 v127 v128 v129 v130 v131 v132 v133 v134 v135 v136 v137 v138 v139 v140 v141 v142 v143 v144 v145 v146 v147 v148 v149 v150 v151 v152 v153 v154 v155 v156 v157 v158 v159 v160 v161 v162 v163 v164 v165 v166 v167 v168 v169 v170 v171 v172 v173 v174 v175 v176 v177 v178 v179 v180 v181 v182 v183 v184 v185 v186 v187 v188 v189 v190 v191 v192 v193 v194 v195 v196 v197 v198 v199 v200 v201 : Value) (wx : World), (LqC w N p q vb x y z v8 wx) → Q .normal ⟨List.toArray (u0 :: u1 :: u2 :: u3 :: u4 :: v5 :: (.pointer (some ⟨p, 0, none⟩)) :: u7 :: v8 :: (.pointer (some ⟨q, 0, none⟩)) :: u10 :: (.pointer (some ⟨vb, 0, none⟩)) :: u12 :: (.bool inn) :: v14 :: v15 :: v16 :: v17 :: v18 :: v19 :: v20 :: v21 :: u22 :: u23 :: u24 :: u25 :: u26 :: u27 :: u28 :: u29 :: u30 :: u31 :: u32 :: u33 :: u34 :: u35 :: u36 :: u37 :: u38 :: u39 :: u40 :: u41 :: u42 :: u43 :: u44 :: u45 :: u46 :: u47 :: u48 :: u49 :: u50 :: u51 :: u52 :: u53 :: u54 :: u55 :: u56 :: u57 :: u58 :: u59 :: u60 :: u61 :: u62 :: u63 :: u64 :: u65 :: u66 :: u67 :: u68 :: u69 :: u70 :: u71 :: u72 :: u73 :: u74 :: u75 :: u76 :: u77 :: u78 :: u79 :: u80 :: u81 :: u82 :: u83 :: u84 :: u85 :: u86 :: u87 :: u88 :: u89 :: u90 :: u91 :: u92 :: u93 :: u94 :: u95 :: (.bool B) :: v97 :: v98 :: v99 :: v100 :: v101 :: v102 :: v103 :: v104 :: v105 :: v106 :: v107 :: v108 :: v109 :: v110 :: v111 :: v112 :: v113 :: v114 :: v115 :: v116 :: v117 :: v118 :: v119 :: v120 :: v121 :: v122 :: v123 :: v124 :: v125 :: v126 :: v127 :: v128 :: v129 :: v130 :: v131 :: v132 :: v133 :: v134 :: v135 :: v136 :: v137 :: v138 :: v139 :: v140 :: v141 :: v142 :: v143 :: v144 :: v145 :: v146 :: v147 :: v148 :: v149 :: v150 :: v151 :: v152 :: v153 :: v154 :: v155 :: v156 :: v157 :: v158 :: v159 :: v160 :: v161 :: v162 :: v163 :: v164 :: v165 :: v166 :: v167 :: v168 :: v169 :: v170 :: v171 :: v172 :: v173 :: v174 :: v175 :: v176 :: v177 :: v178 :: v179 :: v180 :: v181 :: v182 :: v183 :: v184 :: v185 :: v186 :: v187 :: v188 :: v189 :: v190 :: v191 :: v192 :: v193 :: v194 :: v195 :: v196 :: v197 :: v198 :: v199 :: v200 :: v201 :: u202 :: u203 :: u204 :: u205 :: u206 :: u207 :: u208 :: u209 :: u210 :: u211 :: u212 :: u213 :: u214 :: u215 :: u216 :: u217 :: u218 :: u219 :: u220 :: u221 :: u222 :: u223 :: u224 :: u225 :: u226 :: u227 :: u228 :: u229 :: u230 :: u231 :: u232 :: u233 :: u234 :: u235 :: u236 :: u237 :: u238 :: u239 :: u240 :: u241 :: u242 :: u243 :: u244 :: u245 :: u246 :: u247 :: u248 :: u249 :: u250 :: u251 :: u252 :: u253 :: u254 :: u255 :: u256 :: u257 :: u258 :: u259 :: u260 :: u261 :: u262 :: u263 :: u264 :: u265 :: u266 :: u267 :: u268 :: u269 :: u270 :: u271 :: u272 :: u273 :: u274 :: u275 :: u276 :: u277 :: u278 :: u279 :: []), []⟩ wx) :
    Code.wp Tryd.prog lqSwitch_code Q ⟨List.toArray (u0 :: u1 :: u2 :: u3 :: u4 :: (.int .i64 0) :: (.pointer (some ⟨p, 0, none⟩)) :: u7 :: u8 :: (.pointer (some ⟨q, 0, none⟩)) :: u10 :: (.pointer (some ⟨vb, 0, none⟩)) :: u12 :: (.bool inn) :: u14 :: u15 :: u16 :: u17 :: u18 :: u19 :: u20 :: u21 :: u22 :: u23 :: u24 :: u25 :: u26 :: u27 :: u28 :: u29 :: u30 :: u31 :: u32 :: u33 :: u34 :: u35 :: u36 :: u37 :: u38 :: u39 :: u40 :: u41 :: u42 :: u43 :: u44 :: u45 :: u46 :: u47 :: u48 :: u49 :: u50 :: u51 :: u52 :: u53 :: u54 :: u55 :: u56 :: u57 :: u58 :: u59 :: u60 :: u61 :: u62 :: u63 :: u64 :: u65 :: u66 :: u67 :: u68 :: u69 :: u70 :: u71 :: u72 :: u73 :: u74 :: u75 :: u76 :: u77 :: u78 :: u79 :: u80 :: u81 :: u82 :: u83 :: u84 :: u85 :: u86 :: u87 :: u88 :: u89 :: u90 :: u91 :: u92 :: u93 :: u94 :: u95 :: (.bool B) :: u97 :: u98 :: u99 :: u100 :: u101 :: u102 :: u103 :: u104 :: u105 :: u106 :: u107 :: u108 :: u109 :: u110 :: u111 :: u112 :: u113 :: u114 :: u115 :: u116 :: u117 :: u118 :: u119 :: u120 :: u121 :: u122 :: u123 :: u124 :: u125 :: u126 :: u127 :: u128 :: u129 :: u130 :: u131 :: u132 :: u133 :: u134 :: u135 :: u136 :: u137 :: u138 :: u139 :: u140 :: u141 :: u142 :: u143 :: u144 :: u145 :: u146 :: u147 :: u148 :: u149 :: u150 :: u151 :: u152 :: u153 :: u154 :: u155 :: u156 :: u157 :: u158 :: u159 :: u160 :: u161 :: u162 :: u163 :: u164 :: u165 :: u166 :: u167 :: u168 :: u169 :: u170 :: u171 :: u172 :: u173 :: u174 :: u175 :: u176 :: u177 :: u178 :: u179 :: u180 :: u181 :: u182 :: u183 :: u184 :: u185 :: u186 :: u187 :: u188 :: u189 :: u190 :: u191 :: u192 :: u193 :: u194 :: u195 :: u196 :: u197 :: u198 :: u199 :: u200 :: u201 :: u202 :: u203 :: u204 :: u205 :: u206 :: u207 :: u208 :: u209 :: u210 :: u211 :: u212 :: u213 :: u214 :: u215 :: u216 :: u217 :: u218 :: u219 :: u220 :: u221 :: u222 :: u223 :: u224 :: u225 :: u226 :: u227 :: u228 :: u229 :: u230 :: u231 :: u232 :: u233 :: u234 :: u235 :: u236 :: u237 :: u238 :: u239 :: u240 :: u241 :: u242 :: u243 :: u244 :: u245 :: u246 :: u247 :: u248 :: u249 :: u250 :: u251 :: u252 :: u253 :: u254 :: u255 :: u256 :: u257 :: u258 :: u259 :: u260 :: u261 :: u262 :: u263 :: u264 :: u265 :: u266 :: u267 :: u268 :: u269 :: u270 :: u271 :: u272 :: u273 :: u274 :: u275 :: u276 :: u277 :: u278 :: u279 :: []), []⟩ wc := by
  conv => arg 2; whnf
  have HK := Lib.hid hK
  clear hK
  have HL := Lib.hid HI.out.fit
  obtain ⟨ad, cap, hcp1, hcp2, hrl⟩ := (HT.out.perm (show _ = RlP q l * (LdP p l * (Tri vb [x, y, z] * emp)) by ac_rfl)).rl_open
  obtain ⟨W, hWd⟩ : ∃ W, W = l.words.length := ⟨_, rfl⟩
  have hW30 : W ≤ 30 := by rw [hWd]; exact HI.out.le
  rw [← hWd] at hrl hcp1
  have HRL := Lib.hid hrl
  clear hrl
  cases B
  rotate_left
  · obtain ⟨tb, htb⟩ : ∃ b, b = wc.heap.size := ⟨_, rfl⟩
    have hn1 := HRL.out.alloc (.cells #[.int .i64 0, .int .i64 0] 93)
    obtain ⟨w1, hw1⟩ : ∃ w1, w1 = wc.alloc (.cells #[.int .i64 0, .int .i64 0] 93) := ⟨_, rfl⟩
    rw [← htb, ← hw1] at hn1
    have hn2 : Own w (Pr2 tb 0 0 * (RlO q l (.slice ad W cap) * (LdP p l * (Tri vb [x, y, z] * emp)))) w1 := hn1
    have hwi : Ints w1 (.slice ad W cap) l.words := IntSl_reads (fun x hx => by have := HL.out.2.1 x hx; unfold I64; omega) _ hn2.drop.rl_sl
    obtain ⟨g1, g2, g3, g4, g5, g6, g7, g8⟩ := lq_facts hn2
    have HN1 := Lib.hid hn2
    obtain ⟨was, hwas⟩ : ∃ b, decide (z ∈ l.words) = b := ⟨_, rfl⟩
    obtain ⟨zb, hzb⟩ : ∃ b, b = !isWord z := ⟨_, rfl⟩
    have HWI := Lib.hid hwi; have HWAS := Lib.hid hwas; have HWD := Lib.hid hWd; have HZB := Lib.hid hzb
    clear hwi hwas hWd hzb
    clear hn1 hn2
    go_upto_region 21 with fail
    rw [← htb, ← hw1]
    clear htb hw1
    go_wp2_with fail
    go_quiet ((go_at_call 45; exact quiet_same (refIn_any _ _ _ _ (HWI.out.heap rfl))))
    rw [HWAS.out]
    have HN2 := Lib.hid (HN1.out.drewN nq)
    obtain ⟨w2, hw2⟩ : ∃ w2, w2 = w1.drewN nq := ⟨_, rfl⟩
    rw [← hw2] at HN2 ⊢
    clear hw2 g1 g2 g3 g4 g5 g6 g7 g8
    have g4 := (lq_facts HN2.out).2.2.2.1
    go_upto_region 22 with fail
    go_cut [111] from 104 to 111 (fun c wx => LqB zb w2 c wx)
    case first =>
      rcases (show (isWord z = false ∧ z < 1) ∨ (isWord z = false ∧ ¬ z < 1 ∧ 30 < z) ∨ (isWord z = true ∧ ¬ z < 1 ∧ ¬ 30 < z) by by_cases h0 : z < 1 <;> by_cases h9 : 30 < z <;> simp [isWord] <;> omega) with ⟨hz, z1⟩ | ⟨hz, z1, z2⟩ | ⟨hz, z1, z2⟩
      all_goals
        have HZ := Lib.hid hz
        clear hz
        go_wp2_with fail
        go_meet
        exact ⟨by rw [HZB.out, HZ.out]; rfl, rfl⟩
    case rest =>
    obtain ⟨rfl, rfl⟩ := hcut
    go_upto_if 111 with fail
    go_cut [5] from 112 to 132 (fun e wx => LqD w p q vb tb x y z l e wx)
    case first =>
      refine lqSay w p q vb tb W cap x y z l ad was zb HZB HWAS HWD hW30 HN2 ?_
      intros
      go_step
      go_step
      go_meet
      assumption
    case rest =>
    obtain ⟨rfl, hD⟩ := hcut
    have HD := Lib.hid hD
    clear hD g4 HN2
    obtain ⟨E, hE⟩ : ∃ E, E = ldSayErr l z := ⟨_, rfl⟩
    obtain ⟨oa, hoa⟩ : ∃ E, E = (ldSayOut l z).1 := ⟨_, rfl⟩
    obtain ⟨ob, hob⟩ : ∃ E, E = (ldSayOut l z).2 := ⟨_, rfl⟩
    rw [← hE]
    have hD := HD.out
    rw [← hoa, ← hob] at hD
    have HD2 := Lib.hid hD
    have d2' := (hD.perm (show _ = Tri vb [x, y, z] * (Pr2 tb oa ob * (RlP q (ldSay l z) * (LdP p l * emp))) by ac_rfl)).tri_cell 2 (by simp)
    simp only [List.getElem_cons_succ, List.getElem_cons_zero] at d2'
    have HE := Lib.hid hE; have HOA := Lib.hid hoa; have HOB := Lib.hid hob
    clear hE hoa hob
    clear hD HD
    go_wp2_with fail
    refine (ldSay_any p l z HL.out (HD2.out.perm (show _ = LdP p l * (Pr2 tb oa ob * (RlP q (ldSay l z) * (Tri vb [x, y, z] * emp))) by ac_rfl))).mono ?_
    rintro e w6 ⟨rfl, ho⟩
    rw [← HE.out, ← HOA.out, ← HOB.out]
    have HO6 := Lib.hid (ho.perm (show _ = Pr2 tb oa ob * (LdP p (ldSay l z) * (RlP q (ldSay l z) * (Tri vb [x, y, z] * emp))) by ac_rfl))
    clear ho d2'
    obtain ⟨sb, hsb⟩ : ∃ b, b = w6.heap.size := ⟨_, rfl⟩
    have hn6 := HO6.out.alloc (.cells #[.int .i64 oa, .int .i64 ob] 93)
    obtain ⟨w7, hw7⟩ : ∃ w7, w7 = w6.alloc (.cells #[.int .i64 oa, .int .i64 ob] 93) := ⟨_, rfl⟩
    rw [← hsb, ← hw7] at hn6
    have HN7 := Lib.hid (show Own w (Pr2 sb oa ob * (Pr2 tb oa ob * (LdP p (ldSay l z) * (RlP q (ldSay l z) * (Tri vb [x, y, z] * emp))))) w7 from hn6)
    clear hn6
    go_wp2_with fail
    rw [← hsb, ← hw7]
    clear hsb hw7
    refine (sameErr_any HG.out E (E : Int) HN7.out).mono ?_
    rintro e w8 ⟨rfl, ho⟩
    rw [show ((E : Int) == (E : Int)) = true from beq_self_eq_true _]
    obtain ⟨s1, s2, _⟩ := ho.pr2
    obtain ⟨s3, s4, _⟩ := (ho.perm (star_left_comm _ _ _)).pr2
    have HO8 := Lib.hid ho
    clear ho
    go_wp2_with fail
    apply HK.out
    exact ⟨rfl, _, ldInv_say HI.out z, HO8.out.drop.drop⟩
  · have c1 := HRL.out.rl_facts.2.1
    go_upto_if 148 with fail
    go_cut [5, 18] from 149 to 149 (fun e want wx => LqT w p q vb W x y z l e want wx)
    case first =>
      refine lqTake w N p q vb W cap x y z l ad inn hN2 HI HINN (Lib.hid hWd) hW30 hcp1 hcp2 (Lib.hid (HRL.out.perm (show _ = RlO q l (.slice ad W cap) * (LdP p l * (Tri vb [x, y, z] * emp)) from rfl))) ?_
      intros
      go_step
      go_step
      go_meet
      assumption
    case rest =>
    obtain ⟨rfl, ad2, cap2, ho, hw, ad3, n3, cap3, rfl⟩ := hcut
    have d12 := ho.perm (show _ = Tri vb [x, y, z] * (RlO q (ldTake l y z) (.slice ad2 W cap2) * (LdP p l * emp)) by ac_rfl)
    have d1 := d12.tri_cell 1 (by simp)
    have d2 := d12.tri_cell 2 (by simp)
    simp only [List.getElem_cons_succ, List.getElem_cons_zero] at d1 d2
    obtain ⟨E, hE⟩ : ∃ E, E = ldErr l y z := ⟨_, rfl⟩
    rw [← hE]
    have HO := Lib.hid ho
    have hwi : ∀ x ∈ l.words, I64 x := fun x hx => by have := HL.out.2.1 x hx; unfold I64; omega
    have hout : ∀ x ∈ ldOut l y z, I64 x := fun x hx => hwi x (by
      unfold ldOut at hx
      split at hx
      · exact List.mem_of_mem_take (List.mem_of_mem_drop hx)
      · cases hx)
    obtain ⟨O, hO⟩ : ∃ O, O = ldOut l y z := ⟨_, rfl⟩
    rw [← hO] at hout hw
    have HO_ := Lib.hid hO
    clear hO
    have HE := Lib.hid hE; have HW := Lib.hid hw; have HWD := Lib.hid hWd; have HWI := Lib.hid hwi; have HOUT := Lib.hid hout
    clear hE hw hWd hwi hout
    clear ho d12
    go_wp2_with fail
    refine (ldTake_any p l y z HL.out (HO.out.perm (show _ = LdP p l * (RlO q (ldTake l y z) (.slice ad2 W cap2) * (Tri vb [x, y, z] * emp)) by ac_rfl))).mono ?_
    rintro e w6 ⟨v1, rfl, ho⟩
    rw [← HE.out]
    rw [← HO_.out] at ho
    have HO6 := Lib.hid ho
    clear ho d1 d2
    go_wp2_with fail
    refine (sameErr_any HG.out E (E : Int) HO6.out).mono ?_
    rintro e w8 ⟨rfl, ho⟩
    rw [show ((E : Int) == (E : Int)) = true from beq_self_eq_true _]
    have HO8 := Lib.hid ho
    clear ho HO6
    have hiw : Ints w8 (.slice ad2 W cap2) l.words := by
      have h1 := (HO8.out.perm (show _ = RlO q (ldTake l y z) (.slice ad2 W cap2) * (IntSl v1 O * (LdP p (ldTake l y z) * (Tri vb [x, y, z] * emp))) by ac_rfl)).rl_sl
      rw [ldTake_words] at h1
      exact IntSl_reads HWI.out _ h1
    have HW3 := Lib.hid (HW.out _ hiw)
    clear hiw
    go_wp2_with fail
    refine (sameInts_any v1 (.slice ad3 n3 cap3) O O _ (IntSl_reads HOUT.out _ HO8.out) HW3.out).mono ?_
    rintro e w' ⟨rfl, n6, rfl⟩
    rw [show (O == O) = true from beq_iff_eq.2 rfl]
    go_wp2_with fail
    apply HK.out
    refine ⟨rfl, _, ldInv_take HI.out y z, ?_⟩
    have h2 := (HO8.out.drop.drewN n6).perm (show _ = RlO q (ldTake l y z) (.slice ad2 W cap2) * (LdP p (ldTake l y z) * (Tri vb [x, y, z] * emp)) by ac_rfl)
    exact (h2.rl_close).perm (star_left_comm _ _ _)
end Go.Proofs.YteelldblfmhjlaaDoor
