/- PictureKeeps: a round of the law, and its other parts. -/
import Derived.Test.YtdeeephdojflpaaDoorPicKeepsQ
namespace Go.Proofs.YtdeeephdojflpaaDoor
set_option linter.unusedVariables false
set_option linter.unusedSimpArgs false
open Go.RowKit Go.Maps
noncomputable def pkFill_code : Code := ((Tryd.f13.body.bind (findBlock 4)).getD .skip)
set_option maxRecDepth 1000000 in
set_option maxHeartbeats 4000000 in
theorem pkFill {Q : Exit → Act → World → Prop} {u0 u2 u3 u4 u5 u6 u7 u8 u9 u10 u11 u12 u13 u14 u15 u16 u17 u18 u19 u23 u24 u25 u26 u27 u28 u29 u30 u31 u32 u33 u34 u35 u36 u37 u38 u39 u40 u41 u42 u43 u44 u45 u46 u47 u48 u49 u50 u51 u52 u53 u54 u55 u56 u57 u58 u59 u60 u61 u62 u63 u64 u65 u66 u67 u68 u69 u70 u71 u72 u73 u74 u75 u76 u77 u78 u79 u80 u81 u82 u83 u84 u85 u86 u87 u88 u89 u90 u91 u92 u93 u94 u95 u96 u97 u98 u99 u100 u101 u102 u103 u104 u105 u106 u107 u108 u109 u110 u111 u112 u113 u114 u115 u116 u117 u118 u119 u120 u121 u122 u123 u124 u125 u126 u127 u128 u129 u130 u131 u132 u133 u134 u135 u136 u137 u138 u139 u140 u141 u142 u143 u144 u145 u146 u147 u148 u149 u150 u151 u152 u153 u154 u155 u156 u157 u158 u159 u160 u161 u162 u163 u164 u165 u166 u167 u168 u169 u170 u171 u172 u173 u174 u175 u176 u177 u178 u179 u180 u181 u182 u183 u184 u185 u186 u187 u188 u189 u190 u191 u192 u193 u194 u195 u196 u197 u198 u199 u200 u201 u202 u203 u204 u205 u206 u207 u208 u209 u210 u211 u212 u213 u214 u215 u216 u217 u218 u219 u220 u221 u222 u223 u224 u225 u226 u227 u228 u229 u230 u231 u232 u233 u234 u235 u236 u237 u238 u239 u240 u241 u242 u243 u244 u245 u246 u247 u248 u249 u250 u251 u252 u253 u254 u255 u256 u257 u258 u259 u260 u261 u262 : Value} {w1 : World} (w : World) (R : HProp) (vb k : Nat) (steps : List (List Int)) (row : List Int) (a2 : Addr) (scap rcap : Nat) (rad : Option Addr) (h1 : k < steps.length) (hc1 : steps.length ≤ scap) (hc2 : scap ≤ 9223372036854775807) (HR : Hid (Ints w (.slice rad row.length rcap) row)) (HC : Hid (∀ (w1 : World) (P : HProp), Own w P w1 → w1.cell? (a2.add k) = some (.slice rad row.length rcap))) (HT : Hid (Own w (Nms 113 vb [0, 0, 0, 0] * R) w1))
    (hK : ∀ (v22 v133 v134 v135 v136 v137 v138 v139 v140 v141 v142 v143 v144 v145 v146 v147 v148 v149 v150 v151 v152 v153 v154 : Value) (wx : World), (NmV 113 4 w vb R wx) → Q .normal ⟨List.toArray (u0 :: (.slice (some a2) steps.length scap) :: u2 :: u3 :: u4 :: u5 :: u6 :: u7 :: u8 :: u9 :: u10 :: u11 :: u12 :: u13 :: u14 :: u15 :: u16 :: u17 :: u18 :: u19 :: (.int .i64 (k : Int)) :: (.pointer (some ⟨vb, 0, none⟩)) :: v22 :: u23 :: u24 :: u25 :: u26 :: u27 :: u28 :: u29 :: u30 :: u31 :: u32 :: u33 :: u34 :: u35 :: u36 :: u37 :: u38 :: u39 :: u40 :: u41 :: u42 :: u43 :: u44 :: u45 :: u46 :: u47 :: u48 :: u49 :: u50 :: u51 :: u52 :: u53 :: u54 :: u55 :: u56 :: u57 :: u58 :: u59 :: u60 :: u61 :: u62 :: u63 :: u64 :: u65 :: u66 :: u67 :: u68 :: u69 :: u70 :: u71 :: u72 :: u73 :: u74 :: u75 :: u76 :: u77 :: u78 :: u79 :: u80 :: u81 :: u82 :: u83 :: u84 :: u85 :: u86 :: u87 :: u88 :: u89 :: u90 :: u91 :: u92 :: u93 :: u94 :: u95 :: u96 :: u97 :: u98 :: u99 :: u100 :: u101 :: u102 :: u103 :: u104 :: u105 :: u106 :: u107 :: u108 :: u109 :: u110 :: u111 :: u112 :: u113 :: u114 :: u115 :: u116 :: u117 :: u118 :: u119 :: u120 :: u121 :: u122 :: u123 :: u124 :: u125 :: u126 :: u127 :: u128 :: u129 :: u130 :: u131 :: u132 :: v133 :: v134 :: v135 :: v136 :: v137 :: v138 :: v139 :: v140 :: v141 :: v142 :: v143 :: v144 :: v145 :: v146 :: v147 :: v148 :: v149 :: v150 :: v151 :: v152 :: v153 :: v154 :: u155 :: u156 :: u157 :: u158 :: u159 :: u160 :: u161 :: u162 :: u163 :: u164 :: u165 :: u166 :: u167 :: u168 :: u169 :: u170 :: u171 :: u172 :: u173 :: u174 :: u175 :: u176 :: u177 :: u178 :: u179 :: u180 :: u181 :: u182 :: u183 :: u184 :: u185 :: u186 :: u187 :: u188 :: u189 :: u190 :: u191 :: u192 :: u193 :: u194 :: u195 :: u196 :: u197 :: u198 :: u199 :: u200 :: u201 :: u202 :: u203 :: u204 :: u205 :: u206 :: u207 :: u208 :: u209 :: u210 :: u211 :: u212 :: u213 :: u214 :: u215 :: u216 :: u217 :: u218 :: u219 :: u220 :: u221 :: u222 :: u223 :: u224 :: u225 :: u226 :: u227 :: u228 :: u229 :: u230 :: u231 :: u232 :: u233 :: u234 :: u235 :: u236 :: u237 :: u238 :: u239 :: u240 :: u241 :: u242 :: u243 :: u244 :: u245 :: u246 :: u247 :: u248 :: u249 :: u250 :: u251 :: u252 :: u253 :: u254 :: u255 :: u256 :: u257 :: u258 :: u259 :: u260 :: u261 :: u262 :: []), []⟩ wx) :
    Code.wp Tryd.prog pkFill_code Q ⟨List.toArray (u0 :: (.slice (some a2) steps.length scap) :: u2 :: u3 :: u4 :: u5 :: u6 :: u7 :: u8 :: u9 :: u10 :: u11 :: u12 :: u13 :: u14 :: u15 :: u16 :: u17 :: u18 :: u19 :: (.int .i64 (k : Int)) :: (.pointer (some ⟨vb, 0, none⟩)) :: (.int .i64 0) :: u23 :: u24 :: u25 :: u26 :: u27 :: u28 :: u29 :: u30 :: u31 :: u32 :: u33 :: u34 :: u35 :: u36 :: u37 :: u38 :: u39 :: u40 :: u41 :: u42 :: u43 :: u44 :: u45 :: u46 :: u47 :: u48 :: u49 :: u50 :: u51 :: u52 :: u53 :: u54 :: u55 :: u56 :: u57 :: u58 :: u59 :: u60 :: u61 :: u62 :: u63 :: u64 :: u65 :: u66 :: u67 :: u68 :: u69 :: u70 :: u71 :: u72 :: u73 :: u74 :: u75 :: u76 :: u77 :: u78 :: u79 :: u80 :: u81 :: u82 :: u83 :: u84 :: u85 :: u86 :: u87 :: u88 :: u89 :: u90 :: u91 :: u92 :: u93 :: u94 :: u95 :: u96 :: u97 :: u98 :: u99 :: u100 :: u101 :: u102 :: u103 :: u104 :: u105 :: u106 :: u107 :: u108 :: u109 :: u110 :: u111 :: u112 :: u113 :: u114 :: u115 :: u116 :: u117 :: u118 :: u119 :: u120 :: u121 :: u122 :: u123 :: u124 :: u125 :: u126 :: u127 :: u128 :: u129 :: u130 :: u131 :: u132 :: u133 :: u134 :: u135 :: u136 :: u137 :: u138 :: u139 :: u140 :: u141 :: u142 :: u143 :: u144 :: u145 :: u146 :: u147 :: u148 :: u149 :: u150 :: u151 :: u152 :: u153 :: u154 :: u155 :: u156 :: u157 :: u158 :: u159 :: u160 :: u161 :: u162 :: u163 :: u164 :: u165 :: u166 :: u167 :: u168 :: u169 :: u170 :: u171 :: u172 :: u173 :: u174 :: u175 :: u176 :: u177 :: u178 :: u179 :: u180 :: u181 :: u182 :: u183 :: u184 :: u185 :: u186 :: u187 :: u188 :: u189 :: u190 :: u191 :: u192 :: u193 :: u194 :: u195 :: u196 :: u197 :: u198 :: u199 :: u200 :: u201 :: u202 :: u203 :: u204 :: u205 :: u206 :: u207 :: u208 :: u209 :: u210 :: u211 :: u212 :: u213 :: u214 :: u215 :: u216 :: u217 :: u218 :: u219 :: u220 :: u221 :: u222 :: u223 :: u224 :: u225 :: u226 :: u227 :: u228 :: u229 :: u230 :: u231 :: u232 :: u233 :: u234 :: u235 :: u236 :: u237 :: u238 :: u239 :: u240 :: u241 :: u242 :: u243 :: u244 :: u245 :: u246 :: u247 :: u248 :: u249 :: u250 :: u251 :: u252 :: u253 :: u254 :: u255 :: u256 :: u257 :: u258 :: u259 :: u260 :: u261 :: u262 :: []), []⟩ w1 := by
  conv => arg 2; whnf
  have HK := Lib.hid hK
  clear hK
  go_wp2_with fail
  go_loopw [22] (fun jv w2 => ∃ (j : Nat) (l : List Int), j ≤ 4 ∧ jv = .int .i64 j ∧ Hid (l.length = 4) ∧ Hid (Own w (Nms 113 vb l * R) w2)) (fun jv _ => 4 - (intOf jv).toNat)
  case atStart => exact ⟨0, [0, 0, 0, 0], Nat.zero_le _, rfl, Lib.hid rfl, HT⟩
  case round =>
    obtain ⟨j, l, hj, rfl, hl, hpw⟩ := hrel
    have c1 := HC.out _ _ hpw.out
    have FIN := Lib.hid (show NmV 113 4 w vb R wr from ⟨l, hl.out, hpw.out⟩)
    by_cases h3 : j < row.length
    rotate_left
    · go_wp2_with fail
      apply HK.out
      exact FIN.out
    by_cases h4 : j < 4
    rotate_left
    · go_wp2_with fail
      apply HK.out
      exact FIN.out
    obtain ⟨b3, rfl, hcb⟩ := HR.out.at_later j h3
    have c2 := hcb _ _ hpw.out
    have hjl : j < l.length := by rw [hl.out]; exact h4
    have c3 := hpw.out.nms_cell j hjl
    have c4 := hpw.out.nms_free j
    have HS := Lib.hid (hpw.out.nms_set j row[j])
    have i0 : (0 : Int) ≤ (j : Int) := by omega
    have i3 : (j : Int) < 4 := by omega
    clear hcb
    go_wp2_with fail
    go_roundw
    case rel => exact ⟨j + 1, l.set j row[j], by omega, by go_num, Lib.hid (by rw [List.length_set]; exact hl.out), HS⟩
    case measure => simp [intOf]; omega
noncomputable def pkRound_code : Code := ((Tryd.f13.body.bind (findBlock 3)).getD .skip)
set_option maxRecDepth 1000000 in
set_option maxHeartbeats 4000000 in
theorem pkRound {Q : Exit → Act → World → Prop} {u0 u2 u3 u4 u5 u6 u7 u8 u9 u10 u11 u12 u13 u14 u16 u18 u21 u22 u23 u24 u25 u26 u27 u28 u29 u30 u31 u32 u33 u34 u35 u36 u37 u38 u39 u40 u41 u42 u43 u44 u45 u46 u47 u48 u49 u50 u51 u52 u53 u54 u55 u56 u57 u58 u59 u60 u61 u62 u63 u64 u65 u66 u67 u68 u69 u70 u71 u72 u73 u74 u75 u76 u77 u78 u79 u80 u81 u82 u83 u84 u85 u86 u87 u88 u89 u90 u91 u92 u93 u94 u95 u96 u97 u98 u99 u100 u101 u102 u103 u104 u105 u106 u107 u108 u109 u110 u111 u112 u113 u114 u115 u116 u117 u118 u119 u120 u121 u122 u123 u124 u125 u126 u127 u128 u129 u130 u131 u132 u133 u134 u135 u136 u137 u138 u139 u140 u141 u142 u143 u144 u145 u146 u147 u148 u149 u150 u151 u152 u153 u154 u155 u156 u157 u158 u159 u160 u161 u162 u163 u164 u165 u166 u167 u168 u169 u170 u171 u172 u173 u174 u175 u176 u177 u178 u179 u180 u181 u182 u183 u184 u185 u186 u187 u188 u189 u190 u191 u192 u193 u194 u195 u196 u197 u198 u199 u200 u201 u202 u203 u204 u205 u206 u207 u208 u209 u210 u211 u212 u213 u214 u215 u216 u217 u218 u219 u220 u221 u222 u223 u224 u225 u226 u227 u228 u229 u230 u231 u232 u233 u234 u235 u236 u237 u238 u239 u240 u241 u242 u243 u244 u245 u246 u247 u248 u249 u250 u251 u252 u253 u254 u255 u256 u257 u258 u259 u260 u261 u262 : Value} {w1 : World} (w : World) (hg : As.Handle w) {p mb1 mb2 mb3 gb go gc n : Nat} (all : Int) (hall : all ≤ 5000) (k : Nat) (s : Pic) (steps : List (List Int)) (sad : Option Addr) (scap : Nat) (h1 : k < steps.length) (h2 : k < 150) (hsc1 : steps.length ≤ scap) (hsc2 : scap ≤ 9223372036854775807) (HVS : Hid (Rows2 w (.slice sad steps.length scap) steps)) (hinv : PkI all n s) (HP : Hid (Own w (PicA p mb1 mb2 mb3 gb go gc n s * emp) w1))
    (hK : ∀ (v4 v19 v21 v22 v23 v133 v134 v135 v136 v137 v138 v139 v140 v141 v142 v143 v144 v145 v146 v147 v148 v149 v150 v151 v152 v153 v154 v155 v156 v157 v158 v159 v160 v161 v162 v163 v164 v165 v166 v167 v168 v169 v170 v171 v172 v173 v174 v175 v176 v177 v178 v179 v180 v181 v182 v183 v184 v185 v186 v187 v188 v189 v190 v191 : Value) (wx : World), (∃ s' : Pic, v19 = .bool s'.begun ∧ PkI all n s' ∧ Own w (PicA p mb1 mb2 mb3 gb go gc n s' * emp) wx) → Q .normal ⟨List.toArray (u0 :: (.slice sad steps.length scap) :: u2 :: u3 :: v4 :: u5 :: u6 :: u7 :: u8 :: u9 :: u10 :: u11 :: u12 :: u13 :: u14 :: (.pointer (some ⟨p, 0, none⟩)) :: u16 :: (.int .i64 all) :: u18 :: v19 :: (.int .i64 (k : Int)) :: v21 :: v22 :: v23 :: u24 :: u25 :: u26 :: u27 :: u28 :: u29 :: u30 :: u31 :: u32 :: u33 :: u34 :: u35 :: u36 :: u37 :: u38 :: u39 :: u40 :: u41 :: u42 :: u43 :: u44 :: u45 :: u46 :: u47 :: u48 :: u49 :: u50 :: u51 :: u52 :: u53 :: u54 :: u55 :: u56 :: u57 :: u58 :: u59 :: u60 :: u61 :: u62 :: u63 :: u64 :: u65 :: u66 :: u67 :: u68 :: u69 :: u70 :: u71 :: u72 :: u73 :: u74 :: u75 :: u76 :: u77 :: u78 :: u79 :: u80 :: u81 :: u82 :: u83 :: u84 :: u85 :: u86 :: u87 :: u88 :: u89 :: u90 :: u91 :: u92 :: u93 :: u94 :: u95 :: u96 :: u97 :: u98 :: u99 :: u100 :: u101 :: u102 :: u103 :: u104 :: u105 :: u106 :: u107 :: u108 :: u109 :: u110 :: u111 :: u112 :: u113 :: u114 :: u115 :: u116 :: u117 :: u118 :: u119 :: u120 :: u121 :: u122 :: u123 :: u124 :: u125 :: u126 :: u127 :: u128 :: u129 :: u130 :: u131 :: u132 :: v133 :: v134 :: v135 :: v136 :: v137 :: v138 :: v139 :: v140 :: v141 :: v142 :: v143 :: v144 :: v145 :: v146 :: v147 :: v148 :: v149 :: v150 :: v151 :: v152 :: v153 :: v154 :: v155 :: v156 :: v157 :: v158 :: v159 :: v160 :: v161 :: v162 :: v163 :: v164 :: v165 :: v166 :: v167 :: v168 :: v169 :: v170 :: v171 :: v172 :: v173 :: v174 :: v175 :: v176 :: v177 :: v178 :: v179 :: v180 :: v181 :: v182 :: v183 :: v184 :: v185 :: v186 :: v187 :: v188 :: v189 :: v190 :: v191 :: u192 :: u193 :: u194 :: u195 :: u196 :: u197 :: u198 :: u199 :: u200 :: u201 :: u202 :: u203 :: u204 :: u205 :: u206 :: u207 :: u208 :: u209 :: u210 :: u211 :: u212 :: u213 :: u214 :: u215 :: u216 :: u217 :: u218 :: u219 :: u220 :: u221 :: u222 :: u223 :: u224 :: u225 :: u226 :: u227 :: u228 :: u229 :: u230 :: u231 :: u232 :: u233 :: u234 :: u235 :: u236 :: u237 :: u238 :: u239 :: u240 :: u241 :: u242 :: u243 :: u244 :: u245 :: u246 :: u247 :: u248 :: u249 :: u250 :: u251 :: u252 :: u253 :: u254 :: u255 :: u256 :: u257 :: u258 :: u259 :: u260 :: u261 :: u262 :: []), []⟩ wx) :
    Code.wp Tryd.prog pkRound_code Q ⟨List.toArray (u0 :: (.slice sad steps.length scap) :: u2 :: u3 :: u4 :: u5 :: u6 :: u7 :: u8 :: u9 :: u10 :: u11 :: u12 :: u13 :: u14 :: (.pointer (some ⟨p, 0, none⟩)) :: u16 :: (.int .i64 all) :: u18 :: (.bool s.begun) :: (.int .i64 (k : Int)) :: u21 :: u22 :: u23 :: u24 :: u25 :: u26 :: u27 :: u28 :: u29 :: u30 :: u31 :: u32 :: u33 :: u34 :: u35 :: u36 :: u37 :: u38 :: u39 :: u40 :: u41 :: u42 :: u43 :: u44 :: u45 :: u46 :: u47 :: u48 :: u49 :: u50 :: u51 :: u52 :: u53 :: u54 :: u55 :: u56 :: u57 :: u58 :: u59 :: u60 :: u61 :: u62 :: u63 :: u64 :: u65 :: u66 :: u67 :: u68 :: u69 :: u70 :: u71 :: u72 :: u73 :: u74 :: u75 :: u76 :: u77 :: u78 :: u79 :: u80 :: u81 :: u82 :: u83 :: u84 :: u85 :: u86 :: u87 :: u88 :: u89 :: u90 :: u91 :: u92 :: u93 :: u94 :: u95 :: u96 :: u97 :: u98 :: u99 :: u100 :: u101 :: u102 :: u103 :: u104 :: u105 :: u106 :: u107 :: u108 :: u109 :: u110 :: u111 :: u112 :: u113 :: u114 :: u115 :: u116 :: u117 :: u118 :: u119 :: u120 :: u121 :: u122 :: u123 :: u124 :: u125 :: u126 :: u127 :: u128 :: u129 :: u130 :: u131 :: u132 :: u133 :: u134 :: u135 :: u136 :: u137 :: u138 :: u139 :: u140 :: u141 :: u142 :: u143 :: u144 :: u145 :: u146 :: u147 :: u148 :: u149 :: u150 :: u151 :: u152 :: u153 :: u154 :: u155 :: u156 :: u157 :: u158 :: u159 :: u160 :: u161 :: u162 :: u163 :: u164 :: u165 :: u166 :: u167 :: u168 :: u169 :: u170 :: u171 :: u172 :: u173 :: u174 :: u175 :: u176 :: u177 :: u178 :: u179 :: u180 :: u181 :: u182 :: u183 :: u184 :: u185 :: u186 :: u187 :: u188 :: u189 :: u190 :: u191 :: u192 :: u193 :: u194 :: u195 :: u196 :: u197 :: u198 :: u199 :: u200 :: u201 :: u202 :: u203 :: u204 :: u205 :: u206 :: u207 :: u208 :: u209 :: u210 :: u211 :: u212 :: u213 :: u214 :: u215 :: u216 :: u217 :: u218 :: u219 :: u220 :: u221 :: u222 :: u223 :: u224 :: u225 :: u226 :: u227 :: u228 :: u229 :: u230 :: u231 :: u232 :: u233 :: u234 :: u235 :: u236 :: u237 :: u238 :: u239 :: u240 :: u241 :: u242 :: u243 :: u244 :: u245 :: u246 :: u247 :: u248 :: u249 :: u250 :: u251 :: u252 :: u253 :: u254 :: u255 :: u256 :: u257 :: u258 :: u259 :: u260 :: u261 :: u262 :: []), []⟩ w1 := by
  conv => arg 2; whnf
  have HK := Lib.hid hK
  clear hK
  obtain ⟨a2, rad, rcap, e2, hr, hc⟩ := HVS.out.at_later k h1
  obtain ⟨row, hrow⟩ : ∃ row, row = steps[k] := ⟨_, rfl⟩
  rw [← hrow] at hr hc
  subst e2
  have hok := picOk_of hinv.inv (by omega)
  obtain ⟨bg, hbg⟩ : ∃ b, b = s.begun := ⟨_, rfl⟩
  rw [← hbg]
  obtain ⟨vb, hvb⟩ : ∃ b, b = w1.heap.size := ⟨_, rfl⟩
  have ht := HP.out.alloc (.cells #[.int .i64 0, .int .i64 0, .int .i64 0, .int .i64 0] 113)
  rw [← hvb] at ht
  have HT : Hid (Own w (Nms 113 vb [0, 0, 0, 0] * (PicA p mb1 mb2 mb3 gb go gc n s * emp)) (w1.alloc (.cells #[.int .i64 0, .int .i64 0, .int .i64 0, .int .i64 0] 113))) := Lib.hid ht
  have HSH : Hid (∀ (S : Pic) (w3 : World), PkI all n S → Own w (PicA p mb1 mb2 mb3 gb go gc n S * emp) w3 → Calls Tryd.prog 59 #[.pointer (some ⟨p, 0, none⟩), .int .i64 all] w3 fun e w' => e = .returned (.bool true) ∧ Own w (PicA p mb1 mb2 mb3 gb go gc n S * emp) w') := Lib.hid (fun S w3 hi ho => shows_any hg S all hi.inv (by omega) ho)
  have HR := Lib.hid hr; have HC := Lib.hid hc; have HROW := Lib.hid hrow; have HOK := Lib.hid hok; have HINV := Lib.hid hinv; have HG := Lib.hid hg; have HBG := Lib.hid hbg
  clear hr hc hrow hok hinv hg hbg
  clear ht
  go_upto_block 4 with fail
  rw [← hvb]
  clear hvb
  go_cut [19] from 19 to 19 (fun jv wx => NmV 113 4 w vb (PicA p mb1 mb2 mb3 gb go gc n s * emp) wx ∧ jv = .bool bg)
  case first =>
    refine pkFill w (PicA p mb1 mb2 mb3 gb go gc n s * emp) vb k steps row a2 scap rcap rad h1 hsc1 hsc2 HR HC HT ?_
    intros
    go_step
    go_step
    go_meet
    exact ⟨by assumption, rfl⟩
  case rest =>
  obtain ⟨hT, rfl⟩ := hcut
  obtain ⟨x, y, z, u, hT⟩ := hT.four
  clear HT HP
  have HT := Lib.hid hT
  clear hT
  have d0 : wc.cell? ⟨vb, 0, none⟩ = some (.int .i64 x) := HT.out.nms_cell 0 (by simp)
  have d1 : wc.cell? ⟨vb, 1, none⟩ = some (.int .i64 y) := HT.out.nms_cell 1 (by simp)
  have d2 : wc.cell? ⟨vb, 2, none⟩ = some (.int .i64 z) := HT.out.nms_cell 2 (by simp)
  have d3 : wc.cell? ⟨vb, 3, none⟩ = some (.int .i64 u) := HT.out.nms_cell 3 (by simp)
  by_cases hs02 : x = 0 ∨ x = 1 ∨ x = 2
  · rcases hs02 with rfl | rfl | rfl
    all_goals
      go_wp2_with fail
      refine (pPay_any s y z u HOK.out HT.out.second).mono ?_
      rintro e w3 ⟨rfl, ho⟩
      have HO := Lib.hid ho.second.drop
      clear ho d0 d1 d2 d3
      have hb9 := (pay_keep s y z u).1
      have hi9 := HINV.out.pay y z u
      obtain ⟨S, hS⟩ : ∃ S, S = pcPay s y z u := ⟨_, rfl⟩
      rw [← hS] at HO hb9 hi9
      have HB9 := Lib.hid hb9; have HI9 := Lib.hid hi9; have HS := Lib.hid hS
      clear hb9 hi9 hS
      go_wp2_with fail
      refine (HSH.out S _ HI9.out HO.out).mono ?_
      rintro e w4 ⟨rfl, ho⟩
      have HO4 := Lib.hid ho
      clear ho
      go_wp2_with fail
      apply HK.out
      exact ⟨S, by rw [HB9.out, HBG.out], HI9.out, HO4.out⟩
  by_cases hg35 : x = 3 ∨ x = 4 ∨ x = 5
  · rcases hg35 with rfl | rfl | rfl
    all_goals
      clear hs02
      go_wp2_with fail
      refine (pCome_any s y z HOK.out (picOk_pop HOK.out y z) HT.out.second).mono ?_
      rintro e w3 ⟨rfl, ho⟩
      have HO := Lib.hid ho.second.drop
      clear ho d0 d1 d2 d3
      have hb9 := (HINV.out.inv.come_len y z).2.1
      have hi9 := HINV.out.come y z
      obtain ⟨S, hS⟩ : ∃ S, S = pcCome s y z := ⟨_, rfl⟩
      obtain ⟨q1, hq1⟩ : ∃ q, q = pcComeVal s y z := ⟨_, rfl⟩
      obtain ⟨q2, hq2⟩ : ∃ q, q = errV (pcComeErr s y z) := ⟨_, rfl⟩
      rw [← hq1, ← hq2]
      rw [← hS] at HO hb9 hi9
      have HB9 := Lib.hid hb9; have HI9 := Lib.hid hi9; have HS := Lib.hid hS; have HQ1 := Lib.hid hq1; have HQ2 := Lib.hid hq2
      clear hb9 hi9 hS hq1 hq2
      go_wp2_with fail
      refine (HSH.out S _ HI9.out HO.out).mono ?_
      rintro e w4 ⟨rfl, ho⟩
      have HO4 := Lib.hid ho
      clear ho
      go_wp2_with fail
      apply HK.out
      exact ⟨S, by rw [HB9.out, HBG.out], HI9.out, HO4.out⟩
  have x0 : (x == (0 : Int)) = false := by rw [beq_eq_false_iff_ne]; omega
  have x1 : (x == (1 : Int)) = false := by rw [beq_eq_false_iff_ne]; omega
  have x2 : (x == (2 : Int)) = false := by rw [beq_eq_false_iff_ne]; omega
  have x3 : (x == (3 : Int)) = false := by rw [beq_eq_false_iff_ne]; omega
  have x4 : (x == (4 : Int)) = false := by rw [beq_eq_false_iff_ne]; omega
  have x5 : (x == (5 : Int)) = false := by rw [beq_eq_false_iff_ne]; omega
  clear hs02 hg35 d2 d3
  go_wp2_with fail
  refine (pBegin_any s y HOK.out HT.out.second).mono ?_
  rintro e w3 ⟨rfl, ho⟩
  have HO := Lib.hid ho.second.drop
  clear ho d0 d1 x0 x1 x2 x3 x4 x5
  have hb9 := (begin_keep s y).1
  have hi9 := HINV.out.begin y
  obtain ⟨S, hS⟩ : ∃ S, S = pcBegin s y := ⟨_, rfl⟩
  rw [← hS] at HO hb9 hi9
  by_cases he : pcBeginErr s y = 0
  · rw [decide_eq_true he, Bool.true_or] at hb9
    rw [he, errV0]
    have HB9 := Lib.hid hb9; have HI9 := Lib.hid hi9; have HS := Lib.hid hS; have HE := Lib.hid he
    clear hb9 hi9 hS he
    go_wp2_with fail
    refine (HSH.out S _ HI9.out HO.out).mono ?_
    rintro e w4 ⟨rfl, ho⟩
    have HO4 := Lib.hid ho
    clear ho
    go_wp2_with fail
    apply HK.out
    exact ⟨S, by rw [HB9.out], HI9.out, HO4.out⟩
  · rw [decide_eq_false he, Bool.false_or] at hb9
    obtain ⟨mm, hmm⟩ := errV_some he
    rw [hmm]
    have HB9 := Lib.hid hb9; have HI9 := Lib.hid hi9; have HS := Lib.hid hS; have HE := Lib.hid he; have HMM := Lib.hid hmm
    clear hb9 hi9 hS he hmm
    go_wp2_with fail
    refine (HSH.out S _ HI9.out HO.out).mono ?_
    rintro e w4 ⟨rfl, ho⟩
    have HO4 := Lib.hid ho
    clear ho
    go_wp2_with fail
    apply HK.out
    exact ⟨S, by rw [HB9.out, HBG.out], HI9.out, HO4.out⟩
noncomputable def pkMain_code : Code := ((Tryd.f13.body.bind (findBlock 2)).getD .skip)
set_option maxRecDepth 1000000 in
set_option maxHeartbeats 4000000 in
theorem pkMain {Q : Exit → Act → World → Prop} {u0 u2 u3 u4 u5 u6 u7 u8 u9 u10 u11 u12 u13 u14 u16 u18 u21 u22 u23 u24 u25 u26 u27 u28 u29 u30 u31 u32 u33 u34 u35 u36 u37 u38 u39 u40 u41 u42 u43 u44 u45 u46 u47 u48 u49 u50 u51 u52 u53 u54 u55 u56 u57 u58 u59 u60 u61 u62 u63 u64 u65 u66 u67 u68 u69 u70 u71 u72 u73 u74 u75 u76 u77 u78 u79 u80 u81 u82 u83 u84 u85 u86 u87 u88 u89 u90 u91 u92 u93 u94 u95 u96 u97 u98 u99 u100 u101 u102 u103 u104 u105 u106 u107 u108 u109 u110 u111 u112 u113 u114 u115 u116 u117 u118 u119 u120 u121 u122 u123 u124 u125 u126 u127 u128 u129 u130 u131 u132 u133 u134 u135 u136 u137 u138 u139 u140 u141 u142 u143 u144 u145 u146 u147 u148 u149 u150 u151 u152 u153 u154 u155 u156 u157 u158 u159 u160 u161 u162 u163 u164 u165 u166 u167 u168 u169 u170 u171 u172 u173 u174 u175 u176 u177 u178 u179 u180 u181 u182 u183 u184 u185 u186 u187 u188 u189 u190 u191 u192 u193 u194 u195 u196 u197 u198 u199 u200 u201 u202 u203 u204 u205 u206 u207 u208 u209 u210 u211 u212 u213 u214 u215 u216 u217 u218 u219 u220 u221 u222 u223 u224 u225 u226 u227 u228 u229 u230 u231 u232 u233 u234 u235 u236 u237 u238 u239 u240 u241 u242 u243 u244 u245 u246 u247 u248 u249 u250 u251 u252 u253 u254 u255 u256 u257 u258 u259 u260 u261 u262 : Value} {w1 : World} (w : World) (hg : As.Handle w) {p mb1 mb2 mb3 gb go gc n : Nat} (all : Int) (hall : all ≤ 5000) (s0 : Pic) (hinv : PkI all n s0) (hb0 : s0.begun = false) (steps : List (List Int)) (sad : Option Addr) (scap : Nat) (hsc1 : steps.length ≤ scap) (hsc2 : scap ≤ 9223372036854775807) (HVS : Hid (Rows2 w (.slice sad steps.length scap) steps)) (HP : Hid (Own w (PicA p mb1 mb2 mb3 gb go gc n s0 * emp) w1))
    (hK : ∀ (v4 v19 v20 v21 v22 v23 v123 v124 v125 v126 v127 v128 v129 v130 v131 v132 v133 v134 v135 v136 v137 v138 v139 v140 v141 v142 v143 v144 v145 v146 v147 v148 v149 v150 v151 v152 v153 v154 v155 v156 v157 v158 v159 v160 v161 v162 v163 v164 v165 v166 v167 v168 v169 v170 v171 v172 v173 v174 v175 v176 v177 v178 v179 v180 v181 v182 v183 v184 v185 v186 v187 v188 v189 v190 v191 : Value) (wx : World), (∃ s' : Pic, v19 = .bool s'.begun ∧ PkI all n s' ∧ Own w (PicA p mb1 mb2 mb3 gb go gc n s' * emp) wx) → Q .normal ⟨List.toArray (u0 :: (.slice sad steps.length scap) :: u2 :: u3 :: v4 :: u5 :: u6 :: u7 :: u8 :: u9 :: u10 :: u11 :: u12 :: u13 :: u14 :: (.pointer (some ⟨p, 0, none⟩)) :: u16 :: (.int .i64 all) :: u18 :: v19 :: v20 :: v21 :: v22 :: v23 :: u24 :: u25 :: u26 :: u27 :: u28 :: u29 :: u30 :: u31 :: u32 :: u33 :: u34 :: u35 :: u36 :: u37 :: u38 :: u39 :: u40 :: u41 :: u42 :: u43 :: u44 :: u45 :: u46 :: u47 :: u48 :: u49 :: u50 :: u51 :: u52 :: u53 :: u54 :: u55 :: u56 :: u57 :: u58 :: u59 :: u60 :: u61 :: u62 :: u63 :: u64 :: u65 :: u66 :: u67 :: u68 :: u69 :: u70 :: u71 :: u72 :: u73 :: u74 :: u75 :: u76 :: u77 :: u78 :: u79 :: u80 :: u81 :: u82 :: u83 :: u84 :: u85 :: u86 :: u87 :: u88 :: u89 :: u90 :: u91 :: u92 :: u93 :: u94 :: u95 :: u96 :: u97 :: u98 :: u99 :: u100 :: u101 :: u102 :: u103 :: u104 :: u105 :: u106 :: u107 :: u108 :: u109 :: u110 :: u111 :: u112 :: u113 :: u114 :: u115 :: u116 :: u117 :: u118 :: u119 :: u120 :: u121 :: u122 :: v123 :: v124 :: v125 :: v126 :: v127 :: v128 :: v129 :: v130 :: v131 :: v132 :: v133 :: v134 :: v135 :: v136 :: v137 :: v138 :: v139 :: v140 :: v141 :: v142 :: v143 :: v144 :: v145 :: v146 :: v147 :: v148 :: v149 :: v150 :: v151 :: v152 :: v153 :: v154 :: v155 :: v156 :: v157 :: v158 :: v159 :: v160 :: v161 :: v162 :: v163 :: v164 :: v165 :: v166 :: v167 :: v168 :: v169 :: v170 :: v171 :: v172 :: v173 :: v174 :: v175 :: v176 :: v177 :: v178 :: v179 :: v180 :: v181 :: v182 :: v183 :: v184 :: v185 :: v186 :: v187 :: v188 :: v189 :: v190 :: v191 :: u192 :: u193 :: u194 :: u195 :: u196 :: u197 :: u198 :: u199 :: u200 :: u201 :: u202 :: u203 :: u204 :: u205 :: u206 :: u207 :: u208 :: u209 :: u210 :: u211 :: u212 :: u213 :: u214 :: u215 :: u216 :: u217 :: u218 :: u219 :: u220 :: u221 :: u222 :: u223 :: u224 :: u225 :: u226 :: u227 :: u228 :: u229 :: u230 :: u231 :: u232 :: u233 :: u234 :: u235 :: u236 :: u237 :: u238 :: u239 :: u240 :: u241 :: u242 :: u243 :: u244 :: u245 :: u246 :: u247 :: u248 :: u249 :: u250 :: u251 :: u252 :: u253 :: u254 :: u255 :: u256 :: u257 :: u258 :: u259 :: u260 :: u261 :: u262 :: []), []⟩ wx) :
    Code.wp Tryd.prog pkMain_code Q ⟨List.toArray (u0 :: (.slice sad steps.length scap) :: u2 :: u3 :: u4 :: u5 :: u6 :: u7 :: u8 :: u9 :: u10 :: u11 :: u12 :: u13 :: u14 :: (.pointer (some ⟨p, 0, none⟩)) :: u16 :: (.int .i64 all) :: u18 :: (.bool false) :: (.int .i64 0) :: u21 :: u22 :: u23 :: u24 :: u25 :: u26 :: u27 :: u28 :: u29 :: u30 :: u31 :: u32 :: u33 :: u34 :: u35 :: u36 :: u37 :: u38 :: u39 :: u40 :: u41 :: u42 :: u43 :: u44 :: u45 :: u46 :: u47 :: u48 :: u49 :: u50 :: u51 :: u52 :: u53 :: u54 :: u55 :: u56 :: u57 :: u58 :: u59 :: u60 :: u61 :: u62 :: u63 :: u64 :: u65 :: u66 :: u67 :: u68 :: u69 :: u70 :: u71 :: u72 :: u73 :: u74 :: u75 :: u76 :: u77 :: u78 :: u79 :: u80 :: u81 :: u82 :: u83 :: u84 :: u85 :: u86 :: u87 :: u88 :: u89 :: u90 :: u91 :: u92 :: u93 :: u94 :: u95 :: u96 :: u97 :: u98 :: u99 :: u100 :: u101 :: u102 :: u103 :: u104 :: u105 :: u106 :: u107 :: u108 :: u109 :: u110 :: u111 :: u112 :: u113 :: u114 :: u115 :: u116 :: u117 :: u118 :: u119 :: u120 :: u121 :: u122 :: u123 :: u124 :: u125 :: u126 :: u127 :: u128 :: u129 :: u130 :: u131 :: u132 :: u133 :: u134 :: u135 :: u136 :: u137 :: u138 :: u139 :: u140 :: u141 :: u142 :: u143 :: u144 :: u145 :: u146 :: u147 :: u148 :: u149 :: u150 :: u151 :: u152 :: u153 :: u154 :: u155 :: u156 :: u157 :: u158 :: u159 :: u160 :: u161 :: u162 :: u163 :: u164 :: u165 :: u166 :: u167 :: u168 :: u169 :: u170 :: u171 :: u172 :: u173 :: u174 :: u175 :: u176 :: u177 :: u178 :: u179 :: u180 :: u181 :: u182 :: u183 :: u184 :: u185 :: u186 :: u187 :: u188 :: u189 :: u190 :: u191 :: u192 :: u193 :: u194 :: u195 :: u196 :: u197 :: u198 :: u199 :: u200 :: u201 :: u202 :: u203 :: u204 :: u205 :: u206 :: u207 :: u208 :: u209 :: u210 :: u211 :: u212 :: u213 :: u214 :: u215 :: u216 :: u217 :: u218 :: u219 :: u220 :: u221 :: u222 :: u223 :: u224 :: u225 :: u226 :: u227 :: u228 :: u229 :: u230 :: u231 :: u232 :: u233 :: u234 :: u235 :: u236 :: u237 :: u238 :: u239 :: u240 :: u241 :: u242 :: u243 :: u244 :: u245 :: u246 :: u247 :: u248 :: u249 :: u250 :: u251 :: u252 :: u253 :: u254 :: u255 :: u256 :: u257 :: u258 :: u259 :: u260 :: u261 :: u262 :: []), []⟩ w1 := by
  conv => arg 2; whnf
  have HK := Lib.hid hK
  clear hK
  go_wp2_with fail
  go_loopw [19, 20] (fun bv iv wr => ∃ (k : Nat) (s : Pic), k ≤ steps.length ∧ k ≤ 150 ∧ bv = .bool s.begun ∧ iv = .int .i64 k ∧ Hid (PkI all n s) ∧ Hid (Own w (PicA p mb1 mb2 mb3 gb go gc n s * emp) wr)) (fun _ iv _ => steps.length - (intOf iv).toNat)
  case atStart => exact ⟨0, s0, Nat.zero_le _, Nat.zero_le _, by rw [hb0], rfl, Lib.hid hinv, HP⟩
  case round =>
    clear HP
    obtain ⟨k, s, hk, hk2, rfl, rfl, HI, HP⟩ := hrel
    obtain ⟨bg, hbg⟩ : ∃ b, b = s.begun := ⟨_, rfl⟩
    by_cases h1 : k < steps.length
    rotate_left
    · rw [← hbg]
      have HBG := Lib.hid hbg
      clear hbg
      go_wp2_with fail
      apply HK.out
      exact ⟨s, by rw [HBG.out], HI.out, HP.out⟩
    by_cases h2 : k < 150
    rotate_left
    · rw [← hbg]
      have HBG := Lib.hid hbg
      clear hbg
      go_wp2_with fail
      apply HK.out
      exact ⟨s, by rw [HBG.out], HI.out, HP.out⟩
    rw [← hbg]
    have HBG := Lib.hid hbg
    clear hbg
    go_upto_block 3 with fail
    rw [HBG.out]
    refine pkRound w hg all hall k s steps sad scap h1 h2 hsc1 hsc2 HVS HI.out HP ?_
    intros
    rename_i hcut
    obtain ⟨s', rfl, hi', hp'⟩ := hcut
    have HI2 := Lib.hid hi'
    have HP2 := Lib.hid hp'
    clear hi' hp' HI HP
    obtain ⟨bg2, hbg2⟩ : ∃ b, b = s'.begun := ⟨_, rfl⟩
    rw [← hbg2]
    have HBG2 := Lib.hid hbg2
    clear hbg2
    go_wp2_with fail
    go_roundw
    case rel => exact ⟨k + 1, s', by omega, by omega, by rw [HBG2.out], by go_num, HI2, HP2⟩
    case measure => simp [intOf]; omega
end Go.Proofs.YtdeeephdojflpaaDoor
