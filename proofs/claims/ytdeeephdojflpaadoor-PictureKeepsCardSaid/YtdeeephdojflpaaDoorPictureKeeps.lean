/- PictureKeeps: no gold is lost in a picture. -/
import Derived.Test.YtdeeephdojflpaaDoorPicKeepsS
namespace Go.Proofs.YtdeeephdojflpaaDoor
set_option linter.unusedVariables false
set_option linter.unusedSimpArgs false
open Go.RowKit Go.Maps
noncomputable def pkFrom_code : Code := ((Tryd.f13.body.bind (findBlock 9)).getD .skip)
set_option maxRecDepth 1000000 in
set_option maxHeartbeats 4000000 in
theorem pkFrom {Q : Exit → Act → World → Prop} {u0 u1 u2 u3 u4 u5 u6 u7 u8 u9 u10 u11 u12 u13 u14 u16 u17 u18 u19 u20 u21 u22 u23 u25 u27 u28 u29 u30 u31 u32 u33 u34 u35 u36 u37 u38 u39 u40 u41 u42 u43 u44 u45 u46 u47 u48 u49 u50 u51 u52 u53 u54 u55 u56 u57 u58 u59 u60 u61 u62 u63 u64 u65 u66 u67 u68 u69 u70 u71 u72 u73 u74 u75 u76 u77 u78 u79 u80 u81 u82 u83 u84 u85 u86 u87 u88 u89 u90 u91 u92 u93 u94 u95 u96 u97 u98 u99 u100 u101 u102 u103 u104 u105 u106 u107 u108 u109 u110 u111 u112 u113 u114 u115 u116 u117 u118 u119 u120 u121 u122 u123 u124 u125 u126 u127 u128 u129 u130 u131 u132 u133 u134 u135 u136 u137 u138 u139 u140 u141 u142 u143 u144 u145 u146 u147 u148 u149 u150 u151 u152 u153 u154 u155 u156 u157 u158 u159 u160 u161 u162 u163 u164 u165 u166 u167 u168 u169 u170 u171 u172 u173 u174 u175 u176 u177 u178 u179 u180 u181 u182 u183 u184 u185 u186 u187 u188 u189 u190 u191 u192 u193 u194 u195 u196 u197 u198 u199 u200 u201 u202 u203 u204 u205 u206 u207 u208 u209 u210 u211 u212 u213 u214 u215 u216 u217 u218 u219 u220 u221 u222 u223 u224 u225 u226 u227 u228 u229 u230 u231 u232 u233 u234 u235 u236 u237 u238 u239 u240 u241 u242 u243 u244 u245 u246 u247 u248 u249 u250 u251 u252 u253 u254 u255 u256 u257 u258 u259 u260 u261 u262 : Value} {w1 : World} (w : World) {p mb1 mb2 mb3 gb go gc n : Nat} (hn5 : n ≤ 5) (all : Int) (hall : all ≤ 5000) (s : Pic) (hinv : PkI all n s) (HP : Hid (Own w (PicA p mb1 mb2 mb3 gb go gc n s * emp) w1))
    (hK : ∀ (v26 v27 v28 v29 v30 v198 v199 v200 v201 v202 v203 v204 v205 v206 v207 v208 v209 v210 v211 v212 v213 v214 v215 v216 v217 v218 v219 v220 v221 v222 v223 v224 v225 v226 v227 v228 : Value) (wx : World), (Own w (PicA p mb1 mb2 mb3 gb go gc n (pcDrainK n n s) * emp) wx) → Q .normal ⟨List.toArray (u0 :: u1 :: u2 :: u3 :: u4 :: u5 :: u6 :: u7 :: u8 :: u9 :: u10 :: u11 :: u12 :: u13 :: u14 :: (.pointer (some ⟨p, 0, none⟩)) :: u16 :: u17 :: u18 :: u19 :: u20 :: u21 :: u22 :: u23 :: (.int .i64 (n : Int)) :: u25 :: v26 :: v27 :: v28 :: v29 :: v30 :: u31 :: u32 :: u33 :: u34 :: u35 :: u36 :: u37 :: u38 :: u39 :: u40 :: u41 :: u42 :: u43 :: u44 :: u45 :: u46 :: u47 :: u48 :: u49 :: u50 :: u51 :: u52 :: u53 :: u54 :: u55 :: u56 :: u57 :: u58 :: u59 :: u60 :: u61 :: u62 :: u63 :: u64 :: u65 :: u66 :: u67 :: u68 :: u69 :: u70 :: u71 :: u72 :: u73 :: u74 :: u75 :: u76 :: u77 :: u78 :: u79 :: u80 :: u81 :: u82 :: u83 :: u84 :: u85 :: u86 :: u87 :: u88 :: u89 :: u90 :: u91 :: u92 :: u93 :: u94 :: u95 :: u96 :: u97 :: u98 :: u99 :: u100 :: u101 :: u102 :: u103 :: u104 :: u105 :: u106 :: u107 :: u108 :: u109 :: u110 :: u111 :: u112 :: u113 :: u114 :: u115 :: u116 :: u117 :: u118 :: u119 :: u120 :: u121 :: u122 :: u123 :: u124 :: u125 :: u126 :: u127 :: u128 :: u129 :: u130 :: u131 :: u132 :: u133 :: u134 :: u135 :: u136 :: u137 :: u138 :: u139 :: u140 :: u141 :: u142 :: u143 :: u144 :: u145 :: u146 :: u147 :: u148 :: u149 :: u150 :: u151 :: u152 :: u153 :: u154 :: u155 :: u156 :: u157 :: u158 :: u159 :: u160 :: u161 :: u162 :: u163 :: u164 :: u165 :: u166 :: u167 :: u168 :: u169 :: u170 :: u171 :: u172 :: u173 :: u174 :: u175 :: u176 :: u177 :: u178 :: u179 :: u180 :: u181 :: u182 :: u183 :: u184 :: u185 :: u186 :: u187 :: u188 :: u189 :: u190 :: u191 :: u192 :: u193 :: u194 :: u195 :: u196 :: u197 :: v198 :: v199 :: v200 :: v201 :: v202 :: v203 :: v204 :: v205 :: v206 :: v207 :: v208 :: v209 :: v210 :: v211 :: v212 :: v213 :: v214 :: v215 :: v216 :: v217 :: v218 :: v219 :: v220 :: v221 :: v222 :: v223 :: v224 :: v225 :: v226 :: v227 :: v228 :: u229 :: u230 :: u231 :: u232 :: u233 :: u234 :: u235 :: u236 :: u237 :: u238 :: u239 :: u240 :: u241 :: u242 :: u243 :: u244 :: u245 :: u246 :: u247 :: u248 :: u249 :: u250 :: u251 :: u252 :: u253 :: u254 :: u255 :: u256 :: u257 :: u258 :: u259 :: u260 :: u261 :: u262 :: []), []⟩ wx) :
    Code.wp Tryd.prog pkFrom_code Q ⟨List.toArray (u0 :: u1 :: u2 :: u3 :: u4 :: u5 :: u6 :: u7 :: u8 :: u9 :: u10 :: u11 :: u12 :: u13 :: u14 :: (.pointer (some ⟨p, 0, none⟩)) :: u16 :: u17 :: u18 :: u19 :: u20 :: u21 :: u22 :: u23 :: (.int .i64 (n : Int)) :: u25 :: (.int .i64 0) :: u27 :: u28 :: u29 :: u30 :: u31 :: u32 :: u33 :: u34 :: u35 :: u36 :: u37 :: u38 :: u39 :: u40 :: u41 :: u42 :: u43 :: u44 :: u45 :: u46 :: u47 :: u48 :: u49 :: u50 :: u51 :: u52 :: u53 :: u54 :: u55 :: u56 :: u57 :: u58 :: u59 :: u60 :: u61 :: u62 :: u63 :: u64 :: u65 :: u66 :: u67 :: u68 :: u69 :: u70 :: u71 :: u72 :: u73 :: u74 :: u75 :: u76 :: u77 :: u78 :: u79 :: u80 :: u81 :: u82 :: u83 :: u84 :: u85 :: u86 :: u87 :: u88 :: u89 :: u90 :: u91 :: u92 :: u93 :: u94 :: u95 :: u96 :: u97 :: u98 :: u99 :: u100 :: u101 :: u102 :: u103 :: u104 :: u105 :: u106 :: u107 :: u108 :: u109 :: u110 :: u111 :: u112 :: u113 :: u114 :: u115 :: u116 :: u117 :: u118 :: u119 :: u120 :: u121 :: u122 :: u123 :: u124 :: u125 :: u126 :: u127 :: u128 :: u129 :: u130 :: u131 :: u132 :: u133 :: u134 :: u135 :: u136 :: u137 :: u138 :: u139 :: u140 :: u141 :: u142 :: u143 :: u144 :: u145 :: u146 :: u147 :: u148 :: u149 :: u150 :: u151 :: u152 :: u153 :: u154 :: u155 :: u156 :: u157 :: u158 :: u159 :: u160 :: u161 :: u162 :: u163 :: u164 :: u165 :: u166 :: u167 :: u168 :: u169 :: u170 :: u171 :: u172 :: u173 :: u174 :: u175 :: u176 :: u177 :: u178 :: u179 :: u180 :: u181 :: u182 :: u183 :: u184 :: u185 :: u186 :: u187 :: u188 :: u189 :: u190 :: u191 :: u192 :: u193 :: u194 :: u195 :: u196 :: u197 :: u198 :: u199 :: u200 :: u201 :: u202 :: u203 :: u204 :: u205 :: u206 :: u207 :: u208 :: u209 :: u210 :: u211 :: u212 :: u213 :: u214 :: u215 :: u216 :: u217 :: u218 :: u219 :: u220 :: u221 :: u222 :: u223 :: u224 :: u225 :: u226 :: u227 :: u228 :: u229 :: u230 :: u231 :: u232 :: u233 :: u234 :: u235 :: u236 :: u237 :: u238 :: u239 :: u240 :: u241 :: u242 :: u243 :: u244 :: u245 :: u246 :: u247 :: u248 :: u249 :: u250 :: u251 :: u252 :: u253 :: u254 :: u255 :: u256 :: u257 :: u258 :: u259 :: u260 :: u261 :: u262 :: []), []⟩ w1 := by
  conv => arg 2; whnf
  have HK := Lib.hid hK
  clear hK
  go_wp2_with fail
  go_loopw [26] (fun iv wr => ∃ k : Nat, k ≤ n ∧ iv = .int .i64 k ∧ Hid (Own w (PicA p mb1 mb2 mb3 gb go gc n (pcDrainK n k s) * emp) wr)) (fun iv _ => n - (intOf iv).toNat)
  case atStart => exact ⟨0, Nat.zero_le _, rfl, HP⟩
  case round =>
    clear HP
    obtain ⟨k, hk, rfl, HP⟩ := hrel
    by_cases h1 : k < n
    rotate_left
    · have hkn : k = n := by omega
      rw [hkn] at HP
      have HKN := Lib.hid hkn
      clear hkn
      go_wp2_with fail
      apply HK.out
      exact HP.out
    have hi := hinv.drainK n k
    have hnx := pcDrainK_next n k s
    obtain ⟨T, hT⟩ : ∃ T, T = pcDrainK n k s := ⟨_, rfl⟩
    rw [← hT] at HP hi hnx
    have HT := Lib.hid hT; have HI := Lib.hid hi; have HNX := Lib.hid hnx
    clear hT hi hnx
    go_upto_block 11 with fail
    refine pkTo w hn5 all hall k T HI.out HP ?_
    intros
    rename_i hcut
    have HP2 := Lib.hid hcut
    clear hcut HP
    go_wp2_with fail
    go_roundw
    case rel => exact ⟨k + 1, by omega, by go_num, Lib.hid (by rw [HNX.out]; exact HP2.out)⟩
    case measure => simp [intOf]; omega
noncomputable def pkThree_code : Code := ((Tryd.f13.body.bind (findBlock 7)).getD .skip)
set_option maxRecDepth 1000000 in
set_option maxHeartbeats 4000000 in
theorem pkThree {Q : Exit → Act → World → Prop} {u0 u1 u2 u3 u4 u5 u6 u7 u8 u9 u10 u11 u12 u13 u14 u16 u17 u18 u19 u20 u21 u22 u23 u26 u27 u28 u29 u30 u31 u32 u33 u34 u35 u36 u37 u38 u39 u40 u41 u42 u43 u44 u45 u46 u47 u48 u49 u50 u51 u52 u53 u54 u55 u56 u57 u58 u59 u60 u61 u62 u63 u64 u65 u66 u67 u68 u69 u70 u71 u72 u73 u74 u75 u76 u77 u78 u79 u80 u81 u82 u83 u84 u85 u86 u87 u88 u89 u90 u91 u92 u93 u94 u95 u96 u97 u98 u99 u100 u101 u102 u103 u104 u105 u106 u107 u108 u109 u110 u111 u112 u113 u114 u115 u116 u117 u118 u119 u120 u121 u122 u123 u124 u125 u126 u127 u128 u129 u130 u131 u132 u133 u134 u135 u136 u137 u138 u139 u140 u141 u142 u143 u144 u145 u146 u147 u148 u149 u150 u151 u152 u153 u154 u155 u156 u157 u158 u159 u160 u161 u162 u163 u164 u165 u166 u167 u168 u169 u170 u171 u172 u173 u174 u175 u176 u177 u178 u179 u180 u181 u182 u183 u184 u185 u186 u187 u188 u189 u190 u191 u192 u193 u194 u195 u196 u197 u198 u199 u200 u201 u202 u203 u204 u205 u206 u207 u208 u209 u210 u211 u212 u213 u214 u215 u216 u217 u218 u219 u220 u221 u222 u223 u224 u225 u226 u227 u228 u229 u230 u231 u232 u233 u234 u235 u236 u237 u238 u239 u240 u241 u242 u243 u244 u245 u246 u247 u248 u249 u250 u251 u252 u253 u254 u255 u256 u257 u258 u259 u260 u261 u262 : Value} {w1 : World} (w : World) {p mb1 mb2 mb3 gb go gc n : Nat} (hn5 : n ≤ 5) (all : Int) (hall : all ≤ 5000) (s : Pic) (hinv : PkI all n s) (HP : Hid (Own w (PicA p mb1 mb2 mb3 gb go gc n s * emp) w1))
    (hK : ∀ (v25 v26 v27 v28 v29 v30 v194 v195 v196 v197 v198 v199 v200 v201 v202 v203 v204 v205 v206 v207 v208 v209 v210 v211 v212 v213 v214 v215 v216 v217 v218 v219 v220 v221 v222 v223 v224 v225 v226 v227 v228 : Value) (wx : World), (Own w (PicA p mb1 mb2 mb3 gb go gc n (pcRounds n s 3) * emp) wx) → Q .normal ⟨List.toArray (u0 :: u1 :: u2 :: u3 :: u4 :: u5 :: u6 :: u7 :: u8 :: u9 :: u10 :: u11 :: u12 :: u13 :: u14 :: (.pointer (some ⟨p, 0, none⟩)) :: u16 :: u17 :: u18 :: u19 :: u20 :: u21 :: u22 :: u23 :: (.int .i64 (n : Int)) :: v25 :: v26 :: v27 :: v28 :: v29 :: v30 :: u31 :: u32 :: u33 :: u34 :: u35 :: u36 :: u37 :: u38 :: u39 :: u40 :: u41 :: u42 :: u43 :: u44 :: u45 :: u46 :: u47 :: u48 :: u49 :: u50 :: u51 :: u52 :: u53 :: u54 :: u55 :: u56 :: u57 :: u58 :: u59 :: u60 :: u61 :: u62 :: u63 :: u64 :: u65 :: u66 :: u67 :: u68 :: u69 :: u70 :: u71 :: u72 :: u73 :: u74 :: u75 :: u76 :: u77 :: u78 :: u79 :: u80 :: u81 :: u82 :: u83 :: u84 :: u85 :: u86 :: u87 :: u88 :: u89 :: u90 :: u91 :: u92 :: u93 :: u94 :: u95 :: u96 :: u97 :: u98 :: u99 :: u100 :: u101 :: u102 :: u103 :: u104 :: u105 :: u106 :: u107 :: u108 :: u109 :: u110 :: u111 :: u112 :: u113 :: u114 :: u115 :: u116 :: u117 :: u118 :: u119 :: u120 :: u121 :: u122 :: u123 :: u124 :: u125 :: u126 :: u127 :: u128 :: u129 :: u130 :: u131 :: u132 :: u133 :: u134 :: u135 :: u136 :: u137 :: u138 :: u139 :: u140 :: u141 :: u142 :: u143 :: u144 :: u145 :: u146 :: u147 :: u148 :: u149 :: u150 :: u151 :: u152 :: u153 :: u154 :: u155 :: u156 :: u157 :: u158 :: u159 :: u160 :: u161 :: u162 :: u163 :: u164 :: u165 :: u166 :: u167 :: u168 :: u169 :: u170 :: u171 :: u172 :: u173 :: u174 :: u175 :: u176 :: u177 :: u178 :: u179 :: u180 :: u181 :: u182 :: u183 :: u184 :: u185 :: u186 :: u187 :: u188 :: u189 :: u190 :: u191 :: u192 :: u193 :: v194 :: v195 :: v196 :: v197 :: v198 :: v199 :: v200 :: v201 :: v202 :: v203 :: v204 :: v205 :: v206 :: v207 :: v208 :: v209 :: v210 :: v211 :: v212 :: v213 :: v214 :: v215 :: v216 :: v217 :: v218 :: v219 :: v220 :: v221 :: v222 :: v223 :: v224 :: v225 :: v226 :: v227 :: v228 :: u229 :: u230 :: u231 :: u232 :: u233 :: u234 :: u235 :: u236 :: u237 :: u238 :: u239 :: u240 :: u241 :: u242 :: u243 :: u244 :: u245 :: u246 :: u247 :: u248 :: u249 :: u250 :: u251 :: u252 :: u253 :: u254 :: u255 :: u256 :: u257 :: u258 :: u259 :: u260 :: u261 :: u262 :: []), []⟩ wx) :
    Code.wp Tryd.prog pkThree_code Q ⟨List.toArray (u0 :: u1 :: u2 :: u3 :: u4 :: u5 :: u6 :: u7 :: u8 :: u9 :: u10 :: u11 :: u12 :: u13 :: u14 :: (.pointer (some ⟨p, 0, none⟩)) :: u16 :: u17 :: u18 :: u19 :: u20 :: u21 :: u22 :: u23 :: (.int .i64 (n : Int)) :: (.int .i64 0) :: u26 :: u27 :: u28 :: u29 :: u30 :: u31 :: u32 :: u33 :: u34 :: u35 :: u36 :: u37 :: u38 :: u39 :: u40 :: u41 :: u42 :: u43 :: u44 :: u45 :: u46 :: u47 :: u48 :: u49 :: u50 :: u51 :: u52 :: u53 :: u54 :: u55 :: u56 :: u57 :: u58 :: u59 :: u60 :: u61 :: u62 :: u63 :: u64 :: u65 :: u66 :: u67 :: u68 :: u69 :: u70 :: u71 :: u72 :: u73 :: u74 :: u75 :: u76 :: u77 :: u78 :: u79 :: u80 :: u81 :: u82 :: u83 :: u84 :: u85 :: u86 :: u87 :: u88 :: u89 :: u90 :: u91 :: u92 :: u93 :: u94 :: u95 :: u96 :: u97 :: u98 :: u99 :: u100 :: u101 :: u102 :: u103 :: u104 :: u105 :: u106 :: u107 :: u108 :: u109 :: u110 :: u111 :: u112 :: u113 :: u114 :: u115 :: u116 :: u117 :: u118 :: u119 :: u120 :: u121 :: u122 :: u123 :: u124 :: u125 :: u126 :: u127 :: u128 :: u129 :: u130 :: u131 :: u132 :: u133 :: u134 :: u135 :: u136 :: u137 :: u138 :: u139 :: u140 :: u141 :: u142 :: u143 :: u144 :: u145 :: u146 :: u147 :: u148 :: u149 :: u150 :: u151 :: u152 :: u153 :: u154 :: u155 :: u156 :: u157 :: u158 :: u159 :: u160 :: u161 :: u162 :: u163 :: u164 :: u165 :: u166 :: u167 :: u168 :: u169 :: u170 :: u171 :: u172 :: u173 :: u174 :: u175 :: u176 :: u177 :: u178 :: u179 :: u180 :: u181 :: u182 :: u183 :: u184 :: u185 :: u186 :: u187 :: u188 :: u189 :: u190 :: u191 :: u192 :: u193 :: u194 :: u195 :: u196 :: u197 :: u198 :: u199 :: u200 :: u201 :: u202 :: u203 :: u204 :: u205 :: u206 :: u207 :: u208 :: u209 :: u210 :: u211 :: u212 :: u213 :: u214 :: u215 :: u216 :: u217 :: u218 :: u219 :: u220 :: u221 :: u222 :: u223 :: u224 :: u225 :: u226 :: u227 :: u228 :: u229 :: u230 :: u231 :: u232 :: u233 :: u234 :: u235 :: u236 :: u237 :: u238 :: u239 :: u240 :: u241 :: u242 :: u243 :: u244 :: u245 :: u246 :: u247 :: u248 :: u249 :: u250 :: u251 :: u252 :: u253 :: u254 :: u255 :: u256 :: u257 :: u258 :: u259 :: u260 :: u261 :: u262 :: []), []⟩ w1 := by
  conv => arg 2; whnf
  have HK := Lib.hid hK
  clear hK
  go_wp2_with fail
  go_loopw [25] (fun iv wr => ∃ k : Nat, k ≤ 3 ∧ iv = .int .i64 k ∧ Hid (Own w (PicA p mb1 mb2 mb3 gb go gc n (pcRounds n s k) * emp) wr)) (fun iv _ => 3 - (intOf iv).toNat)
  case atStart => exact ⟨0, Nat.zero_le _, rfl, HP⟩
  case round =>
    clear HP
    obtain ⟨k, hk, rfl, HP⟩ := hrel
    by_cases h1 : k < 3
    rotate_left
    · have hkn : k = 3 := by omega
      rw [hkn] at HP
      have HKN := Lib.hid hkn
      clear hkn
      go_wp2_with fail
      apply HK.out
      exact HP.out
    have hi := hinv.rounds n k
    obtain ⟨T, hT⟩ : ∃ T, T = pcRounds n s k := ⟨_, rfl⟩
    have hnx : pcRounds n s (k + 1) = pcDrainK n n T := by rw [hT]; rfl
    rw [← hT] at HP hi
    have HT := Lib.hid hT; have HI := Lib.hid hi; have HNX := Lib.hid hnx
    clear hT hi hnx
    go_upto_block 9 with fail
    refine pkFrom w hn5 all hall T HI.out HP ?_
    intros
    rename_i hcut
    have HP2 := Lib.hid hcut
    clear hcut HP
    go_wp2_with fail
    go_roundw
    case rel => exact ⟨k + 1, by omega, by go_num, Lib.hid (by rw [HNX.out]; exact HP2.out)⟩
    case measure => simp [intOf]; omega
noncomputable def pkSum_code : Code := ((Tryd.f13.body.bind (findBlock 15)).getD .skip)
set_option maxRecDepth 1000000 in
set_option maxHeartbeats 4000000 in
theorem pkSum {Q : Exit → Act → World → Prop} {u0 u1 u2 u3 u4 u5 u6 u7 u8 u9 u10 u11 u12 u13 u14 u16 u17 u18 u19 u20 u21 u22 u23 u25 u26 u27 u28 u29 u30 u33 u34 u35 u36 u37 u38 u39 u40 u41 u42 u43 u44 u45 u46 u47 u48 u49 u50 u51 u52 u53 u54 u55 u56 u57 u58 u59 u60 u61 u62 u63 u64 u65 u66 u67 u68 u69 u70 u71 u72 u73 u74 u75 u76 u77 u78 u79 u80 u81 u82 u83 u84 u85 u86 u87 u88 u89 u90 u91 u92 u93 u94 u95 u96 u97 u98 u99 u100 u101 u102 u103 u104 u105 u106 u107 u108 u109 u110 u111 u112 u113 u114 u115 u116 u117 u118 u119 u120 u121 u122 u123 u124 u125 u126 u127 u128 u129 u130 u131 u132 u133 u134 u135 u136 u137 u138 u139 u140 u141 u142 u143 u144 u145 u146 u147 u148 u149 u150 u151 u152 u153 u154 u155 u156 u157 u158 u159 u160 u161 u162 u163 u164 u165 u166 u167 u168 u169 u170 u171 u172 u173 u174 u175 u176 u177 u178 u179 u180 u181 u182 u183 u184 u185 u186 u187 u188 u189 u190 u191 u192 u193 u194 u195 u196 u197 u198 u199 u200 u201 u202 u203 u204 u205 u206 u207 u208 u209 u210 u211 u212 u213 u214 u215 u216 u217 u218 u219 u220 u221 u222 u223 u224 u225 u226 u227 u228 u229 u230 u231 u232 u233 u234 u235 u236 u237 u238 u239 u240 u241 u242 u243 u244 u245 u246 u247 u248 u249 u250 u251 u252 u253 u254 u255 u256 u257 u258 u259 u260 u261 u262 : Value} {w1 : World} (w : World) {p mb1 mb2 mb3 gb go gc n : Nat} (hn5 : n ≤ 5) (s : Pic) (hlen : s.gold.length = n) (hok : PicOk s) (HP : Hid (Own w (PicA p mb1 mb2 mb3 gb go gc n s * emp) w1))
    (hK : ∀ (v4 v31 v32 v33 v34 v229 v230 v231 v232 v233 v234 v235 v236 v237 v238 v239 v240 v241 v242 v243 v244 v245 v246 v247 v248 : Value) (wx : World), (v31 = .int .i64 s.gold.sum ∧ Own w (PicA p mb1 mb2 mb3 gb go gc n s * emp) wx) → Q .normal ⟨List.toArray (u0 :: u1 :: u2 :: u3 :: v4 :: u5 :: u6 :: u7 :: u8 :: u9 :: u10 :: u11 :: u12 :: u13 :: u14 :: (.pointer (some ⟨p, 0, none⟩)) :: u16 :: u17 :: u18 :: u19 :: u20 :: u21 :: u22 :: u23 :: (.int .i64 (n : Int)) :: u25 :: u26 :: u27 :: u28 :: u29 :: u30 :: v31 :: v32 :: v33 :: v34 :: u35 :: u36 :: u37 :: u38 :: u39 :: u40 :: u41 :: u42 :: u43 :: u44 :: u45 :: u46 :: u47 :: u48 :: u49 :: u50 :: u51 :: u52 :: u53 :: u54 :: u55 :: u56 :: u57 :: u58 :: u59 :: u60 :: u61 :: u62 :: u63 :: u64 :: u65 :: u66 :: u67 :: u68 :: u69 :: u70 :: u71 :: u72 :: u73 :: u74 :: u75 :: u76 :: u77 :: u78 :: u79 :: u80 :: u81 :: u82 :: u83 :: u84 :: u85 :: u86 :: u87 :: u88 :: u89 :: u90 :: u91 :: u92 :: u93 :: u94 :: u95 :: u96 :: u97 :: u98 :: u99 :: u100 :: u101 :: u102 :: u103 :: u104 :: u105 :: u106 :: u107 :: u108 :: u109 :: u110 :: u111 :: u112 :: u113 :: u114 :: u115 :: u116 :: u117 :: u118 :: u119 :: u120 :: u121 :: u122 :: u123 :: u124 :: u125 :: u126 :: u127 :: u128 :: u129 :: u130 :: u131 :: u132 :: u133 :: u134 :: u135 :: u136 :: u137 :: u138 :: u139 :: u140 :: u141 :: u142 :: u143 :: u144 :: u145 :: u146 :: u147 :: u148 :: u149 :: u150 :: u151 :: u152 :: u153 :: u154 :: u155 :: u156 :: u157 :: u158 :: u159 :: u160 :: u161 :: u162 :: u163 :: u164 :: u165 :: u166 :: u167 :: u168 :: u169 :: u170 :: u171 :: u172 :: u173 :: u174 :: u175 :: u176 :: u177 :: u178 :: u179 :: u180 :: u181 :: u182 :: u183 :: u184 :: u185 :: u186 :: u187 :: u188 :: u189 :: u190 :: u191 :: u192 :: u193 :: u194 :: u195 :: u196 :: u197 :: u198 :: u199 :: u200 :: u201 :: u202 :: u203 :: u204 :: u205 :: u206 :: u207 :: u208 :: u209 :: u210 :: u211 :: u212 :: u213 :: u214 :: u215 :: u216 :: u217 :: u218 :: u219 :: u220 :: u221 :: u222 :: u223 :: u224 :: u225 :: u226 :: u227 :: u228 :: v229 :: v230 :: v231 :: v232 :: v233 :: v234 :: v235 :: v236 :: v237 :: v238 :: v239 :: v240 :: v241 :: v242 :: v243 :: v244 :: v245 :: v246 :: v247 :: v248 :: u249 :: u250 :: u251 :: u252 :: u253 :: u254 :: u255 :: u256 :: u257 :: u258 :: u259 :: u260 :: u261 :: u262 :: []), []⟩ wx) :
    Code.wp Tryd.prog pkSum_code Q ⟨List.toArray (u0 :: u1 :: u2 :: u3 :: u4 :: u5 :: u6 :: u7 :: u8 :: u9 :: u10 :: u11 :: u12 :: u13 :: u14 :: (.pointer (some ⟨p, 0, none⟩)) :: u16 :: u17 :: u18 :: u19 :: u20 :: u21 :: u22 :: u23 :: (.int .i64 (n : Int)) :: u25 :: u26 :: u27 :: u28 :: u29 :: u30 :: (.int .i64 0) :: (.int .i64 0) :: u33 :: u34 :: u35 :: u36 :: u37 :: u38 :: u39 :: u40 :: u41 :: u42 :: u43 :: u44 :: u45 :: u46 :: u47 :: u48 :: u49 :: u50 :: u51 :: u52 :: u53 :: u54 :: u55 :: u56 :: u57 :: u58 :: u59 :: u60 :: u61 :: u62 :: u63 :: u64 :: u65 :: u66 :: u67 :: u68 :: u69 :: u70 :: u71 :: u72 :: u73 :: u74 :: u75 :: u76 :: u77 :: u78 :: u79 :: u80 :: u81 :: u82 :: u83 :: u84 :: u85 :: u86 :: u87 :: u88 :: u89 :: u90 :: u91 :: u92 :: u93 :: u94 :: u95 :: u96 :: u97 :: u98 :: u99 :: u100 :: u101 :: u102 :: u103 :: u104 :: u105 :: u106 :: u107 :: u108 :: u109 :: u110 :: u111 :: u112 :: u113 :: u114 :: u115 :: u116 :: u117 :: u118 :: u119 :: u120 :: u121 :: u122 :: u123 :: u124 :: u125 :: u126 :: u127 :: u128 :: u129 :: u130 :: u131 :: u132 :: u133 :: u134 :: u135 :: u136 :: u137 :: u138 :: u139 :: u140 :: u141 :: u142 :: u143 :: u144 :: u145 :: u146 :: u147 :: u148 :: u149 :: u150 :: u151 :: u152 :: u153 :: u154 :: u155 :: u156 :: u157 :: u158 :: u159 :: u160 :: u161 :: u162 :: u163 :: u164 :: u165 :: u166 :: u167 :: u168 :: u169 :: u170 :: u171 :: u172 :: u173 :: u174 :: u175 :: u176 :: u177 :: u178 :: u179 :: u180 :: u181 :: u182 :: u183 :: u184 :: u185 :: u186 :: u187 :: u188 :: u189 :: u190 :: u191 :: u192 :: u193 :: u194 :: u195 :: u196 :: u197 :: u198 :: u199 :: u200 :: u201 :: u202 :: u203 :: u204 :: u205 :: u206 :: u207 :: u208 :: u209 :: u210 :: u211 :: u212 :: u213 :: u214 :: u215 :: u216 :: u217 :: u218 :: u219 :: u220 :: u221 :: u222 :: u223 :: u224 :: u225 :: u226 :: u227 :: u228 :: u229 :: u230 :: u231 :: u232 :: u233 :: u234 :: u235 :: u236 :: u237 :: u238 :: u239 :: u240 :: u241 :: u242 :: u243 :: u244 :: u245 :: u246 :: u247 :: u248 :: u249 :: u250 :: u251 :: u252 :: u253 :: u254 :: u255 :: u256 :: u257 :: u258 :: u259 :: u260 :: u261 :: u262 :: []), []⟩ w1 := by
  conv => arg 2; whnf
  have HK := Lib.hid hK
  clear hK
  have hgb : ∀ x ∈ s.gold, 0 ≤ x ∧ x ≤ 1000000 := fun x hx => by
    obtain ⟨j, hj, rfl⟩ := List.getElem_of_mem hx
    have := hok.gold j
    unfold pcG gAt at this
    rw [if_pos (by omega), Int.toNat_natCast, List.getD_eq_getElem?_getD, List.getElem?_eq_getElem hj] at this
    exact this
  have HSB := Lib.hid (take_sum_bd hgb)
  clear hgb
  have HOK := Lib.hid hok
  have HLEN := Lib.hid hlen
  clear hok hlen
  go_wp2_with fail
  go_loopw [32, 31] (fun iv sv wr => ∃ k : Nat, k ≤ n ∧ iv = .int .i64 k ∧ sv = .int .i64 (s.gold.take k).sum ∧ Hid (Own w (PicA p mb1 mb2 mb3 gb go gc n s * emp) wr)) (fun iv _ _ => n - (intOf iv).toNat)
  case atStart => exact ⟨0, Nat.zero_le _, rfl, rfl, HP⟩
  case round =>
    clear HP
    obtain ⟨k, hk, rfl, rfl, HP⟩ := hrel
    by_cases h1 : k < n
    rotate_left
    · have hkn : s.gold.take k = s.gold := List.take_of_length_le (by rw [HLEN.out]; omega)
      rw [hkn]
      obtain ⟨G, hG⟩ : ∃ G, G = s.gold.sum := ⟨_, rfl⟩
      rw [← hG]
      have HKN := Lib.hid hkn; have HG := Lib.hid hG
      clear hkn hG
      go_wp2_with fail
      apply HK.out
      exact ⟨by rw [HG.out], HP.out⟩
    have hnx := gold_take s k (by rw [HLEN.out]; exact h1)
    have hs1 := HSB.out k
    have hs2 := HSB.out (k + 1)
    have hg := HOK.out.gold k
    obtain ⟨A, hA⟩ : ∃ A, A = (s.gold.take k).sum := ⟨_, rfl⟩
    obtain ⟨g, hgg⟩ : ∃ A, A = pcG s k := ⟨_, rfl⟩
    rw [← hA, ← hgg] at hnx
    rw [← hA] at hs1
    rw [← hgg] at hg
    rw [← hA]
    have hwr : IntKind.i64.wrap (A + g) = A + g := by rw [IntKind.wrap_i64]; omega
    have hhas : pcHas s k = true := by unfold pcHas; rw [HLEN.out]; simp; omega
    have tg : decide (g < 0) = false := decide_eq_false (by omega)
    have HNX := Lib.hid hnx; have HS1 := Lib.hid hs1; have HS2 := Lib.hid hs2; have HA := Lib.hid hA; have HGG := Lib.hid hgg; have HHAS := Lib.hid hhas; have HG := Lib.hid hg
    clear hnx hs1 hs2 hA hgg hhas hg
    go_wp2_with fail
    refine (pGold_any s k HP.out).mono ?_
    rintro e w3 ⟨rfl, ho⟩
    rw [HHAS.out, if_pos rfl, if_pos rfl, ← HGG.out, errV0]
    have HO := Lib.hid ho
    clear ho
    go_wp2_with fail
    go_roundw
    case rel => exact ⟨k + 1, by omega, by go_num, by rw [HNX.out], HO⟩
    case measure => simp [intOf]; omega
set_option maxRecDepth 100000 in
set_option maxHeartbeats 4000000 in
theorem pictureKeeps_law (w : World) (hg : As.Handle w) (vg : Value) (gold : List Int) (hvg : Ints w vg gold) (vs : Value) (steps : List (List Int)) (hvs : Rows2 w vs steps) :
    Calls Tryd.prog 13 #[vg, vs] w fun e w' => e = .returned (.bool true) ∧ Below w.heap.size w w' := by
  obtain ⟨gad, gcap, rfl, hgc1, hgc2⟩ := hvg.shape
  obtain ⟨sad, scap, rfl, hsc1, hsc2⟩ := hvs.shape
  obtain ⟨N, hN⟩ : ∃ N, N = gold.length := ⟨_, rfl⟩
  rw [← hN] at hvg hgc1 ⊢
  obtain ⟨f1, f2, f3, f4, f5, f6, f7, f8, f9, f10⟩ := pk_facts
  obtain ⟨i0, i1, i2, i3, i4, i5⟩ := pk_inv
  obtain ⟨bl, hb_bl⟩ : ∃ zz_, zz_ = (w).heap.size := ⟨_, rfl⟩
  obtain ⟨wl, hw_wl⟩ : ∃ zz_, zz_ = (w).alloc (.cells #[.int .i64 5, .int .i64 0] 3 (0, 0)) := ⟨_, rfl⟩
  have h_HO0 := ((Own.start w)).alloc (.cells #[.int .i64 5, .int .i64 0] 3 (0, 0))
  rw [← hb_bl, ← hw_wl] at h_HO0
  have HO0 := Lib.hid h_HO0
  clear h_HO0
  have HL0 : Hid (Own w (IntSl (.slice (some ⟨bl, 0, none⟩) 2 2) [5, 0] * emp) wl) := Lib.hid (Own.litI [5, 0] 2 rfl (by omega) HO0.out)
  clear HO0
  have HG := Lib.hid hg; have HVG := Lib.hid hvg; have HVS := Lib.hid hvs; have HN := Lib.hid hN; have F1 := Lib.hid f1; have F2 := Lib.hid f2; have F3 := Lib.hid f3; have F4 := Lib.hid f4; have F5 := Lib.hid f5; have F6 := Lib.hid f6; have F7 := Lib.hid f7; have F8 := Lib.hid f8; have F9 := Lib.hid f9; have F10 := Lib.hid f10; have I0 := Lib.hid i0; have I1 := Lib.hid i1; have I2 := Lib.hid i2; have I3 := Lib.hid i3; have I4 := Lib.hid i4; have I5 := Lib.hid i5
  clear hg hvg hvs hN f1 f2 f3 f4 f5 f6 f7 f8 f9 f10 i0 i1 i2 i3 i4 i5
  go_enter Tryd.func13, Tryd.ntmps13
  go_wp2_with fail
  rw [← hb_bl, ← hw_wl]
  clear hb_bl hw_wl
  refine (pNew_yes _ [5, 0] HL0.out (IntSl_reads (by intro x hx; simp at hx; unfold I64; omega)) (by decide)).mono ?_
  rintro e w1 ⟨p, mb1, mb2, mb3, gb, go, gc, n, rfl, hn2, ho⟩
  rw [errV0]
  have HO1 := Lib.hid ho
  clear ho
  go_wp2_with fail
  refine (pPay_any (pcNew [5, 0]) 0 1 2 (picOk_of I0.out (by omega)) HO1.out).mono ?_
  rintro e w2 ⟨rfl, ho⟩
  rw [F1.out, errV0]
  have HO2 : Hid (Own w (PicA p mb1 mb2 mb3 gb go gc n pkF1 * (IntSl (.slice (some ⟨bl, 0, none⟩) 2 2) [5, 0] * emp)) w2) := Lib.hid ho
  clear ho HO1
  go_wp2_with fail
  refine (pBegin_any pkF1 1 (picOk_of I1.out (by omega)) HO2.out).mono ?_
  rintro e w3 ⟨rfl, ho⟩
  rw [F2.out, errV0]
  have HO3 : Hid (Own w (PicA p mb1 mb2 mb3 gb go gc n pkF2 * (IntSl (.slice (some ⟨bl, 0, none⟩) 2 2) [5, 0] * emp)) w3) := Lib.hid ho
  clear ho HO2
  obtain ⟨q0, hq0⟩ : ∃ q, q = pcComeVal pkF2 1 0 := ⟨_, rfl⟩
  go_wp2_with fail
  refine (pCome_any pkF2 1 0 (picOk_of I2.out (by omega)) (picOk_pop (picOk_of I2.out (by omega)) 1 0) HO3.out).mono ?_
  rintro e w4 ⟨rfl, ho⟩
  rw [F3.out, errV0, ← hq0]
  have HO4 : Hid (Own w (PicA p mb1 mb2 mb3 gb go gc n pkF3 * (IntSl (.slice (some ⟨bl, 0, none⟩) 2 2) [5, 0] * emp)) w4) := Lib.hid ho
  clear ho HO3
  have HQ0 := Lib.hid hq0
  clear hq0
  go_wp2_with fail
  refine (pCome_any pkF3 0 1 (picOk_of I3.out (by omega)) (picOk_pop (picOk_of I3.out (by omega)) 0 1) HO4.out).mono ?_
  rintro e w5 ⟨rfl, ho⟩
  rw [F4.out, errV0, F5.out]
  have HO5 : Hid (Own w (PicA p mb1 mb2 mb3 gb go gc n pkF4 * (IntSl (.slice (some ⟨bl, 0, none⟩) 2 2) [5, 0] * emp)) w5) := Lib.hid ho
  clear ho HO4
  go_wp2_with fail
  refine (pCome_any pkF4 0 1 (picOk_of I4.out (by omega)) (picOk_pop (picOk_of I4.out (by omega)) 0 1) HO5.out).mono ?_
  rintro e w6 ⟨rfl, ho⟩
  rw [F6.out, errV0, F7.out]
  have HO6 : Hid (Own w (PicA p mb1 mb2 mb3 gb go gc n pkF5 * (IntSl (.slice (some ⟨bl, 0, none⟩) 2 2) [5, 0] * emp)) w6) := Lib.hid ho
  clear ho HO5
  go_wp2_with fail
  refine (pSum_any pkF5 (picOk_of I5.out (by omega)) HO6.out).mono ?_
  rintro e w7 ⟨rfl, ho⟩
  rw [F8.out, if_pos rfl, if_pos rfl, if_pos rfl, F9.out, F10.out, errV0]
  obtain ⟨bs, hb_bs⟩ : ∃ zz_, zz_ = (w7).heap.size := ⟨_, rfl⟩
  obtain ⟨ws, hw_ws⟩ : ∃ zz_, zz_ = (w7).alloc (.cells #[.int .i64 3, .int .i64 2] 108 (0, 0)) := ⟨_, rfl⟩
  have h_HO7 := (ho).alloc (.cells #[.int .i64 3, .int .i64 2] 108 (0, 0))
  rw [← hb_bs, ← hw_ws] at h_HO7
  have HO7 := Lib.hid h_HO7
  clear h_HO7
  have HO8 : Hid (Own w (SumB bs 3 2 * (PicA p mb1 mb2 mb3 gb go gc n pkF5 * (IntSl (.slice (some ⟨bl, 0, none⟩) 2 2) [5, 0] * emp))) ws) := HO7
  clear ho HO7 HO6
  obtain ⟨k0, k1, _⟩ := HO8.out.sumb
  go_upto_region 8 with fail
  rw [← hb_bs, ← hw_ws]
  clear hb_bs hw_ws
  go_upto_region 10 with fail
  clear k0 k1
  have HW := Lib.hid HO8.out.drop.drop.drop
  clear HO8
  cases hb : newBad gold
  rotate_left
  · obtain ⟨mm, hmm⟩ := errV_some (n := 1) (by decide)
    have HB := Lib.hid hb; have HMM := Lib.hid hmm
    clear hb hmm
    go_wp2_with fail
    refine (pNew_no _ gold (HVG.out.later HW.out) HB.out).mono ?_
    rintro e w8 ⟨rfl, rfl⟩
    rw [HMM.out]
    go_wp2
    go_ret
    exact ⟨rfl, HW.out.below⟩
  obtain ⟨⟨h2, h5⟩, hgx⟩ := newBad_no hb
  have hall := gold_small hgx h5
  have hpi : PkI gold.sum gold.length (pcNew gold) := ⟨pcInv_new gold ⟨h2, h5⟩ hgx, rfl⟩
  rw [← HN.out] at h2 h5 hpi
  have hdone := fun s (h : PkI gold.sum N s) => h.end3
  obtain ⟨all, hal⟩ : ∃ a, a = gold.sum := ⟨_, rfl⟩
  rw [← hal] at hall hpi hdone
  have HGX := Lib.hid hgx; have HAL := Lib.hid hal; have HDONE := Lib.hid hdone
  clear hgx hal hdone
  clear HL0 F1 F2 F3 F4 F5 F6 F7 F8 F9 F10 I0 I1 I2 I3 I4 I5 HQ0
  go_wp2_with fail
  refine (pNew_yes _ gold HW.out HVG.out.reads hb).mono ?_
  rintro e w8 ⟨p2, c1, c2, c3, g2, o2, d2, n2, rfl, hn3, ho⟩
  rw [errV0]
  have hnn : n2 = N := hn3.trans HN.out.symm
  subst hnn
  have HO1 := Lib.hid ho
  clear ho hn3 hn2
  have HGL : Hid (∀ k, k < n2 → ∃ a : Addr, gad = some a ∧ ∀ w' (P : HProp), Own w P w' → w'.cell? (a.add k) = some (.int .i64 (pcG (pcNew gold) k))) := Lib.hid (fun k hk => by
    have hkl : k < gold.length := by rw [← HN.out]; exact hk
    obtain ⟨a, rfl, _⟩ := HVG.out.at k hkl
    refine ⟨a, rfl, fun w' P ho => ?_⟩
    obtain ⟨a', e, hc⟩ := (HVG.out.later ho).at k hkl
    cases e
    rw [hc]
    unfold pcG gAt
    rw [if_pos (by omega), Int.toNat_natCast, show (pcNew gold).gold = gold from rfl, List.getD_eq_getElem?_getD, List.getElem?_eq_getElem hkl]
    rfl)
  have HTS : Hid (∀ k, k < n2 → (gold.take (k + 1)).sum = (gold.take k).sum + pcG (pcNew gold) k) := Lib.hid (fun k hk => gold_take (pcNew gold) k (by show k < gold.length; rw [← HN.out]; exact hk))
  have HTB := Lib.hid (take_sum_bd (l := gold) (fun x hx => by have := HGX.out x hx; omega))
  have HGB : Hid (∀ k : Nat, k < n2 → 0 ≤ pcG (pcNew gold) k ∧ pcG (pcNew gold) k ≤ 1000000) := Lib.hid (fun k _ => (picOk_of hpi.inv (by omega)).gold k)
  go_upto_block 0 with fail
  go_cut [17] (fun sv wx => sv = .int .i64 all ∧ wx = w8)
  case first =>
    go_wp2_with fail
    go_loop [18, 17] (fun iv sv => ∃ k : Nat, k ≤ n2 ∧ iv = .int .i64 k ∧ sv = .int .i64 (gold.take k).sum) (fun iv _ => n2 - (intOf iv).toNat)
    case atStart => exact ⟨0, Nat.zero_le _, rfl, rfl⟩
    case round =>
      obtain ⟨k, hk, rfl, rfl⟩ := hrel
      by_cases h1 : k < n2
      rotate_left
      · have hkn : gold.take k = gold := List.take_of_length_le (by rw [← HN.out]; omega)
        rw [hkn, ← HAL.out]
        have HKN := Lib.hid hkn
        clear hkn
        go_wp2_with fail
        go_meet
        exact ⟨rfl, rfl⟩
      obtain ⟨a, rfl, hc⟩ := HGL.out k h1
      have hc1 := hc _ _ HO1.out
      have hnx := HTS.out k h1
      have hs1 := HTB.out k
      have hg := HGB.out k h1
      obtain ⟨A, hA⟩ : ∃ A, A = (gold.take k).sum := ⟨_, rfl⟩
      obtain ⟨g, hgg⟩ : ∃ A, A = pcG (pcNew gold) k := ⟨_, rfl⟩
      rw [← hA, ← hgg] at hnx
      rw [← hA] at hs1
      rw [← hgg] at hg hc1
      rw [← hA]
      have hwr : IntKind.i64.wrap (A + g) = A + g := by rw [IntKind.wrap_i64]; omega
      clear hc
      have HNX := Lib.hid hnx; have HS1 := Lib.hid hs1; have HA := Lib.hid hA; have HGG := Lib.hid hgg; have HG := Lib.hid hg
      clear hnx hs1 hA hgg hg
      go_wp2
      go_round
      case rel => exact ⟨k + 1, by omega, by go_num, by rw [HNX.out]⟩
      case measure => simp [intOf]; omega
  case rest =>
  obtain ⟨rfl, rfl⟩ := hcut
  clear HGL HTS HTB HGB
  have HPI := Lib.hid hpi
  clear hpi
  go_upto_block 2 with fail
  go_cut [19] (fun bv wx => ∃ s' : Pic, bv = .bool s'.begun ∧ PkI all n2 s' ∧ Own w (PicA p2 c1 c2 c3 g2 o2 d2 n2 s' * emp) wx)
  case first =>
    refine pkMain w HG.out all hall.2 (pcNew gold) HPI.out rfl steps sad scap hsc1 hsc2 HVS HO1 ?_
    intros
    go_step
    go_step
    go_meet
    assumption
  case rest =>
  obtain ⟨s, rfl, hi, ho⟩ := hcut
  have HI := Lib.hid hi
  have HO2 := Lib.hid ho
  clear hi ho HO1 HPI
  obtain ⟨bg, hbg⟩ : ∃ b, b = s.begun := ⟨_, rfl⟩
  rw [← hbg]
  have HBG := Lib.hid hbg
  clear hbg
  go_upto_block 7 with fail
  go_cut [] (fun wx => Own w (PicA p2 c1 c2 c3 g2 o2 d2 n2 (pcRounds n2 s 3) * emp) wx)
  case first =>
    refine pkThree w h5 all hall.2 s HI.out HO2 ?_
    intros
    go_step
    go_step
    go_meet
    assumption
  case rest =>
  have hi3 := HI.out.rounds n2 3
  have he3 := HDONE.out s HI.out
  obtain ⟨T, hT⟩ : ∃ T, T = pcRounds n2 s 3 := ⟨_, rfl⟩
  rw [← hT] at hcut hi3 he3
  have HO3 := Lib.hid hcut
  have hok3 := picOk_of hi3.inv (by omega)
  clear hcut HO2
  have HT := Lib.hid hT; have HI3 := Lib.hid hi3; have HE3 := Lib.hid he3; have HOK3 := Lib.hid hok3
  clear hT hi3 he3 hok3
  go_upto_block 15 with fail
  go_cut [31] (fun sv wx => sv = .int .i64 T.gold.sum ∧ Own w (PicA p2 c1 c2 c3 g2 o2 d2 n2 T * emp) wx)
  case first =>
    refine pkSum w h5 T HI3.out.len HOK3.out HO3 ?_
    intros
    go_step
    go_step
    go_meet
    assumption
  case rest =>
  obtain ⟨rfl, ho⟩ := hcut
  have HO4 := Lib.hid ho
  clear ho HO3
  rw [HE3.out.1]
  have taa : (all == all) = true := by simp
  have tbb : (bg == bg) = true := by simp
  go_wp2_with fail
  refine (pDone_any T HO4.out).mono ?_
  rintro e wD ⟨rfl, ho⟩
  rw [HE3.out.2, ← HBG.out]
  have HO5 := Lib.hid ho
  clear ho HO4
  go_wp2_with fail
  refine (shows_any HG.out T all HI3.out.inv (by omega) HO5.out).mono ?_
  rintro e wE ⟨rfl, ho⟩
  have HO6 := Lib.hid ho
  clear ho
  go_wp2
  go_ret
  exact ⟨rfl, HO6.out.below⟩
end Go.Proofs.YtdeeephdojflpaaDoor
