/- AgainPlays: pieces of the law. -/
import Derived.Test.YteelldblfmhjlaaDoorAgainPlaysP
import Derived.Test.YteelldblfmhjlaaDoorPiece
import Derived.Deep.DeepCutAuto
import Derived.Deep.CutBlock
namespace Go.Proofs.YteelldblfmhjlaaDoor
set_option linter.unusedVariables false
set_option linter.unusedSimpArgs false
open Go.RowKit
def ApS (w : World) (mp vb F : Nat) (x y z : Int) (A : List Int) (R : HProp) (e want : Value) (wx : World) : Prop :=
  e = .int .i64 (seErr (sa A F) y : Nat) ∧ want = .int .i64 (seGot (sa A F) y) ∧ ∃ A', seSay (sa A F) y = sa A' F ∧ (A' = A ∨ (isWord y = true ∧ A' = A ++ [y])) ∧ Own w (SnP mp A' F * (Tri vb [x, y, z] * R)) wx
theorem ApS.no {w : World} {mp vb F : Nat} {x y z : Int} {A : List Int} {R : HProp} {v : Value} {E : Nat} {wx : World} (h : seErr (sa A F) y = E) (hE : E ≠ 0) (ho : Own w (SnO mp v A F * (Tri vb [x, y, z] * R)) wx) : ApS w mp vb F x y z A R (.int .i64 E) (.int .i64 0) wx := by
  subst h
  refine ⟨rfl, by unfold seGot; rw [if_neg hE], A, by unfold seSay; rw [if_neg hE], .inl rfl, ho.sn_close⟩
noncomputable def apFill_code : Code := ((Tryd.f8.body.bind (findBlock 2)).getD .skip)
set_option maxRecDepth 1000000 in
set_option maxHeartbeats 4000000 in
theorem apFill {Q : Exit → Act → World → Prop} {u1 u2 u3 u4 u5 u6 u10 u11 u12 u13 u14 u15 u16 u17 u18 u19 u20 u21 u22 u23 u24 u25 u26 u27 u28 u29 u30 u31 u32 u33 u34 u35 u36 u37 u38 u39 u40 u41 u42 u43 u44 u45 u46 u47 u48 u49 u50 u51 u52 u53 u54 u55 u56 u57 u58 u59 u60 u61 u62 u63 u64 u65 u66 u67 u68 u69 u70 u71 u72 u73 u74 u75 u76 u77 u78 u79 u80 u81 u82 u83 u84 u85 u86 u87 u88 u89 u90 u91 u92 u93 u94 u95 u96 u97 u98 u99 u100 u101 u102 u103 u104 u105 u106 u107 u108 u109 u110 u111 u112 u113 u114 u115 u116 u117 u118 u119 u120 u121 u122 u123 u124 u125 u126 u127 u128 u129 u130 u131 u132 u133 u134 u135 u136 u137 u138 u139 u140 u141 u142 u143 u144 u145 u146 u147 u148 u149 u150 u151 u152 u153 u154 u155 u156 u157 u158 u159 u160 u161 u162 u163 u164 u165 u166 u167 u168 u169 u170 u171 u172 u173 u174 u175 u176 u177 u178 u179 u180 u181 u182 u183 u184 u185 u186 u187 u188 u189 u190 u191 u192 u193 u194 u195 u196 u197 u198 u199 u200 u201 u202 u203 u204 u205 u206 u207 u208 u209 u210 u211 u212 u213 u214 u215 u216 u217 u218 u219 u220 u221 u222 u223 u224 u225 u226 u227 u228 u229 u230 u231 u232 u233 u234 u235 u236 u237 u238 u239 u240 u241 u242 u243 u244 u245 u246 u247 u248 u249 u250 u251 u252 u253 u254 u255 u256 u257 u258 u259 u260 u261 u262 u263 u264 u265 u266 u267 u268 u269 u270 u271 u272 u273 u274 u275 u276 u277 u278 u279 u280 u281 u282 u283 u284 u285 u286 u287 u288 u289 u290 u291 u292 u293 u294 u295 u296 u297 u298 u299 u300 u301 u302 u303 u304 u305 u306 : Value} {w1 : World} (w : World) (R : HProp) (vb k : Nat) (steps : List (List Int)) (row : List Int) (a2 : Addr) (scap rcap : Nat) (rad : Option Addr) (h1 : k < steps.length) (hc1 : steps.length ≤ scap) (hc2 : scap ≤ 9223372036854775807) (HR : Hid (Ints w (.slice rad row.length rcap) row)) (HC : Hid (∀ (w1 : World) (P : HProp), Own w P w1 → w1.cell? (a2.add k) = some (.slice rad row.length rcap))) (HT : Hid (Own w (Tri vb [0, 0, 0] * R) w1))
    (hK : ∀ (v9 v45 v46 v47 v48 v49 v50 v51 v52 v53 v54 v55 v56 v57 v58 v59 v60 v61 v62 v63 v64 v65 v66 : Value) (wx : World), (FpV w vb R wx) → Q .normal ⟨List.toArray ((.slice (some a2) steps.length scap) :: u1 :: u2 :: u3 :: u4 :: u5 :: u6 :: (.int .i64 (k : Int)) :: (.pointer (some ⟨vb, 0, none⟩)) :: v9 :: u10 :: u11 :: u12 :: u13 :: u14 :: u15 :: u16 :: u17 :: u18 :: u19 :: u20 :: u21 :: u22 :: u23 :: u24 :: u25 :: u26 :: u27 :: u28 :: u29 :: u30 :: u31 :: u32 :: u33 :: u34 :: u35 :: u36 :: u37 :: u38 :: u39 :: u40 :: u41 :: u42 :: u43 :: u44 :: v45 :: v46 :: v47 :: v48 :: v49 :: v50 :: v51 :: v52 :: v53 :: v54 :: v55 :: v56 :: v57 :: v58 :: v59 :: v60 :: v61 :: v62 :: v63 :: v64 :: v65 :: v66 :: u67 :: u68 :: u69 :: u70 :: u71 :: u72 :: u73 :: u74 :: u75 :: u76 :: u77 :: u78 :: u79 :: u80 :: u81 :: u82 :: u83 :: u84 :: u85 :: u86 :: u87 :: u88 :: u89 :: u90 :: u91 :: u92 :: u93 :: u94 :: u95 :: u96 :: u97 :: u98 :: u99 :: u100 :: u101 :: u102 :: u103 :: u104 :: u105 :: u106 :: u107 :: u108 :: u109 :: u110 :: u111 :: u112 :: u113 :: u114 :: u115 :: u116 :: u117 :: u118 :: u119 :: u120 :: u121 :: u122 :: u123 :: u124 :: u125 :: u126 :: u127 :: u128 :: u129 :: u130 :: u131 :: u132 :: u133 :: u134 :: u135 :: u136 :: u137 :: u138 :: u139 :: u140 :: u141 :: u142 :: u143 :: u144 :: u145 :: u146 :: u147 :: u148 :: u149 :: u150 :: u151 :: u152 :: u153 :: u154 :: u155 :: u156 :: u157 :: u158 :: u159 :: u160 :: u161 :: u162 :: u163 :: u164 :: u165 :: u166 :: u167 :: u168 :: u169 :: u170 :: u171 :: u172 :: u173 :: u174 :: u175 :: u176 :: u177 :: u178 :: u179 :: u180 :: u181 :: u182 :: u183 :: u184 :: u185 :: u186 :: u187 :: u188 :: u189 :: u190 :: u191 :: u192 :: u193 :: u194 :: u195 :: u196 :: u197 :: u198 :: u199 :: u200 :: u201 :: u202 :: u203 :: u204 :: u205 :: u206 :: u207 :: u208 :: u209 :: u210 :: u211 :: u212 :: u213 :: u214 :: u215 :: u216 :: u217 :: u218 :: u219 :: u220 :: u221 :: u222 :: u223 :: u224 :: u225 :: u226 :: u227 :: u228 :: u229 :: u230 :: u231 :: u232 :: u233 :: u234 :: u235 :: u236 :: u237 :: u238 :: u239 :: u240 :: u241 :: u242 :: u243 :: u244 :: u245 :: u246 :: u247 :: u248 :: u249 :: u250 :: u251 :: u252 :: u253 :: u254 :: u255 :: u256 :: u257 :: u258 :: u259 :: u260 :: u261 :: u262 :: u263 :: u264 :: u265 :: u266 :: u267 :: u268 :: u269 :: u270 :: u271 :: u272 :: u273 :: u274 :: u275 :: u276 :: u277 :: u278 :: u279 :: u280 :: u281 :: u282 :: u283 :: u284 :: u285 :: u286 :: u287 :: u288 :: u289 :: u290 :: u291 :: u292 :: u293 :: u294 :: u295 :: u296 :: u297 :: u298 :: u299 :: u300 :: u301 :: u302 :: u303 :: u304 :: u305 :: u306 :: []), []⟩ wx) :
    Code.wp Tryd.prog apFill_code Q ⟨List.toArray ((.slice (some a2) steps.length scap) :: u1 :: u2 :: u3 :: u4 :: u5 :: u6 :: (.int .i64 (k : Int)) :: (.pointer (some ⟨vb, 0, none⟩)) :: (.int .i64 0) :: u10 :: u11 :: u12 :: u13 :: u14 :: u15 :: u16 :: u17 :: u18 :: u19 :: u20 :: u21 :: u22 :: u23 :: u24 :: u25 :: u26 :: u27 :: u28 :: u29 :: u30 :: u31 :: u32 :: u33 :: u34 :: u35 :: u36 :: u37 :: u38 :: u39 :: u40 :: u41 :: u42 :: u43 :: u44 :: u45 :: u46 :: u47 :: u48 :: u49 :: u50 :: u51 :: u52 :: u53 :: u54 :: u55 :: u56 :: u57 :: u58 :: u59 :: u60 :: u61 :: u62 :: u63 :: u64 :: u65 :: u66 :: u67 :: u68 :: u69 :: u70 :: u71 :: u72 :: u73 :: u74 :: u75 :: u76 :: u77 :: u78 :: u79 :: u80 :: u81 :: u82 :: u83 :: u84 :: u85 :: u86 :: u87 :: u88 :: u89 :: u90 :: u91 :: u92 :: u93 :: u94 :: u95 :: u96 :: u97 :: u98 :: u99 :: u100 :: u101 :: u102 :: u103 :: u104 :: u105 :: u106 :: u107 :: u108 :: u109 :: u110 :: u111 :: u112 :: u113 :: u114 :: u115 :: u116 :: u117 :: u118 :: u119 :: u120 :: u121 :: u122 :: u123 :: u124 :: u125 :: u126 :: u127 :: u128 :: u129 :: u130 :: u131 :: u132 :: u133 :: u134 :: u135 :: u136 :: u137 :: u138 :: u139 :: u140 :: u141 :: u142 :: u143 :: u144 :: u145 :: u146 :: u147 :: u148 :: u149 :: u150 :: u151 :: u152 :: u153 :: u154 :: u155 :: u156 :: u157 :: u158 :: u159 :: u160 :: u161 :: u162 :: u163 :: u164 :: u165 :: u166 :: u167 :: u168 :: u169 :: u170 :: u171 :: u172 :: u173 :: u174 :: u175 :: u176 :: u177 :: u178 :: u179 :: u180 :: u181 :: u182 :: u183 :: u184 :: u185 :: u186 :: u187 :: u188 :: u189 :: u190 :: u191 :: u192 :: u193 :: u194 :: u195 :: u196 :: u197 :: u198 :: u199 :: u200 :: u201 :: u202 :: u203 :: u204 :: u205 :: u206 :: u207 :: u208 :: u209 :: u210 :: u211 :: u212 :: u213 :: u214 :: u215 :: u216 :: u217 :: u218 :: u219 :: u220 :: u221 :: u222 :: u223 :: u224 :: u225 :: u226 :: u227 :: u228 :: u229 :: u230 :: u231 :: u232 :: u233 :: u234 :: u235 :: u236 :: u237 :: u238 :: u239 :: u240 :: u241 :: u242 :: u243 :: u244 :: u245 :: u246 :: u247 :: u248 :: u249 :: u250 :: u251 :: u252 :: u253 :: u254 :: u255 :: u256 :: u257 :: u258 :: u259 :: u260 :: u261 :: u262 :: u263 :: u264 :: u265 :: u266 :: u267 :: u268 :: u269 :: u270 :: u271 :: u272 :: u273 :: u274 :: u275 :: u276 :: u277 :: u278 :: u279 :: u280 :: u281 :: u282 :: u283 :: u284 :: u285 :: u286 :: u287 :: u288 :: u289 :: u290 :: u291 :: u292 :: u293 :: u294 :: u295 :: u296 :: u297 :: u298 :: u299 :: u300 :: u301 :: u302 :: u303 :: u304 :: u305 :: u306 :: []), []⟩ w1 := by
  conv => arg 2; whnf
  have HK := Lib.hid hK
  clear hK
  go_wp2_with fail
  go_loopw [9] (fun jv w2 => ∃ (j : Nat) (l : List Int), j ≤ 3 ∧ jv = .int .i64 j ∧ Hid (l.length = 3) ∧ Hid (Own w (Tri vb l * R) w2)) (fun jv _ => 3 - (intOf jv).toNat)
  case atStart => exact ⟨0, [0, 0, 0], Nat.zero_le _, rfl, Lib.hid rfl, HT⟩
  case round =>
    obtain ⟨j, l, hj, rfl, hl, hpw⟩ := hrel
    have c1 := HC.out _ _ hpw.out
    have fin : FpV w vb R wr := by
      obtain ⟨x, y, z, rfl⟩ : ∃ x y z, l = [x, y, z] := by
        have h3 := hl.out
        match l, h3 with
        | [x, y, z], _ => exact ⟨x, y, z, rfl⟩
      exact ⟨x, y, z, hpw.out⟩
    have FIN := Lib.hid fin
    clear fin
    by_cases h3 : j < row.length
    rotate_left
    · go_wp2_with fail
      apply HK.out
      exact FIN.out
    by_cases h4 : j < 3
    rotate_left
    · go_wp2_with fail
      apply HK.out
      exact FIN.out
    obtain ⟨b3, rfl, hcb⟩ := HR.out.at_later j h3
    have c2 := hcb _ _ hpw.out
    have hjl : j < l.length := by rw [hl.out]; exact h4
    have c3 := hpw.out.tri_cell j hjl
    have c4 := hpw.out.tri_free j
    have HS := Lib.hid (hpw.out.tri_set j row[j])
    have i0 : (0 : Int) ≤ (j : Int) := by omega
    have i3 : (j : Int) < 3 := by omega
    clear hcb
    go_wp2_with fail
    go_roundw
    case rel => exact ⟨j + 1, l.set j row[j], by omega, by go_num, Lib.hid (by rw [List.length_set]; exact hl.out), HS⟩
    case measure => simp [intOf]; omega
noncomputable def apSay_code : Code := ((Tryd.f8.body.bind (findIf 107)).getD .skip)
set_option maxRecDepth 1000000 in
set_option maxHeartbeats 4000000 in
theorem apSay {Q : Exit → Act → World → Prop} {u0 u1 u2 u3 u4 u6 u7 u9 u11 u13 u14 u15 u16 u17 u18 u19 u20 u21 u22 u23 u24 u25 u26 u27 u28 u29 u30 u31 u32 u33 u34 u35 u36 u37 u38 u39 u40 u41 u42 u43 u44 u45 u46 u47 u48 u49 u50 u51 u52 u53 u54 u55 u56 u57 u58 u59 u60 u61 u62 u63 u64 u65 u66 u67 u68 u69 u70 u71 u72 u73 u74 u75 u76 u77 u78 u79 u80 u81 u82 u83 u84 u85 u86 u87 u88 u89 u90 u91 u92 u93 u94 u95 u96 u97 u98 u99 u100 u101 u102 u103 u104 u105 u106 u108 u109 u110 u111 u112 u113 u114 u115 u116 u117 u118 u119 u120 u121 u122 u123 u124 u125 u126 u127 u128 u129 u130 u131 u132 u133 u134 u135 u136 u137 u138 u139 u140 u141 u142 u143 u144 u145 u146 u147 u148 u149 u150 u151 u152 u153 u154 u155 u156 u157 u158 u159 u160 u161 u162 u163 u164 u165 u166 u167 u168 u169 u170 u171 u172 u173 u174 u175 u176 u177 u178 u179 u180 u181 u182 u183 u184 u185 u186 u187 u188 u189 u190 u191 u192 u193 u194 u195 u196 u197 u198 u199 u200 u201 u202 u203 u204 u205 u206 u207 u208 u209 u210 u211 u212 u213 u214 u215 u216 u217 u218 u219 u220 u221 u222 u223 u224 u225 u226 u227 u228 u229 u230 u231 u232 u233 u234 u235 u236 u237 u238 u239 u240 u241 u242 u243 u244 u245 u246 u247 u248 u249 u250 u251 u252 u253 u254 u255 u256 u257 u258 u259 u260 u261 u262 u263 u264 u265 u266 u267 u268 u269 u270 u271 u272 u273 u274 u275 u276 u277 u278 u279 u280 u281 u282 u283 u284 u285 u286 u287 u288 u289 u290 u291 u292 u293 u294 u295 u296 u297 u298 u299 u300 u301 u302 u303 u304 u305 u306 : Value} {w2 : World} (w : World) (mp vb F L cap : Nat) (x y z : Int) (A : List Int) (R : HProp) (ad : Option Addr) (c : Bool) (HCZ : Hid (c = !isWord y)) (hF : F ≤ L) (hL : L ≤ 200) (hcp1 : L ≤ cap) (HLA : Hid (L = A.length)) (HO : Hid (Own w (SnO mp (.slice ad L cap) A F * (Tri vb [x, y, z] * R)) w2))
    (hK : ∀ (v10 v12 v108 v109 v110 v111 v112 v113 v114 v115 v116 v117 v118 v119 v120 v121 v122 v123 v124 v125 v126 v127 v128 v129 v130 v131 v132 v133 v134 : Value) (wx : World), (ApS w mp vb F x y z A R v10 v12 wx) → Q .normal ⟨List.toArray (u0 :: u1 :: u2 :: u3 :: u4 :: (.pointer (some ⟨mp, 0, none⟩)) :: u6 :: u7 :: (.pointer (some ⟨vb, 0, none⟩)) :: u9 :: v10 :: u11 :: v12 :: u13 :: u14 :: u15 :: u16 :: u17 :: u18 :: u19 :: u20 :: u21 :: u22 :: u23 :: u24 :: u25 :: u26 :: u27 :: u28 :: u29 :: u30 :: u31 :: u32 :: u33 :: u34 :: u35 :: u36 :: u37 :: u38 :: u39 :: u40 :: u41 :: u42 :: u43 :: u44 :: u45 :: u46 :: u47 :: u48 :: u49 :: u50 :: u51 :: u52 :: u53 :: u54 :: u55 :: u56 :: u57 :: u58 :: u59 :: u60 :: u61 :: u62 :: u63 :: u64 :: u65 :: u66 :: u67 :: u68 :: u69 :: u70 :: u71 :: u72 :: u73 :: u74 :: u75 :: u76 :: u77 :: u78 :: u79 :: u80 :: u81 :: u82 :: u83 :: u84 :: u85 :: u86 :: u87 :: u88 :: u89 :: u90 :: u91 :: u92 :: u93 :: u94 :: u95 :: u96 :: u97 :: u98 :: u99 :: u100 :: u101 :: u102 :: u103 :: u104 :: u105 :: u106 :: (.bool c) :: v108 :: v109 :: v110 :: v111 :: v112 :: v113 :: v114 :: v115 :: v116 :: v117 :: v118 :: v119 :: v120 :: v121 :: v122 :: v123 :: v124 :: v125 :: v126 :: v127 :: v128 :: v129 :: v130 :: v131 :: v132 :: v133 :: v134 :: u135 :: u136 :: u137 :: u138 :: u139 :: u140 :: u141 :: u142 :: u143 :: u144 :: u145 :: u146 :: u147 :: u148 :: u149 :: u150 :: u151 :: u152 :: u153 :: u154 :: u155 :: u156 :: u157 :: u158 :: u159 :: u160 :: u161 :: u162 :: u163 :: u164 :: u165 :: u166 :: u167 :: u168 :: u169 :: u170 :: u171 :: u172 :: u173 :: u174 :: u175 :: u176 :: u177 :: u178 :: u179 :: u180 :: u181 :: u182 :: u183 :: u184 :: u185 :: u186 :: u187 :: u188 :: u189 :: u190 :: u191 :: u192 :: u193 :: u194 :: u195 :: u196 :: u197 :: u198 :: u199 :: u200 :: u201 :: u202 :: u203 :: u204 :: u205 :: u206 :: u207 :: u208 :: u209 :: u210 :: u211 :: u212 :: u213 :: u214 :: u215 :: u216 :: u217 :: u218 :: u219 :: u220 :: u221 :: u222 :: u223 :: u224 :: u225 :: u226 :: u227 :: u228 :: u229 :: u230 :: u231 :: u232 :: u233 :: u234 :: u235 :: u236 :: u237 :: u238 :: u239 :: u240 :: u241 :: u242 :: u243 :: u244 :: u245 :: u246 :: u247 :: u248 :: u249 :: u250 :: u251 :: u252 :: u253 :: u254 :: u255 :: u256 :: u257 :: u258 :: u259 :: u260 :: u261 :: u262 :: u263 :: u264 :: u265 :: u266 :: u267 :: u268 :: u269 :: u270 :: u271 :: u272 :: u273 :: u274 :: u275 :: u276 :: u277 :: u278 :: u279 :: u280 :: u281 :: u282 :: u283 :: u284 :: u285 :: u286 :: u287 :: u288 :: u289 :: u290 :: u291 :: u292 :: u293 :: u294 :: u295 :: u296 :: u297 :: u298 :: u299 :: u300 :: u301 :: u302 :: u303 :: u304 :: u305 :: u306 :: []), []⟩ wx) :
    Code.wp Tryd.prog apSay_code Q ⟨List.toArray (u0 :: u1 :: u2 :: u3 :: u4 :: (.pointer (some ⟨mp, 0, none⟩)) :: u6 :: u7 :: (.pointer (some ⟨vb, 0, none⟩)) :: u9 :: (.int .i64 0) :: u11 :: (.int .i64 0) :: u13 :: u14 :: u15 :: u16 :: u17 :: u18 :: u19 :: u20 :: u21 :: u22 :: u23 :: u24 :: u25 :: u26 :: u27 :: u28 :: u29 :: u30 :: u31 :: u32 :: u33 :: u34 :: u35 :: u36 :: u37 :: u38 :: u39 :: u40 :: u41 :: u42 :: u43 :: u44 :: u45 :: u46 :: u47 :: u48 :: u49 :: u50 :: u51 :: u52 :: u53 :: u54 :: u55 :: u56 :: u57 :: u58 :: u59 :: u60 :: u61 :: u62 :: u63 :: u64 :: u65 :: u66 :: u67 :: u68 :: u69 :: u70 :: u71 :: u72 :: u73 :: u74 :: u75 :: u76 :: u77 :: u78 :: u79 :: u80 :: u81 :: u82 :: u83 :: u84 :: u85 :: u86 :: u87 :: u88 :: u89 :: u90 :: u91 :: u92 :: u93 :: u94 :: u95 :: u96 :: u97 :: u98 :: u99 :: u100 :: u101 :: u102 :: u103 :: u104 :: u105 :: u106 :: (.bool c) :: u108 :: u109 :: u110 :: u111 :: u112 :: u113 :: u114 :: u115 :: u116 :: u117 :: u118 :: u119 :: u120 :: u121 :: u122 :: u123 :: u124 :: u125 :: u126 :: u127 :: u128 :: u129 :: u130 :: u131 :: u132 :: u133 :: u134 :: u135 :: u136 :: u137 :: u138 :: u139 :: u140 :: u141 :: u142 :: u143 :: u144 :: u145 :: u146 :: u147 :: u148 :: u149 :: u150 :: u151 :: u152 :: u153 :: u154 :: u155 :: u156 :: u157 :: u158 :: u159 :: u160 :: u161 :: u162 :: u163 :: u164 :: u165 :: u166 :: u167 :: u168 :: u169 :: u170 :: u171 :: u172 :: u173 :: u174 :: u175 :: u176 :: u177 :: u178 :: u179 :: u180 :: u181 :: u182 :: u183 :: u184 :: u185 :: u186 :: u187 :: u188 :: u189 :: u190 :: u191 :: u192 :: u193 :: u194 :: u195 :: u196 :: u197 :: u198 :: u199 :: u200 :: u201 :: u202 :: u203 :: u204 :: u205 :: u206 :: u207 :: u208 :: u209 :: u210 :: u211 :: u212 :: u213 :: u214 :: u215 :: u216 :: u217 :: u218 :: u219 :: u220 :: u221 :: u222 :: u223 :: u224 :: u225 :: u226 :: u227 :: u228 :: u229 :: u230 :: u231 :: u232 :: u233 :: u234 :: u235 :: u236 :: u237 :: u238 :: u239 :: u240 :: u241 :: u242 :: u243 :: u244 :: u245 :: u246 :: u247 :: u248 :: u249 :: u250 :: u251 :: u252 :: u253 :: u254 :: u255 :: u256 :: u257 :: u258 :: u259 :: u260 :: u261 :: u262 :: u263 :: u264 :: u265 :: u266 :: u267 :: u268 :: u269 :: u270 :: u271 :: u272 :: u273 :: u274 :: u275 :: u276 :: u277 :: u278 :: u279 :: u280 :: u281 :: u282 :: u283 :: u284 :: u285 :: u286 :: u287 :: u288 :: u289 :: u290 :: u291 :: u292 :: u293 :: u294 :: u295 :: u296 :: u297 :: u298 :: u299 :: u300 :: u301 :: u302 :: u303 :: u304 :: u305 :: u306 :: []), []⟩ w2 := by
  conv => arg 2; whnf
  have HK := Lib.hid hK
  clear hK
  have herr := sa_err A F (by rw [← HLA.out]; exact hF) y
  rw [← HLA.out] at herr
  cases c
  rotate_left
  · have hz : isWord y = false := by have := HCZ.out; simpa using this.symm
    rw [if_pos hz] at herr
    have HERR := Lib.hid herr; have HZ := Lib.hid hz
    clear herr hz
    go_wp2_with fail
    apply HK.out
    exact ApS.no HERR.out (by simp) HO.out
  have hz : isWord y = true := by have := HCZ.out; simpa using this.symm
  rw [if_neg (by rw [hz]; simp)] at herr
  obtain ⟨f1, f2, f3⟩ := HO.out.sn_facts
  by_cases h4 : 40 ≤ L - F
  · rw [if_pos h4] at herr
    have t1 : decide ((40 : Int) ≤ (L : Int) - (F : Int)) = true := by simp; omega
    have HERR := Lib.hid herr; have HZ := Lib.hid hz; have F3 := Lib.hid f3
    clear herr hz f3
    go_wp2_with fail
    go_quiet (fail)
    go_wp2_with fail
    apply HK.out
    exact ApS.no HERR.out (by simp) (HO.out.drewN _)
  rw [if_neg h4] at herr
  have t1 : decide ((40 : Int) ≤ (L : Int) - (F : Int)) = false := by simp; omega
  have hTr := fun (w' : World) (h : Own w (SnO mp (.slice ad L cap) A F * (Tri vb [x, y, z] * R)) w') => (h.perm (star_left_comm _ _ _)).tri_cell 1 (by simp)
  have g2 := hTr _ HO.out
  simp only [List.getElem_cons_succ, List.getElem_cons_zero] at g2
  have HERR := Lib.hid herr; have HZ := Lib.hid hz; have F3 := Lib.hid f3
  clear herr hz f3
  go_wp2_with fail
  go_quiet (fail)
  have HO1 := Lib.hid (HO.out.drewN nq)
  obtain ⟨w3, hw3⟩ : ∃ w3, w3 = w2.drewN nq := ⟨_, rfl⟩
  rw [← hw3] at HO1 ⊢
  clear hw3 f1 f2 g2
  obtain ⟨f1, f2, f3⟩ := HO1.out.sn_facts
  have g2 := hTr _ HO1.out
  simp only [List.getElem_cons_succ, List.getElem_cons_zero] at g2
  have f30 := f3 0 none
  have hal := fun o => (HO1.out.alloc' o).sn_facts.1
  have hal2 := fun o => hTr _ (HO1.out.alloc' o)
  simp only [List.getElem_cons_succ, List.getElem_cons_zero] at hal2
  have hb1 := (HO1.out.sn_sl.alloc' (.cells #[.int .i64 y] 3)).drew
  unfold IntSl at hb1
  rw [← HLA.out] at hb1
  have HL2 := Lib.hid (show L + 1 ≤ maxLen by unfold maxLen; omega)
  have HL3 := Lib.hid (show (L + 1) * 8 ≤ 140737488355328 by omega)
  have HB1 := Lib.hid hb1
  have F3 := Lib.hid f3; have HAL := Lib.hid hal; have HAL2 := Lib.hid hal2; have HTR := Lib.hid hTr
  clear f3 hal hal2 hTr
  clear hb1
  go_wp2_with fail
  refine wp_region_planH 11 [] [(true, 0), (true, 1), (true, 2), (true, 3), (true, 4), (true, 5), (true, 6), (false, 7), (false, 8), (true, 9), (true, 10)] [11] (fun wS => wS.cell? ⟨mp, 0, none⟩ = some (.slice ad L cap) ∧ wS.cell? ⟨vb, 1, none⟩ = some (.int .i64 y)) (by kernel_rfl) (by kernel_rfl) (⟨f1, g2⟩) ?_
  simp only [pickH, pick, List.getElem?_cons_succ, List.getElem?_cons_zero, Option.toList, Option.map_some, List.cons_append, List.nil_append]
  repeat (refine wpPure_step ?_ rfl ?_ ?_; rotate_left; (focus (intro _; first | with_reducible rfl | (go_simp; done) | (go_simp; with_reducible rfl) | rfl)); go_simp)
  refine wpPure_nil ?_
  repeat (refine wpMix_read ?_ rfl ?_ ?_; rotate_left; (focus (intro _ hS; obtain ⟨s1, s2⟩ := hS; first | with_reducible rfl | (go_simp; done) | (go_simp; with_reducible rfl) | rfl)); go_simp)
  refine wpMix_write (fun K hK => ?_)
  go_simp
  refine hK _ _ ⟨⟨HAL.out _, HAL2.out _⟩, ?_⟩
  clear hK K
  go_simp
  refine wpMix_write (fun K hK => ?_)
  refine step_app rfl _ _ 22 rfl 3 1 8 _ int_info Tryd.underlying22 rfl (by decide) (by rfl) HB1.out (by rfl) (by rfl) (Rd_lit (by simp) (by unfold maxLen; omega)) (by intro u hu; simp at hu; subst hu; rfl) HL2.out HL3.out ?_
  intro v' w4 hown'
  obtain ⟨ad', cp', hv', _⟩ := Own.rd hown'
  have hown2 : Own w (IntSl v' (A ++ [y]) * (blk mp (.cells #[.slice ad L cap, .int .i64 F] 67 (0, 0)) * (Tri vb [x, y, z] * R))) w4 := by
    unfold IntSl
    rw [List.length_append, List.length_singleton, List.map_append, ← HLA.out]
    exact hown'
  have k1 : w4.cell? ⟨mp, 0, none⟩ = some (.slice ad L cap) := by rw [(hown2.perm (star_left_comm _ _ _)).cell]; rfl
  have k3 := (hown2.perm (star_left_comm _ _ _)).free 0 none
  have k2 := (hown2.perm (show _ = Tri vb [x, y, z] * (IntSl v' (A ++ [y]) * (blk mp (.cells #[.slice ad L cap, .int .i64 F] 67 (0, 0)) * R)) by ac_rfl)).tri_cell 1 (by simp)
  simp only [List.getElem_cons_succ, List.getElem_cons_zero] at k2
  have hput := Own.sn_put (A := A) hown2
  subst hv'
  have HS := Lib.hid hput
  clear hown' hown2 hput
  refine hK _ _ ⟨⟨k1, k2⟩, ?_⟩
  clear hK K
  go_simp
  repeat (refine wpMix_read ?_ rfl ?_ ?_; rotate_left; (focus (intro _ hS; obtain ⟨s1, s2⟩ := hS; first | with_reducible rfl | (go_simp; done) | (go_simp; with_reducible rfl) | rfl)); go_simp)
  refine wpMix_nil ?_
  go_wp2_with fail
  refine NoPanic.normal ?_
  have e1 := HS.out.sn_facts.1
  go_wp2_with fail
  apply HK.out
  have hs := sa_say A F (by rw [← HLA.out]; exact hF) y HERR.out
  exact ⟨by rw [HERR.out]; rfl, by rw [hs.2, HLA.out], A ++ [y], hs.1, .inr ⟨HZ.out, rfl⟩, HS.out.sn_close⟩
noncomputable def apAsk_code : Code := ((Tryd.f8.body.bind (findIf 164)).getD .skip)
set_option maxRecDepth 1000000 in
set_option maxHeartbeats 4000000 in
theorem apAsk {Q : Exit → Act → World → Prop} {u0 u1 u2 u3 u4 u6 u7 u9 u11 u12 u13 u14 u16 u17 u18 u19 u20 u21 u22 u23 u24 u25 u26 u27 u28 u29 u30 u31 u32 u33 u34 u35 u36 u37 u38 u39 u40 u41 u42 u43 u44 u45 u46 u47 u48 u49 u50 u51 u52 u53 u54 u55 u56 u57 u58 u59 u60 u61 u62 u63 u64 u65 u66 u67 u68 u69 u70 u71 u72 u73 u74 u75 u76 u77 u78 u79 u80 u81 u82 u83 u84 u85 u86 u87 u88 u89 u90 u91 u92 u93 u94 u95 u96 u97 u98 u99 u100 u101 u102 u103 u104 u105 u106 u107 u108 u109 u110 u111 u112 u113 u114 u115 u116 u117 u118 u119 u120 u121 u122 u123 u124 u125 u126 u127 u128 u129 u130 u131 u132 u133 u134 u135 u136 u137 u138 u139 u140 u141 u142 u143 u144 u145 u146 u147 u148 u149 u150 u151 u152 u153 u154 u155 u156 u157 u158 u159 u160 u161 u162 u163 u165 u166 u167 u168 u169 u170 u171 u172 u173 u174 u175 u176 u177 u178 u179 u180 u181 u182 u183 u184 u185 u186 u187 u188 u189 u190 u191 u192 u193 u194 u195 u196 u197 u198 u199 u200 u201 u202 u203 u204 u205 u206 u207 u208 u209 u210 u211 u212 u213 u214 u215 u216 u217 u218 u219 u220 u221 u222 u223 u224 u225 u226 u227 u228 u229 u230 u231 u232 u233 u234 u235 u236 u237 u238 u239 u240 u241 u242 u243 u244 u245 u246 u247 u248 u249 u250 u251 u252 u253 u254 u255 u256 u257 u258 u259 u260 u261 u262 u263 u264 u265 u266 u267 u268 u269 u270 u271 u272 u273 u274 u275 u276 u277 u278 u279 u280 u281 u282 u283 u284 u285 u286 u287 u288 u289 u290 u291 u292 u293 u294 u295 u296 u297 u298 u299 u300 u301 u302 u303 u304 u305 u306 : Value} {w2 : World} (w : World) (mp vb F L cap : Nat) (x y z : Int) (A : List Int) (R : HProp) (ad : Option Addr) (c : Bool) (HCZ : Hid (c = (decide (y < 1) || decide ((L : Int) < y)))) (hF : F ≤ L) (hL : L ≤ 200) (hcp1 : L ≤ cap) (HLA : Hid (L = A.length)) (HA : Hid (∀ x ∈ A, 1 ≤ x ∧ x ≤ 30)) (HO : Hid (Own w (SnO mp (.slice ad L cap) A F * (Tri vb [x, y, z] * R)) w2))
    (hK : ∀ (v10 v15 v165 v166 v167 v168 v169 v170 v171 v172 v173 v174 v175 v176 v177 v178 v179 v180 : Value) (wx : World), (v10 = .int .i64 (seAskErr (sa A F) y : Nat) ∧ v15 = .int .i64 (seAsk (sa A F) y) ∧ ∃ n, wx = w2.drewN n) → Q .normal ⟨List.toArray (u0 :: u1 :: u2 :: u3 :: u4 :: (.pointer (some ⟨mp, 0, none⟩)) :: u6 :: u7 :: (.pointer (some ⟨vb, 0, none⟩)) :: u9 :: v10 :: u11 :: u12 :: u13 :: u14 :: v15 :: u16 :: u17 :: u18 :: u19 :: u20 :: u21 :: u22 :: u23 :: u24 :: u25 :: u26 :: u27 :: u28 :: u29 :: u30 :: u31 :: u32 :: u33 :: u34 :: u35 :: u36 :: u37 :: u38 :: u39 :: u40 :: u41 :: u42 :: u43 :: u44 :: u45 :: u46 :: u47 :: u48 :: u49 :: u50 :: u51 :: u52 :: u53 :: u54 :: u55 :: u56 :: u57 :: u58 :: u59 :: u60 :: u61 :: u62 :: u63 :: u64 :: u65 :: u66 :: u67 :: u68 :: u69 :: u70 :: u71 :: u72 :: u73 :: u74 :: u75 :: u76 :: u77 :: u78 :: u79 :: u80 :: u81 :: u82 :: u83 :: u84 :: u85 :: u86 :: u87 :: u88 :: u89 :: u90 :: u91 :: u92 :: u93 :: u94 :: u95 :: u96 :: u97 :: u98 :: u99 :: u100 :: u101 :: u102 :: u103 :: u104 :: u105 :: u106 :: u107 :: u108 :: u109 :: u110 :: u111 :: u112 :: u113 :: u114 :: u115 :: u116 :: u117 :: u118 :: u119 :: u120 :: u121 :: u122 :: u123 :: u124 :: u125 :: u126 :: u127 :: u128 :: u129 :: u130 :: u131 :: u132 :: u133 :: u134 :: u135 :: u136 :: u137 :: u138 :: u139 :: u140 :: u141 :: u142 :: u143 :: u144 :: u145 :: u146 :: u147 :: u148 :: u149 :: u150 :: u151 :: u152 :: u153 :: u154 :: u155 :: u156 :: u157 :: u158 :: u159 :: u160 :: u161 :: u162 :: u163 :: (.bool c) :: v165 :: v166 :: v167 :: v168 :: v169 :: v170 :: v171 :: v172 :: v173 :: v174 :: v175 :: v176 :: v177 :: v178 :: v179 :: v180 :: u181 :: u182 :: u183 :: u184 :: u185 :: u186 :: u187 :: u188 :: u189 :: u190 :: u191 :: u192 :: u193 :: u194 :: u195 :: u196 :: u197 :: u198 :: u199 :: u200 :: u201 :: u202 :: u203 :: u204 :: u205 :: u206 :: u207 :: u208 :: u209 :: u210 :: u211 :: u212 :: u213 :: u214 :: u215 :: u216 :: u217 :: u218 :: u219 :: u220 :: u221 :: u222 :: u223 :: u224 :: u225 :: u226 :: u227 :: u228 :: u229 :: u230 :: u231 :: u232 :: u233 :: u234 :: u235 :: u236 :: u237 :: u238 :: u239 :: u240 :: u241 :: u242 :: u243 :: u244 :: u245 :: u246 :: u247 :: u248 :: u249 :: u250 :: u251 :: u252 :: u253 :: u254 :: u255 :: u256 :: u257 :: u258 :: u259 :: u260 :: u261 :: u262 :: u263 :: u264 :: u265 :: u266 :: u267 :: u268 :: u269 :: u270 :: u271 :: u272 :: u273 :: u274 :: u275 :: u276 :: u277 :: u278 :: u279 :: u280 :: u281 :: u282 :: u283 :: u284 :: u285 :: u286 :: u287 :: u288 :: u289 :: u290 :: u291 :: u292 :: u293 :: u294 :: u295 :: u296 :: u297 :: u298 :: u299 :: u300 :: u301 :: u302 :: u303 :: u304 :: u305 :: u306 :: []), []⟩ wx) :
    Code.wp Tryd.prog apAsk_code Q ⟨List.toArray (u0 :: u1 :: u2 :: u3 :: u4 :: (.pointer (some ⟨mp, 0, none⟩)) :: u6 :: u7 :: (.pointer (some ⟨vb, 0, none⟩)) :: u9 :: (.int .i64 0) :: u11 :: u12 :: u13 :: u14 :: (.int .i64 0) :: u16 :: u17 :: u18 :: u19 :: u20 :: u21 :: u22 :: u23 :: u24 :: u25 :: u26 :: u27 :: u28 :: u29 :: u30 :: u31 :: u32 :: u33 :: u34 :: u35 :: u36 :: u37 :: u38 :: u39 :: u40 :: u41 :: u42 :: u43 :: u44 :: u45 :: u46 :: u47 :: u48 :: u49 :: u50 :: u51 :: u52 :: u53 :: u54 :: u55 :: u56 :: u57 :: u58 :: u59 :: u60 :: u61 :: u62 :: u63 :: u64 :: u65 :: u66 :: u67 :: u68 :: u69 :: u70 :: u71 :: u72 :: u73 :: u74 :: u75 :: u76 :: u77 :: u78 :: u79 :: u80 :: u81 :: u82 :: u83 :: u84 :: u85 :: u86 :: u87 :: u88 :: u89 :: u90 :: u91 :: u92 :: u93 :: u94 :: u95 :: u96 :: u97 :: u98 :: u99 :: u100 :: u101 :: u102 :: u103 :: u104 :: u105 :: u106 :: u107 :: u108 :: u109 :: u110 :: u111 :: u112 :: u113 :: u114 :: u115 :: u116 :: u117 :: u118 :: u119 :: u120 :: u121 :: u122 :: u123 :: u124 :: u125 :: u126 :: u127 :: u128 :: u129 :: u130 :: u131 :: u132 :: u133 :: u134 :: u135 :: u136 :: u137 :: u138 :: u139 :: u140 :: u141 :: u142 :: u143 :: u144 :: u145 :: u146 :: u147 :: u148 :: u149 :: u150 :: u151 :: u152 :: u153 :: u154 :: u155 :: u156 :: u157 :: u158 :: u159 :: u160 :: u161 :: u162 :: u163 :: (.bool c) :: u165 :: u166 :: u167 :: u168 :: u169 :: u170 :: u171 :: u172 :: u173 :: u174 :: u175 :: u176 :: u177 :: u178 :: u179 :: u180 :: u181 :: u182 :: u183 :: u184 :: u185 :: u186 :: u187 :: u188 :: u189 :: u190 :: u191 :: u192 :: u193 :: u194 :: u195 :: u196 :: u197 :: u198 :: u199 :: u200 :: u201 :: u202 :: u203 :: u204 :: u205 :: u206 :: u207 :: u208 :: u209 :: u210 :: u211 :: u212 :: u213 :: u214 :: u215 :: u216 :: u217 :: u218 :: u219 :: u220 :: u221 :: u222 :: u223 :: u224 :: u225 :: u226 :: u227 :: u228 :: u229 :: u230 :: u231 :: u232 :: u233 :: u234 :: u235 :: u236 :: u237 :: u238 :: u239 :: u240 :: u241 :: u242 :: u243 :: u244 :: u245 :: u246 :: u247 :: u248 :: u249 :: u250 :: u251 :: u252 :: u253 :: u254 :: u255 :: u256 :: u257 :: u258 :: u259 :: u260 :: u261 :: u262 :: u263 :: u264 :: u265 :: u266 :: u267 :: u268 :: u269 :: u270 :: u271 :: u272 :: u273 :: u274 :: u275 :: u276 :: u277 :: u278 :: u279 :: u280 :: u281 :: u282 :: u283 :: u284 :: u285 :: u286 :: u287 :: u288 :: u289 :: u290 :: u291 :: u292 :: u293 :: u294 :: u295 :: u296 :: u297 :: u298 :: u299 :: u300 :: u301 :: u302 :: u303 :: u304 :: u305 :: u306 :: []), []⟩ w2 := by
  conv => arg 2; whnf
  have HK := Lib.hid hK
  clear hK
  have herr := sa_askErr A F y
  rw [← HLA.out] at herr
  have hno : seAskErr (sa A F) y ≠ 0 → seAsk (sa A F) y = 0 := fun h => by unfold seAsk; rw [if_neg h]
  cases c
  rotate_left
  · have he : seAskErr (sa A F) y = 1 := by
      rw [herr]
      have := HCZ.out.symm
      simp at this
      by_cases h1 : y < 1
      · rw [if_pos h1]
      · rw [if_neg h1, if_pos (by omega)]
    have HERR := Lib.hid herr; have HNO := Lib.hid hno; have HE := Lib.hid he
    clear herr hno he
    go_wp2_with fail
    apply HK.out
    exact ⟨by rw [HE.out]; rfl, by rw [HNO.out (by rw [HE.out]; simp)], 0, rfl⟩
  have hy : ¬ y < 1 ∧ ¬ (L : Int) < y := by have := HCZ.out.symm; simp at this; omega
  rw [if_neg hy.1, if_neg hy.2] at herr
  obtain ⟨j, rfl⟩ : ∃ j : Nat, y = (j : Int) + 1 := ⟨(y - 1).toNat, by omega⟩
  have hjL : j < L := by omega
  obtain ⟨f1, f2, f3⟩ := HO.out.sn_facts
  have g2 := (HO.out.perm (star_left_comm _ _ _)).tri_cell 1 (by simp)
  simp only [List.getElem_cons_succ, List.getElem_cons_zero] at g2
  by_cases h5 : (j : Int) + 1 ≤ F
  · rw [if_pos h5] at herr
    have t1 : decide ((j : Int) + 1 ≤ (F : Int)) = true := by simpa using h5
    have HERR := Lib.hid herr; have HNO := Lib.hid hno; have F3 := Lib.hid f3; have HY := Lib.hid hy
    clear herr hno f3 hy
    go_wp2_with fail
    go_quiet (fail)
    go_wp2_with fail
    apply HK.out
    exact ⟨by rw [HERR.out]; rfl, by rw [HNO.out (by rw [HERR.out]; simp)], _, rfl⟩
  rw [if_neg h5] at herr
  have t1 : decide ((j : Int) + 1 ≤ (F : Int)) = false := by simpa using h5
  have hI : Ints w2 (.slice ad L cap) A := IntSl_reads (fun x hx => by have := HA.out x hx; unfold I64; omega) _ HO.out.sn_sl
  have hjA : j < A.length := by rw [← HLA.out]; exact hjL
  have HLA2 := HLA.out
  subst HLA2
  obtain ⟨aa, rfl, hca⟩ := hI.at j hjA
  have hask := sa_ask A F ((j : Int) + 1) herr
  rw [show ((j : Int) + 1 - 1).toNat = j from by omega] at hask
  have hget : A.getD j 0 = A[j] := by simp [hjA]
  have i0 : (0 : Int) ≤ (j : Int) := by omega
  have i1 : (j : Int) < (A.length : Int) := by omega
  rw [hget] at hask
  obtain ⟨aj, haj⟩ : ∃ a, a = A[j] := ⟨_, rfl⟩
  rw [← haj] at hask hca
  have HERR := Lib.hid herr; have HNO := Lib.hid hno; have F3 := Lib.hid f3; have HY := Lib.hid hy; have HASK := Lib.hid hask; have HGET := Lib.hid hget; have HAJ := Lib.hid haj; have HI := Lib.hid hI
  clear herr hno f3 hy hask hget haj hI
  go_wp2_with fail
  go_quiet (fail)
  go_wp2_with fail
  go_quiet (fail)
  go_wp2_with fail
  apply HK.out
  exact ⟨by rw [HERR.out]; rfl, by rw [HASK.out], _, World.drewN_drewN _ _ _⟩
noncomputable def apFree_code : Code := ((Tryd.f8.body.bind (findIf 210)).getD .skip)
set_option maxRecDepth 1000000 in
set_option maxHeartbeats 4000000 in
theorem apFree {Q : Exit → Act → World → Prop} {u0 u1 u2 u3 u4 u6 u7 u9 u11 u12 u13 u14 u15 u16 u17 u18 u19 u20 u21 u22 u23 u24 u25 u26 u27 u28 u29 u30 u31 u32 u33 u34 u35 u36 u37 u38 u39 u40 u41 u42 u43 u44 u45 u46 u47 u48 u49 u50 u51 u52 u53 u54 u55 u56 u57 u58 u59 u60 u61 u62 u63 u64 u65 u66 u67 u68 u69 u70 u71 u72 u73 u74 u75 u76 u77 u78 u79 u80 u81 u82 u83 u84 u85 u86 u87 u88 u89 u90 u91 u92 u93 u94 u95 u96 u97 u98 u99 u100 u101 u102 u103 u104 u105 u106 u107 u108 u109 u110 u111 u112 u113 u114 u115 u116 u117 u118 u119 u120 u121 u122 u123 u124 u125 u126 u127 u128 u129 u130 u131 u132 u133 u134 u135 u136 u137 u138 u139 u140 u141 u142 u143 u144 u145 u146 u147 u148 u149 u150 u151 u152 u153 u154 u155 u156 u157 u158 u159 u160 u161 u162 u163 u164 u165 u166 u167 u168 u169 u170 u171 u172 u173 u174 u175 u176 u177 u178 u179 u180 u181 u182 u183 u184 u185 u186 u187 u188 u189 u190 u191 u192 u193 u194 u195 u196 u197 u198 u199 u200 u201 u202 u203 u204 u205 u206 u207 u208 u209 u211 u212 u213 u214 u215 u216 u217 u218 u219 u220 u221 u222 u223 u224 u225 u226 u227 u228 u229 u230 u231 u232 u233 u234 u235 u236 u237 u238 u239 u240 u241 u242 u243 u244 u245 u246 u247 u248 u249 u250 u251 u252 u253 u254 u255 u256 u257 u258 u259 u260 u261 u262 u263 u264 u265 u266 u267 u268 u269 u270 u271 u272 u273 u274 u275 u276 u277 u278 u279 u280 u281 u282 u283 u284 u285 u286 u287 u288 u289 u290 u291 u292 u293 u294 u295 u296 u297 u298 u299 u300 u301 u302 u303 u304 u305 u306 : Value} {w2 : World} (w : World) (mp vb F L cap : Nat) (x y z : Int) (A : List Int) (R : HProp) (ad : Option Addr) (c : Bool) (HCZ : Hid (c = (decide (y < 0) || decide ((L : Int) < y)))) (hF : F ≤ L) (hL : L ≤ 200) (HLA : Hid (L = A.length)) (HO : Hid (Own w (SnO mp (.slice ad L cap) A F * (Tri vb [x, y, z] * R)) w2))
    (hK : ∀ (v10 v211 v212 v213 v214 v215 v216 v217 v218 v219 v220 v221 v222 : Value) (wx : World), (v10 = .int .i64 (seFreeErr (sa A F) y : Nat) ∧ ∃ F', F' ≤ A.length ∧ seFree (sa A F) y = sa A F' ∧ Own w (SnP mp A F' * (Tri vb [x, y, z] * R)) wx) → Q .normal ⟨List.toArray (u0 :: u1 :: u2 :: u3 :: u4 :: (.pointer (some ⟨mp, 0, none⟩)) :: u6 :: u7 :: (.pointer (some ⟨vb, 0, none⟩)) :: u9 :: v10 :: u11 :: u12 :: u13 :: u14 :: u15 :: u16 :: u17 :: u18 :: u19 :: u20 :: u21 :: u22 :: u23 :: u24 :: u25 :: u26 :: u27 :: u28 :: u29 :: u30 :: u31 :: u32 :: u33 :: u34 :: u35 :: u36 :: u37 :: u38 :: u39 :: u40 :: u41 :: u42 :: u43 :: u44 :: u45 :: u46 :: u47 :: u48 :: u49 :: u50 :: u51 :: u52 :: u53 :: u54 :: u55 :: u56 :: u57 :: u58 :: u59 :: u60 :: u61 :: u62 :: u63 :: u64 :: u65 :: u66 :: u67 :: u68 :: u69 :: u70 :: u71 :: u72 :: u73 :: u74 :: u75 :: u76 :: u77 :: u78 :: u79 :: u80 :: u81 :: u82 :: u83 :: u84 :: u85 :: u86 :: u87 :: u88 :: u89 :: u90 :: u91 :: u92 :: u93 :: u94 :: u95 :: u96 :: u97 :: u98 :: u99 :: u100 :: u101 :: u102 :: u103 :: u104 :: u105 :: u106 :: u107 :: u108 :: u109 :: u110 :: u111 :: u112 :: u113 :: u114 :: u115 :: u116 :: u117 :: u118 :: u119 :: u120 :: u121 :: u122 :: u123 :: u124 :: u125 :: u126 :: u127 :: u128 :: u129 :: u130 :: u131 :: u132 :: u133 :: u134 :: u135 :: u136 :: u137 :: u138 :: u139 :: u140 :: u141 :: u142 :: u143 :: u144 :: u145 :: u146 :: u147 :: u148 :: u149 :: u150 :: u151 :: u152 :: u153 :: u154 :: u155 :: u156 :: u157 :: u158 :: u159 :: u160 :: u161 :: u162 :: u163 :: u164 :: u165 :: u166 :: u167 :: u168 :: u169 :: u170 :: u171 :: u172 :: u173 :: u174 :: u175 :: u176 :: u177 :: u178 :: u179 :: u180 :: u181 :: u182 :: u183 :: u184 :: u185 :: u186 :: u187 :: u188 :: u189 :: u190 :: u191 :: u192 :: u193 :: u194 :: u195 :: u196 :: u197 :: u198 :: u199 :: u200 :: u201 :: u202 :: u203 :: u204 :: u205 :: u206 :: u207 :: u208 :: u209 :: (.bool c) :: v211 :: v212 :: v213 :: v214 :: v215 :: v216 :: v217 :: v218 :: v219 :: v220 :: v221 :: v222 :: u223 :: u224 :: u225 :: u226 :: u227 :: u228 :: u229 :: u230 :: u231 :: u232 :: u233 :: u234 :: u235 :: u236 :: u237 :: u238 :: u239 :: u240 :: u241 :: u242 :: u243 :: u244 :: u245 :: u246 :: u247 :: u248 :: u249 :: u250 :: u251 :: u252 :: u253 :: u254 :: u255 :: u256 :: u257 :: u258 :: u259 :: u260 :: u261 :: u262 :: u263 :: u264 :: u265 :: u266 :: u267 :: u268 :: u269 :: u270 :: u271 :: u272 :: u273 :: u274 :: u275 :: u276 :: u277 :: u278 :: u279 :: u280 :: u281 :: u282 :: u283 :: u284 :: u285 :: u286 :: u287 :: u288 :: u289 :: u290 :: u291 :: u292 :: u293 :: u294 :: u295 :: u296 :: u297 :: u298 :: u299 :: u300 :: u301 :: u302 :: u303 :: u304 :: u305 :: u306 :: []), []⟩ wx) :
    Code.wp Tryd.prog apFree_code Q ⟨List.toArray (u0 :: u1 :: u2 :: u3 :: u4 :: (.pointer (some ⟨mp, 0, none⟩)) :: u6 :: u7 :: (.pointer (some ⟨vb, 0, none⟩)) :: u9 :: (.int .i64 0) :: u11 :: u12 :: u13 :: u14 :: u15 :: u16 :: u17 :: u18 :: u19 :: u20 :: u21 :: u22 :: u23 :: u24 :: u25 :: u26 :: u27 :: u28 :: u29 :: u30 :: u31 :: u32 :: u33 :: u34 :: u35 :: u36 :: u37 :: u38 :: u39 :: u40 :: u41 :: u42 :: u43 :: u44 :: u45 :: u46 :: u47 :: u48 :: u49 :: u50 :: u51 :: u52 :: u53 :: u54 :: u55 :: u56 :: u57 :: u58 :: u59 :: u60 :: u61 :: u62 :: u63 :: u64 :: u65 :: u66 :: u67 :: u68 :: u69 :: u70 :: u71 :: u72 :: u73 :: u74 :: u75 :: u76 :: u77 :: u78 :: u79 :: u80 :: u81 :: u82 :: u83 :: u84 :: u85 :: u86 :: u87 :: u88 :: u89 :: u90 :: u91 :: u92 :: u93 :: u94 :: u95 :: u96 :: u97 :: u98 :: u99 :: u100 :: u101 :: u102 :: u103 :: u104 :: u105 :: u106 :: u107 :: u108 :: u109 :: u110 :: u111 :: u112 :: u113 :: u114 :: u115 :: u116 :: u117 :: u118 :: u119 :: u120 :: u121 :: u122 :: u123 :: u124 :: u125 :: u126 :: u127 :: u128 :: u129 :: u130 :: u131 :: u132 :: u133 :: u134 :: u135 :: u136 :: u137 :: u138 :: u139 :: u140 :: u141 :: u142 :: u143 :: u144 :: u145 :: u146 :: u147 :: u148 :: u149 :: u150 :: u151 :: u152 :: u153 :: u154 :: u155 :: u156 :: u157 :: u158 :: u159 :: u160 :: u161 :: u162 :: u163 :: u164 :: u165 :: u166 :: u167 :: u168 :: u169 :: u170 :: u171 :: u172 :: u173 :: u174 :: u175 :: u176 :: u177 :: u178 :: u179 :: u180 :: u181 :: u182 :: u183 :: u184 :: u185 :: u186 :: u187 :: u188 :: u189 :: u190 :: u191 :: u192 :: u193 :: u194 :: u195 :: u196 :: u197 :: u198 :: u199 :: u200 :: u201 :: u202 :: u203 :: u204 :: u205 :: u206 :: u207 :: u208 :: u209 :: (.bool c) :: u211 :: u212 :: u213 :: u214 :: u215 :: u216 :: u217 :: u218 :: u219 :: u220 :: u221 :: u222 :: u223 :: u224 :: u225 :: u226 :: u227 :: u228 :: u229 :: u230 :: u231 :: u232 :: u233 :: u234 :: u235 :: u236 :: u237 :: u238 :: u239 :: u240 :: u241 :: u242 :: u243 :: u244 :: u245 :: u246 :: u247 :: u248 :: u249 :: u250 :: u251 :: u252 :: u253 :: u254 :: u255 :: u256 :: u257 :: u258 :: u259 :: u260 :: u261 :: u262 :: u263 :: u264 :: u265 :: u266 :: u267 :: u268 :: u269 :: u270 :: u271 :: u272 :: u273 :: u274 :: u275 :: u276 :: u277 :: u278 :: u279 :: u280 :: u281 :: u282 :: u283 :: u284 :: u285 :: u286 :: u287 :: u288 :: u289 :: u290 :: u291 :: u292 :: u293 :: u294 :: u295 :: u296 :: u297 :: u298 :: u299 :: u300 :: u301 :: u302 :: u303 :: u304 :: u305 :: u306 :: []), []⟩ w2 := by
  conv => arg 2; whnf
  have HK := Lib.hid hK
  clear hK
  have herr := sa_freeErr A F y
  rw [← HLA.out] at herr
  cases c
  rotate_left
  · have he : seFreeErr (sa A F) y = 1 := by
      rw [herr]
      have := HCZ.out.symm
      simp at this
      by_cases h1 : y < 0
      · rw [if_pos h1]
      · rw [if_neg h1, if_pos (by omega)]
    have HERR := Lib.hid herr; have HE := Lib.hid he
    clear herr he
    go_wp2_with fail
    apply HK.out
    exact ⟨by rw [HE.out]; rfl, F, by rw [← HLA.out]; exact hF, by unfold seFree; rw [if_neg (by rw [HE.out]; simp)], HO.out.sn_close⟩
  have hy : ¬ y < 0 ∧ ¬ (L : Int) < y := by have := HCZ.out.symm; simp at this; omega
  obtain ⟨j, rfl⟩ := Int.eq_ofNat_of_zero_le (show 0 ≤ y by omega)
  have hjL : j ≤ L := by omega
  have hfr := sa_free A F j (by rw [← HLA.out]; exact hjL)
  obtain ⟨f1, f2, f3⟩ := HO.out.sn_facts
  have g2 := (HO.out.perm (star_left_comm _ _ _)).tri_cell 1 (by simp)
  simp only [List.getElem_cons_succ, List.getElem_cons_zero] at g2
  have f31 := f3 1 none
  by_cases h5 : F < j
  · have t1 : decide (F < j) = true := by simpa using h5
    rw [show max F j = j from by omega] at hfr
    have HERR := Lib.hid herr; have F3 := Lib.hid f3; have HY := Lib.hid hy; have HFR := Lib.hid hfr
    clear herr f3 hy hfr
    go_wp2_with fail
    go_quiet (fail)
    go_wp2_with fail
    apply HK.out
    exact ⟨by rw [HFR.out.1]; rfl, j, by rw [← HLA.out]; exact hjL, HFR.out.2, ((HO.out.drewN _).sn_free j).sn_close⟩
  · have t1 : decide (F < j) = false := by simpa using h5
    rw [show max F j = F from by omega] at hfr
    have HERR := Lib.hid herr; have F3 := Lib.hid f3; have HY := Lib.hid hy; have HFR := Lib.hid hfr
    clear herr f3 hy hfr
    go_wp2_with fail
    go_quiet (fail)
    go_wp2_with fail
    apply HK.out
    exact ⟨by rw [HFR.out.1]; rfl, F, by rw [← HLA.out]; exact hF, HFR.out.2, (HO.out.drewN _).sn_close⟩
noncomputable def apAny_code : Code := ((Tryd.f8.body.bind (findBlock 7)).getD .skip)
set_option maxRecDepth 1000000 in
set_option maxHeartbeats 4000000 in
theorem apAny {Q : Exit → Act → World → Prop} {u0 u1 u2 u3 u4 u5 u7 u8 u9 u10 u11 u12 u13 u14 u15 u16 u17 u18 u19 u20 u21 u22 u26 u27 u28 u29 u30 u31 u32 u33 u34 u35 u36 u37 u38 u39 u40 u41 u42 u43 u44 u45 u46 u47 u48 u49 u50 u51 u52 u53 u54 u55 u56 u57 u58 u59 u60 u61 u62 u63 u64 u65 u66 u67 u68 u69 u70 u71 u72 u73 u74 u75 u76 u77 u78 u79 u80 u81 u82 u83 u84 u85 u86 u87 u88 u89 u90 u91 u92 u93 u94 u95 u96 u97 u98 u99 u100 u101 u102 u103 u104 u105 u106 u107 u108 u109 u110 u111 u112 u113 u114 u115 u116 u117 u118 u119 u120 u121 u122 u123 u124 u125 u126 u127 u128 u129 u130 u131 u132 u133 u134 u135 u136 u137 u138 u139 u140 u141 u142 u143 u144 u145 u146 u147 u148 u149 u150 u151 u152 u153 u154 u155 u156 u157 u158 u159 u160 u161 u162 u163 u164 u165 u166 u167 u168 u169 u170 u171 u172 u173 u174 u175 u176 u177 u178 u179 u180 u181 u182 u183 u184 u185 u186 u187 u188 u189 u190 u191 u192 u193 u194 u195 u196 u197 u198 u199 u200 u201 u202 u203 u204 u205 u206 u207 u208 u209 u210 u211 u212 u213 u214 u215 u216 u217 u218 u219 u220 u221 u222 u223 u224 u225 u226 u227 u228 u229 u230 u231 u232 u233 u234 u235 u236 u237 u238 u239 u240 u241 u242 u243 u244 u245 u246 u247 u248 u249 u250 u251 u252 u253 u254 u255 u256 u257 u258 u259 u260 u261 u262 u263 u264 u265 u266 u267 u268 u269 u270 u271 u272 u273 u274 u275 u276 u277 u278 u279 u280 u281 u282 u283 u284 u285 u286 u287 u288 u289 u290 u291 u292 u293 u294 u295 u296 u297 u298 u299 u300 u301 u302 u303 u304 u305 u306 : Value} {w2 : World} (w : World) (fp : Nat) (n : Int) (f : Fi) (R : HProp) (v : Value) (h5 : f.next.length = 5) (HO : Hid (Own w (RfO fp v f * R) w2))
    (hK : ∀ (v24 v25 v258 v259 v260 v261 v262 v263 v264 v265 v266 v267 v268 v269 v270 v271 v272 v273 v274 v275 v276 v277 v278 v279 : Value) (wx : World), (v24 = .bool (f.waits.any (fun p => p.1.2 == n)) ∧ wx = w2) → Q .normal ⟨List.toArray (u0 :: u1 :: u2 :: u3 :: u4 :: u5 :: (.pointer (some ⟨fp, 0, none⟩)) :: u7 :: u8 :: u9 :: u10 :: u11 :: u12 :: u13 :: u14 :: u15 :: u16 :: u17 :: u18 :: u19 :: u20 :: u21 :: u22 :: (.int .i64 n) :: v24 :: v25 :: u26 :: u27 :: u28 :: u29 :: u30 :: u31 :: u32 :: u33 :: u34 :: u35 :: u36 :: u37 :: u38 :: u39 :: u40 :: u41 :: u42 :: u43 :: u44 :: u45 :: u46 :: u47 :: u48 :: u49 :: u50 :: u51 :: u52 :: u53 :: u54 :: u55 :: u56 :: u57 :: u58 :: u59 :: u60 :: u61 :: u62 :: u63 :: u64 :: u65 :: u66 :: u67 :: u68 :: u69 :: u70 :: u71 :: u72 :: u73 :: u74 :: u75 :: u76 :: u77 :: u78 :: u79 :: u80 :: u81 :: u82 :: u83 :: u84 :: u85 :: u86 :: u87 :: u88 :: u89 :: u90 :: u91 :: u92 :: u93 :: u94 :: u95 :: u96 :: u97 :: u98 :: u99 :: u100 :: u101 :: u102 :: u103 :: u104 :: u105 :: u106 :: u107 :: u108 :: u109 :: u110 :: u111 :: u112 :: u113 :: u114 :: u115 :: u116 :: u117 :: u118 :: u119 :: u120 :: u121 :: u122 :: u123 :: u124 :: u125 :: u126 :: u127 :: u128 :: u129 :: u130 :: u131 :: u132 :: u133 :: u134 :: u135 :: u136 :: u137 :: u138 :: u139 :: u140 :: u141 :: u142 :: u143 :: u144 :: u145 :: u146 :: u147 :: u148 :: u149 :: u150 :: u151 :: u152 :: u153 :: u154 :: u155 :: u156 :: u157 :: u158 :: u159 :: u160 :: u161 :: u162 :: u163 :: u164 :: u165 :: u166 :: u167 :: u168 :: u169 :: u170 :: u171 :: u172 :: u173 :: u174 :: u175 :: u176 :: u177 :: u178 :: u179 :: u180 :: u181 :: u182 :: u183 :: u184 :: u185 :: u186 :: u187 :: u188 :: u189 :: u190 :: u191 :: u192 :: u193 :: u194 :: u195 :: u196 :: u197 :: u198 :: u199 :: u200 :: u201 :: u202 :: u203 :: u204 :: u205 :: u206 :: u207 :: u208 :: u209 :: u210 :: u211 :: u212 :: u213 :: u214 :: u215 :: u216 :: u217 :: u218 :: u219 :: u220 :: u221 :: u222 :: u223 :: u224 :: u225 :: u226 :: u227 :: u228 :: u229 :: u230 :: u231 :: u232 :: u233 :: u234 :: u235 :: u236 :: u237 :: u238 :: u239 :: u240 :: u241 :: u242 :: u243 :: u244 :: u245 :: u246 :: u247 :: u248 :: u249 :: u250 :: u251 :: u252 :: u253 :: u254 :: u255 :: u256 :: u257 :: v258 :: v259 :: v260 :: v261 :: v262 :: v263 :: v264 :: v265 :: v266 :: v267 :: v268 :: v269 :: v270 :: v271 :: v272 :: v273 :: v274 :: v275 :: v276 :: v277 :: v278 :: v279 :: u280 :: u281 :: u282 :: u283 :: u284 :: u285 :: u286 :: u287 :: u288 :: u289 :: u290 :: u291 :: u292 :: u293 :: u294 :: u295 :: u296 :: u297 :: u298 :: u299 :: u300 :: u301 :: u302 :: u303 :: u304 :: u305 :: u306 :: []), []⟩ wx) :
    Code.wp Tryd.prog apAny_code Q ⟨List.toArray (u0 :: u1 :: u2 :: u3 :: u4 :: u5 :: (.pointer (some ⟨fp, 0, none⟩)) :: u7 :: u8 :: u9 :: u10 :: u11 :: u12 :: u13 :: u14 :: u15 :: u16 :: u17 :: u18 :: u19 :: u20 :: u21 :: u22 :: (.int .i64 n) :: (.bool false) :: (.int .i64 0) :: u26 :: u27 :: u28 :: u29 :: u30 :: u31 :: u32 :: u33 :: u34 :: u35 :: u36 :: u37 :: u38 :: u39 :: u40 :: u41 :: u42 :: u43 :: u44 :: u45 :: u46 :: u47 :: u48 :: u49 :: u50 :: u51 :: u52 :: u53 :: u54 :: u55 :: u56 :: u57 :: u58 :: u59 :: u60 :: u61 :: u62 :: u63 :: u64 :: u65 :: u66 :: u67 :: u68 :: u69 :: u70 :: u71 :: u72 :: u73 :: u74 :: u75 :: u76 :: u77 :: u78 :: u79 :: u80 :: u81 :: u82 :: u83 :: u84 :: u85 :: u86 :: u87 :: u88 :: u89 :: u90 :: u91 :: u92 :: u93 :: u94 :: u95 :: u96 :: u97 :: u98 :: u99 :: u100 :: u101 :: u102 :: u103 :: u104 :: u105 :: u106 :: u107 :: u108 :: u109 :: u110 :: u111 :: u112 :: u113 :: u114 :: u115 :: u116 :: u117 :: u118 :: u119 :: u120 :: u121 :: u122 :: u123 :: u124 :: u125 :: u126 :: u127 :: u128 :: u129 :: u130 :: u131 :: u132 :: u133 :: u134 :: u135 :: u136 :: u137 :: u138 :: u139 :: u140 :: u141 :: u142 :: u143 :: u144 :: u145 :: u146 :: u147 :: u148 :: u149 :: u150 :: u151 :: u152 :: u153 :: u154 :: u155 :: u156 :: u157 :: u158 :: u159 :: u160 :: u161 :: u162 :: u163 :: u164 :: u165 :: u166 :: u167 :: u168 :: u169 :: u170 :: u171 :: u172 :: u173 :: u174 :: u175 :: u176 :: u177 :: u178 :: u179 :: u180 :: u181 :: u182 :: u183 :: u184 :: u185 :: u186 :: u187 :: u188 :: u189 :: u190 :: u191 :: u192 :: u193 :: u194 :: u195 :: u196 :: u197 :: u198 :: u199 :: u200 :: u201 :: u202 :: u203 :: u204 :: u205 :: u206 :: u207 :: u208 :: u209 :: u210 :: u211 :: u212 :: u213 :: u214 :: u215 :: u216 :: u217 :: u218 :: u219 :: u220 :: u221 :: u222 :: u223 :: u224 :: u225 :: u226 :: u227 :: u228 :: u229 :: u230 :: u231 :: u232 :: u233 :: u234 :: u235 :: u236 :: u237 :: u238 :: u239 :: u240 :: u241 :: u242 :: u243 :: u244 :: u245 :: u246 :: u247 :: u248 :: u249 :: u250 :: u251 :: u252 :: u253 :: u254 :: u255 :: u256 :: u257 :: u258 :: u259 :: u260 :: u261 :: u262 :: u263 :: u264 :: u265 :: u266 :: u267 :: u268 :: u269 :: u270 :: u271 :: u272 :: u273 :: u274 :: u275 :: u276 :: u277 :: u278 :: u279 :: u280 :: u281 :: u282 :: u283 :: u284 :: u285 :: u286 :: u287 :: u288 :: u289 :: u290 :: u291 :: u292 :: u293 :: u294 :: u295 :: u296 :: u297 :: u298 :: u299 :: u300 :: u301 :: u302 :: u303 :: u304 :: u305 :: u306 :: []), []⟩ w2 := by
  conv => arg 2; whnf
  have HK := Lib.hid hK
  clear hK
  obtain ⟨_, c5, _⟩ := HO.out.rf_facts h5
  obtain ⟨ad, cap, hv, hc1, hc2⟩ := HO.out.rf_shape
  subst hv
  obtain ⟨m, hm⟩ : ∃ m, m = f.waits.length := ⟨_, rfl⟩
  have HO2 := Lib.hid HO.out
  rw [← hm] at c5 hc1
  have HM := Lib.hid hm
  clear hm
  go_wp2_with fail
  go_loop [24, 25] (fun b i => ∃ j : Nat, j ≤ m ∧ i = .int .i64 j ∧ b = .bool ((f.waits.take j).any (fun p => p.1.2 == n))) (fun _ i => m - (intOf i).toNat)
  case atStart => exact ⟨0, Nat.zero_le _, rfl, by simp⟩
  case round =>
    obtain ⟨j, hj, rfl, rfl⟩ := hrel
    obtain ⟨b, hb⟩ : ∃ b, b = (f.waits.take j).any (fun p => p.1.2 == n) := ⟨_, rfl⟩
    rw [← hb]
    by_cases hlt : j < m
    rotate_left
    · have hjm : j = m := by omega
      have hfin : b = f.waits.any (fun p => p.1.2 == n) := by rw [hb, List.take_of_length_le (by rw [← HM.out]; omega)]
      have HB := Lib.hid hb; have HFIN := Lib.hid hfin
      clear hb hfin
      go_wp2_with fail
      apply HK.out
      exact ⟨by rw [HFIN.out], rfl⟩
    have hjl : j < f.waits.length := by rw [← HM.out]; exact hlt
    obtain ⟨bb, off, cp, hvv, _, hcell⟩ := HO2.out.rf_at (by omega)
    injection hvv with e1 _ e3
    subst e1
    have hc := (hcell j hjl).2.1
    obtain ⟨q, hq⟩ : ∃ q, q = f.waits[j].1.2 := ⟨_, rfl⟩
    rw [← hq] at hc
    have hnx : (f.waits.take (j + 1)).any (fun p => p.1.2 == n) = (b || (q == n)) := by
      rw [List.take_succ_eq_append_getElem hjl, List.any_append, ← hb, hq]; simp
    have HQ := Lib.hid hq; have HNX := Lib.hid hnx; have HB := Lib.hid hb; have HCELL := Lib.hid hcell
    clear hq hnx hb hcell
    cases b
    · obtain ⟨t, ht⟩ : ∃ t, (q == n) = t := ⟨_, rfl⟩
      go_wp2
      go_round
      case rel => exact ⟨j + 1, by omega, by go_num, by rw [HNX.out, Bool.false_or, ht]⟩
      case measure => simp [intOf]; omega
    · go_wp2
      go_round
      case rel => exact ⟨j + 1, by omega, by go_num, by rw [HNX.out]; simp⟩
      case measure => simp [intOf]; omega
noncomputable def apLacks_code : Code := ((Tryd.f8.body.bind (findBlock 5)).getD .skip)
set_option maxRecDepth 1000000 in
set_option maxHeartbeats 4000000 in
theorem apLacks {Q : Exit → Act → World → Prop} {u0 u1 u2 u3 u4 u5 u7 u9 u11 u12 u13 u14 u15 u16 u17 u18 u19 u20 u21 u24 u25 u26 u27 u28 u29 u30 u31 u32 u33 u34 u35 u36 u37 u38 u39 u40 u41 u42 u43 u44 u45 u46 u47 u48 u49 u50 u51 u52 u53 u54 u55 u56 u57 u58 u59 u60 u61 u62 u63 u64 u65 u66 u67 u68 u69 u70 u71 u72 u73 u74 u75 u76 u77 u78 u79 u80 u81 u82 u83 u84 u85 u86 u87 u88 u89 u90 u91 u92 u93 u94 u95 u96 u97 u98 u99 u100 u101 u102 u103 u104 u105 u106 u107 u108 u109 u110 u111 u112 u113 u114 u115 u116 u117 u118 u119 u120 u121 u122 u123 u124 u125 u126 u127 u128 u129 u130 u131 u132 u133 u134 u135 u136 u137 u138 u139 u140 u141 u142 u143 u144 u145 u146 u147 u148 u149 u150 u151 u152 u153 u154 u155 u156 u157 u158 u159 u160 u161 u162 u163 u164 u165 u166 u167 u168 u169 u170 u171 u172 u173 u174 u175 u176 u177 u178 u179 u180 u181 u182 u183 u184 u185 u186 u187 u188 u189 u190 u191 u192 u193 u194 u195 u196 u197 u198 u199 u200 u201 u202 u203 u204 u205 u206 u207 u208 u209 u210 u211 u212 u213 u214 u215 u216 u217 u218 u219 u220 u221 u222 u223 u224 u225 u226 u227 u228 u229 u230 u231 u232 u233 u234 u235 u236 u237 u238 u239 u240 u241 u242 u243 u244 u245 u246 u247 u248 u249 u250 u251 u252 u253 u254 u255 u256 u257 u258 u259 u260 u261 u262 u263 u264 u265 u266 u267 u268 u269 u270 u271 u272 u273 u274 u275 u276 u277 u278 u279 u280 u281 u282 u283 u284 u285 u286 u287 u288 u289 u290 u291 u292 u293 u294 u295 u296 u297 u298 u299 u300 u301 u302 u303 u304 u305 u306 : Value} {w2 : World} (w : World) (fp vb e : Nat) (x y z a : Int) (f : Fi) (R : HProp) (v : Value) (HFT : Hid (fiFit f)) (HKEYS : Hid (∀ p ∈ f.waits, p.1.1 = 0)) (HE : Hid (e = if isCount y then 0 else 1)) (HAA : Hid (a = fiN f 0)) (ha1 : 1 ≤ a) (ha2 : a ≤ 1000001) (HO : Hid (Own w (RfO fp v f * (Tri vb [x, y, z] * R)) w2))
    (hK : ∀ (v22 v23 v24 v25 v243 v244 v245 v246 v247 v248 v249 v250 v251 v252 v253 v254 v255 v256 v257 v258 v259 v260 v261 v262 v263 v264 v265 v266 v267 v268 v269 v270 v271 v272 v273 v274 v275 v276 v277 v278 v279 v280 v281 v282 v283 v284 v285 : Value) (wx : World), (Own w (IntSl v22 (heLacks f y) * (RfO fp v f * (Tri vb [x, y, z] * R))) wx) → Q .normal ⟨List.toArray (u0 :: u1 :: u2 :: u3 :: u4 :: u5 :: (.pointer (some ⟨fp, 0, none⟩)) :: u7 :: (.pointer (some ⟨vb, 0, none⟩)) :: u9 :: (.int .i64 (e : Int)) :: u11 :: u12 :: u13 :: u14 :: u15 :: u16 :: u17 :: u18 :: u19 :: u20 :: u21 :: v22 :: v23 :: v24 :: v25 :: u26 :: u27 :: u28 :: u29 :: u30 :: u31 :: u32 :: u33 :: u34 :: u35 :: u36 :: u37 :: u38 :: u39 :: u40 :: u41 :: u42 :: u43 :: u44 :: u45 :: u46 :: u47 :: u48 :: u49 :: u50 :: u51 :: u52 :: u53 :: u54 :: u55 :: u56 :: u57 :: u58 :: u59 :: u60 :: u61 :: u62 :: u63 :: u64 :: u65 :: u66 :: u67 :: u68 :: u69 :: u70 :: u71 :: u72 :: u73 :: u74 :: u75 :: u76 :: u77 :: u78 :: u79 :: u80 :: u81 :: u82 :: u83 :: u84 :: u85 :: u86 :: u87 :: u88 :: u89 :: u90 :: u91 :: u92 :: u93 :: u94 :: u95 :: u96 :: u97 :: u98 :: u99 :: u100 :: u101 :: u102 :: u103 :: u104 :: u105 :: u106 :: u107 :: u108 :: u109 :: u110 :: u111 :: u112 :: u113 :: u114 :: u115 :: u116 :: u117 :: u118 :: u119 :: u120 :: u121 :: u122 :: u123 :: u124 :: u125 :: u126 :: u127 :: u128 :: u129 :: u130 :: u131 :: u132 :: u133 :: u134 :: u135 :: u136 :: u137 :: u138 :: u139 :: u140 :: u141 :: u142 :: u143 :: u144 :: u145 :: u146 :: u147 :: u148 :: u149 :: u150 :: u151 :: u152 :: u153 :: u154 :: u155 :: u156 :: u157 :: u158 :: u159 :: u160 :: u161 :: u162 :: u163 :: u164 :: u165 :: u166 :: u167 :: u168 :: u169 :: u170 :: u171 :: u172 :: u173 :: u174 :: u175 :: u176 :: u177 :: u178 :: u179 :: u180 :: u181 :: u182 :: u183 :: u184 :: u185 :: u186 :: u187 :: u188 :: u189 :: u190 :: u191 :: u192 :: u193 :: u194 :: u195 :: u196 :: u197 :: u198 :: u199 :: u200 :: u201 :: u202 :: u203 :: u204 :: u205 :: u206 :: u207 :: u208 :: u209 :: u210 :: u211 :: u212 :: u213 :: u214 :: u215 :: u216 :: u217 :: u218 :: u219 :: u220 :: u221 :: u222 :: u223 :: u224 :: u225 :: u226 :: u227 :: u228 :: u229 :: u230 :: u231 :: u232 :: u233 :: u234 :: u235 :: u236 :: u237 :: u238 :: u239 :: u240 :: u241 :: u242 :: v243 :: v244 :: v245 :: v246 :: v247 :: v248 :: v249 :: v250 :: v251 :: v252 :: v253 :: v254 :: v255 :: v256 :: v257 :: v258 :: v259 :: v260 :: v261 :: v262 :: v263 :: v264 :: v265 :: v266 :: v267 :: v268 :: v269 :: v270 :: v271 :: v272 :: v273 :: v274 :: v275 :: v276 :: v277 :: v278 :: v279 :: v280 :: v281 :: v282 :: v283 :: v284 :: v285 :: u286 :: u287 :: u288 :: u289 :: u290 :: u291 :: u292 :: u293 :: u294 :: u295 :: u296 :: u297 :: u298 :: u299 :: u300 :: u301 :: u302 :: u303 :: u304 :: u305 :: u306 :: []), []⟩ wx) :
    Code.wp Tryd.prog apLacks_code Q ⟨List.toArray (u0 :: u1 :: u2 :: u3 :: u4 :: u5 :: (.pointer (some ⟨fp, 0, none⟩)) :: u7 :: (.pointer (some ⟨vb, 0, none⟩)) :: u9 :: (.int .i64 (e : Int)) :: u11 :: u12 :: u13 :: u14 :: u15 :: u16 :: u17 :: u18 :: u19 :: u20 :: u21 :: (.slice none 0 0) :: (.int .i64 a) :: u24 :: u25 :: u26 :: u27 :: u28 :: u29 :: u30 :: u31 :: u32 :: u33 :: u34 :: u35 :: u36 :: u37 :: u38 :: u39 :: u40 :: u41 :: u42 :: u43 :: u44 :: u45 :: u46 :: u47 :: u48 :: u49 :: u50 :: u51 :: u52 :: u53 :: u54 :: u55 :: u56 :: u57 :: u58 :: u59 :: u60 :: u61 :: u62 :: u63 :: u64 :: u65 :: u66 :: u67 :: u68 :: u69 :: u70 :: u71 :: u72 :: u73 :: u74 :: u75 :: u76 :: u77 :: u78 :: u79 :: u80 :: u81 :: u82 :: u83 :: u84 :: u85 :: u86 :: u87 :: u88 :: u89 :: u90 :: u91 :: u92 :: u93 :: u94 :: u95 :: u96 :: u97 :: u98 :: u99 :: u100 :: u101 :: u102 :: u103 :: u104 :: u105 :: u106 :: u107 :: u108 :: u109 :: u110 :: u111 :: u112 :: u113 :: u114 :: u115 :: u116 :: u117 :: u118 :: u119 :: u120 :: u121 :: u122 :: u123 :: u124 :: u125 :: u126 :: u127 :: u128 :: u129 :: u130 :: u131 :: u132 :: u133 :: u134 :: u135 :: u136 :: u137 :: u138 :: u139 :: u140 :: u141 :: u142 :: u143 :: u144 :: u145 :: u146 :: u147 :: u148 :: u149 :: u150 :: u151 :: u152 :: u153 :: u154 :: u155 :: u156 :: u157 :: u158 :: u159 :: u160 :: u161 :: u162 :: u163 :: u164 :: u165 :: u166 :: u167 :: u168 :: u169 :: u170 :: u171 :: u172 :: u173 :: u174 :: u175 :: u176 :: u177 :: u178 :: u179 :: u180 :: u181 :: u182 :: u183 :: u184 :: u185 :: u186 :: u187 :: u188 :: u189 :: u190 :: u191 :: u192 :: u193 :: u194 :: u195 :: u196 :: u197 :: u198 :: u199 :: u200 :: u201 :: u202 :: u203 :: u204 :: u205 :: u206 :: u207 :: u208 :: u209 :: u210 :: u211 :: u212 :: u213 :: u214 :: u215 :: u216 :: u217 :: u218 :: u219 :: u220 :: u221 :: u222 :: u223 :: u224 :: u225 :: u226 :: u227 :: u228 :: u229 :: u230 :: u231 :: u232 :: u233 :: u234 :: u235 :: u236 :: u237 :: u238 :: u239 :: u240 :: u241 :: u242 :: u243 :: u244 :: u245 :: u246 :: u247 :: u248 :: u249 :: u250 :: u251 :: u252 :: u253 :: u254 :: u255 :: u256 :: u257 :: u258 :: u259 :: u260 :: u261 :: u262 :: u263 :: u264 :: u265 :: u266 :: u267 :: u268 :: u269 :: u270 :: u271 :: u272 :: u273 :: u274 :: u275 :: u276 :: u277 :: u278 :: u279 :: u280 :: u281 :: u282 :: u283 :: u284 :: u285 :: u286 :: u287 :: u288 :: u289 :: u290 :: u291 :: u292 :: u293 :: u294 :: u295 :: u296 :: u297 :: u298 :: u299 :: u300 :: u301 :: u302 :: u303 :: u304 :: u305 :: u306 :: []), []⟩ w2 := by
  conv => arg 2; whnf
  have HK := Lib.hid hK
  clear hK
  have HD : Hid (∀ (v' : Value) (L : List Int) (w' : World), Own w (IntSl v' L * (RfO fp v f * (Tri vb [x, y, z] * R))) w' → w'.cell? ⟨vb, 1, none⟩ = some (.int .i64 y)) := Lib.hid (fun v' L w' h => (h.perm (show _ = Tri vb [x, y, z] * (IntSl v' L * (RfO fp v f * R)) by ac_rfl)).tri_cell 1 (by simp))
  cases hc : isCount y
  · have he : e = 1 := by rw [HE.out, hc]; rfl
    have hla : heLacks f y = [] := by unfold heLacks; rw [hc]; rfl
    have d1 := HD.out (.slice none 0 0) [] _ (HO.out.sl_nil _ _)
    subst he
    have HC := Lib.hid hc; have HLA := Lib.hid hla
    clear hc hla
    go_wp2_with fail
    go_loopw [22, 23] (fun nv jv wr => jv = .int .i64 a ∧ nv = .slice none 0 0 ∧ wr = w2) (fun _ _ _ => 0)
    case atStart => exact ⟨rfl, rfl, rfl⟩
    case round =>
      obtain ⟨rfl, rfl, rfl⟩ := hrel
      by_cases h1 : a ≤ y
      · have t1 : decide (a ≤ y) = true := by simpa using h1
        go_wp2_with fail
        apply HK.out
        rw [HLA.out]
        exact HO.out.sl_nil _ _
      · have t1 : decide (a ≤ y) = false := by simpa using h1
        go_wp2_with fail
        apply HK.out
        rw [HLA.out]
        exact HO.out.sl_nil _ _
  have he : e = 0 := by rw [HE.out, hc]; rfl
  subst he
  have hy : 0 ≤ y ∧ y ≤ 1000000 := by simpa [isCount] using hc
  obtain ⟨T, hT⟩ : ∃ T, T = (y + 1 - a).toNat := ⟨_, rfl⟩
  have hla : heLacks f y = (heRow f a T).take 40 := by unfold heLacks; rw [hc, ← HAA.out, hT]; rfl
  have hy1 := hy.1
  have hy2 := hy.2
  have hTb : T ≤ 1000001 := by omega
  have HC := Lib.hid hc; have HLA := Lib.hid hla
  clear hc hla
  clear hy
  go_wp2_with fail
  go_loopw [22, 23] (fun nv jv wr => ∃ k : Nat, k ≤ T ∧ jv = .int .i64 (a + (k : Int)) ∧ Hid ((heRow f a k).length ≤ 40) ∧ Hid (Own w (IntSl nv (heRow f a k) * (RfO fp v f * (Tri vb [x, y, z] * R))) wr)) (fun _ jv _ => (y + 1 - intOf jv).toNat)
  case atStart => exact ⟨0, Nat.zero_le _, by simp, Lib.hid (by simp [heRow]), Lib.hid (by rw [show heRow f a 0 = [] from rfl]; exact HO.out.sl_nil _ _)⟩
  case round =>
    obtain ⟨k, hk, rfl, hlen, hp⟩ := hrel
    have d1 := HD.out _ _ _ hp.out
    obtain ⟨LL, hLL⟩ : ∃ L, L = heRow f a k := ⟨_, rfl⟩
    have hp2 := hp.out
    have hlen2 := hlen.out
    rw [← hLL] at hp2 hlen2
    obtain ⟨ad, cap, hsh, hc1, hc2, _⟩ := Own.rd hp2
    subst hsh
    have HP2 := Lib.hid hp2
    clear hp2 hp
    by_cases h1 : k < T
    rotate_left
    · have hkT : k = T := by omega
      have t1 : decide (a + (k : Int) ≤ y) = false := by simp; omega
      have hfin : heLacks f y = LL := by rw [HLA.out, hLL, hkT, List.take_of_length_le (by rw [← hkT, ← hLL]; exact hlen2)]
      have HFIN := Lib.hid hfin; have HKT := Lib.hid hkT; have HLL := Lib.hid hLL
      clear hfin hkT hLL
      go_wp2_with fail
      apply HK.out
      rw [HFIN.out]
      exact HP2.out
    have t1 : decide (a + (k : Int) ≤ y) = true := by simp; omega
    by_cases h2 : LL.length < 40
    rotate_left
    · have t2 : decide ((LL.length : Int) < 40) = false := by simp; omega
      have hfin : heLacks f y = LL := by
        rw [HLA.out]
        obtain ⟨r, hr⟩ := heRow_prefix f a k T (by omega)
        rw [hr, ← hLL, List.take_append_of_le_length (by omega), List.take_of_length_le hlen2]
      have HFIN := Lib.hid hfin; have HLL := Lib.hid hLL
      clear hfin hLL
      go_wp2_with fail
      apply HK.out
      rw [HFIN.out]
      exact HP2.out
    have t2 : decide ((LL.length : Int) < 40) = true := by simp; omega
    have hhas := ap_has HKEYS.out (show fiN f 0 ≤ a + (k : Int) by rw [← HAA.out]; omega)
    have hsn := heRow_succ f a k
    obtain ⟨b, hb⟩ : ∃ b, b = f.waits.any (fun p => p.1.2 == a + (k : Int)) := ⟨_, rfl⟩
    rw [← hb] at hhas
    rw [hhas, ← hLL] at hsn
    have HHAS := Lib.hid hhas; have HSN := Lib.hid hsn; have HLL := Lib.hid hLL; have HB := Lib.hid hb
    clear hhas hsn hLL hb
    go_upto_block 7 with fail
    go_cut [24, 25] from 258 to 258 (fun c _ wx => c = .bool b ∧ wx = wr)
    case first =>
      refine apAny w fp (a + (k : Int)) f _ v HFT.out.1 (Lib.hid (HP2.out.perm (star_left_comm _ _ _))) ?_
      intros
      go_step
      go_step
      go_meet
      rw [HB.out]
      assumption
    case rest =>
    obtain ⟨rfl, rfl⟩ := hcut
    cases b
    · have hsn2 := HSN.out
      rw [if_neg (by simp)] at hsn2
      have fin : ∀ (v' : Value) (w' : World), Own w (Sl 3 1 v' (LL.length + 1) (LL.map (Value.int .i64) ++ [Value.int .i64 (a + (k : Int))]) * (RfO fp v f * (Tri vb [x, y, z] * R))) w' → Own w (IntSl v' (heRow f a (k + 1)) * (RfO fp v f * (Tri vb [x, y, z] * R))) w' := fun v' w' h => by
        rw [hsn2]
        unfold IntSl
        rw [List.map_append, List.length_append]
        exact h
      have hl3 : (heRow f a (k + 1)).length ≤ 40 := by rw [hsn2, List.length_append, List.length_singleton]; omega
      have FIN := Lib.hid fin; have HSN2 := Lib.hid hsn2; have HL3 := Lib.hid hl3
      clear fin hsn2 hl3
      go_wp2_with (at_builtin; refine wpList_app rfl _ _ 22 rfl 3 1 8 _ info_int Tryd.underlying22 rfl (by decide) rfl ((HP2.out.alloc' _)) rfl (by rfl) (Rd_lit (by simp) (by unfold maxLen; omega)) (by intro u hu; simp at hu; subst hu; rfl) (by unfold maxLen; omega) (by omega) ?_; intro v' w' hown; have HN := Lib.hid hown; clear hown)
      go_wp2_with fail
      go_roundw
      case rel => exact ⟨k + 1, by omega, by rw [show ((k + 1 : Nat) : Int) = (k : Int) + 1 from rfl, Int.add_assoc], HL3, Lib.hid (FIN.out _ _ HN.out)⟩
      case measure => simp [intOf]; omega
    · have hsn2 := HSN.out
      rw [if_pos rfl, List.append_nil] at hsn2
      have HSN2 := Lib.hid hsn2
      clear hsn2
      go_wp2_with fail
      go_roundw
      case rel => exact ⟨k + 1, by omega, by rw [show ((k + 1 : Nat) : Int) = (k : Int) + 1 from rfl, Int.add_assoc], Lib.hid (by rw [HSN2.out]; exact hlen2), Lib.hid (by rw [HSN2.out]; exact HP2.out)⟩
      case measure => simp [intOf]; omega
noncomputable def apSwitch_code : Code := ((Tryd.f8.body.bind (findBlock 4)).getD .skip)
set_option maxRecDepth 1000000 in
set_option maxHeartbeats 4000000 in
theorem apSwitch {Q : Exit → Act → World → Prop} {u0 u1 u2 u7 u9 u12 u13 u14 u15 u16 u17 u18 u19 u20 u21 u22 u23 u24 u25 u26 u27 u28 u29 u30 u31 u32 u33 u34 u35 u36 u37 u38 u39 u40 u41 u42 u43 u44 u45 u46 u47 u48 u49 u50 u51 u52 u53 u54 u55 u56 u57 u58 u59 u60 u61 u62 u63 u64 u65 u66 u67 u69 u70 u71 u72 u73 u74 u75 u76 u77 u78 u79 u80 u81 u82 u83 u84 u85 u86 u87 u88 u89 u90 u91 u92 u93 u94 u95 u96 u97 u98 u99 u100 u101 u102 u103 u104 u105 u106 u107 u108 u109 u110 u111 u112 u113 u114 u115 u116 u117 u118 u119 u120 u121 u122 u123 u124 u125 u126 u127 u128 u129 u130 u131 u132 u133 u134 u135 u136 u137 u138 u139 u140 u141 u142 u143 u144 u145 u146 u147 u148 u149 u150 u151 u152 u153 u154 u155 u156 u157 u158 u159 u160 u161 u162 u163 u164 u165 u166 u167 u168 u169 u170 u171 u172 u173 u174 u175 u176 u177 u178 u179 u180 u181 u182 u183 u184 u185 u186 u187 u188 u189 u190 u191 u192 u193 u194 u195 u196 u197 u198 u199 u200 u201 u202 u203 u204 u205 u206 u207 u208 u209 u210 u211 u212 u213 u214 u215 u216 u217 u218 u219 u220 u221 u222 u223 u224 u225 u226 u227 u228 u229 u230 u231 u232 u233 u234 u235 u236 u237 u238 u239 u240 u241 u242 u243 u244 u245 u246 u247 u248 u249 u250 u251 u252 u253 u254 u255 u256 u257 u258 u259 u260 u261 u262 u263 u264 u265 u266 u267 u268 u269 u270 u271 u272 u273 u274 u275 u276 u277 u278 u279 u280 u281 u282 u283 u284 u285 u286 u287 u288 u289 u290 u291 u292 u293 u294 u295 u296 u297 u298 u299 u300 u301 u302 u303 u304 u305 u306 : Value} {w2 : World} (w : World) (sp hp mp fp vb k F : Nat) (x y z : Int) (A : List Int) (f : Fi) (hk : k ≤ 120) (HGH : Hid (As.Handle w)) (HI : Hid (ApI A F f k)) (HT : Hid (Own w (Tri vb [x, y, z] * (ApO sp hp mp fp A F f * emp)) w2))
    (hK : ∀ (v10 v11 v12 v13 v14 v15 v16 v17 v18 v19 v20 v21 v69 v70 v71 v72 v73 v74 v75 v76 v77 v78 v79 v80 v81 v82 v83 v84 v85 v86 v87 v88 v89 v90 v91 v92 v93 v94 v95 v96 v97 v98 v99 v100 v101 v102 v103 v104 v105 v106 v107 v108 v109 v110 v111 v112 v113 v114 v115 v116 v117 v118 v119 v120 v121 v122 v123 v124 v125 v126 v127 v128 v129 v130 v131 v132 v133 v134 v135 v136 v137 v138 v139 v140 v141 v142 v143 v144 v145 v146 v147 v148 v149 v150 v151 v152 v153 v154 v155 v156 v157 v158 v159 v160 v161 v162 v163 v164 v165 v166 v167 v168 v169 v170 v171 v172 v173 v174 v175 v176 v177 v178 v179 v180 v181 v182 v183 v184 v185 v186 v187 v188 v189 v190 v191 v192 v193 v194 v195 v196 v197 v198 v199 v200 v201 v202 v203 v204 v205 v206 v207 v208 v209 v210 v211 v212 v213 v214 v215 v216 v217 v218 v219 v220 v221 v222 v223 v224 v225 v226 v227 v228 : Value) (wx : World), (ApC w sp hp mp fp vb k [x, y, z] v11 wx) → Q .normal ⟨List.toArray (u0 :: u1 :: u2 :: (.pointer (some ⟨sp, 0, none⟩)) :: (.pointer (some ⟨hp, 0, none⟩)) :: (.pointer (some ⟨mp, 0, none⟩)) :: (.pointer (some ⟨fp, 0, none⟩)) :: u7 :: (.pointer (some ⟨vb, 0, none⟩)) :: u9 :: v10 :: v11 :: v12 :: v13 :: v14 :: v15 :: v16 :: v17 :: v18 :: v19 :: v20 :: v21 :: u22 :: u23 :: u24 :: u25 :: u26 :: u27 :: u28 :: u29 :: u30 :: u31 :: u32 :: u33 :: u34 :: u35 :: u36 :: u37 :: u38 :: u39 :: u40 :: u41 :: u42 :: u43 :: u44 :: u45 :: u46 :: u47 :: u48 :: u49 :: u50 :: u51 :: u52 :: u53 :: u54 :: u55 :: u56 :: u57 :: u58 :: u59 :: u60 :: u61 :: u62 :: u63 :: u64 :: u65 :: u66 :: u67 :: (.int .i64 x) :: v69 :: v70 :: v71 :: v72 :: v73 :: v74 :: v75 :: v76 :: v77 :: v78 :: v79 :: v80 :: v81 :: v82 :: v83 :: v84 :: v85 :: v86 :: v87 :: v88 :: v89 :: v90 :: v91 :: v92 :: v93 :: v94 :: v95 :: v96 :: v97 :: v98 :: v99 :: v100 :: v101 :: v102 :: v103 :: v104 :: v105 :: v106 :: v107 :: v108 :: v109 :: v110 :: v111 :: v112 :: v113 :: v114 :: v115 :: v116 :: v117 :: v118 :: v119 :: v120 :: v121 :: v122 :: v123 :: v124 :: v125 :: v126 :: v127 :: v128 :: v129 :: v130 :: v131 :: v132 :: v133 :: v134 :: v135 :: v136 :: v137 :: v138 :: v139 :: v140 :: v141 :: v142 :: v143 :: v144 :: v145 :: v146 :: v147 :: v148 :: v149 :: v150 :: v151 :: v152 :: v153 :: v154 :: v155 :: v156 :: v157 :: v158 :: v159 :: v160 :: v161 :: v162 :: v163 :: v164 :: v165 :: v166 :: v167 :: v168 :: v169 :: v170 :: v171 :: v172 :: v173 :: v174 :: v175 :: v176 :: v177 :: v178 :: v179 :: v180 :: v181 :: v182 :: v183 :: v184 :: v185 :: v186 :: v187 :: v188 :: v189 :: v190 :: v191 :: v192 :: v193 :: v194 :: v195 :: v196 :: v197 :: v198 :: v199 :: v200 :: v201 :: v202 :: v203 :: v204 :: v205 :: v206 :: v207 :: v208 :: v209 :: v210 :: v211 :: v212 :: v213 :: v214 :: v215 :: v216 :: v217 :: v218 :: v219 :: v220 :: v221 :: v222 :: v223 :: v224 :: v225 :: v226 :: v227 :: v228 :: u229 :: u230 :: u231 :: u232 :: u233 :: u234 :: u235 :: u236 :: u237 :: u238 :: u239 :: u240 :: u241 :: u242 :: u243 :: u244 :: u245 :: u246 :: u247 :: u248 :: u249 :: u250 :: u251 :: u252 :: u253 :: u254 :: u255 :: u256 :: u257 :: u258 :: u259 :: u260 :: u261 :: u262 :: u263 :: u264 :: u265 :: u266 :: u267 :: u268 :: u269 :: u270 :: u271 :: u272 :: u273 :: u274 :: u275 :: u276 :: u277 :: u278 :: u279 :: u280 :: u281 :: u282 :: u283 :: u284 :: u285 :: u286 :: u287 :: u288 :: u289 :: u290 :: u291 :: u292 :: u293 :: u294 :: u295 :: u296 :: u297 :: u298 :: u299 :: u300 :: u301 :: u302 :: u303 :: u304 :: u305 :: u306 :: []), []⟩ wx) :
    Code.wp Tryd.prog apSwitch_code Q ⟨List.toArray (u0 :: u1 :: u2 :: (.pointer (some ⟨sp, 0, none⟩)) :: (.pointer (some ⟨hp, 0, none⟩)) :: (.pointer (some ⟨mp, 0, none⟩)) :: (.pointer (some ⟨fp, 0, none⟩)) :: u7 :: (.pointer (some ⟨vb, 0, none⟩)) :: u9 :: (.int .i64 0) :: (.bool false) :: u12 :: u13 :: u14 :: u15 :: u16 :: u17 :: u18 :: u19 :: u20 :: u21 :: u22 :: u23 :: u24 :: u25 :: u26 :: u27 :: u28 :: u29 :: u30 :: u31 :: u32 :: u33 :: u34 :: u35 :: u36 :: u37 :: u38 :: u39 :: u40 :: u41 :: u42 :: u43 :: u44 :: u45 :: u46 :: u47 :: u48 :: u49 :: u50 :: u51 :: u52 :: u53 :: u54 :: u55 :: u56 :: u57 :: u58 :: u59 :: u60 :: u61 :: u62 :: u63 :: u64 :: u65 :: u66 :: u67 :: (.int .i64 x) :: u69 :: u70 :: u71 :: u72 :: u73 :: u74 :: u75 :: u76 :: u77 :: u78 :: u79 :: u80 :: u81 :: u82 :: u83 :: u84 :: u85 :: u86 :: u87 :: u88 :: u89 :: u90 :: u91 :: u92 :: u93 :: u94 :: u95 :: u96 :: u97 :: u98 :: u99 :: u100 :: u101 :: u102 :: u103 :: u104 :: u105 :: u106 :: u107 :: u108 :: u109 :: u110 :: u111 :: u112 :: u113 :: u114 :: u115 :: u116 :: u117 :: u118 :: u119 :: u120 :: u121 :: u122 :: u123 :: u124 :: u125 :: u126 :: u127 :: u128 :: u129 :: u130 :: u131 :: u132 :: u133 :: u134 :: u135 :: u136 :: u137 :: u138 :: u139 :: u140 :: u141 :: u142 :: u143 :: u144 :: u145 :: u146 :: u147 :: u148 :: u149 :: u150 :: u151 :: u152 :: u153 :: u154 :: u155 :: u156 :: u157 :: u158 :: u159 :: u160 :: u161 :: u162 :: u163 :: u164 :: u165 :: u166 :: u167 :: u168 :: u169 :: u170 :: u171 :: u172 :: u173 :: u174 :: u175 :: u176 :: u177 :: u178 :: u179 :: u180 :: u181 :: u182 :: u183 :: u184 :: u185 :: u186 :: u187 :: u188 :: u189 :: u190 :: u191 :: u192 :: u193 :: u194 :: u195 :: u196 :: u197 :: u198 :: u199 :: u200 :: u201 :: u202 :: u203 :: u204 :: u205 :: u206 :: u207 :: u208 :: u209 :: u210 :: u211 :: u212 :: u213 :: u214 :: u215 :: u216 :: u217 :: u218 :: u219 :: u220 :: u221 :: u222 :: u223 :: u224 :: u225 :: u226 :: u227 :: u228 :: u229 :: u230 :: u231 :: u232 :: u233 :: u234 :: u235 :: u236 :: u237 :: u238 :: u239 :: u240 :: u241 :: u242 :: u243 :: u244 :: u245 :: u246 :: u247 :: u248 :: u249 :: u250 :: u251 :: u252 :: u253 :: u254 :: u255 :: u256 :: u257 :: u258 :: u259 :: u260 :: u261 :: u262 :: u263 :: u264 :: u265 :: u266 :: u267 :: u268 :: u269 :: u270 :: u271 :: u272 :: u273 :: u274 :: u275 :: u276 :: u277 :: u278 :: u279 :: u280 :: u281 :: u282 :: u283 :: u284 :: u285 :: u286 :: u287 :: u288 :: u289 :: u290 :: u291 :: u292 :: u293 :: u294 :: u295 :: u296 :: u297 :: u298 :: u299 :: u300 :: u301 :: u302 :: u303 :: u304 :: u305 :: u306 :: []), []⟩ w2 := by
  conv => arg 2; whnf
  have HK := Lib.hid hK
  clear hK
  have d1 := HT.out.tri_cell 1 (by simp)
  have d2 := HT.out.tri_cell 2 (by simp)
  simp only [List.getElem_cons_succ, List.getElem_cons_zero] at d1 d2
  obtain ⟨ad, cap, hcp1, hcp2, hsn⟩ := (HT.out.perm (show _ = SnP mp A F * (Tri vb [x, y, z] * (SeP sp (sa A F) * (HeP hp f * (RfP fp f * emp)))) by unfold ApO; ac_rfl)).sn_open
  obtain ⟨L, hL0⟩ : ∃ L, L = A.length := ⟨_, rfl⟩
  have hL : L ≤ 200 := by have := HI.out.2.1; omega
  rw [← hL0] at hsn hcp1
  have HSN := Lib.hid hsn
  have HLA := Lib.hid hL0
  clear hsn hL0
  obtain ⟨zb, hzb⟩ : ∃ b, b = !isWord y := ⟨_, rfl⟩
  have HZB := Lib.hid hzb
  clear hzb
  by_cases x0 : x = 0
  · subst x0
    go_upto_region 24 with fail
    go_cut [107] from 100 to 107 (fun c wx => c = .bool zb ∧ wx = w2)
    case first =>
      rcases (show (isWord y = false ∧ y < 1) ∨ (isWord y = false ∧ ¬ y < 1 ∧ 30 < y) ∨ (isWord y = true ∧ ¬ y < 1 ∧ ¬ 30 < y) by by_cases h0 : y < 1 <;> by_cases h9 : 30 < y <;> simp [isWord] <;> omega) with ⟨hz, z1⟩ | ⟨hz, z1, z2⟩ | ⟨hz, z1, z2⟩
      all_goals
        have HZ := Lib.hid hz
        clear hz
        go_wp2_with fail
        go_meet
        exact ⟨by rw [HZB.out, HZ.out]; rfl, rfl⟩
    case rest =>
    obtain ⟨rfl, rfl⟩ := hcut
    go_upto_if 107 with fail
    go_cut [10, 12] from 108 to 108 (fun e want wx => ApS w mp vb F 0 y z A (SeP sp (sa A F) * (HeP hp f * (RfP fp f * emp))) e want wx)
    case first =>
      refine apSay w mp vb F L cap 0 y z A _ ad zb HZB (by rw [HLA.out]; exact HI.out.1) hL hcp1 HLA HSN ?_
      intros
      go_step
      go_step
      go_meet
      assumption
    case rest =>
    obtain ⟨rfl, rfl, A', hs1, hs2, ho⟩ := hcut
    obtain ⟨E, hE⟩ : ∃ E, E = seErr (sa A F) y := ⟨_, rfl⟩
    obtain ⟨G, hG⟩ : ∃ E, E = seGot (sa A F) y := ⟨_, rfl⟩
    rw [← hE, ← hG]
    have e1 := (ho.perm (star_left_comm _ _ _)).tri_cell 1 (by simp)
    simp only [List.getElem_cons_succ, List.getElem_cons_zero] at e1
    have HO := Lib.hid ho
    have HE := Lib.hid hE; have HG := Lib.hid hG; have HS1 := Lib.hid hs1; have HS2 := Lib.hid hs2
    clear hE hG hs1 hs2
    clear ho d1 d2
    go_wp2_with fail
    refine (seSay_any sp (sa A F) y (by show A.length ≤ 1000000; have := HLA.out; omega) (HO.out.perm (show _ = SeP sp (sa A F) * (SnP mp A' F * (Tri vb [0, y, z] * (HeP hp f * (RfP fp f * emp)))) by ac_rfl))).mono ?_
    rintro e w6 ⟨rfl, ho⟩
    rw [← HE.out, ← HG.out]
    rw [HS1.out] at ho
    have HO6 := Lib.hid ho
    clear ho e1
    go_wp2_with fail
    refine (sameErr_any HGH.out E (E : Int) HO6.out).mono ?_
    rintro e w7 ⟨rfl, ho⟩
    rw [show ((E : Int) == (E : Int)) = true from beq_self_eq_true _]
    have HO7 := Lib.hid ho
    clear ho HO6
    go_wp2_with fail
    apply HK.out
    refine ⟨rfl, A', F, f, ?_, HO7.out.perm (by unfold ApO; ac_rfl)⟩
    rcases HS2.out with h | ⟨h, h2⟩
    · rw [h]; exact ap_later HI.out
    · rw [h2]; exact ap_say HI.out h

  by_cases x1 : x = 1
  · subst x1
    go_upto_region 24 with fail
    go_cut [107] from 100 to 107 (fun c wx => c = .bool zb ∧ wx = w2)
    case first =>
      rcases (show (isWord y = false ∧ y < 1) ∨ (isWord y = false ∧ ¬ y < 1 ∧ 30 < y) ∨ (isWord y = true ∧ ¬ y < 1 ∧ ¬ 30 < y) by by_cases h0 : y < 1 <;> by_cases h9 : 30 < y <;> simp [isWord] <;> omega) with ⟨hz, z1⟩ | ⟨hz, z1, z2⟩ | ⟨hz, z1, z2⟩
      all_goals
        have HZ := Lib.hid hz
        clear hz
        go_wp2_with fail
        go_meet
        exact ⟨by rw [HZB.out, HZ.out]; rfl, rfl⟩
    case rest =>
    obtain ⟨rfl, rfl⟩ := hcut
    go_upto_if 107 with fail
    go_cut [10, 12] from 108 to 108 (fun e want wx => ApS w mp vb F 1 y z A (SeP sp (sa A F) * (HeP hp f * (RfP fp f * emp))) e want wx)
    case first =>
      refine apSay w mp vb F L cap 1 y z A _ ad zb HZB (by rw [HLA.out]; exact HI.out.1) hL hcp1 HLA HSN ?_
      intros
      go_step
      go_step
      go_meet
      assumption
    case rest =>
    obtain ⟨rfl, rfl, A', hs1, hs2, ho⟩ := hcut
    obtain ⟨E, hE⟩ : ∃ E, E = seErr (sa A F) y := ⟨_, rfl⟩
    obtain ⟨G, hG⟩ : ∃ E, E = seGot (sa A F) y := ⟨_, rfl⟩
    rw [← hE, ← hG]
    have e1 := (ho.perm (star_left_comm _ _ _)).tri_cell 1 (by simp)
    simp only [List.getElem_cons_succ, List.getElem_cons_zero] at e1
    have HO := Lib.hid ho
    have HE := Lib.hid hE; have HG := Lib.hid hG; have HS1 := Lib.hid hs1; have HS2 := Lib.hid hs2
    clear hE hG hs1 hs2
    clear ho d1 d2
    go_wp2_with fail
    refine (seSay_any sp (sa A F) y (by show A.length ≤ 1000000; have := HLA.out; omega) (HO.out.perm (show _ = SeP sp (sa A F) * (SnP mp A' F * (Tri vb [1, y, z] * (HeP hp f * (RfP fp f * emp)))) by ac_rfl))).mono ?_
    rintro e w6 ⟨rfl, ho⟩
    rw [← HE.out, ← HG.out]
    rw [HS1.out] at ho
    have HO6 := Lib.hid ho
    clear ho e1
    go_wp2_with fail
    refine (sameErr_any HGH.out E (E : Int) HO6.out).mono ?_
    rintro e w7 ⟨rfl, ho⟩
    rw [show ((E : Int) == (E : Int)) = true from beq_self_eq_true _]
    have HO7 := Lib.hid ho
    clear ho HO6
    go_wp2_with fail
    apply HK.out
    refine ⟨rfl, A', F, f, ?_, HO7.out.perm (by unfold ApO; ac_rfl)⟩
    rcases HS2.out with h | ⟨h, h2⟩
    · rw [h]; exact ap_later HI.out
    · rw [h2]; exact ap_say HI.out h

  by_cases x2 : x = 2
  · subst x2
    clear x0 x1
    obtain ⟨C, hC⟩ : ∃ C, (decide (y < 1) || decide ((L : Int) < y)) = C := ⟨_, rfl⟩
    have c1 := HSN.out.sn_facts.1
    go_upto_region 34 with fail
    go_cut [164] from 152 to 164 (fun c wx => c = .bool C ∧ ∃ n, wx = w2.drewN n)
    case first =>
      rcases (show (C = true ∧ y < 1) ∨ (C = true ∧ ¬ y < 1 ∧ (L : Int) < y) ∨ (C = false ∧ ¬ y < 1 ∧ ¬ (L : Int) < y) by rw [← hC]; by_cases h0 : y < 1 <;> by_cases h9 : (L : Int) < y <;> simp [h0, h9]) with ⟨hz, z1⟩ | ⟨hz, z1, z2⟩ | ⟨hz, z1, z2⟩
      all_goals
        first | have t1 : decide (y < 1) = true := (by simpa using z1) | have t1 : decide (y < 1) = false := (by simpa using z1)
        first | have t2 : decide ((L : Int) < y) = true := (by simpa using z2) | have t2 : decide ((L : Int) < y) = false := (by simpa using z2) | skip
        have HZ := Lib.hid hz; have HC := Lib.hid hC
        clear hz hC
        go_wp2_with fail
        go_quiet (fail)
        go_wp2_with fail
        go_meet
        exact ⟨by rw [HZ.out], _, rfl⟩
    case rest =>
    obtain ⟨rfl, n1, rfl⟩ := hcut
    have HSN2 := Lib.hid (HSN.out.drewN n1)
    obtain ⟨w3, hw3⟩ : ∃ w3, w3 = w2.drewN n1 := ⟨_, rfl⟩
    rw [← hw3] at HSN2 ⊢
    clear hw3 d1 d2 c1
    go_upto_if 164 with fail
    go_cut [10, 15] from 165 to 165 (fun e want wx => e = .int .i64 (seAskErr (sa A F) y : Nat) ∧ want = .int .i64 (seAsk (sa A F) y) ∧ ∃ n, wx = w3.drewN n)
    case first =>
      refine apAsk w mp vb F L cap 2 y z A _ ad C (Lib.hid hC.symm) (by rw [HLA.out]; exact HI.out.1) hL hcp1 HLA (Lib.hid HI.out.2.2.1) HSN2 ?_
      intros
      go_step
      go_step
      go_meet
      assumption
    case rest =>
    obtain ⟨rfl, rfl, n2, rfl⟩ := hcut
    obtain ⟨E, hE⟩ : ∃ E, E = seAskErr (sa A F) y := ⟨_, rfl⟩
    obtain ⟨G, hG⟩ : ∃ E, E = seAsk (sa A F) y := ⟨_, rfl⟩
    rw [← hE, ← hG]
    have ho := HSN2.out.drewN n2
    obtain ⟨w4, hw4⟩ : ∃ w4, w4 = w3.drewN n2 := ⟨_, rfl⟩
    rw [← hw4] at ho ⊢
    have e1 := (ho.perm (star_left_comm _ _ _)).tri_cell 1 (by simp)
    simp only [List.getElem_cons_succ, List.getElem_cons_zero] at e1
    have HO := Lib.hid ho
    have HE := Lib.hid hE; have HG := Lib.hid hG
    clear hE hG
    clear ho hw4 hC
    go_wp2_with fail
    refine (seAsk_any sp (sa A F) y (by show A.length ≤ 1000000; have := HLA.out; omega) (HO.out.perm (show _ = SeP sp (sa A F) * (SnO mp (.slice ad L cap) A F * (Tri vb [2, y, z] * (HeP hp f * (RfP fp f * emp)))) by ac_rfl))).mono ?_
    rintro e w6 ⟨rfl, rfl⟩
    rw [← HE.out, ← HG.out]
    go_wp2_with fail
    refine (sameErr_any HGH.out E (E : Int) HO.out).mono ?_
    rintro e w7 ⟨rfl, ho⟩
    rw [show ((E : Int) == (E : Int)) = true from beq_self_eq_true _]
    have HO7 := Lib.hid ho
    clear ho HO
    go_wp2_with fail
    apply HK.out
    exact ⟨rfl, A, F, f, ap_later HI.out, HO7.out.sn_close.perm (by unfold ApO; ac_rfl)⟩
  by_cases x3 : x = 3
  · subst x3
    clear x0 x1 x2
    obtain ⟨C, hC⟩ : ∃ C, (decide (y < 0) || decide ((L : Int) < y)) = C := ⟨_, rfl⟩
    have c1 := HSN.out.sn_facts.1
    go_upto_region 42 with fail
    go_cut [210] from 198 to 210 (fun c wx => c = .bool C ∧ ∃ n, wx = w2.drewN n)
    case first =>
      rcases (show (C = true ∧ y < 0) ∨ (C = true ∧ ¬ y < 0 ∧ (L : Int) < y) ∨ (C = false ∧ ¬ y < 0 ∧ ¬ (L : Int) < y) by rw [← hC]; by_cases h0 : y < 0 <;> by_cases h9 : (L : Int) < y <;> simp [h0, h9]) with ⟨hz, z1⟩ | ⟨hz, z1, z2⟩ | ⟨hz, z1, z2⟩
      all_goals
        first | have t1 : decide (y < 0) = true := (by simpa using z1) | have t1 : decide (y < 0) = false := (by simpa using z1)
        first | have t2 : decide ((L : Int) < y) = true := (by simpa using z2) | have t2 : decide ((L : Int) < y) = false := (by simpa using z2) | skip
        have HZ := Lib.hid hz; have HC := Lib.hid hC
        clear hz hC
        go_wp2_with fail
        go_quiet (fail)
        go_wp2_with fail
        go_meet
        exact ⟨by rw [HZ.out], _, rfl⟩
    case rest =>
    obtain ⟨rfl, n1, rfl⟩ := hcut
    have HSN2 := Lib.hid (HSN.out.drewN n1)
    obtain ⟨w3, hw3⟩ : ∃ w3, w3 = w2.drewN n1 := ⟨_, rfl⟩
    rw [← hw3] at HSN2 ⊢
    clear hw3 d1 d2 c1
    go_upto_if 210 with fail
    go_cut [10] from 211 to 211 (fun e wx => e = .int .i64 (seFreeErr (sa A F) y : Nat) ∧ ∃ F', F' ≤ A.length ∧ seFree (sa A F) y = sa A F' ∧ Own w (SnP mp A F' * (Tri vb [3, y, z] * (SeP sp (sa A F) * (HeP hp f * (RfP fp f * emp))))) wx)
    case first =>
      refine apFree w mp vb F L cap 3 y z A _ ad C (Lib.hid hC.symm) (by rw [HLA.out]; exact HI.out.1) hL HLA HSN2 ?_
      intros
      go_step
      go_step
      go_meet
      assumption
    case rest =>
    obtain ⟨rfl, F', hF', hfr, ho⟩ := hcut
    obtain ⟨E, hE⟩ : ∃ E, E = seFreeErr (sa A F) y := ⟨_, rfl⟩
    rw [← hE]
    have e1 := (ho.perm (star_left_comm _ _ _)).tri_cell 1 (by simp)
    simp only [List.getElem_cons_succ, List.getElem_cons_zero] at e1
    have HO := Lib.hid ho
    have HE := Lib.hid hE; have HFR := Lib.hid hfr
    clear hE hfr
    clear ho hC
    go_wp2_with fail
    refine (seFree_any sp (sa A F) y (by show A.length ≤ 1000000; have := HLA.out; omega) (HO.out.perm (show _ = SeP sp (sa A F) * (SnP mp A F' * (Tri vb [3, y, z] * (HeP hp f * (RfP fp f * emp)))) by ac_rfl))).mono ?_
    rintro e w6 ⟨rfl, ho⟩
    rw [← HE.out]
    rw [HFR.out] at ho
    have HO6 := Lib.hid ho
    clear ho
    go_wp2_with fail
    refine (sameErr_any HGH.out E (E : Int) HO6.out).mono ?_
    rintro e w7 ⟨rfl, ho⟩
    rw [show ((E : Int) == (E : Int)) = true from beq_self_eq_true _]
    have HO7 := Lib.hid ho
    clear ho HO6
    go_wp2_with fail
    apply HK.out
    exact ⟨rfl, A, F', f, ⟨hF', (ap_later HI.out).2⟩, HO7.out.perm (by unfold ApO; ac_rfl)⟩
  have t0 : (x == 0) = false := by rw [beq_eq_false_iff_ne]; exact x0
  have t1 : (x == 1) = false := by rw [beq_eq_false_iff_ne]; exact x1
  have t2 : (x == 2) = false := by rw [beq_eq_false_iff_ne]; exact x2
  have t3 : (x == 3) = false := by rw [beq_eq_false_iff_ne]; exact x3
  clear x0 x1 x2 x3
  have HFT := Lib.hid HI.out.2.2.2.1
  go_wp2_with fail
  refine (refFi_any fp f 0 y z HFT.out (HT.out.perm (show _ = RfP fp f * (SeP sp (sa A F) * (HeP hp f * (SnP mp A F * (Tri vb [x, y, z] * emp)))) by unfold ApO; ac_rfl))).mono ?_
  rintro e w3 ⟨v1, rfl, ho⟩
  obtain ⟨g, hgd⟩ : ∃ g, g = fiTake f 0 y z := ⟨_, rfl⟩
  obtain ⟨O, hOd⟩ : ∃ g, g = fiOut f 0 y z := ⟨_, rfl⟩
  obtain ⟨E, hEd⟩ : ∃ g, g = fiErr f 0 y z := ⟨_, rfl⟩
  obtain ⟨E2, hE2⟩ : ∃ g, g = heErr f y z := ⟨_, rfl⟩
  have hgi := ap_take HI.out y z
  have hOI := (fiTake_fit HFT.out 0 y z).2
  rw [← hgd] at ho hgi
  rw [← hOd] at ho hOI
  rw [← hEd]
  have hEE : E2 = if E = 7 then 0 else E := by rw [hE2, hEd]; rfl
  have ho3 := ho.perm (show _ = Tri vb [x, y, z] * (IntSl v1 O * (RfP fp g * (SeP sp (sa A F) * (HeP hp f * (SnP mp A F * emp))))) by ac_rfl)
  have d1' := ho3.tri_cell 1 (by simp)
  have d2' := ho3.tri_cell 2 (by simp)
  simp only [List.getElem_cons_succ, List.getElem_cons_zero] at d1' d2'
  have HO3 := Lib.hid ho3
  have HOI := Lib.hid hOI
  have HGI := Lib.hid hgi; have HGD := Lib.hid hgd; have HOD := Lib.hid hOd; have HED := Lib.hid hEd; have HE2 := Lib.hid hE2
  clear hgi hgd hOd hEd hE2
  clear ho ho3 hOI d1 d2
  go_upto_if 79 with fail
  go_cut [19] from 78 to 78 (fun e wx => e = .int .i64 (E2 : Nat) ∧ wx = w3)
  case first =>
    by_cases h7 : E = 7
    · have t7 : ((E : Int) == 7) = true := by rw [beq_iff_eq]; omega
      have hE3 : E2 = 0 := by rw [hEE, if_pos h7]
      have HE3 := Lib.hid hE3; have H7 := Lib.hid h7; have HEE := Lib.hid hEE
      clear hE3 h7 hEE
      go_wp2_with fail
      go_meet
      exact ⟨by rw [HE3.out]; rfl, rfl⟩
    · have t7 : ((E : Int) == 7) = false := by rw [beq_eq_false_iff_ne]; omega
      have hE3 : E2 = E := by rw [hEE, if_neg h7]
      have HE3 := Lib.hid hE3; have H7 := Lib.hid h7; have HEE := Lib.hid hEE
      clear hE3 h7 hEE
      go_wp2_with fail
      go_meet
      exact ⟨by rw [HE3.out], rfl⟩
  case rest =>
  obtain ⟨rfl, rfl⟩ := hcut
  clear hEE
  go_wp2_with fail
  refine (heTake_any hp f y z HFT.out (HO3.out.perm (show _ = HeP hp f * (IntSl v1 O * (RfP fp g * (SeP sp (sa A F) * (SnP mp A F * (Tri vb [x, y, z] * emp))))) by ac_rfl))).mono ?_
  rintro e w4 ⟨v2, rfl, ho⟩
  rw [← HGD.out, ← HOD.out] at ho
  rw [← HE2.out]
  have HO4 := Lib.hid ho
  clear ho d1' d2' HO3
  go_wp2_with fail
  refine (sameErr_any HGH.out E2 (E2 : Int) HO4.out).mono ?_
  rintro e w5 ⟨rfl, ho⟩
  rw [show ((E2 : Int) == (E2 : Int)) = true from beq_self_eq_true _]
  have HO5 := Lib.hid ho
  clear ho HO4
  go_wp2_with fail
  refine (sameInts_any v2 v1 O O _ (IntSl_reads HOI.out _ HO5.out) ((IntSl_reads HOI.out).more.more _ HO5.out)).mono ?_
  rintro e w' ⟨rfl, n6, rfl⟩
  rw [show (O == O) = true from beq_iff_eq.2 rfl]
  have HO6 := Lib.hid ((HO5.out.perm (show _ = IntSl v2 O * (IntSl v1 O * (ApO sp hp mp fp A F g * (Tri vb [x, y, z] * emp))) by unfold ApO; ac_rfl)).drop.drop.drewN n6)
  clear HO5
  go_wp2_with fail
  apply HK.out
  exact ⟨rfl, A, F, g, HGI.out, HO6.out⟩
end Go.Proofs.YteelldblfmhjlaaDoor
