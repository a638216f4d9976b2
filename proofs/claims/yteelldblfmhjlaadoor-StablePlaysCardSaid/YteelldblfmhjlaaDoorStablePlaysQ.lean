/- StablePlays: pieces of the law. -/
import Derived.Test.YteelldblfmhjlaaDoorStablePlaysP
import Derived.Test.YteelldblfmhjlaaDoorPiece
import Derived.Test.YteelldblfmhjlaaDoorSet
import Derived.Deep.DeepCutAuto
import Derived.Deep.CutBlock
namespace Go.Proofs.YteelldblfmhjlaaDoor
set_option linter.unusedVariables false
set_option linter.unusedSimpArgs false
open Go.RowKit
theorem five_made : ∀ w, (Instr.makeSlice 22 (.int .i64 5) (.int .i64 5)).run Tryd.prog w = .ok (.slice (some ⟨w.heap.size, 0, none⟩) 5 5) (w.alloc (.cells #[.int .i64 0, .int .i64 0, .int .i64 0, .int .i64 0, .int .i64 0] 3)) := fun _ => by kernel_rfl
theorem spInit_step {w0 w1 : World} {rb N j : Nat} {rs : List (Value × List Int)} {R : HProp} (hN : rs.length = N) (hj : j < N) (hr : rs.map (·.2) = List.replicate j zero5 ++ List.replicate (N - j) []) (h : Own w0 (RowT rb rs * R) w1) :
    ∃ rs', rs'.length = N ∧ rs'.map (·.2) = List.replicate (j + 1) zero5 ++ List.replicate (N - (j + 1)) [] ∧ Own w0 (RowT rb rs' * R) ((w1.alloc (.cells #[.int .i64 0, .int .i64 0, .int .i64 0, .int .i64 0, .int .i64 0] 3)).setCell ⟨rb, j, none⟩ (.slice (some ⟨w1.heap.size, 0, none⟩) 5 5)) := by
  have hk : j < rs.length := by omega
  have h1 := (h.alloc (.cells #[.int .i64 0, .int .i64 0, .int .i64 0, .int .i64 0, .int .i64 0] 3)).zero5
  have h2 := rowT_take (h1.perm (star_left_comm _ _ _)) hk
  have h3 := h2.drop.perm (show _ = IntSl (.slice (some ⟨w1.heap.size, 0, none⟩) 5 5) zero5 * (RowX rb rs j * R) by ac_rfl)
  refine ⟨rs.set j (.slice (some ⟨w1.heap.size, 0, none⟩) 5 5, zero5), by simpa using hN, ?_, rowT_put hk h3⟩
  have e1 : List.replicate (N - j) ([] : List Int) = [] :: List.replicate (N - (j + 1)) [] := by rw [show N - j = (N - (j + 1)) + 1 by omega]; rfl
  have e2 : List.replicate (j + 1) zero5 = List.replicate j zero5 ++ [zero5] := List.replicate_succ'
  rw [List.map_set, hr, e1, e2, List.set_append_right _ _ (by simp), List.length_replicate, Nat.sub_self, List.set_cons_zero, List.append_assoc]
  rfl
noncomputable def spInit_code : Code := ((Tryd.f4.body.bind (findBlock 0)).getD .skip)
set_option maxRecDepth 1000000 in
set_option maxHeartbeats 4000000 in
theorem spInit {Q : Exit → Act → World → Prop} {u1 u2 u3 u4 u5 u6 u7 u8 u9 u10 u11 u12 u15 u16 u17 u18 u19 u20 u21 u22 u23 u24 u25 u26 u27 u28 u29 u30 u31 u32 u33 u34 u35 u36 u37 u38 u39 u40 u41 u42 u43 u44 u45 u46 u47 u48 u49 u50 u51 u52 u53 u54 u55 u56 u57 u58 u59 u60 u61 u62 u63 u64 u65 u66 u67 u68 u69 u70 u71 u72 u73 u74 u75 u76 u77 u78 u79 u80 u81 u82 u83 u84 u85 u86 u87 u88 u89 u90 u91 u92 u93 u94 u95 u96 u97 u98 u99 u100 u101 u102 u103 u104 u105 u106 u107 u108 u109 u110 u111 u112 u113 u114 u115 u116 u117 u118 u119 u120 u121 u122 u123 u124 u125 u126 u127 u128 u129 u130 u131 u132 u133 u134 u135 u136 u137 u138 u139 u140 u141 u142 u143 u144 u145 u146 u147 u148 u149 u150 u151 u152 u153 u154 u155 u156 u157 u158 u159 u160 u161 u162 u163 u164 u165 u166 u167 u168 u169 u170 u171 u172 u173 u174 u175 u176 u177 u178 u179 u180 u181 u182 u183 u184 u185 u186 u187 u188 u189 u190 u191 u192 u193 u194 u195 u196 u197 u198 u199 u200 u201 u202 u203 u204 u205 u206 u207 u208 u209 u210 u211 u212 u213 u214 u215 u216 u217 u218 u219 u220 u221 u222 u223 u224 u225 u226 u227 u228 u229 u230 u231 u232 u233 u234 u235 u236 u237 u238 u239 u240 u241 u242 u243 u244 u245 u246 u247 u248 : Value} {w2 : World} (w : World) (rb N : Nat) (R : HProp) (hN1 : 2 ≤ N) (hN2 : N ≤ 5) (HO : Hid (Own w (RowT rb (List.replicate N (.slice none 0 0, [])) * R) w2))
    (hK : ∀ (v14 v52 v53 v54 v55 v56 v57 v58 v59 v60 : Value) (wx : World), (∃ rs : List (Value × List Int), rs.length = N ∧ rs.map (·.2) = List.replicate N zero5 ∧ Own w (RowT rb rs * R) wx) → Q .normal ⟨List.toArray ((.int .i64 (N : Int)) :: u1 :: u2 :: u3 :: u4 :: u5 :: u6 :: u7 :: u8 :: u9 :: u10 :: u11 :: u12 :: (.slice (some ⟨rb, 0, none⟩) N N) :: v14 :: u15 :: u16 :: u17 :: u18 :: u19 :: u20 :: u21 :: u22 :: u23 :: u24 :: u25 :: u26 :: u27 :: u28 :: u29 :: u30 :: u31 :: u32 :: u33 :: u34 :: u35 :: u36 :: u37 :: u38 :: u39 :: u40 :: u41 :: u42 :: u43 :: u44 :: u45 :: u46 :: u47 :: u48 :: u49 :: u50 :: u51 :: v52 :: v53 :: v54 :: v55 :: v56 :: v57 :: v58 :: v59 :: v60 :: u61 :: u62 :: u63 :: u64 :: u65 :: u66 :: u67 :: u68 :: u69 :: u70 :: u71 :: u72 :: u73 :: u74 :: u75 :: u76 :: u77 :: u78 :: u79 :: u80 :: u81 :: u82 :: u83 :: u84 :: u85 :: u86 :: u87 :: u88 :: u89 :: u90 :: u91 :: u92 :: u93 :: u94 :: u95 :: u96 :: u97 :: u98 :: u99 :: u100 :: u101 :: u102 :: u103 :: u104 :: u105 :: u106 :: u107 :: u108 :: u109 :: u110 :: u111 :: u112 :: u113 :: u114 :: u115 :: u116 :: u117 :: u118 :: u119 :: u120 :: u121 :: u122 :: u123 :: u124 :: u125 :: u126 :: u127 :: u128 :: u129 :: u130 :: u131 :: u132 :: u133 :: u134 :: u135 :: u136 :: u137 :: u138 :: u139 :: u140 :: u141 :: u142 :: u143 :: u144 :: u145 :: u146 :: u147 :: u148 :: u149 :: u150 :: u151 :: u152 :: u153 :: u154 :: u155 :: u156 :: u157 :: u158 :: u159 :: u160 :: u161 :: u162 :: u163 :: u164 :: u165 :: u166 :: u167 :: u168 :: u169 :: u170 :: u171 :: u172 :: u173 :: u174 :: u175 :: u176 :: u177 :: u178 :: u179 :: u180 :: u181 :: u182 :: u183 :: u184 :: u185 :: u186 :: u187 :: u188 :: u189 :: u190 :: u191 :: u192 :: u193 :: u194 :: u195 :: u196 :: u197 :: u198 :: u199 :: u200 :: u201 :: u202 :: u203 :: u204 :: u205 :: u206 :: u207 :: u208 :: u209 :: u210 :: u211 :: u212 :: u213 :: u214 :: u215 :: u216 :: u217 :: u218 :: u219 :: u220 :: u221 :: u222 :: u223 :: u224 :: u225 :: u226 :: u227 :: u228 :: u229 :: u230 :: u231 :: u232 :: u233 :: u234 :: u235 :: u236 :: u237 :: u238 :: u239 :: u240 :: u241 :: u242 :: u243 :: u244 :: u245 :: u246 :: u247 :: u248 :: []), []⟩ wx) :
    Code.wp Tryd.prog spInit_code Q ⟨List.toArray ((.int .i64 (N : Int)) :: u1 :: u2 :: u3 :: u4 :: u5 :: u6 :: u7 :: u8 :: u9 :: u10 :: u11 :: u12 :: (.slice (some ⟨rb, 0, none⟩) N N) :: (.int .i64 0) :: u15 :: u16 :: u17 :: u18 :: u19 :: u20 :: u21 :: u22 :: u23 :: u24 :: u25 :: u26 :: u27 :: u28 :: u29 :: u30 :: u31 :: u32 :: u33 :: u34 :: u35 :: u36 :: u37 :: u38 :: u39 :: u40 :: u41 :: u42 :: u43 :: u44 :: u45 :: u46 :: u47 :: u48 :: u49 :: u50 :: u51 :: u52 :: u53 :: u54 :: u55 :: u56 :: u57 :: u58 :: u59 :: u60 :: u61 :: u62 :: u63 :: u64 :: u65 :: u66 :: u67 :: u68 :: u69 :: u70 :: u71 :: u72 :: u73 :: u74 :: u75 :: u76 :: u77 :: u78 :: u79 :: u80 :: u81 :: u82 :: u83 :: u84 :: u85 :: u86 :: u87 :: u88 :: u89 :: u90 :: u91 :: u92 :: u93 :: u94 :: u95 :: u96 :: u97 :: u98 :: u99 :: u100 :: u101 :: u102 :: u103 :: u104 :: u105 :: u106 :: u107 :: u108 :: u109 :: u110 :: u111 :: u112 :: u113 :: u114 :: u115 :: u116 :: u117 :: u118 :: u119 :: u120 :: u121 :: u122 :: u123 :: u124 :: u125 :: u126 :: u127 :: u128 :: u129 :: u130 :: u131 :: u132 :: u133 :: u134 :: u135 :: u136 :: u137 :: u138 :: u139 :: u140 :: u141 :: u142 :: u143 :: u144 :: u145 :: u146 :: u147 :: u148 :: u149 :: u150 :: u151 :: u152 :: u153 :: u154 :: u155 :: u156 :: u157 :: u158 :: u159 :: u160 :: u161 :: u162 :: u163 :: u164 :: u165 :: u166 :: u167 :: u168 :: u169 :: u170 :: u171 :: u172 :: u173 :: u174 :: u175 :: u176 :: u177 :: u178 :: u179 :: u180 :: u181 :: u182 :: u183 :: u184 :: u185 :: u186 :: u187 :: u188 :: u189 :: u190 :: u191 :: u192 :: u193 :: u194 :: u195 :: u196 :: u197 :: u198 :: u199 :: u200 :: u201 :: u202 :: u203 :: u204 :: u205 :: u206 :: u207 :: u208 :: u209 :: u210 :: u211 :: u212 :: u213 :: u214 :: u215 :: u216 :: u217 :: u218 :: u219 :: u220 :: u221 :: u222 :: u223 :: u224 :: u225 :: u226 :: u227 :: u228 :: u229 :: u230 :: u231 :: u232 :: u233 :: u234 :: u235 :: u236 :: u237 :: u238 :: u239 :: u240 :: u241 :: u242 :: u243 :: u244 :: u245 :: u246 :: u247 :: u248 :: []), []⟩ w2 := by
  conv => arg 2; whnf
  have HK := Lib.hid hK
  clear hK
  go_wp2_with fail
  go_loopw [14] (fun jv wr => ∃ (j : Nat) (rs : List (Value × List Int)), j ≤ N ∧ jv = .int .i64 j ∧ Hid (rs.length = N ∧ rs.map (·.2) = List.replicate j zero5 ++ List.replicate (N - j) [] ∧ Own w (RowT rb rs * R) wr)) (fun jv _ => N - (intOf jv).toNat)
  case atStart => exact ⟨0, _, Nat.zero_le _, rfl, Lib.hid ⟨by simp, by simp, HO.out⟩⟩
  case round =>
    obtain ⟨j, rs, hj, rfl, hp⟩ := hrel
    by_cases h3 : j < N
    rotate_left
    · have hjN : j = N := by omega
      go_wp2_with fail
      apply HK.out
      have := hp.out
      rw [hjN, Nat.sub_self, List.replicate_zero, List.append_nil] at this
      exact ⟨rs, this⟩
    obtain ⟨rs', a1, a2, a3⟩ := spInit_step hp.out.1 h3 hp.out.2.1 hp.out.2.2
    have hcell := rowT_cell (hp.out.2.2.alloc' (.cells #[.int .i64 0, .int .i64 0, .int .i64 0, .int .i64 0, .int .i64 0] 3)) j (by rw [hp.out.1]; exact h3)
    have hfree := rowT_free (hp.out.2.2.alloc' (.cells #[.int .i64 0, .int .i64 0, .int .i64 0, .int .i64 0, .int .i64 0] 3)) j
    have HS := Lib.hid (show rs'.length = N ∧ rs'.map (·.2) = List.replicate (j + 1) zero5 ++ List.replicate (N - (j + 1)) [] ∧ _ from ⟨a1, a2, a3⟩)
    have i0 : (0 : Int) ≤ (j : Int) := by omega
    have i1 : (j : Int) < (N : Int) := by omega
    have hm5 := five_made
    clear a1 a2 a3
    go_wp2_with fail
    go_roundw
    case rel => exact ⟨j + 1, rs', by omega, by go_num, HS⟩
    case measure => simp [intOf]; omega
noncomputable def spMax_code : Code := ((Tryd.f4.body.bind (findBlock 4)).getD .skip)
set_option maxRecDepth 1000000 in
set_option maxHeartbeats 4000000 in
theorem spMax {Q : Exit → Act → World → Prop} {u0 u1 u3 u4 u5 u6 u7 u8 u10 u11 u12 u14 u17 u19 u20 u21 u22 u23 u24 u25 u26 u27 u28 u29 u30 u31 u32 u33 u34 u35 u36 u37 u38 u39 u40 u41 u42 u43 u44 u45 u46 u47 u48 u49 u50 u51 u52 u53 u54 u55 u56 u57 u58 u59 u60 u61 u62 u63 u64 u65 u66 u67 u68 u69 u70 u71 u72 u73 u74 u75 u76 u77 u78 u79 u80 u81 u82 u83 u84 u85 u86 u87 u88 u89 u90 u91 u92 u93 u94 u95 u96 u97 u98 u99 u100 u101 u102 u103 u104 u105 u106 u107 u108 u109 u110 u111 u112 u113 u114 u115 u116 u117 u118 u119 u120 u121 u122 u123 u124 u125 u126 u127 u128 u129 u130 u131 u132 u133 u134 u135 u136 u137 u138 u139 u140 u141 u142 u143 u144 u145 u146 u147 u148 u149 u150 u151 u152 u153 u154 u155 u156 u157 u158 u159 u160 u161 u162 u163 u164 u165 u166 u167 u168 u169 u170 u171 u172 u173 u174 u175 u176 u177 u178 u179 u180 u181 u182 u183 u184 u185 u186 u187 u188 u189 u190 u191 u192 u193 u194 u195 u196 u197 u198 u199 u200 u201 u202 u203 u204 u205 u206 u207 u208 u209 u210 u211 u212 u213 u214 u215 u216 u217 u218 u219 u220 u221 u222 u223 u224 u225 u226 u227 u228 u229 u230 u231 u232 u233 u234 u235 u236 u237 u238 u239 u240 u241 u242 u243 u244 u245 u246 u247 u248 : Value} {w2 : World} (w : World) (rb N e i L : Nat) (wi : Int) (li : List Int) (rs : List (Value × List Int)) (R : HProp) (a2 : Addr) (lcap rcap : Nat) (rad : Option Addr) (hN2 : N ≤ 5) (hlen : rs.length = N) (HOK : Hid (rowsOk (rs.map (·.2)))) (HE : Hid (e = toldErr N wi li)) (hi : i < L) (hL : L ≤ lcap) (hL2 : lcap ≤ 9223372036854775807) (HR : Hid (Ints w (.slice rad li.length rcap) li)) (HC : Hid (∀ (w1 : World) (P : HProp), Own w P w1 → w1.cell? (a2.add i) = some (.slice rad li.length rcap))) (HO : Hid (Own w (RowT rb rs * R) w2))
    (hK : ∀ (v18 v95 v96 v97 v98 v99 v100 v101 v102 v103 v104 v105 v106 v107 v108 v109 v110 v111 v112 v113 v114 v115 v116 v117 v118 v119 v120 v121 v122 v123 v124 v125 v126 v127 v128 v129 v130 : Value) (wx : World), (∃ rs' : List (Value × List Int), rs'.length = N ∧ rs'.map (·.2) = toldRows (rs.map (·.2)) wi li ∧ Own w (RowT rb rs' * R) wx) → Q .normal ⟨List.toArray (u0 :: u1 :: (.slice (some a2) L lcap) :: u3 :: u4 :: u5 :: u6 :: u7 :: u8 :: (.int .i64 (e : Int)) :: u10 :: u11 :: u12 :: (.slice (some ⟨rb, 0, none⟩) N N) :: u14 :: (.int .i64 (i : Int)) :: (.int .i64 wi) :: u17 :: v18 :: u19 :: u20 :: u21 :: u22 :: u23 :: u24 :: u25 :: u26 :: u27 :: u28 :: u29 :: u30 :: u31 :: u32 :: u33 :: u34 :: u35 :: u36 :: u37 :: u38 :: u39 :: u40 :: u41 :: u42 :: u43 :: u44 :: u45 :: u46 :: u47 :: u48 :: u49 :: u50 :: u51 :: u52 :: u53 :: u54 :: u55 :: u56 :: u57 :: u58 :: u59 :: u60 :: u61 :: u62 :: u63 :: u64 :: u65 :: u66 :: u67 :: u68 :: u69 :: u70 :: u71 :: u72 :: u73 :: u74 :: u75 :: u76 :: u77 :: u78 :: u79 :: u80 :: u81 :: u82 :: u83 :: u84 :: u85 :: u86 :: u87 :: u88 :: u89 :: u90 :: u91 :: u92 :: u93 :: u94 :: v95 :: v96 :: v97 :: v98 :: v99 :: v100 :: v101 :: v102 :: v103 :: v104 :: v105 :: v106 :: v107 :: v108 :: v109 :: v110 :: v111 :: v112 :: v113 :: v114 :: v115 :: v116 :: v117 :: v118 :: v119 :: v120 :: v121 :: v122 :: v123 :: v124 :: v125 :: v126 :: v127 :: v128 :: v129 :: v130 :: u131 :: u132 :: u133 :: u134 :: u135 :: u136 :: u137 :: u138 :: u139 :: u140 :: u141 :: u142 :: u143 :: u144 :: u145 :: u146 :: u147 :: u148 :: u149 :: u150 :: u151 :: u152 :: u153 :: u154 :: u155 :: u156 :: u157 :: u158 :: u159 :: u160 :: u161 :: u162 :: u163 :: u164 :: u165 :: u166 :: u167 :: u168 :: u169 :: u170 :: u171 :: u172 :: u173 :: u174 :: u175 :: u176 :: u177 :: u178 :: u179 :: u180 :: u181 :: u182 :: u183 :: u184 :: u185 :: u186 :: u187 :: u188 :: u189 :: u190 :: u191 :: u192 :: u193 :: u194 :: u195 :: u196 :: u197 :: u198 :: u199 :: u200 :: u201 :: u202 :: u203 :: u204 :: u205 :: u206 :: u207 :: u208 :: u209 :: u210 :: u211 :: u212 :: u213 :: u214 :: u215 :: u216 :: u217 :: u218 :: u219 :: u220 :: u221 :: u222 :: u223 :: u224 :: u225 :: u226 :: u227 :: u228 :: u229 :: u230 :: u231 :: u232 :: u233 :: u234 :: u235 :: u236 :: u237 :: u238 :: u239 :: u240 :: u241 :: u242 :: u243 :: u244 :: u245 :: u246 :: u247 :: u248 :: []), []⟩ wx) :
    Code.wp Tryd.prog spMax_code Q ⟨List.toArray (u0 :: u1 :: (.slice (some a2) L lcap) :: u3 :: u4 :: u5 :: u6 :: u7 :: u8 :: (.int .i64 (e : Int)) :: u10 :: u11 :: u12 :: (.slice (some ⟨rb, 0, none⟩) N N) :: u14 :: (.int .i64 (i : Int)) :: (.int .i64 wi) :: u17 :: (.int .i64 0) :: u19 :: u20 :: u21 :: u22 :: u23 :: u24 :: u25 :: u26 :: u27 :: u28 :: u29 :: u30 :: u31 :: u32 :: u33 :: u34 :: u35 :: u36 :: u37 :: u38 :: u39 :: u40 :: u41 :: u42 :: u43 :: u44 :: u45 :: u46 :: u47 :: u48 :: u49 :: u50 :: u51 :: u52 :: u53 :: u54 :: u55 :: u56 :: u57 :: u58 :: u59 :: u60 :: u61 :: u62 :: u63 :: u64 :: u65 :: u66 :: u67 :: u68 :: u69 :: u70 :: u71 :: u72 :: u73 :: u74 :: u75 :: u76 :: u77 :: u78 :: u79 :: u80 :: u81 :: u82 :: u83 :: u84 :: u85 :: u86 :: u87 :: u88 :: u89 :: u90 :: u91 :: u92 :: u93 :: u94 :: u95 :: u96 :: u97 :: u98 :: u99 :: u100 :: u101 :: u102 :: u103 :: u104 :: u105 :: u106 :: u107 :: u108 :: u109 :: u110 :: u111 :: u112 :: u113 :: u114 :: u115 :: u116 :: u117 :: u118 :: u119 :: u120 :: u121 :: u122 :: u123 :: u124 :: u125 :: u126 :: u127 :: u128 :: u129 :: u130 :: u131 :: u132 :: u133 :: u134 :: u135 :: u136 :: u137 :: u138 :: u139 :: u140 :: u141 :: u142 :: u143 :: u144 :: u145 :: u146 :: u147 :: u148 :: u149 :: u150 :: u151 :: u152 :: u153 :: u154 :: u155 :: u156 :: u157 :: u158 :: u159 :: u160 :: u161 :: u162 :: u163 :: u164 :: u165 :: u166 :: u167 :: u168 :: u169 :: u170 :: u171 :: u172 :: u173 :: u174 :: u175 :: u176 :: u177 :: u178 :: u179 :: u180 :: u181 :: u182 :: u183 :: u184 :: u185 :: u186 :: u187 :: u188 :: u189 :: u190 :: u191 :: u192 :: u193 :: u194 :: u195 :: u196 :: u197 :: u198 :: u199 :: u200 :: u201 :: u202 :: u203 :: u204 :: u205 :: u206 :: u207 :: u208 :: u209 :: u210 :: u211 :: u212 :: u213 :: u214 :: u215 :: u216 :: u217 :: u218 :: u219 :: u220 :: u221 :: u222 :: u223 :: u224 :: u225 :: u226 :: u227 :: u228 :: u229 :: u230 :: u231 :: u232 :: u233 :: u234 :: u235 :: u236 :: u237 :: u238 :: u239 :: u240 :: u241 :: u242 :: u243 :: u244 :: u245 :: u246 :: u247 :: u248 :: []), []⟩ w2 := by
  conv => arg 2; whnf
  have HK := Lib.hid hK
  clear hK
  have hl : (rs.map (·.2)).length = N := by rw [List.length_map, hlen]
  by_cases he0 : e = 0
  rotate_left
  · have htr : toldRows (rs.map (·.2)) wi li = rs.map (·.2) := by unfold toldRows; rw [hl, ← HE.out, if_neg he0]
    have t1 : ((e : Int) == 0) = false := by rw [beq_eq_false_iff_ne]; omega
    have HTR := Lib.hid htr; have HE0 := Lib.hid he0; have HL := Lib.hid hl; have HLEN := Lib.hid hlen
    clear htr he0 hl hlen
    go_wp2_with fail
    go_loopw [18] (fun jv wr => jv = .int .i64 0 ∧ wr = w2) (fun _ _ => 0)
    case atStart => exact ⟨rfl, rfl⟩
    case round =>
      obtain ⟨rfl, rfl⟩ := hrel
      go_wp2_with fail
      apply HK.out
      exact ⟨rs, HLEN.out, HTR.out.symm, HO.out⟩
  subst he0
  have hte := HE.out.symm
  have hin : inR wi N = true := by
    unfold toldErr at hte
    cases h : inR wi N
    · rw [h] at hte; simp at hte
    · rfl
  have hv0 : vecErr li = 0 := by
    unfold toldErr at hte
    rw [hin] at hte; simpa using hte
  have hwb : 0 ≤ wi ∧ wi < (N : Int) := by simpa [inR] using hin
  obtain ⟨r, rfl⟩ := Int.eq_ofNat_of_zero_le hwb.1
  have hrN : r < N := by omega
  have hrl : r < rs.length := by omega
  obtain ⟨v, hv⟩ : ∃ v, v = rs[r].1 := ⟨_, rfl⟩
  obtain ⟨row, hrow⟩ : ∃ l, l = rs[r].2 := ⟨_, rfl⟩
  have hrok : vecErr row = 0 := HOK.out _ (by rw [hrow]; exact List.mem_map.2 ⟨rs[r], List.getElem_mem hrl, rfl⟩)
  have h5 := (vecErr0 hrok).1
  have h5l := (vecErr0 hv0).1
  have htk := rowT_take HO.out hrl
  rw [← hv, ← hrow] at htk
  have HTK := Lib.hid htk
  have htr : toldRows (rs.map (·.2)) (r : Int) li = (rs.set r (v, zipMax row li)).map (·.2) := by
    rw [toldRows_get (by rw [hl]; exact hrN) (by rw [hl]; exact hte), List.map_set]
    congr 1
    rw [hrow]; simp [hrl]
  have i0 : (0 : Int) ≤ (r : Int) := by omega
  have i1 : (r : Int) < (N : Int) := by omega
  have ii0 : (0 : Int) ≤ (i : Int) := by omega
  have ii1 : (i : Int) < (L : Int) := by omega
  have HTR := Lib.hid htr; have HTE := Lib.hid hte; have HIN := Lib.hid hin; have HV0 := Lib.hid hv0; have HROK := Lib.hid hrok; have H5 := Lib.hid h5; have HROW := Lib.hid hrow; have HL := Lib.hid hl
  clear htr hte hin hv0 hrok h5 hrow hl
  clear htk hwb
  go_wp2_with fail
  go_loopw [18] (fun jv wr => ∃ j : Nat, j ≤ 5 ∧ jv = .int .i64 j ∧ Hid (Own w (IntSl v (midMax row li j) * (RowX rb rs r * R)) wr)) (fun jv _ => 5 - (intOf jv).toNat)
  case atStart => exact ⟨0, Nat.zero_le _, rfl, Lib.hid (by rw [midMax_zero]; exact HTK.out)⟩
  case round =>
    obtain ⟨j, hj, rfl, hp⟩ := hrel
    by_cases h3 : j < 5
    rotate_left
    · have hj5 : j = row.length := by rw [H5.out]; omega
      have hfin := hp.out
      rw [hj5, midMax_end (by rw [H5.out, h5l]), hv] at hfin
      have hg := rowT_give hrl hfin
      rw [← hv] at hg
      have HG := Lib.hid hg
      have HJ5 := Lib.hid hj5
      clear hj5
      clear hfin hg hp
      go_wp2_with fail
      apply HK.out
      exact ⟨_, by rw [List.length_set]; exact hlen, HTR.out.symm, HG.out⟩
    have hml : (midMax row li j).length = 5 := by rw [midMax_len (by rw [H5.out, h5l]), H5.out]
    obtain ⟨b, off, cap, hvs, hcp, hcell, hfree, hset⟩ := hp.out.ints_five (by omega)
    have hjr : j < row.length := by rw [H5.out]; exact h3
    have hjl : j < li.length := by omega
    have c1 := hcell j (by omega)
    rw [midMax_get (by rw [H5.out, h5l]) hjr] at c1
    have f1 := hfree (off + j)
    have c2 := rowX_cell hp.out r hrl
    rw [← hv, hvs, hml] at c2
    rw [hml] at hcp
    have c3 := HC.out _ _ hp.out
    obtain ⟨b3, rfl, hcb⟩ := HR.out.at_later j hjl
    have c4 := hcb _ _ hp.out
    obtain ⟨x, hx⟩ : ∃ x, x = row[j] := ⟨_, rfl⟩
    obtain ⟨z, hz⟩ : ∃ x, x = li[j] := ⟨_, rfl⟩
    rw [← hx] at c1
    rw [← hz] at c4
    have hsucc := midMax_succ (row := row) (v := li) (by rw [H5.out, h5l]) hjr hjl
    rw [← hx, ← hz] at hsucc
    have j0 : (0 : Int) ≤ (j : Int) := by omega
    have j5 : (j : Int) < 5 := by omega
    have hset' := hset j z (by omega)
    have hme : (midMax row li j)[j]'(by omega) = x := by rw [midMax_get (by rw [H5.out, h5l]) hjr, hx]
    by_cases hgt : x < z
    · have t2 : decide (x < z) = true := by simpa using hgt
      rw [show max x z = z by omega] at hsucc
      have HS := Lib.hid hset'
      have HSUCC := Lib.hid hsucc; have HME := Lib.hid hme; have HSET := Lib.hid hset; have HCELL := Lib.hid hcell; have HFREE := Lib.hid hfree; have HX := Lib.hid hx; have HZ := Lib.hid hz
      clear hsucc hme hset hcell hfree hx hz
      clear hset' hcb
      go_wp2_with fail
      go_quiet (fail)
      go_wp2_with fail
      refine wp_region_tail 13 (by kernel_rfl) (by kernel_rfl) ?_
      simp only [List.take_succ_cons, List.take_zero, List.drop_succ_cons, List.drop_zero]
      repeat still_step
      refine wpStill_nil ?_
      go_wp2_with fail
      go_roundw
      case rel => exact ⟨j + 1, by omega, by go_num, Lib.hid (by rw [HSUCC.out]; exact HS.out.same rfl rfl rfl rfl)⟩
      case measure => simp [intOf]; omega
    · have t2 : decide (x < z) = false := by simpa using hgt
      rw [show max x z = x by omega] at hsucc
      have hsame : midMax row li (j + 1) = midMax row li j := by
        rw [hsucc]
        have : x = (midMax row li j)[j]'(by omega) := hme.symm
        rw [this, List.set_getElem_self]
      have HSUCC := Lib.hid hsucc; have HME := Lib.hid hme; have HSET := Lib.hid hset; have HSET' := Lib.hid hset'; have HCELL := Lib.hid hcell; have HFREE := Lib.hid hfree; have HX := Lib.hid hx; have HZ := Lib.hid hz; have HSAME := Lib.hid hsame
      clear hsucc hme hset hset' hcell hfree hx hz hsame
      clear hcb
      go_wp2_with fail
      go_quiet (fail)
      go_wp2_with fail
      go_roundw
      case rel => exact ⟨j + 1, by omega, by go_num, Lib.hid (by rw [HSAME.out]; exact hp.out.drewN _)⟩
      case measure => simp [intOf]; omega
theorem least_cells {w0 w1 : World} {lb : Nat} {L : List Int} {R : HProp} (h5 : L.length = 5) (h : Own w0 (IntSl (.slice (some ⟨lb, 0, none⟩) 5 5) L * R) w1) :
    (∀ i (hi : i < L.length), w1.cell? ⟨lb, i, none⟩ = some (.int .i64 L[i])) ∧ (∀ i, w1.frozen? ⟨lb, i, none⟩ = false) ∧ ∀ i x, i < 5 → Own w0 (IntSl (.slice (some ⟨lb, 0, none⟩) 5 5) (L.set i x) * R) (w1.setCell ⟨lb, i, none⟩ (.int .i64 x)) := by
  obtain ⟨b, off, cap, e, _, hc, hf, hs⟩ := h.ints_five (by omega)
  injection e with e1 _ _
  injection e1 with e1
  injection e1 with e1 e2
  subst e1; subst e2
  exact ⟨fun i hi => by have := hc i hi; rwa [Nat.zero_add] at this, hf, fun i x hi => by have := hs i x (by omega); rwa [Nat.zero_add] at this⟩
noncomputable def spMin_code : Code := ((Tryd.f4.body.bind (findBlock 8)).getD .skip)
set_option maxRecDepth 1000000 in
set_option maxHeartbeats 4000000 in
theorem spMin {Q : Exit → Act → World → Prop} {u1 u2 u3 u4 u5 u6 u7 u8 u9 u10 u11 u12 u14 u15 u16 u17 u18 u19 u20 u21 u22 u26 u27 u28 u29 u30 u31 u32 u33 u34 u35 u36 u37 u38 u39 u40 u41 u42 u43 u44 u45 u46 u47 u48 u49 u50 u51 u52 u53 u54 u55 u56 u57 u58 u59 u60 u61 u62 u63 u64 u65 u66 u67 u68 u69 u70 u71 u72 u73 u74 u75 u76 u77 u78 u79 u80 u81 u82 u83 u84 u85 u86 u87 u88 u89 u90 u91 u92 u93 u94 u95 u96 u97 u98 u99 u100 u101 u102 u103 u104 u105 u106 u107 u108 u109 u110 u111 u112 u113 u114 u115 u116 u117 u118 u119 u120 u121 u122 u123 u124 u125 u126 u127 u128 u129 u130 u131 u132 u133 u134 u135 u136 u137 u138 u139 u140 u141 u142 u143 u144 u145 u146 u147 u148 u149 u150 u151 u152 u153 u154 u155 u156 u157 u158 u159 u160 u161 u162 u163 u164 u165 u166 u167 u168 u169 u170 u171 u172 u173 u174 u175 u176 u177 u178 u179 u180 u181 u182 u183 u184 u185 u186 u187 u188 u189 u190 u191 u192 u193 u194 u195 u196 u197 u198 u199 u200 u201 u202 u203 u204 u205 u206 u207 u208 u209 u210 u211 u212 u213 u214 u215 u216 u217 u218 u219 u220 u221 u222 u223 u224 u225 u226 u227 u228 u229 u230 u231 u232 u233 u234 u235 u236 u237 u238 u239 u240 u241 u242 u243 u244 u245 u246 u247 u248 : Value} {w2 : World} (w : World) (rb lb N k : Nat) (x0 : Int) (L : List Int) (rs : List (Value × List Int)) (R : HProp) (hN1 : 2 ≤ N) (hN2 : N ≤ 5) (hk : k < 5) (h5 : L.length = 5) (hlen : rs.length = N) (HOK : Hid (rowsOk (rs.map (·.2)))) (HX : Hid (LeastAt (rs.map (·.2)) k 1 x0)) (HO : Hid (Own w (IntSl (.slice (some ⟨lb, 0, none⟩) 5 5) (L.set k x0) * (RowT rb rs * R)) w2))
    (hK : ∀ (v25 v174 v175 v176 v177 v178 v179 v180 v181 v182 v183 v184 v185 v186 v187 v188 v189 v190 v191 v192 v193 v194 v195 v196 v197 v198 v199 v200 : Value) (wx : World), (Own w (IntSl (.slice (some ⟨lb, 0, none⟩) 5 5) (L.set k ((leastOf (rs.map (·.2))).getD k 0)) * (RowT rb rs * R)) wx) → Q .normal ⟨List.toArray ((.int .i64 (N : Int)) :: u1 :: u2 :: u3 :: u4 :: u5 :: u6 :: u7 :: u8 :: u9 :: u10 :: u11 :: u12 :: (.slice (some ⟨rb, 0, none⟩) N N) :: u14 :: u15 :: u16 :: u17 :: u18 :: u19 :: u20 :: u21 :: u22 :: (.slice (some ⟨lb, 0, none⟩) 5 5) :: (.int .i64 (k : Int)) :: v25 :: u26 :: u27 :: u28 :: u29 :: u30 :: u31 :: u32 :: u33 :: u34 :: u35 :: u36 :: u37 :: u38 :: u39 :: u40 :: u41 :: u42 :: u43 :: u44 :: u45 :: u46 :: u47 :: u48 :: u49 :: u50 :: u51 :: u52 :: u53 :: u54 :: u55 :: u56 :: u57 :: u58 :: u59 :: u60 :: u61 :: u62 :: u63 :: u64 :: u65 :: u66 :: u67 :: u68 :: u69 :: u70 :: u71 :: u72 :: u73 :: u74 :: u75 :: u76 :: u77 :: u78 :: u79 :: u80 :: u81 :: u82 :: u83 :: u84 :: u85 :: u86 :: u87 :: u88 :: u89 :: u90 :: u91 :: u92 :: u93 :: u94 :: u95 :: u96 :: u97 :: u98 :: u99 :: u100 :: u101 :: u102 :: u103 :: u104 :: u105 :: u106 :: u107 :: u108 :: u109 :: u110 :: u111 :: u112 :: u113 :: u114 :: u115 :: u116 :: u117 :: u118 :: u119 :: u120 :: u121 :: u122 :: u123 :: u124 :: u125 :: u126 :: u127 :: u128 :: u129 :: u130 :: u131 :: u132 :: u133 :: u134 :: u135 :: u136 :: u137 :: u138 :: u139 :: u140 :: u141 :: u142 :: u143 :: u144 :: u145 :: u146 :: u147 :: u148 :: u149 :: u150 :: u151 :: u152 :: u153 :: u154 :: u155 :: u156 :: u157 :: u158 :: u159 :: u160 :: u161 :: u162 :: u163 :: u164 :: u165 :: u166 :: u167 :: u168 :: u169 :: u170 :: u171 :: u172 :: u173 :: v174 :: v175 :: v176 :: v177 :: v178 :: v179 :: v180 :: v181 :: v182 :: v183 :: v184 :: v185 :: v186 :: v187 :: v188 :: v189 :: v190 :: v191 :: v192 :: v193 :: v194 :: v195 :: v196 :: v197 :: v198 :: v199 :: v200 :: u201 :: u202 :: u203 :: u204 :: u205 :: u206 :: u207 :: u208 :: u209 :: u210 :: u211 :: u212 :: u213 :: u214 :: u215 :: u216 :: u217 :: u218 :: u219 :: u220 :: u221 :: u222 :: u223 :: u224 :: u225 :: u226 :: u227 :: u228 :: u229 :: u230 :: u231 :: u232 :: u233 :: u234 :: u235 :: u236 :: u237 :: u238 :: u239 :: u240 :: u241 :: u242 :: u243 :: u244 :: u245 :: u246 :: u247 :: u248 :: []), []⟩ wx) :
    Code.wp Tryd.prog spMin_code Q ⟨List.toArray ((.int .i64 (N : Int)) :: u1 :: u2 :: u3 :: u4 :: u5 :: u6 :: u7 :: u8 :: u9 :: u10 :: u11 :: u12 :: (.slice (some ⟨rb, 0, none⟩) N N) :: u14 :: u15 :: u16 :: u17 :: u18 :: u19 :: u20 :: u21 :: u22 :: (.slice (some ⟨lb, 0, none⟩) 5 5) :: (.int .i64 (k : Int)) :: (.int .i64 1) :: u26 :: u27 :: u28 :: u29 :: u30 :: u31 :: u32 :: u33 :: u34 :: u35 :: u36 :: u37 :: u38 :: u39 :: u40 :: u41 :: u42 :: u43 :: u44 :: u45 :: u46 :: u47 :: u48 :: u49 :: u50 :: u51 :: u52 :: u53 :: u54 :: u55 :: u56 :: u57 :: u58 :: u59 :: u60 :: u61 :: u62 :: u63 :: u64 :: u65 :: u66 :: u67 :: u68 :: u69 :: u70 :: u71 :: u72 :: u73 :: u74 :: u75 :: u76 :: u77 :: u78 :: u79 :: u80 :: u81 :: u82 :: u83 :: u84 :: u85 :: u86 :: u87 :: u88 :: u89 :: u90 :: u91 :: u92 :: u93 :: u94 :: u95 :: u96 :: u97 :: u98 :: u99 :: u100 :: u101 :: u102 :: u103 :: u104 :: u105 :: u106 :: u107 :: u108 :: u109 :: u110 :: u111 :: u112 :: u113 :: u114 :: u115 :: u116 :: u117 :: u118 :: u119 :: u120 :: u121 :: u122 :: u123 :: u124 :: u125 :: u126 :: u127 :: u128 :: u129 :: u130 :: u131 :: u132 :: u133 :: u134 :: u135 :: u136 :: u137 :: u138 :: u139 :: u140 :: u141 :: u142 :: u143 :: u144 :: u145 :: u146 :: u147 :: u148 :: u149 :: u150 :: u151 :: u152 :: u153 :: u154 :: u155 :: u156 :: u157 :: u158 :: u159 :: u160 :: u161 :: u162 :: u163 :: u164 :: u165 :: u166 :: u167 :: u168 :: u169 :: u170 :: u171 :: u172 :: u173 :: u174 :: u175 :: u176 :: u177 :: u178 :: u179 :: u180 :: u181 :: u182 :: u183 :: u184 :: u185 :: u186 :: u187 :: u188 :: u189 :: u190 :: u191 :: u192 :: u193 :: u194 :: u195 :: u196 :: u197 :: u198 :: u199 :: u200 :: u201 :: u202 :: u203 :: u204 :: u205 :: u206 :: u207 :: u208 :: u209 :: u210 :: u211 :: u212 :: u213 :: u214 :: u215 :: u216 :: u217 :: u218 :: u219 :: u220 :: u221 :: u222 :: u223 :: u224 :: u225 :: u226 :: u227 :: u228 :: u229 :: u230 :: u231 :: u232 :: u233 :: u234 :: u235 :: u236 :: u237 :: u238 :: u239 :: u240 :: u241 :: u242 :: u243 :: u244 :: u245 :: u246 :: u247 :: u248 :: []), []⟩ w2 := by
  conv => arg 2; whnf
  have HK := Lib.hid hK
  clear hK
  have i0 : (0 : Int) ≤ (k : Int) := by omega
  have i1 : (k : Int) < 5 := by omega
  go_wp2_with fail
  go_loopw [25] (fun jv wr => ∃ (m : Nat) (x : Int), 1 ≤ m ∧ m ≤ N ∧ jv = .int .i64 m ∧ Hid (LeastAt (rs.map (·.2)) k m x) ∧ Hid (Own w (IntSl (.slice (some ⟨lb, 0, none⟩) 5 5) (L.set k x) * (RowT rb rs * R)) wr)) (fun jv _ => N - (intOf jv).toNat)
  case atStart => exact ⟨1, x0, by omega, by omega, rfl, HX, HO⟩
  case round =>
    obtain ⟨m, x, hm1, hm2, rfl, hx, hp⟩ := hrel
    by_cases h3 : m < N
    rotate_left
    · have hmN : m = N := by omega
      go_wp2_with fail
      apply HK.out
      have hlen2 : (rs.map (·.2)).length = N := by rw [List.length_map, hlen]
      have hxx := hx.out
      rw [hmN, ← hlen2] at hxx
      rw [← leastAt_end HOK.out (by rw [hlen2]; omega) hk hxx]
      exact hp.out
    have hml : m < rs.length := by omega
    have hmr : m < (rs.map (·.2)).length := by rw [List.length_map]; exact hml
    have hr5 : rs[m].2.length = 5 := (vecErr0 (HOK.out _ (List.mem_map.2 ⟨rs[m], List.getElem_mem hml, rfl⟩))).1
    obtain ⟨v, hv⟩ : ∃ v, v = rs[m].1 := ⟨_, rfl⟩
    have hrow := hp.out.perm (star_left_comm _ _ _)
    have c2 := rowT_cell hrow m hml
    obtain ⟨b, off, cap, hvs, hcp, hcell, _, _⟩ := (rowT_take hrow hml).ints_five (by omega)
    rw [hr5] at hvs hcp
    rw [hvs] at c2
    have c4 := hcell k (by omega)
    obtain ⟨lc, lf, ls⟩ := least_cells (by rw [List.length_set]; exact h5) hp.out
    have c1 := lc k (by rw [List.length_set]; omega)
    rw [List.getElem_set_self] at c1
    have f1 := lf k
    obtain ⟨z, hz⟩ : ∃ z, z = rs[m].2[k] := ⟨_, rfl⟩
    rw [← hz] at c4
    have hsu := leastAt_succ hx.out hmr
    have hzz : ((rs.map (fun r : Value × List Int => r.2))[m]'hmr).getD k 0 = z := by rw [hz]; simp [show k < rs[m].2.length by omega]
    rw [hzz] at hsu
    have hset := ls k z hk
    rw [List.set_set] at hset
    have m0 : (0 : Int) ≤ (m : Int) := by omega
    have m1 : (m : Int) < (N : Int) := by omega
    by_cases hlt : z < x
    · have t2 : decide (z < x) = true := by simpa using hlt
      rw [if_pos hlt] at hsu
      have HS := Lib.hid hset
      have HSU := Lib.hid hsu; have HZZ := Lib.hid hzz; have HZ := Lib.hid hz; have LC := Lib.hid lc; have LF := Lib.hid lf; have LS := Lib.hid ls; have HCELL := Lib.hid hcell
      clear hsu hzz hz lc lf ls hcell
      clear hset hrow
      go_wp2_with fail
      go_quiet (fail)
      go_wp2_with fail
      go_roundw
      case rel => exact ⟨m + 1, z, by omega, by omega, by go_num, HSU, Lib.hid (HS.out.same rfl rfl rfl rfl)⟩
      case measure => simp [intOf]; omega
    · have t2 : decide (z < x) = false := by simpa using hlt
      rw [if_neg hlt] at hsu
      have HSU := Lib.hid hsu; have HZZ := Lib.hid hzz; have HZ := Lib.hid hz; have LC := Lib.hid lc; have LF := Lib.hid lf; have LS := Lib.hid ls; have HCELL := Lib.hid hcell; have HSET := Lib.hid hset
      clear hsu hzz hz lc lf ls hcell hset
      clear hrow
      go_wp2_with fail
      go_quiet (fail)
      go_wp2_with fail
      go_roundw
      case rel => exact ⟨m + 1, x, by omega, by omega, by go_num, HSU, Lib.hid (hp.out.drewN _)⟩
      case measure => simp [intOf]; omega
noncomputable def spLeast_code : Code := ((Tryd.f4.body.bind (findBlock 6)).getD .skip)
set_option maxRecDepth 1000000 in
set_option maxHeartbeats 4000000 in
theorem spLeast {Q : Exit → Act → World → Prop} {u1 u2 u3 u4 u5 u6 u7 u8 u9 u10 u11 u12 u14 u15 u16 u17 u18 u19 u20 u21 u22 u25 u26 u27 u28 u29 u30 u31 u32 u33 u34 u35 u36 u37 u38 u39 u40 u41 u42 u43 u44 u45 u46 u47 u48 u49 u50 u51 u52 u53 u54 u55 u56 u57 u58 u59 u60 u61 u62 u63 u64 u65 u66 u67 u68 u69 u70 u71 u72 u73 u74 u75 u76 u77 u78 u79 u80 u81 u82 u83 u84 u85 u86 u87 u88 u89 u90 u91 u92 u93 u94 u95 u96 u97 u98 u99 u100 u101 u102 u103 u104 u105 u106 u107 u108 u109 u110 u111 u112 u113 u114 u115 u116 u117 u118 u119 u120 u121 u122 u123 u124 u125 u126 u127 u128 u129 u130 u131 u132 u133 u134 u135 u136 u137 u138 u139 u140 u141 u142 u143 u144 u145 u146 u147 u148 u149 u150 u151 u152 u153 u154 u155 u156 u157 u158 u159 u160 u161 u162 u163 u164 u165 u166 u167 u168 u169 u170 u171 u172 u173 u174 u175 u176 u177 u178 u179 u180 u181 u182 u183 u184 u185 u186 u187 u188 u189 u190 u191 u192 u193 u194 u195 u196 u197 u198 u199 u200 u201 u202 u203 u204 u205 u206 u207 u208 u209 u210 u211 u212 u213 u214 u215 u216 u217 u218 u219 u220 u221 u222 u223 u224 u225 u226 u227 u228 u229 u230 u231 u232 u233 u234 u235 u236 u237 u238 u239 u240 u241 u242 u243 u244 u245 u246 u247 u248 : Value} {w2 : World} (w : World) (rb lb N : Nat) (rs : List (Value × List Int)) (R : HProp) (hN1 : 2 ≤ N) (hN2 : N ≤ 5) (hlen : rs.length = N) (HOK : Hid (rowsOk (rs.map (·.2)))) (HO : Hid (Own w (IntSl (.slice (some ⟨lb, 0, none⟩) 5 5) zero5 * (RowT rb rs * R)) w2))
    (hK : ∀ (v24 v25 v161 v162 v163 v164 v165 v166 v167 v168 v169 v170 v171 v172 v173 v174 v175 v176 v177 v178 v179 v180 v181 v182 v183 v184 v185 v186 v187 v188 v189 v190 v191 v192 v193 v194 v195 v196 v197 v198 v199 v200 : Value) (wx : World), (Own w (IntSl (.slice (some ⟨lb, 0, none⟩) 5 5) (leastOf (rs.map (·.2))) * (RowT rb rs * R)) wx) → Q .normal ⟨List.toArray ((.int .i64 (N : Int)) :: u1 :: u2 :: u3 :: u4 :: u5 :: u6 :: u7 :: u8 :: u9 :: u10 :: u11 :: u12 :: (.slice (some ⟨rb, 0, none⟩) N N) :: u14 :: u15 :: u16 :: u17 :: u18 :: u19 :: u20 :: u21 :: u22 :: (.slice (some ⟨lb, 0, none⟩) 5 5) :: v24 :: v25 :: u26 :: u27 :: u28 :: u29 :: u30 :: u31 :: u32 :: u33 :: u34 :: u35 :: u36 :: u37 :: u38 :: u39 :: u40 :: u41 :: u42 :: u43 :: u44 :: u45 :: u46 :: u47 :: u48 :: u49 :: u50 :: u51 :: u52 :: u53 :: u54 :: u55 :: u56 :: u57 :: u58 :: u59 :: u60 :: u61 :: u62 :: u63 :: u64 :: u65 :: u66 :: u67 :: u68 :: u69 :: u70 :: u71 :: u72 :: u73 :: u74 :: u75 :: u76 :: u77 :: u78 :: u79 :: u80 :: u81 :: u82 :: u83 :: u84 :: u85 :: u86 :: u87 :: u88 :: u89 :: u90 :: u91 :: u92 :: u93 :: u94 :: u95 :: u96 :: u97 :: u98 :: u99 :: u100 :: u101 :: u102 :: u103 :: u104 :: u105 :: u106 :: u107 :: u108 :: u109 :: u110 :: u111 :: u112 :: u113 :: u114 :: u115 :: u116 :: u117 :: u118 :: u119 :: u120 :: u121 :: u122 :: u123 :: u124 :: u125 :: u126 :: u127 :: u128 :: u129 :: u130 :: u131 :: u132 :: u133 :: u134 :: u135 :: u136 :: u137 :: u138 :: u139 :: u140 :: u141 :: u142 :: u143 :: u144 :: u145 :: u146 :: u147 :: u148 :: u149 :: u150 :: u151 :: u152 :: u153 :: u154 :: u155 :: u156 :: u157 :: u158 :: u159 :: u160 :: v161 :: v162 :: v163 :: v164 :: v165 :: v166 :: v167 :: v168 :: v169 :: v170 :: v171 :: v172 :: v173 :: v174 :: v175 :: v176 :: v177 :: v178 :: v179 :: v180 :: v181 :: v182 :: v183 :: v184 :: v185 :: v186 :: v187 :: v188 :: v189 :: v190 :: v191 :: v192 :: v193 :: v194 :: v195 :: v196 :: v197 :: v198 :: v199 :: v200 :: u201 :: u202 :: u203 :: u204 :: u205 :: u206 :: u207 :: u208 :: u209 :: u210 :: u211 :: u212 :: u213 :: u214 :: u215 :: u216 :: u217 :: u218 :: u219 :: u220 :: u221 :: u222 :: u223 :: u224 :: u225 :: u226 :: u227 :: u228 :: u229 :: u230 :: u231 :: u232 :: u233 :: u234 :: u235 :: u236 :: u237 :: u238 :: u239 :: u240 :: u241 :: u242 :: u243 :: u244 :: u245 :: u246 :: u247 :: u248 :: []), []⟩ wx) :
    Code.wp Tryd.prog spLeast_code Q ⟨List.toArray ((.int .i64 (N : Int)) :: u1 :: u2 :: u3 :: u4 :: u5 :: u6 :: u7 :: u8 :: u9 :: u10 :: u11 :: u12 :: (.slice (some ⟨rb, 0, none⟩) N N) :: u14 :: u15 :: u16 :: u17 :: u18 :: u19 :: u20 :: u21 :: u22 :: (.slice (some ⟨lb, 0, none⟩) 5 5) :: (.int .i64 0) :: u25 :: u26 :: u27 :: u28 :: u29 :: u30 :: u31 :: u32 :: u33 :: u34 :: u35 :: u36 :: u37 :: u38 :: u39 :: u40 :: u41 :: u42 :: u43 :: u44 :: u45 :: u46 :: u47 :: u48 :: u49 :: u50 :: u51 :: u52 :: u53 :: u54 :: u55 :: u56 :: u57 :: u58 :: u59 :: u60 :: u61 :: u62 :: u63 :: u64 :: u65 :: u66 :: u67 :: u68 :: u69 :: u70 :: u71 :: u72 :: u73 :: u74 :: u75 :: u76 :: u77 :: u78 :: u79 :: u80 :: u81 :: u82 :: u83 :: u84 :: u85 :: u86 :: u87 :: u88 :: u89 :: u90 :: u91 :: u92 :: u93 :: u94 :: u95 :: u96 :: u97 :: u98 :: u99 :: u100 :: u101 :: u102 :: u103 :: u104 :: u105 :: u106 :: u107 :: u108 :: u109 :: u110 :: u111 :: u112 :: u113 :: u114 :: u115 :: u116 :: u117 :: u118 :: u119 :: u120 :: u121 :: u122 :: u123 :: u124 :: u125 :: u126 :: u127 :: u128 :: u129 :: u130 :: u131 :: u132 :: u133 :: u134 :: u135 :: u136 :: u137 :: u138 :: u139 :: u140 :: u141 :: u142 :: u143 :: u144 :: u145 :: u146 :: u147 :: u148 :: u149 :: u150 :: u151 :: u152 :: u153 :: u154 :: u155 :: u156 :: u157 :: u158 :: u159 :: u160 :: u161 :: u162 :: u163 :: u164 :: u165 :: u166 :: u167 :: u168 :: u169 :: u170 :: u171 :: u172 :: u173 :: u174 :: u175 :: u176 :: u177 :: u178 :: u179 :: u180 :: u181 :: u182 :: u183 :: u184 :: u185 :: u186 :: u187 :: u188 :: u189 :: u190 :: u191 :: u192 :: u193 :: u194 :: u195 :: u196 :: u197 :: u198 :: u199 :: u200 :: u201 :: u202 :: u203 :: u204 :: u205 :: u206 :: u207 :: u208 :: u209 :: u210 :: u211 :: u212 :: u213 :: u214 :: u215 :: u216 :: u217 :: u218 :: u219 :: u220 :: u221 :: u222 :: u223 :: u224 :: u225 :: u226 :: u227 :: u228 :: u229 :: u230 :: u231 :: u232 :: u233 :: u234 :: u235 :: u236 :: u237 :: u238 :: u239 :: u240 :: u241 :: u242 :: u243 :: u244 :: u245 :: u246 :: u247 :: u248 :: []), []⟩ w2 := by
  conv => arg 2; whnf
  have HK := Lib.hid hK
  clear hK
  have hne : 0 < (rs.map (·.2)).length := by rw [List.length_map]; omega
  go_wp2_with fail
  go_loopw [24] (fun jv wr => ∃ k : Nat, k ≤ 5 ∧ jv = .int .i64 k ∧ Hid (Own w (IntSl (.slice (some ⟨lb, 0, none⟩) 5 5) (midLeast (rs.map (·.2)) k) * (RowT rb rs * R)) wr)) (fun jv _ => 5 - (intOf jv).toNat)
  case atStart => exact ⟨0, Nat.zero_le _, rfl, Lib.hid (by rw [midLeast_zero]; exact HO.out)⟩
  case round =>
    obtain ⟨k, hk5, rfl, hp⟩ := hrel
    by_cases h3 : k < 5
    rotate_left
    · have hk : k = 5 := by omega
      go_wp2_with fail
      apply HK.out
      have := hp.out
      rw [hk, midLeast_end HOK.out hne] at this
      exact this
    have hml := midLeast_len HOK.out hne (k := k) (by omega)
    have h0l : 0 < rs.length := by omega
    have hr5 : rs[0].2.length = 5 := (vecErr0 (HOK.out _ (List.mem_map.2 ⟨rs[0], List.getElem_mem h0l, rfl⟩))).1
    have hrow := hp.out.perm (star_left_comm _ _ _)
    have c2 := rowT_cell hrow 0 h0l
    obtain ⟨b, off, cap, hvs, hcp, hcell, _, _⟩ := (rowT_take hrow h0l).ints_five (by omega)
    rw [hr5] at hvs hcp
    rw [hvs] at c2
    have c4 := hcell k (by omega)
    obtain ⟨z, hz⟩ : ∃ z, z = rs[0].2[k] := ⟨_, rfl⟩
    rw [← hz] at c4
    obtain ⟨lc, lf, ls⟩ := least_cells hml hp.out
    have c1 := lc k (by omega)
    have f1 := lf k
    have HS := Lib.hid (ls k z h3)
    have hone := leastAt_one (rows := rs.map (·.2)) k hne
    have hzz : ((rs.map (fun r : Value × List Int => r.2))[0]'hne).getD k 0 = z := by rw [hz]; simp [show k < rs[0].2.length by omega]
    rw [hzz] at hone
    have i0 : (0 : Int) ≤ (k : Int) := by omega
    have i1 : (k : Int) < 5 := by omega
    obtain ⟨q, hq⟩ : ∃ q, q = (midLeast (rs.map (·.2)) k)[k]'(by omega) := ⟨_, rfl⟩
    rw [← hq] at c1
    have HSC := Lib.hid (midLeast_succ HOK.out hne h3)
    have HONE := Lib.hid hone; have HZZ := Lib.hid hzz; have HZ := Lib.hid hz; have LC := Lib.hid lc; have LF := Lib.hid lf; have LS := Lib.hid ls; have HCELL := Lib.hid hcell; have HQ := Lib.hid hq
    clear hone hzz hz lc lf ls hcell hq
    clear hrow
    go_upto_block 8 with fail
    refine spMin w rb lb N k z (midLeast (rs.map (·.2)) k) rs R hN1 hN2 h3 hml hlen HOK HONE HS ?_
    intros
    rename_i wx hcut
    have HC1 := Lib.hid hcut
    clear hcut
    go_step
    go_step
    go_wp2_with fail
    go_roundw
    case rel => exact ⟨k + 1, by omega, by go_num, Lib.hid (by rw [← HSC.out]; exact HC1.out)⟩
    case measure => simp [intOf]; omega
end Go.Proofs.YteelldblfmhjlaaDoor
