/- StablePlays: a round of the law. -/
import Derived.Test.YteelldblfmhjlaaDoorStablePlaysQ
import Derived.Deep.DeepCutAuto
import Derived.Deep.CutBlock
namespace Go.Proofs.YteelldblfmhjlaaDoor
set_option linter.unusedVariables false
set_option linter.unusedSimpArgs false
open Go.RowKit
noncomputable def spRound_code : Code := ((Tryd.f4.body.bind (findBlock 3)).getD .skip)
set_option maxRecDepth 1000000 in
set_option maxHeartbeats 4000000 in
theorem spRound {Q : Exit → Act → World → Prop} {u4 u5 u6 u7 u8 u9 u11 u12 u14 u16 u17 u18 u19 u20 u21 u22 u23 u24 u25 u26 u27 u28 u29 u30 u31 u32 u33 u34 u35 u36 u37 u38 u39 u40 u41 u42 u43 u44 u45 u46 u47 u48 u49 u50 u51 u52 u53 u54 u55 u56 u57 u58 u59 u60 u61 u62 u63 u64 u65 u66 u67 u68 u69 u70 u71 u72 u73 u74 u75 u76 u77 u78 u79 u80 u81 u82 u83 u84 u85 u86 u87 u88 u89 u90 u91 u92 u93 u94 u95 u96 u97 u98 u99 u100 u101 u102 u103 u104 u105 u106 u107 u108 u109 u110 u111 u112 u113 u114 u115 u116 u117 u118 u119 u120 u121 u122 u123 u124 u125 u126 u127 u128 u129 u130 u131 u132 u133 u134 u135 u136 u137 u138 u139 u140 u141 u142 u143 u144 u145 u146 u147 u148 u149 u150 u151 u152 u153 u154 u155 u156 u157 u158 u159 u160 u161 u162 u163 u164 u165 u166 u167 u168 u169 u170 u171 u172 u173 u174 u175 u176 u177 u178 u179 u180 u181 u182 u183 u184 u185 u186 u187 u188 u189 u190 u191 u192 u193 u194 u195 u196 u197 u198 u199 u200 u201 u202 u203 u204 u205 u206 u207 u208 u209 u210 u211 u212 u213 u214 u215 u216 u217 u218 u219 u220 u221 u222 u223 u224 u225 u226 u227 u228 u229 u230 u231 u232 u233 u234 u235 u236 u237 u238 u239 u240 u241 u242 u243 u244 u245 u246 u247 u248 : Value} {wr : World} (w : World) (p rb N i : Nat) (many : Int) (wl : List Int) (ls : List (List Int)) (rs : List (Value × List Int)) (wad lad : Option Addr) (wcap lcap : Nat) (HG : Hid (As.Handle w)) (hN1 : 2 ≤ N) (hN2 : N ≤ 5) (h1 : i < wl.length) (h2 : i < ls.length) (hw1 : wl.length ≤ wcap) (hw2 : wcap ≤ 9223372036854775807) (hl1 : ls.length ≤ lcap) (hl2 : lcap ≤ 9223372036854775807) (HMI : Hid (I64 many)) (HW : Hid (Ints w (.slice wad wl.length wcap) wl)) (HL : Hid (Rows2 w (.slice lad ls.length lcap) ls)) (hlen : rs.length = N) (HOK : Hid (rowsOk (rs.map (·.2)))) (HP : Hid (Own w (StableP p (rs.map (·.2)) * (RowT rb rs * emp)) wr))
    (hK : ∀ (v8 v9 v12 v16 v17 v18 v19 v20 v21 v22 v23 v24 v25 v26 v27 v28 v77 v78 v79 v80 v81 v82 v83 v84 v85 v86 v87 v88 v89 v90 v91 v92 v93 v94 v95 v96 v97 v98 v99 v100 v101 v102 v103 v104 v105 v106 v107 v108 v109 v110 v111 v112 v113 v114 v115 v116 v117 v118 v119 v120 v121 v122 v123 v124 v125 v126 v127 v128 v129 v130 v131 v132 v133 v134 v135 v136 v137 v138 v139 v140 v141 v142 v143 v144 v145 v146 v147 v148 v149 v150 v151 v152 v153 v154 v155 v156 v157 v158 v159 v160 v161 v162 v163 v164 v165 v166 v167 v168 v169 v170 v171 v172 v173 v174 v175 v176 v177 v178 v179 v180 v181 v182 v183 v184 v185 v186 v187 v188 v189 v190 v191 v192 v193 v194 v195 v196 v197 v198 v199 v200 v201 v202 v203 v204 v205 v206 v207 v208 v209 v210 v211 v212 v213 v214 v215 v216 v217 v218 v219 v220 v221 v222 v223 v224 v225 v226 v227 v228 v229 v230 v231 v232 v233 v234 v235 v236 v237 v238 v239 v240 v241 v242 v243 v244 v245 v246 v247 v248 : Value) (wx : World), (∃ rs2 : List (Value × List Int), rs2.length = N ∧ rowsOk (rs2.map (·.2)) ∧ Own w (StableP p (rs2.map (·.2)) * (RowT rb rs2 * emp)) wx) → Q .normal ⟨List.toArray ((.int .i64 (N : Int)) :: (.slice wad wl.length wcap) :: (.slice lad ls.length lcap) :: (.int .i64 many) :: u4 :: u5 :: u6 :: u7 :: v8 :: v9 :: (.pointer (some ⟨p, 0, none⟩)) :: u11 :: v12 :: (.slice (some ⟨rb, 0, none⟩) N N) :: u14 :: (.int .i64 (i : Int)) :: v16 :: v17 :: v18 :: v19 :: v20 :: v21 :: v22 :: v23 :: v24 :: v25 :: v26 :: v27 :: v28 :: u29 :: u30 :: u31 :: u32 :: u33 :: u34 :: u35 :: u36 :: u37 :: u38 :: u39 :: u40 :: u41 :: u42 :: u43 :: u44 :: u45 :: u46 :: u47 :: u48 :: u49 :: u50 :: u51 :: u52 :: u53 :: u54 :: u55 :: u56 :: u57 :: u58 :: u59 :: u60 :: u61 :: u62 :: u63 :: u64 :: u65 :: u66 :: u67 :: u68 :: u69 :: u70 :: u71 :: u72 :: u73 :: u74 :: u75 :: u76 :: v77 :: v78 :: v79 :: v80 :: v81 :: v82 :: v83 :: v84 :: v85 :: v86 :: v87 :: v88 :: v89 :: v90 :: v91 :: v92 :: v93 :: v94 :: v95 :: v96 :: v97 :: v98 :: v99 :: v100 :: v101 :: v102 :: v103 :: v104 :: v105 :: v106 :: v107 :: v108 :: v109 :: v110 :: v111 :: v112 :: v113 :: v114 :: v115 :: v116 :: v117 :: v118 :: v119 :: v120 :: v121 :: v122 :: v123 :: v124 :: v125 :: v126 :: v127 :: v128 :: v129 :: v130 :: v131 :: v132 :: v133 :: v134 :: v135 :: v136 :: v137 :: v138 :: v139 :: v140 :: v141 :: v142 :: v143 :: v144 :: v145 :: v146 :: v147 :: v148 :: v149 :: v150 :: v151 :: v152 :: v153 :: v154 :: v155 :: v156 :: v157 :: v158 :: v159 :: v160 :: v161 :: v162 :: v163 :: v164 :: v165 :: v166 :: v167 :: v168 :: v169 :: v170 :: v171 :: v172 :: v173 :: v174 :: v175 :: v176 :: v177 :: v178 :: v179 :: v180 :: v181 :: v182 :: v183 :: v184 :: v185 :: v186 :: v187 :: v188 :: v189 :: v190 :: v191 :: v192 :: v193 :: v194 :: v195 :: v196 :: v197 :: v198 :: v199 :: v200 :: v201 :: v202 :: v203 :: v204 :: v205 :: v206 :: v207 :: v208 :: v209 :: v210 :: v211 :: v212 :: v213 :: v214 :: v215 :: v216 :: v217 :: v218 :: v219 :: v220 :: v221 :: v222 :: v223 :: v224 :: v225 :: v226 :: v227 :: v228 :: v229 :: v230 :: v231 :: v232 :: v233 :: v234 :: v235 :: v236 :: v237 :: v238 :: v239 :: v240 :: v241 :: v242 :: v243 :: v244 :: v245 :: v246 :: v247 :: v248 :: []), []⟩ wx) :
    Code.wp Tryd.prog spRound_code Q ⟨List.toArray ((.int .i64 (N : Int)) :: (.slice wad wl.length wcap) :: (.slice lad ls.length lcap) :: (.int .i64 many) :: u4 :: u5 :: u6 :: u7 :: u8 :: u9 :: (.pointer (some ⟨p, 0, none⟩)) :: u11 :: u12 :: (.slice (some ⟨rb, 0, none⟩) N N) :: u14 :: (.int .i64 (i : Int)) :: u16 :: u17 :: u18 :: u19 :: u20 :: u21 :: u22 :: u23 :: u24 :: u25 :: u26 :: u27 :: u28 :: u29 :: u30 :: u31 :: u32 :: u33 :: u34 :: u35 :: u36 :: u37 :: u38 :: u39 :: u40 :: u41 :: u42 :: u43 :: u44 :: u45 :: u46 :: u47 :: u48 :: u49 :: u50 :: u51 :: u52 :: u53 :: u54 :: u55 :: u56 :: u57 :: u58 :: u59 :: u60 :: u61 :: u62 :: u63 :: u64 :: u65 :: u66 :: u67 :: u68 :: u69 :: u70 :: u71 :: u72 :: u73 :: u74 :: u75 :: u76 :: u77 :: u78 :: u79 :: u80 :: u81 :: u82 :: u83 :: u84 :: u85 :: u86 :: u87 :: u88 :: u89 :: u90 :: u91 :: u92 :: u93 :: u94 :: u95 :: u96 :: u97 :: u98 :: u99 :: u100 :: u101 :: u102 :: u103 :: u104 :: u105 :: u106 :: u107 :: u108 :: u109 :: u110 :: u111 :: u112 :: u113 :: u114 :: u115 :: u116 :: u117 :: u118 :: u119 :: u120 :: u121 :: u122 :: u123 :: u124 :: u125 :: u126 :: u127 :: u128 :: u129 :: u130 :: u131 :: u132 :: u133 :: u134 :: u135 :: u136 :: u137 :: u138 :: u139 :: u140 :: u141 :: u142 :: u143 :: u144 :: u145 :: u146 :: u147 :: u148 :: u149 :: u150 :: u151 :: u152 :: u153 :: u154 :: u155 :: u156 :: u157 :: u158 :: u159 :: u160 :: u161 :: u162 :: u163 :: u164 :: u165 :: u166 :: u167 :: u168 :: u169 :: u170 :: u171 :: u172 :: u173 :: u174 :: u175 :: u176 :: u177 :: u178 :: u179 :: u180 :: u181 :: u182 :: u183 :: u184 :: u185 :: u186 :: u187 :: u188 :: u189 :: u190 :: u191 :: u192 :: u193 :: u194 :: u195 :: u196 :: u197 :: u198 :: u199 :: u200 :: u201 :: u202 :: u203 :: u204 :: u205 :: u206 :: u207 :: u208 :: u209 :: u210 :: u211 :: u212 :: u213 :: u214 :: u215 :: u216 :: u217 :: u218 :: u219 :: u220 :: u221 :: u222 :: u223 :: u224 :: u225 :: u226 :: u227 :: u228 :: u229 :: u230 :: u231 :: u232 :: u233 :: u234 :: u235 :: u236 :: u237 :: u238 :: u239 :: u240 :: u241 :: u242 :: u243 :: u244 :: u245 :: u246 :: u247 :: u248 :: []), []⟩ wr := by
  conv => arg 2; whnf
  have HK := Lib.hid hK
  clear hK
  obtain ⟨wa, rfl, hwc⟩ := HW.out.at_later i h1
  obtain ⟨a2, rad, rcap, e2, hr, hc⟩ := HL.out.at_later i h2
  subst e2
  obtain ⟨wi, hwi⟩ : ∃ x, x = wl[i] := ⟨_, rfl⟩
  obtain ⟨li, hli⟩ : ∃ x, x = ls[i] := ⟨_, rfl⟩
  have c1 := hwc _ _ HP.out
  have c2 := hc _ _ HP.out
  rw [← hwi] at c1
  rw [← hli] at hr hc c2
  have HWI : Hid (I64 wi) := Lib.hid (HW.out.2 wi (by rw [hwi]; exact List.getElem_mem h1))
  have hrl : (rs.map (·.2)).length = N := by rw [List.length_map, hlen]
  obtain ⟨inn, hinn⟩ : ∃ b, b = inR wi N := ⟨_, rfl⟩
  have i0 : (0 : Int) ≤ (i : Int) := by omega
  have HR := Lib.hid hr; have HC := Lib.hid hc; have HWI := Lib.hid hwi; have HLI := Lib.hid hli; have HWC := Lib.hid hwc; have HINN := Lib.hid hinn; have HRL := Lib.hid hrl
  clear hr hc hwi hli hwc hinn hrl
  go_upto_region 18 with fail
  go_cut [17] from 81 to 81 (fun c wx => c = .bool inn ∧ wx = wr)
  case first =>
    rcases (show (inR wi N = false ∧ wi < 0) ∨ (inR wi N = false ∧ 0 ≤ wi ∧ (N : Int) ≤ wi) ∨ (inR wi N = true ∧ 0 ≤ wi ∧ wi < (N : Int)) by unfold inR; by_cases h0 : 0 ≤ wi <;> by_cases h9 : wi < (N : Int) <;> simp [h0, h9] <;> omega) with ⟨hin, y1⟩ | ⟨hin, y1, y2⟩ | ⟨hin, y1, y2⟩
    all_goals
      first | have t9 : decide (wi < (N : Int)) = true := (by simpa using y2) | have t9 : decide (wi < (N : Int)) = false := (by simp; omega) | skip
      have HIN := Lib.hid hin
      clear hin
      go_wp2_with fail
      go_meet
      exact ⟨by rw [HINN.out, HIN.out], rfl⟩
  case rest =>
  obtain ⟨rfl, rfl⟩ := hcut
  obtain ⟨E, hE⟩ : ∃ E, E = toldErr N wi li := ⟨_, rfl⟩
  have HE := Lib.hid hE
  clear hE
  go_upto_if 89 with fail
  go_cut [9] from 90 to 90 (fun e wx => e = .int .i64 (E : Nat) ∧ wx = wc)
  case first =>
    have HEE : Hid (E = if inn = false then 1 else vecErr li) := Lib.hid (by rw [HE.out]; unfold toldErr; rw [← HINN.out])
    cases inn
    · go_wp2_with fail
      go_meet
      exact ⟨by rw [HEE.out]; rfl, rfl⟩
    · go_wp2_with fail
      refine (refVector_any _ li _ (HR.out.later HP.out)).mono ?_
      rintro e w' ⟨rfl, rfl⟩
      go_wp2_with fail
      go_meet
      exact ⟨by rw [HEE.out]; rfl, rfl⟩
  case rest =>
  obtain ⟨rfl, rfl⟩ := hcut
  go_upto_block 4 with fail
  go_cut [18] from 95 to 95 (fun _ wx => ∃ rs' : List (Value × List Int), rs'.length = N ∧ rs'.map (·.2) = toldRows (rs.map (·.2)) wi li ∧ Own w (RowT rb rs' * (StableP p (rs.map (·.2)) * emp)) wx)
  case first =>
    refine spMax w rb N E i ls.length wi li rs _ a2 lcap rcap rad hN2 hlen HOK HE h2 hl1 hl2 HR HC (Lib.hid (HP.out.perm (star_left_comm _ _ _))) ?_
    intros
    go_step
    go_step
    go_meet
    assumption
  case rest =>
  obtain ⟨rs2, hlen2, hrows2, ho⟩ := hcut
  have hok2 : rowsOk (rs2.map (·.2)) := by rw [hrows2]; exact toldRows_ok HOK.out wi li
  obtain ⟨rows2, hr2⟩ : ∃ l, l = rs2.map (·.2) := ⟨_, rfl⟩
  have hrl2 : rows2.length = N := by rw [hr2, List.length_map, hlen2]
  have c2 := HC.out _ _ ho
  have HO := Lib.hid ho
  have HOK2 : Hid (rowsOk rows2) := Lib.hid (by rw [hr2]; exact hok2)
  have HTR : Hid (toldRows (rs.map (·.2)) wi li = rows2) := Lib.hid (by rw [hr2, hrows2])
  have HR2 := Lib.hid hr2
  clear hr2
  clear ho hok2 hrows2 c1
  go_wp2_with fail
  refine (told_any p (rs.map (·.2)) wi _ li HOK.out (by rw [HRL.out]; omega) (HO.out.perm (show _ = StableP p (rs.map (·.2)) * (RowT rb rs2 * emp) by ac_rfl)) HR.out.reads).mono ?_
  rintro e w6 ⟨rfl, ho⟩
  rw [HRL.out, ← HE.out]
  rw [HTR.out] at ho
  have HO6 := Lib.hid ho
  clear ho c2
  go_wp2_with fail
  refine (sameErr_any HG.out E (E : Int) HO6.out).mono ?_
  rintro e w7 ⟨rfl, ho⟩
  rw [show ((E : Int) == (E : Int)) = true from beq_self_eq_true _]
  have HO7 := Lib.hid ho
  clear ho HO6
  go_upto_if 141 with fail
  go_cut [9, 19] from 142 to 142 (fun e row wx => e = .int .i64 (inErr wi N : Nat) ∧ wx = w7 ∧ ∀ w' R', Own w (RowT rb rs2 * R') w' → Ints w' row (rowOf rows2 wi))
  case first =>
    cases inn
    · have hro : rowOf rows2 wi = [] := by unfold rowOf; rw [hrl2, ← HINN.out]; rfl
      have hie : inErr wi N = 1 := by unfold inErr; rw [← HINN.out]; rfl
      have HRO := Lib.hid hro; have HIE := Lib.hid hie
      clear hro hie
      go_wp2_with fail
      go_meet
      exact ⟨by rw [HIE.out]; rfl, rfl, fun w' R' _ => by rw [HRO.out]; exact Ints_nil w'⟩
    · have hwb : 0 ≤ wi ∧ wi < (N : Int) := by simpa [inR] using HINN.out.symm
      obtain ⟨r, rfl⟩ := Int.eq_ofNat_of_zero_le hwb.1
      have hrr : r < rs2.length := by omega
      have hro : rowOf rows2 (r : Int) = rs2[r].2 := by unfold rowOf; rw [hrl2, ← HINN.out, HR2.out]; simp [hrr]
      have hie : inErr (r : Int) N = 0 := by unfold inErr; rw [← HINN.out]; rfl
      have cc := rowT_cell (HO7.out.perm (star_left_comm _ _ _)) r hrr
      have j0 : (0 : Int) ≤ (r : Int) := by omega
      have j1 : (r : Int) < (N : Int) := by omega
      have hrI : ∀ x ∈ rs2[r].2, I64 x := vecErr_I64 (HOK2.out _ (by rw [HR2.out]; exact List.mem_map.2 ⟨rs2[r], List.getElem_mem hrr, rfl⟩))
      have HRO := Lib.hid hro; have HIE := Lib.hid hie; have HRI := Lib.hid hrI
      clear hro hie hrI
      clear hwb
      go_wp2_with fail
      go_meet
      exact ⟨by rw [HIE.out]; rfl, rfl, fun w' R' h => by rw [HRO.out]; exact IntSl_reads HRI.out _ (rowT_take h hrr)⟩
  case rest =>
  obtain ⟨rfl, rfl, hrow⟩ := hcut
  obtain ⟨E2, hE2⟩ : ∃ E, E = inErr wi N := ⟨_, rfl⟩
  obtain ⟨RO, hRO⟩ : ∃ l, l = rowOf rows2 wi := ⟨_, rfl⟩
  rw [← hE2]
  rw [← hRO] at hrow
  have hroI : ∀ x ∈ RO, I64 x := fun x hx => (hrow _ _ (HO7.out.perm (star_left_comm _ _ _))).2 x hx
  have HE2 := Lib.hid hE2; have HRO := Lib.hid hRO; have HROW := Lib.hid hrow; have HROI := Lib.hid hroI
  clear hE2 hRO hrow hroI
  go_wp2_with fail
  refine (row_any p rows2 wi HOK2.out (by omega) HO7.out).mono ?_
  rintro e w8 ⟨v1, rfl, ho⟩
  rw [hrl2, ← HE2.out]
  rw [← HRO.out] at ho
  have HO8 := Lib.hid ho
  clear ho
  go_wp2_with fail
  refine (sameErr_any HG.out E2 (E2 : Int) HO8.out).mono ?_
  rintro e w9 ⟨rfl, ho⟩
  rw [show ((E2 : Int) == (E2 : Int)) = true from beq_self_eq_true _]
  have HO9 := Lib.hid ho
  clear ho HO8
  go_wp2_with fail
  refine (sameInts_any v1 u19 RO RO _ (IntSl_reads HROI.out _ HO9.out) (HROW.out _ _ (HO9.out.perm (show _ = RowT rb rs2 * (IntSl v1 RO * (StableP p rows2 * emp)) by ac_rfl)))).mono ?_
  rintro e w' ⟨rfl, n6, rfl⟩
  rw [show (RO == RO) = true from beq_iff_eq.2 rfl]
  have h10 := HO9.out.drop.drewN n6
  obtain ⟨w10, hw10⟩ : ∃ w10, w10 = w9.drewN n6 := ⟨_, rfl⟩
  rw [← hw10] at h10 ⊢
  have h11 := (h10.alloc (.cells #[.int .i64 0, .int .i64 0, .int .i64 0, .int .i64 0, .int .i64 0] 3)).zero5
  obtain ⟨lb, hlb⟩ : ∃ b, b = w10.heap.size := ⟨_, rfl⟩
  obtain ⟨w11, hw11⟩ : ∃ w11, w11 = w10.alloc (.cells #[.int .i64 0, .int .i64 0, .int .i64 0, .int .i64 0, .int .i64 0] 3) := ⟨_, rfl⟩
  rw [← hlb, ← hw11] at h11
  have HO11 := Lib.hid (h11.perm (show _ = IntSl (.slice (some ⟨lb, 0, none⟩) 5 5) zero5 * (RowT rb rs2 * (StableP p rows2 * emp)) by ac_rfl))
  have hm5 := five_made
  clear h10 h11 hw10 HO9 HO7 HO
  go_upto_block 6 with fail
  rw [← hlb, ← hw11]
  clear hlb hw11 hm5
  go_cut [24, 25] from 161 to 161 (fun _ _ wx => Own w (IntSl (.slice (some ⟨lb, 0, none⟩) 5 5) (leastOf rows2) * (RowT rb rs2 * (StableP p rows2 * emp))) wx)
  case first =>
    refine spLeast w rb lb N rs2 _ hN1 hN2 hlen2 (Lib.hid (by rw [← HR2.out]; exact HOK2.out)) HO11 ?_
    intros
    rename_i hh
    go_step
    go_step
    go_meet
    rw [show leastOf rows2 = leastOf (rs2.map (·.2)) from congrArg leastOf HR2.out]
    exact hh
  case rest =>
  have hll := leastOf_len HOK2.out (by omega : 0 < rows2.length)
  have HC6 := Lib.hid hcut
  clear hcut HO11
  obtain ⟨M, hM⟩ : ∃ M, M = mayErr N wi many := ⟨_, rfl⟩
  obtain ⟨B, hB⟩ : ∃ B, B = mayIs rows2 wi many := ⟨_, rfl⟩
  obtain ⟨C, hC⟩ : ∃ C : Bool, C = !(inn && isCount many) := ⟨_, rfl⟩
  have HC_ := Lib.hid hC
  clear hC
  have HM := Lib.hid hM; have HB := Lib.hid hB; have HLL := Lib.hid hll
  clear hM hB hll
  go_upto_region 47 with fail
  go_cut [210] from 201 to 210 (fun c wx => c = .bool C ∧ wx = wc)
  case first =>
    cases inn
    · go_wp2_with fail
      go_meet
      exact ⟨by rw [HC_.out]; rfl, rfl⟩
    · rcases (show (isCount many = false ∧ many < 0) ∨ (isCount many = false ∧ ¬ many < 0 ∧ 1000000 < many) ∨ (isCount many = true ∧ ¬ many < 0 ∧ ¬ 1000000 < many) by by_cases h0 : many < 0 <;> by_cases h9 : 1000000 < many <;> simp [isCount] <;> omega) with ⟨hz, z1⟩ | ⟨hz, z1, z2⟩ | ⟨hz, z1, z2⟩
      all_goals
        have HZ := Lib.hid hz
        clear hz
        go_wp2_with fail
        go_meet
        exact ⟨by rw [HC_.out, HZ.out]; rfl, rfl⟩
  case rest =>
  obtain ⟨rfl, rfl⟩ := hcut
  go_upto_if 210 with fail
  go_cut [9, 26] from 211 to 211 (fun e b wx => e = .int .i64 (M : Nat) ∧ b = .bool B ∧ wx = wc)
  case first =>
    have hMM : M = if inn && isCount many then 0 else 1 := by
      rw [HM.out]; unfold mayErr; rw [← HINN.out]
      cases inn <;> cases isCount many <;> rfl
    have hBB : B = if M = 0 then decide (many ≤ (leastOf rows2).getD wi.toNat 0) else false := by
      rw [HB.out, HM.out]; unfold mayIs; rw [hrl2]
    cases C
    · have hb2 : inn = true ∧ isCount many = true := by have := HC_.out; cases inn <;> cases h : isCount many <;> simp [h] at this ⊢
      have hM0 : M = 0 := by rw [hMM, hb2.1, hb2.2]; rfl
      have hwb : 0 ≤ wi ∧ wi < (N : Int) := by have := HINN.out; rw [hb2.1] at this; simpa [inR] using this.symm
      obtain ⟨r, rfl⟩ := Int.eq_ofNat_of_zero_le hwb.1
      have hr5 : r < (leastOf rows2).length := by rw [HLL.out]; omega
      rw [if_pos hM0, Int.toNat_natCast, show (leastOf rows2).getD r 0 = (leastOf rows2)[r] by simp [hr5]] at hBB
      have cc := (least_cells HLL.out HC6.out).1 r hr5
      obtain ⟨y, hy⟩ : ∃ y, y = (leastOf rows2)[r] := ⟨_, rfl⟩
      rw [← hy] at hBB cc
      have j0 : (0 : Int) ≤ (r : Int) := by omega
      have j1 : (r : Int) < 5 := by omega
      have hB2 : decide (many ≤ y) = B := hBB.symm
      have HY := Lib.hid hy; have HBB := Lib.hid hBB; have HM0 := Lib.hid hM0; have HB2 := Lib.hid hb2; have HMM := Lib.hid hMM
      clear hy hBB hM0 hb2 hMM
      clear hwb
      go_wp2_with fail
      go_meet
      exact ⟨by rw [HM0.out]; rfl, rfl, rfl⟩
    · have hb2 : (inn && isCount many) = false := by
        have hcc := HC_.out
        cases h9 : (inn && isCount many) with
        | false => rfl
        | true => rw [h9] at hcc; cases hcc
      have hM1 : M = 1 := by rw [hMM, hb2]; rfl
      have hB0 : B = false := by rw [hBB, hM1]; rfl
      have HB2 := Lib.hid hb2; have HM1 := Lib.hid hM1; have HB0 := Lib.hid hB0; have HMM := Lib.hid hMM; have HBB := Lib.hid hBB
      clear hb2 hM1 hB0 hMM hBB
      go_wp2_with fail
      go_meet
      exact ⟨by rw [HM1.out]; rfl, by rw [HB0.out], rfl⟩
  case rest =>
  obtain ⟨rfl, rfl, rfl⟩ := hcut
  go_wp2_with fail
  refine (may_any p rows2 wi many HOK2.out (by omega) (by omega) (HC6.out.perm (show _ = StableP p rows2 * (IntSl (.slice (some ⟨lb, 0, none⟩) 5 5) (leastOf rows2) * (RowT rb rs2 * emp)) by ac_rfl))).mono ?_
  rintro e w12 ⟨rfl, ho⟩
  rw [hrl2, ← HM.out, ← HB.out]
  have HO12 := Lib.hid ho
  clear ho
  go_wp2_with fail
  refine (sameErr_any HG.out M (M : Int) HO12.out).mono ?_
  rintro e w13 ⟨rfl, ho⟩
  rw [show ((M : Int) == (M : Int)) = true from beq_self_eq_true _]
  have HO13 := Lib.hid ho
  clear ho HO12
  go_wp2_with fail
  refine (least_any p rows2 HOK2.out (by omega) HO13.out).mono ?_
  rintro e w14 ⟨v2, rfl, ho⟩
  have HO14 := Lib.hid ho
  clear ho HO13
  have HLI : Hid (∀ x ∈ leastOf rows2, I64 x) := Lib.hid (fun x hx => by
    obtain ⟨k, hk, rfl⟩ := List.mem_iff_getElem.1 hx
    obtain ⟨s, hs, hk2, he⟩ := leastOf_is HOK2.out (by omega) k hk
    rw [he]
    exact vecErr_I64 (HOK2.out s hs) _ (List.getElem_mem hk2))
  go_wp2_with fail
  refine (sameInts_any v2 (.slice (some ⟨lb, 0, none⟩) 5 5) (leastOf rows2) (leastOf rows2) _ (IntSl_reads HLI.out _ HO14.out) (IntSl_reads HLI.out _ (HO14.out.perm (show _ = IntSl (.slice (some ⟨lb, 0, none⟩) 5 5) (leastOf rows2) * (IntSl v2 (leastOf rows2) * (StableP p rows2 * (RowT rb rs2 * emp))) by ac_rfl)))).mono ?_
  rintro e w' ⟨rfl, n7, rfl⟩
  rw [show (leastOf rows2 == leastOf rows2) = true from beq_iff_eq.2 rfl]
  go_wp2_with fail
  apply HK.out
  have h3 := (HO14.out.drewN n7).perm (show _ = IntSl v2 (leastOf rows2) * (IntSl (.slice (some ⟨lb, 0, none⟩) 5 5) (leastOf rows2) * (StableP p rows2 * (RowT rb rs2 * emp))) by ac_rfl)
  refine ⟨rs2, hlen2, by rw [← HR2.out]; exact HOK2.out, ?_⟩
  rw [← HR2.out]
  exact h3.drop.drop
end Go.Proofs.YteelldblfmhjlaaDoor
