/- FlushSame: a round of the law. -/
import Derived.Test.YtkgnjkokbiefgaaFlushSameQ
namespace Go.Proofs.Ytkgnjkokbiefgaa
set_option linter.unusedVariables false
set_option linter.unusedSimpArgs false
open Go.RowKit
noncomputable def fsRound_code : Code := ((Try.f11.body.bind (findBlock 1)).getD .skip)
set_option maxRecDepth 1000000 in
set_option maxHeartbeats 4000000 in
theorem fsRound {Q : Exit → Act → World → Prop} {u0 u3 u4 u5 u6 u7 u8 u9 u10 u11 u12 u14 u17 u18 u19 u20 u21 u22 u23 u24 u25 u26 u27 u28 u29 u30 u31 u32 u33 u34 u35 u36 u37 u38 u39 u40 u41 u42 u43 u44 u45 u46 u47 u48 u49 u50 u51 u52 u53 u54 u55 u56 u57 u58 u59 u60 u61 u62 u63 u64 u65 u66 u67 u68 u69 u70 u71 u72 u73 u74 u75 u76 u77 u78 u79 u80 u81 u82 u83 u84 u85 u86 u87 u88 u89 u90 u91 u92 u93 u94 u95 u96 u97 u98 u99 u100 u101 u102 u103 u104 u105 u106 u107 u108 u109 u110 u111 u112 u113 u114 u115 u116 u117 u118 u119 u120 u121 u122 u123 u124 u125 u126 u127 u128 u129 u130 u131 u132 u133 u134 u135 u136 u137 u138 u139 u140 u141 u142 u143 u144 u145 u146 u147 u148 u149 u150 u151 u152 u153 u154 u155 u156 u157 u158 u159 u160 u161 u162 u163 u164 u165 u166 u167 u168 u169 u170 u171 u172 u173 u174 u175 u176 u177 u178 u179 u180 u181 u182 u183 u184 u185 u186 u187 u188 u189 u190 u191 u192 u193 u194 u195 u196 u197 u198 u199 u200 u201 u202 u203 u204 u205 u206 u207 u208 u209 u210 u211 u212 u213 u214 u215 u216 u217 u218 u219 u220 u221 u222 u223 u224 u225 u226 u227 u228 u229 u230 u231 u232 u233 u234 u235 u236 u237 u238 u239 u240 u241 u242 u243 u244 u245 u246 u247 u248 u249 u250 u251 u252 u253 u254 u255 u256 u257 u258 u259 u260 u261 u262 u263 u264 u265 u266 u267 u268 u269 u270 u271 u272 u273 u274 u275 u276 u277 u278 u279 : Value} {w1 : World} (w : World) (p k a : Nat) (ha : a ≤ k) (s : Fl) (steps sets : List (List Int)) (sad tad : Option Addr) (scap tcap : Nat) (h1 : k < steps.length) (h2 : k < 120) (hsc1 : steps.length ≤ scap) (hsc2 : scap ≤ 9223372036854775807) (htc1 : sets.length ≤ tcap) (htc2 : tcap ≤ 9223372036854775807) (HVS : Hid (Rows2 w (.slice sad steps.length scap) steps)) (HVT : Hid (Rows2 w (.slice tad sets.length tcap) sets)) (hinv : flInv s) (HP : Hid (Own w (FlP p s * emp) w1))
    (hK : ∀ (v6 v15 v17 v18 v19 v20 v21 v22 v23 v24 v25 v26 v27 v28 v29 v93 v94 v95 v96 v97 v98 v99 v100 v101 v102 v103 v104 v105 v106 v107 v108 v109 v110 v111 v112 v113 v114 v115 v116 v117 v118 v119 v120 v121 v122 v123 v124 v125 v126 v127 v128 v129 v130 v131 v132 v133 v134 v135 v136 v137 v138 v139 v140 v141 v142 v143 v144 v145 v146 v147 v148 v149 v150 v151 v152 v153 v154 v155 v156 v157 v158 v159 v160 v161 v162 v163 v164 v165 v166 v167 v168 v169 v170 v171 v172 v173 v174 v175 v176 v177 v178 v179 v180 v181 v182 v183 v184 v185 v186 v187 v188 v189 v190 v191 v192 v193 v194 v195 v196 v197 v198 v199 v200 v201 v202 v203 v204 v205 v206 v207 v208 v209 v210 v211 v212 v213 v214 v215 v216 v217 v218 v219 v220 v221 v222 v223 v224 v225 v226 v227 v228 v229 v230 v231 v232 v233 v234 v235 : Value) (wx : World), (∃ (a' : Nat) (s' : Fl), a' ≤ k + 1 ∧ v15 = .int .i64 (a' : Int) ∧ flInv s' ∧ Own w (FlP p s' * emp) wx) → Q .normal ⟨List.toArray (u0 :: (.slice sad steps.length scap) :: (.slice tad sets.length tcap) :: u3 :: u4 :: u5 :: v6 :: u7 :: u8 :: u9 :: u10 :: u11 :: u12 :: (.pointer (some ⟨p, 0, none⟩)) :: u14 :: v15 :: (.int .i64 (k : Int)) :: v17 :: v18 :: v19 :: v20 :: v21 :: v22 :: v23 :: v24 :: v25 :: v26 :: v27 :: v28 :: v29 :: u30 :: u31 :: u32 :: u33 :: u34 :: u35 :: u36 :: u37 :: u38 :: u39 :: u40 :: u41 :: u42 :: u43 :: u44 :: u45 :: u46 :: u47 :: u48 :: u49 :: u50 :: u51 :: u52 :: u53 :: u54 :: u55 :: u56 :: u57 :: u58 :: u59 :: u60 :: u61 :: u62 :: u63 :: u64 :: u65 :: u66 :: u67 :: u68 :: u69 :: u70 :: u71 :: u72 :: u73 :: u74 :: u75 :: u76 :: u77 :: u78 :: u79 :: u80 :: u81 :: u82 :: u83 :: u84 :: u85 :: u86 :: u87 :: u88 :: u89 :: u90 :: u91 :: u92 :: v93 :: v94 :: v95 :: v96 :: v97 :: v98 :: v99 :: v100 :: v101 :: v102 :: v103 :: v104 :: v105 :: v106 :: v107 :: v108 :: v109 :: v110 :: v111 :: v112 :: v113 :: v114 :: v115 :: v116 :: v117 :: v118 :: v119 :: v120 :: v121 :: v122 :: v123 :: v124 :: v125 :: v126 :: v127 :: v128 :: v129 :: v130 :: v131 :: v132 :: v133 :: v134 :: v135 :: v136 :: v137 :: v138 :: v139 :: v140 :: v141 :: v142 :: v143 :: v144 :: v145 :: v146 :: v147 :: v148 :: v149 :: v150 :: v151 :: v152 :: v153 :: v154 :: v155 :: v156 :: v157 :: v158 :: v159 :: v160 :: v161 :: v162 :: v163 :: v164 :: v165 :: v166 :: v167 :: v168 :: v169 :: v170 :: v171 :: v172 :: v173 :: v174 :: v175 :: v176 :: v177 :: v178 :: v179 :: v180 :: v181 :: v182 :: v183 :: v184 :: v185 :: v186 :: v187 :: v188 :: v189 :: v190 :: v191 :: v192 :: v193 :: v194 :: v195 :: v196 :: v197 :: v198 :: v199 :: v200 :: v201 :: v202 :: v203 :: v204 :: v205 :: v206 :: v207 :: v208 :: v209 :: v210 :: v211 :: v212 :: v213 :: v214 :: v215 :: v216 :: v217 :: v218 :: v219 :: v220 :: v221 :: v222 :: v223 :: v224 :: v225 :: v226 :: v227 :: v228 :: v229 :: v230 :: v231 :: v232 :: v233 :: v234 :: v235 :: u236 :: u237 :: u238 :: u239 :: u240 :: u241 :: u242 :: u243 :: u244 :: u245 :: u246 :: u247 :: u248 :: u249 :: u250 :: u251 :: u252 :: u253 :: u254 :: u255 :: u256 :: u257 :: u258 :: u259 :: u260 :: u261 :: u262 :: u263 :: u264 :: u265 :: u266 :: u267 :: u268 :: u269 :: u270 :: u271 :: u272 :: u273 :: u274 :: u275 :: u276 :: u277 :: u278 :: u279 :: []), []⟩ wx) :
    Code.wp Try.prog fsRound_code Q ⟨List.toArray (u0 :: (.slice sad steps.length scap) :: (.slice tad sets.length tcap) :: u3 :: u4 :: u5 :: u6 :: u7 :: u8 :: u9 :: u10 :: u11 :: u12 :: (.pointer (some ⟨p, 0, none⟩)) :: u14 :: (.int .i64 (a : Int)) :: (.int .i64 (k : Int)) :: u17 :: u18 :: u19 :: u20 :: u21 :: u22 :: u23 :: u24 :: u25 :: u26 :: u27 :: u28 :: u29 :: u30 :: u31 :: u32 :: u33 :: u34 :: u35 :: u36 :: u37 :: u38 :: u39 :: u40 :: u41 :: u42 :: u43 :: u44 :: u45 :: u46 :: u47 :: u48 :: u49 :: u50 :: u51 :: u52 :: u53 :: u54 :: u55 :: u56 :: u57 :: u58 :: u59 :: u60 :: u61 :: u62 :: u63 :: u64 :: u65 :: u66 :: u67 :: u68 :: u69 :: u70 :: u71 :: u72 :: u73 :: u74 :: u75 :: u76 :: u77 :: u78 :: u79 :: u80 :: u81 :: u82 :: u83 :: u84 :: u85 :: u86 :: u87 :: u88 :: u89 :: u90 :: u91 :: u92 :: u93 :: u94 :: u95 :: u96 :: u97 :: u98 :: u99 :: u100 :: u101 :: u102 :: u103 :: u104 :: u105 :: u106 :: u107 :: u108 :: u109 :: u110 :: u111 :: u112 :: u113 :: u114 :: u115 :: u116 :: u117 :: u118 :: u119 :: u120 :: u121 :: u122 :: u123 :: u124 :: u125 :: u126 :: u127 :: u128 :: u129 :: u130 :: u131 :: u132 :: u133 :: u134 :: u135 :: u136 :: u137 :: u138 :: u139 :: u140 :: u141 :: u142 :: u143 :: u144 :: u145 :: u146 :: u147 :: u148 :: u149 :: u150 :: u151 :: u152 :: u153 :: u154 :: u155 :: u156 :: u157 :: u158 :: u159 :: u160 :: u161 :: u162 :: u163 :: u164 :: u165 :: u166 :: u167 :: u168 :: u169 :: u170 :: u171 :: u172 :: u173 :: u174 :: u175 :: u176 :: u177 :: u178 :: u179 :: u180 :: u181 :: u182 :: u183 :: u184 :: u185 :: u186 :: u187 :: u188 :: u189 :: u190 :: u191 :: u192 :: u193 :: u194 :: u195 :: u196 :: u197 :: u198 :: u199 :: u200 :: u201 :: u202 :: u203 :: u204 :: u205 :: u206 :: u207 :: u208 :: u209 :: u210 :: u211 :: u212 :: u213 :: u214 :: u215 :: u216 :: u217 :: u218 :: u219 :: u220 :: u221 :: u222 :: u223 :: u224 :: u225 :: u226 :: u227 :: u228 :: u229 :: u230 :: u231 :: u232 :: u233 :: u234 :: u235 :: u236 :: u237 :: u238 :: u239 :: u240 :: u241 :: u242 :: u243 :: u244 :: u245 :: u246 :: u247 :: u248 :: u249 :: u250 :: u251 :: u252 :: u253 :: u254 :: u255 :: u256 :: u257 :: u258 :: u259 :: u260 :: u261 :: u262 :: u263 :: u264 :: u265 :: u266 :: u267 :: u268 :: u269 :: u270 :: u271 :: u272 :: u273 :: u274 :: u275 :: u276 :: u277 :: u278 :: u279 :: []), []⟩ w1 := by
  conv => arg 2; whnf
  have HK := Lib.hid hK
  clear hK
  obtain ⟨a2, rad, rcap, e2, hr, hc⟩ := HVS.out.at_later k h1
  obtain ⟨row, hrow⟩ : ∃ row, row = steps[k] := ⟨_, rfl⟩
  rw [← hrow] at hr hc
  subst e2
  have hok := hinv.1.ok
  have hn6 := hinv.1.1
  have hin := hinv
  obtain ⟨vb, hvb⟩ : ∃ b, b = w1.heap.size := ⟨_, rfl⟩
  have ht := HP.out.alloc (.cells #[.int .i64 0, .int .i64 0, .int .i64 0] 94)
  rw [← hvb] at ht
  have HT : Hid (Own w (Nms 94 vb [0, 0, 0] * (FlP p s * emp)) (w1.alloc (.cells #[.int .i64 0, .int .i64 0, .int .i64 0] 94))) := Lib.hid ht
  have HR := Lib.hid hr; have HC := Lib.hid hc; have HROW := Lib.hid hrow; have HOK := Lib.hid hok; have HINV := Lib.hid hinv
  clear hr hc hrow hok hinv
  clear ht
  go_upto_block 2 with fail
  rw [← hvb]
  clear hvb
  go_cut [15] from 15 to 15 (fun jv wx => NmV 94 3 w vb (FlP p s * emp) wx ∧ jv = .int .i64 (a : Int))
  case first =>
    refine fsFill w (FlP p s * emp) vb k steps row a2 scap rcap rad h1 hsc1 hsc2 HR HC HT ?_
    intros
    go_step
    go_step
    go_meet
    exact ⟨by assumption, rfl⟩
  case rest =>
  obtain ⟨hT, rfl⟩ := hcut
  obtain ⟨x, y, z, hT⟩ := hT.three
  clear HT HP
  have HT := Lib.hid hT
  clear hT
  have d0 : wc.cell? ⟨vb, 0, none⟩ = some (.int .i64 x) := HT.out.nms_cell 0 (by simp)
  have d1 : wc.cell? ⟨vb, 1, none⟩ = some (.int .i64 y) := HT.out.nms_cell 1 (by simp)
  have d2 : wc.cell? ⟨vb, 2, none⟩ = some (.int .i64 z) := HT.out.nms_cell 2 (by simp)
  by_cases hs01 : x = 0 ∨ x = 1
  · rcases hs01 with rfl | rfl
    all_goals
      go_wp2_with fail
      refine (flSay_any p s y z HOK.out HINV.out.1.few HT.out.second).mono ?_
      rintro e w3 ⟨rfl, ho⟩
      have HO := Lib.hid ho.second.drop
      clear ho d0 d1 d2
      go_wp2_with fail
      apply HK.out
      exact ⟨a, _, by omega, rfl, flInv_say HINV.out y z, HO.out⟩
  by_cases hg25 : x = 2 ∨ x = 3 ∨ x = 4 ∨ x = 5
  · rcases hg25 with rfl | rfl | rfl | rfl
    all_goals
      clear hs01
      go_wp2_with fail
      refine (flGive_any p s y z HOK.out HT.out.second).mono ?_
      rintro e w3 ⟨rfl, ho⟩
      have HO := Lib.hid ho.second.drop
      clear ho d0 d1 d2
      go_wp2_with fail
      apply HK.out
      exact ⟨a, _, by omega, rfl, flInv_give HINV.out y z, HO.out⟩
  have x0 : (x == (0 : Int)) = false := by rw [beq_eq_false_iff_ne]; omega
  have x1 : (x == (1 : Int)) = false := by rw [beq_eq_false_iff_ne]; omega
  have x2 : (x == (2 : Int)) = false := by rw [beq_eq_false_iff_ne]; omega
  have x3 : (x == (3 : Int)) = false := by rw [beq_eq_false_iff_ne]; omega
  have x4 : (x == (4 : Int)) = false := by rw [beq_eq_false_iff_ne]; omega
  have x5 : (x == (5 : Int)) = false := by rw [beq_eq_false_iff_ne]; omega
  clear hs01 hg25 d1 d2
  by_cases hat : a < sets.length
  rotate_left
  · go_wp2_with fail
    apply HK.out
    exact ⟨a, s, by omega, rfl, HINV.out, HT.out.drop⟩
  obtain ⟨b2, qad, qcap, e2, hqr, hqc⟩ := HVT.out.at_later a hat
  obtain ⟨B, hB⟩ : ∃ B, B = sets[a] := ⟨_, rfl⟩
  rw [← hB] at hqr hqc
  subst e2
  have HQR := Lib.hid hqr; have HQC := Lib.hid hqc; have HB := Lib.hid hB
  clear hqr hqc hB
  go_upto_region 22 with fail
  clear d0 x0 x1 x2 x3 x4 x5
  go_wp2_with fail
  refine (flView_any p s HOK.out HT.out.second).mono ?_
  rintro e w3 ⟨v3, rfl, ho3⟩
  obtain ⟨va, vc, rfl⟩ := ho3.int_shape
  obtain ⟨n, hn⟩ : ∃ n, n = s.n := ⟨_, rfl⟩
  obtain ⟨A, hA⟩ : ∃ A, A = s.has := ⟨_, rfl⟩
  rw [← hA] at ho3
  rw [← hn, ← hA]
  rw [← hn] at hn6
  obtain ⟨bo, hb_bo⟩ : ∃ zz_, zz_ = (w3).heap.size := ⟨_, rfl⟩
  obtain ⟨wo, hw_wo⟩ : ∃ zz_, zz_ = (w3).alloc (.cells #[.int .i64 n, .slice va A.length vc] 39 (0, 0)) := ⟨_, rfl⟩
  have h_HO4 := (ho3).alloc (.cells #[.int .i64 n, .slice va A.length vc] 39 (0, 0))
  rw [← hb_bo, ← hw_wo] at h_HO4
  have HO4 := Lib.hid h_HO4
  clear h_HO4
  have HO5 : Hid (Own w (FlP p s * (VwO bo n (.slice va A.length vc) * (IntSl (.slice va A.length vc) A * emp))) wo) := Lib.hid ((HO4.out.third.third.fourth.perm (by unfold VwO; ac_rfl) : Own w (Nms _ vb [x, y, z] * (FlP p s * (VwO bo n (.slice va A.length vc) * (IntSl (.slice va A.length vc) A * emp)))) wo).drop)
  clear ho3 HO4 HT
  have c5 := HQC.out wo _ HO5.out
  have HN := Lib.hid hn; have HA := Lib.hid hA
  clear hn hA
  go_upto_region 23 with fail
  rw [← hb_bo, ← hw_wo]
  clear hb_bo hw_wo
  by_cases he : flNextErr s B = 0
  rotate_left
  · obtain ⟨E, hE⟩ : ∃ E, E = flNextErr s B := ⟨_, rfl⟩
    have hE0 : E ≠ 0 := by rw [hE]; exact he
    have hee := errV_pos hE0
    have HE := Lib.hid hE; have HE0 := Lib.hid hE0; have HEE := Lib.hid hee
    clear hE hE0 hee
    have HE_ := Lib.hid he
    clear he
    go_wp2_with fail
    refine (flChange_no p s _ B HOK.out HE_.out HQR.out.reads HO5.out).mono ?_
    rintro e w6 ⟨rfl, ho6⟩
    rw [← HE.out, HEE.out]
    obtain ⟨bz, hb_bz⟩ : ∃ zz_, zz_ = (w6).heap.size := ⟨_, rfl⟩
    obtain ⟨wz, hw_wz⟩ : ∃ zz_, zz_ = (w6).alloc (.cells #[.int .i64 0, .slice none 0 0] 39 (0, 0)) := ⟨_, rfl⟩
    have h_HO6 := (ho6).alloc (.cells #[.int .i64 0, .slice none 0 0] 39 (0, 0))
    rw [← hb_bz, ← hw_wz] at h_HO6
    have HO6 := Lib.hid h_HO6
    clear h_HO6
    have HO7 := Lib.hid HO6.out.drop
    clear ho6 HO6 c5 HO5
    go_upto_region 26 with fail
    rw [← hb_bz, ← hw_wz]
    clear hb_bz hw_wz
    obtain ⟨k0, k1, _⟩ := HO7.out.drew.second.vw
    refine wp_region_planH 4 [] [(true, 0), (true, 2), (false, 1), (false, 3)] [4] (fun wS => wS.cell? ⟨bo, 0, none⟩ = some (.int .i64 n) ∧ wS.cell? ⟨bo, 1, none⟩ = some (.slice va A.length vc)) (by kernel_rfl) (by kernel_rfl) (⟨k0, k1⟩) ?_
    simp only [pickH, pick, List.getElem?_cons_succ, List.getElem?_cons_zero, Option.toList, Option.map_some, List.cons_append, List.nil_append]
    repeat (refine wpPure_step ?_ rfl ?_ ?_; rotate_left; (focus (intro _; first | with_reducible rfl | (go_simp; done) | (go_simp; with_reducible rfl) | rfl)); go_simp)
    refine wpPure_nil ?_
    repeat (refine wpMix_read ?_ rfl ?_ ?_; rotate_left; (focus (intro _ hS; obtain ⟨s1, s2⟩ := hS; first | with_reducible rfl | (go_simp; done) | (go_simp; with_reducible rfl) | rfl)); go_simp)
    refine wpMix_write (fun K hK => ?_)
    go_simp
    refine (flView_any p s HOK.out HO7.out.drew).mono ?_
    rintro e w8 ⟨v8, rfl, ho8⟩
    obtain ⟨a8, c8, rfl⟩ := ho8.int_shape
    rw [← HA.out] at ho8
    rw [← HN.out, ← HA.out]
    have HO8 := Lib.hid ho8
    obtain ⟨l0, l1, _⟩ := ho8.third.vw
    clear ho8 k0 k1
    refine hK _ _ ⟨⟨l0, l1⟩, ?_⟩
    clear hK K
    go_simp
    refine wpMix_write (fun K hK => ?_)
    go_simp
    have hAI : ∀ q ∈ A, I64 q := by rw [HA.out]; exact HOK.out.2.1.2
    refine (sameView_any n n _ _ A A HO8.out (IntSl_reads hAI) ((IntSl_reads hAI).more.more.more)).mono ?_
    rintro e w9 ⟨rfl, ho9⟩
    have hTT : (decide (n = n) && (A == A)) = true := by simp
    rw [hTT]
    have HO9 := Lib.hid ho9
    obtain ⟨m0, m1, _⟩ := ho9.third.vw
    clear ho9 l0 l1 hTT
    refine hK _ _ ⟨⟨m0, m1⟩, ?_⟩
    clear hK K
    go_simp
    refine wpMix_nil ?_
    go_wp2_with fail
    refine NoPanic.normal ?_
    go_wp2_with fail
    apply HK.out
    exact ⟨a + 1, s, by omega, by go_num, HINV.out, HO9.out.second.only⟩
  have hcn := flChange_n he
  have hch := flChange_has he
  obtain ⟨S, hS⟩ : ∃ S, S = flChange s B := ⟨_, rfl⟩
  rw [← hS, ← HN.out] at hcn
  rw [← hS] at hch
  have hSi : flInv S := by rw [hS]; exact flInv_change HINV.out B
  have hne := nextErr0 he
  rw [← HN.out, ← HA.out] at hne
  obtain ⟨KS, hKK⟩ : ∃ KS, KS = keepB B A := ⟨_, rfl⟩
  have hK0 : 0 < KS.length := by rw [hKK, HA.out]; exact fl_some he
  have hK5 : KS.length ≤ 1000 := by rw [hKK, HA.out]; have := keepB_le B s.has; have := HOK.out.2.1.1; omega
  have hKm : ∀ q ∈ KS, isMember q = true := by rw [hKK, HA.out]; intro q hq; exact HINV.out.1.2.1.2 q (List.mem_filter.1 hq).1
  have hAI : ∀ q ∈ A, I64 q := by rw [HA.out]; exact HOK.out.2.1.2
  have hBI : ∀ q ∈ B, I64 q := by rw [← hch]; exact hSi.1.ok.2.1.2
  have hSn : S.n ≤ 1000000 := hSi.1.1.2
  have hHe : ∀ q ∈ KS, flHeardErr S q n = 0 := fun q hq => by
    unfold flHeardErr
    rw [if_neg (by rw [hKm q hq]; simp), if_neg (by omega), if_neg (by rw [hcn]; omega)]
  have hsame : ∀ q ∈ KS, ∀ r ∈ KS, (flRow S (n, q)).length = (flRow S (n, r)).length ∧ ∀ t ∈ flRow S (n, r), t ∈ flRow S (n, q) := fun q hq r hr => by
    have := fl_same HINV.out he (a := q) (b := r) (by rw [← HA.out, ← hKK]; exact hq) (by rw [← HA.out, ← hKK]; exact hr)
    rw [← hS, ← HN.out] at this
    exact this
  have hbe : vbothErr n A (n + 1) B = 0 := by
    unfold vbothErr
    rw [if_neg (by simpa using hne.1)]
    unfold viewErr
    rw [if_neg (by simp [isCount]; have := hne.2.1; omega)]
    exact hne.2.2.1
  have hbh : vbothHas n A (n + 1) B = KS := by unfold vbothHas; rw [if_pos hbe, hKK]
  have hn7 : n + 1 ≤ 1000000 := by rw [← hcn]; exact hSn
  have HCN := Lib.hid hcn; have HCH := Lib.hid hch; have HS := Lib.hid hS; have HSI := Lib.hid hSi; have HNE := Lib.hid hne; have HKK := Lib.hid hKK; have HKM := Lib.hid hKm; have HAI := Lib.hid hAI; have HBI := Lib.hid hBI; have HHE := Lib.hid hHe; have HSAME := Lib.hid hsame; have HBE := Lib.hid hbe; have HBH := Lib.hid hbh; have HSN := Lib.hid hSn
  clear hcn hch hS hSi hne hKK hKm hAI hBI hHe hsame hbe hbh hSn
  go_wp2_with fail
  refine (flChange_yes p s _ B HINV.out.1 he HQR.out.reads HO5.out).mono ?_
  rintro e w6 ⟨v6, rfl, ho6⟩
  obtain ⟨a6, c6, rfl⟩ := ho6.int_shape
  rw [← HS.out] at ho6
  rw [← HN.out, errV0]
  obtain ⟨bz, hb_bz⟩ : ∃ zz_, zz_ = (w6).heap.size := ⟨_, rfl⟩
  obtain ⟨wz, hw_wz⟩ : ∃ zz_, zz_ = (w6).alloc (.cells #[.int .i64 (n + 1), .slice a6 B.length c6] 39 (0, 0)) := ⟨_, rfl⟩
  have h_HO6 := (ho6).alloc (.cells #[.int .i64 (n + 1), .slice a6 B.length c6] 39 (0, 0))
  rw [← hb_bz, ← hw_wz] at h_HO6
  have HO6 := Lib.hid h_HO6
  clear h_HO6
  have HO7 := Lib.hid HO6.out.drop.drop
  clear ho6 HO6 c5 HO5 he
  go_upto_region 28 with fail
  rw [← hb_bz, ← hw_wz]
  clear hb_bz hw_wz
  go_wp2_with fail
  refine (flView_any p S HSI.out.1.ok HO7.out).mono ?_
  rintro e w8 ⟨v8, rfl, ho8⟩
  obtain ⟨a8, c8, rfl⟩ := ho8.int_shape
  rw [HCH.out] at ho8
  rw [HCN.out, HCH.out]
  obtain ⟨bn, hb_bn⟩ : ∃ zz_, zz_ = (w8).heap.size := ⟨_, rfl⟩
  obtain ⟨wn, hw_wn⟩ : ∃ zz_, zz_ = (w8).alloc (.cells #[.int .i64 (n + 1), .slice a8 B.length c8] 39 (0, 0)) := ⟨_, rfl⟩
  have h_HO8 := (ho8).alloc (.cells #[.int .i64 (n + 1), .slice a8 B.length c8] 39 (0, 0))
  rw [← hb_bn, ← hw_wn] at h_HO8
  have HO8 := Lib.hid h_HO8
  clear h_HO8
  have HO9 : Hid (Own w (FlP p S * (VwO bo n (.slice va A.length vc) * (IntSl (.slice va A.length vc) A * (VwO bn (n + 1) (.slice a8 B.length c8) * (IntSl (.slice a8 B.length c8) B * emp))))) wn) := Lib.hid (HO8.out.perm (by unfold VwO; ac_rfl))
  clear ho8 HO8 HO7
  obtain ⟨k0, k1, _⟩ := HO9.out.second.vw
  obtain ⟨l0, l1, _⟩ := HO9.out.fourth.vw
  go_upto_region 29 with fail
  rw [← hb_bn, ← hw_wn]
  clear hb_bn hw_wn
  go_wp2_with fail
  refine (viewBoth_any n (n + 1) _ _ A B (IntSl_reads HAI.out).more.more (IntSl_reads HBI.out).more.more.more.more HO9.out).mono ?_
  rintro e w10 ⟨v10, rfl, ho10⟩
  rw [HBE.out, errV0]
  rw [HBH.out] at ho10
  obtain ⟨ka, kc, rfl⟩ := ho10.int_shape
  clear k0 k1 l0 l1
  obtain ⟨k0, k1, _⟩ := ho10.third.vw
  obtain ⟨l0, l1, _⟩ := ho10.fifth.vw
  have HO10 := Lib.hid ho10
  clear ho10
  have t0 : ((KS.length : Int) == 0) = false := by rw [beq_eq_false_iff_ne]; omega
  go_upto_region 32 with fail
  clear k0 k1 l0 l1 t0
  have HRK : Hid (∀ R', Reads w (IntSl (.slice ka KS.length kc) KS * R') (.slice ka KS.length kc) KS) := Lib.hid (fun R' => IntSl_reads (fun q hq => member_I64 (HKM.out q hq)))
  obtain ⟨u, hu⟩ : ∃ u, u = KS[0] := ⟨_, rfl⟩
  have huK : u ∈ KS := by rw [hu]; exact List.getElem_mem _
  obtain ⟨aa, rfl, hca⟩ := (HRK.out _ _ HO10.out.drew).at 0 hK0
  rw [← hu] at hca
  obtain ⟨k0, _, _⟩ := HO10.out.drew.third.vw
  obtain ⟨X, hX⟩ : ∃ X, X = flRow S (n, u) := ⟨_, rfl⟩
  have hue := HHE.out u huK
  have hxh : flHeard S u n = X := by unfold flHeard; rw [if_pos hue, hX]
  have hXl : X.length ≤ 1000 := by rw [hX]; exact (HSI.out.1.ok.2.2.2 _).1
  have hXI : ∀ q ∈ X, I64 q := by rw [hX]; exact (HSI.out.1.ok.2.2.2 _).2
  have haa : aa.add 0 = aa := by cases aa; rfl
  rw [haa] at hca
  have HU := Lib.hid hu; have HUK := Lib.hid huK; have HX := Lib.hid hX; have HUE := Lib.hid hue; have HXH := Lib.hid hxh; have HXI := Lib.hid hXI; have HAA := Lib.hid haa
  clear hu huK hX hue hxh hXI haa
  refine wp_region_planH 11 [] [(true, 0), (true, 1), (true, 2), (true, 3), (true, 4), (true, 5), (false, 6), (true, 7), (true, 8), (true, 9), (false, 10)] [11] (fun wS => wS.cell? aa = some (.int .i64 u) ∧ wS.cell? ⟨bo, 0, none⟩ = some (.int .i64 n)) (by kernel_rfl) (by kernel_rfl) (⟨hca, k0⟩) ?_
  simp only [pickH, pick, List.getElem?_cons_succ, List.getElem?_cons_zero, Option.toList, Option.map_some, List.cons_append, List.nil_append]
  repeat (refine wpPure_step ?_ rfl ?_ ?_; rotate_left; (focus (intro _; first | with_reducible rfl | (go_simp; done) | (go_simp; with_reducible rfl) | rfl)); go_simp)
  refine wpPure_nil ?_
  repeat (refine wpMix_read ?_ rfl ?_ ?_; rotate_left; (focus (intro _ hS; obtain ⟨s1, s2⟩ := hS; first | with_reducible rfl | (go_simp; done) | (go_simp; with_reducible rfl) | rfl)); go_simp)
  refine wpMix_write (fun K hK => ?_)
  go_simp
  refine (flHeard_any p S u n HSI.out.1.ok (by unfold I64; omega) HO10.out.drew.second).mono ?_
  rintro e w12 ⟨v12, rfl, ho12⟩
  rw [HUE.out, errV0]
  rw [HXH.out] at ho12
  obtain ⟨xa, xc, rfl⟩ := ho12.int_shape
  have HO12 : Hid (Own w (FlP p S * (VwO bo n (.slice va A.length vc) * (IntSl (.slice (some aa) KS.length kc) KS * (IntSl (.slice xa X.length xc) X * (IntSl (.slice va A.length vc) A * (VwO bn (n + 1) (.slice a8 B.length c8) * (IntSl (.slice a8 B.length c8) B * emp))))))) w12) := Lib.hid (ho12.perm (by ac_rfl))
  have z0 : w12.cell? ⟨bo, 0, none⟩ = some (.int .i64 n) := HO12.out.second.vw.1
  have z1 : w12.cell? aa = some (.int .i64 u) := by
    obtain ⟨a', e1, hc'⟩ := (HRK.out _ _ HO12.out.third).at 0 hK0
    injection e1 with e1
    rw [← HU.out, ← e1, HAA.out] at hc'
    exact hc'
  clear ho12 hca k0
  refine hK _ _ ⟨⟨z1, z0⟩, ?_⟩
  clear hK K
  go_simp
  repeat (refine wpMix_read ?_ rfl ?_ ?_; rotate_left; (focus (intro _ hS; obtain ⟨s1, s2⟩ := hS; first | with_reducible rfl | (go_simp; done) | (go_simp; with_reducible rfl) | rfl)); go_simp)
  refine wpMix_write (fun K hK => ?_)
  go_simp
  refine hK _ _ ⟨⟨z1, z0⟩, ?_⟩
  clear hK K
  go_simp
  refine wpMix_nil ?_
  go_wp2_with fail
  refine NoPanic.normal ?_
  go_upto_block 5 with fail
  clear z0 z1
  refine fsLoop w p bo n hn6 S HSI.out.1.ok KS X _ _ _ _ (fun q hq => ⟨member_I64 (HKM.out q hq), HHE.out q hq, by rw [HX.out]; exact (HSAME.out q hq u HUK.out).1, fun r hr => by rw [HX.out]; exact (HSAME.out u HUK.out q hq).2 r hr⟩) ⟨hXl, HXI.out⟩ hK5 HO12 ?_
  intros
  rename_i hcut
  have HF := Lib.hid hcut
  clear hcut
  go_wp2_with fail
  apply HK.out
  exact ⟨a + 1, S, by omega, by go_num, HSI.out, HF.out.only⟩
noncomputable def fsMain_code : Code := ((Try.f11.body.bind (findBlock 0)).getD .skip)
set_option maxRecDepth 1000000 in
set_option maxHeartbeats 4000000 in
theorem fsMain {Q : Exit → Act → World → Prop} {u0 u3 u4 u5 u6 u7 u8 u9 u10 u11 u12 u14 u17 u18 u19 u20 u21 u22 u23 u24 u25 u26 u27 u28 u29 u30 u31 u32 u33 u34 u35 u36 u37 u38 u39 u40 u41 u42 u43 u44 u45 u46 u47 u48 u49 u50 u51 u52 u53 u54 u55 u56 u57 u58 u59 u60 u61 u62 u63 u64 u65 u66 u67 u68 u69 u70 u71 u72 u73 u74 u75 u76 u77 u78 u79 u80 u81 u82 u83 u84 u85 u86 u87 u88 u89 u90 u91 u92 u93 u94 u95 u96 u97 u98 u99 u100 u101 u102 u103 u104 u105 u106 u107 u108 u109 u110 u111 u112 u113 u114 u115 u116 u117 u118 u119 u120 u121 u122 u123 u124 u125 u126 u127 u128 u129 u130 u131 u132 u133 u134 u135 u136 u137 u138 u139 u140 u141 u142 u143 u144 u145 u146 u147 u148 u149 u150 u151 u152 u153 u154 u155 u156 u157 u158 u159 u160 u161 u162 u163 u164 u165 u166 u167 u168 u169 u170 u171 u172 u173 u174 u175 u176 u177 u178 u179 u180 u181 u182 u183 u184 u185 u186 u187 u188 u189 u190 u191 u192 u193 u194 u195 u196 u197 u198 u199 u200 u201 u202 u203 u204 u205 u206 u207 u208 u209 u210 u211 u212 u213 u214 u215 u216 u217 u218 u219 u220 u221 u222 u223 u224 u225 u226 u227 u228 u229 u230 u231 u232 u233 u234 u235 u236 u237 u238 u239 u240 u241 u242 u243 u244 u245 u246 u247 u248 u249 u250 u251 u252 u253 u254 u255 u256 u257 u258 u259 u260 u261 u262 u263 u264 u265 u266 u267 u268 u269 u270 u271 u272 u273 u274 u275 u276 u277 u278 u279 : Value} {w1 : World} (w : World) (p N : Nat) (hN5 : N ≤ 5) (steps sets : List (List Int)) (sad tad : Option Addr) (scap tcap : Nat) (hsc1 : steps.length ≤ scap) (hsc2 : scap ≤ 9223372036854775807) (htc1 : sets.length ≤ tcap) (htc2 : tcap ≤ 9223372036854775807) (HVS : Hid (Rows2 w (.slice sad steps.length scap) steps)) (HVT : Hid (Rows2 w (.slice tad sets.length tcap) sets)) (HO8 : Hid (Own w (FlP p (flNew N) * emp) w1))
    (hK : ∀ (v6 v15 v16 v17 v18 v19 v20 v21 v22 v23 v24 v25 v26 v27 v28 v29 v83 v84 v85 v86 v87 v88 v89 v90 v91 v92 v93 v94 v95 v96 v97 v98 v99 v100 v101 v102 v103 v104 v105 v106 v107 v108 v109 v110 v111 v112 v113 v114 v115 v116 v117 v118 v119 v120 v121 v122 v123 v124 v125 v126 v127 v128 v129 v130 v131 v132 v133 v134 v135 v136 v137 v138 v139 v140 v141 v142 v143 v144 v145 v146 v147 v148 v149 v150 v151 v152 v153 v154 v155 v156 v157 v158 v159 v160 v161 v162 v163 v164 v165 v166 v167 v168 v169 v170 v171 v172 v173 v174 v175 v176 v177 v178 v179 v180 v181 v182 v183 v184 v185 v186 v187 v188 v189 v190 v191 v192 v193 v194 v195 v196 v197 v198 v199 v200 v201 v202 v203 v204 v205 v206 v207 v208 v209 v210 v211 v212 v213 v214 v215 v216 v217 v218 v219 v220 v221 v222 v223 v224 v225 v226 v227 v228 v229 v230 v231 v232 v233 v234 v235 : Value) (wx : World), (∃ s, flInv s ∧ Own w (FlP p s * emp) wx) → Q .normal ⟨List.toArray (u0 :: (.slice sad steps.length scap) :: (.slice tad sets.length tcap) :: u3 :: u4 :: u5 :: v6 :: u7 :: u8 :: u9 :: u10 :: u11 :: u12 :: (.pointer (some ⟨p, 0, none⟩)) :: u14 :: v15 :: v16 :: v17 :: v18 :: v19 :: v20 :: v21 :: v22 :: v23 :: v24 :: v25 :: v26 :: v27 :: v28 :: v29 :: u30 :: u31 :: u32 :: u33 :: u34 :: u35 :: u36 :: u37 :: u38 :: u39 :: u40 :: u41 :: u42 :: u43 :: u44 :: u45 :: u46 :: u47 :: u48 :: u49 :: u50 :: u51 :: u52 :: u53 :: u54 :: u55 :: u56 :: u57 :: u58 :: u59 :: u60 :: u61 :: u62 :: u63 :: u64 :: u65 :: u66 :: u67 :: u68 :: u69 :: u70 :: u71 :: u72 :: u73 :: u74 :: u75 :: u76 :: u77 :: u78 :: u79 :: u80 :: u81 :: u82 :: v83 :: v84 :: v85 :: v86 :: v87 :: v88 :: v89 :: v90 :: v91 :: v92 :: v93 :: v94 :: v95 :: v96 :: v97 :: v98 :: v99 :: v100 :: v101 :: v102 :: v103 :: v104 :: v105 :: v106 :: v107 :: v108 :: v109 :: v110 :: v111 :: v112 :: v113 :: v114 :: v115 :: v116 :: v117 :: v118 :: v119 :: v120 :: v121 :: v122 :: v123 :: v124 :: v125 :: v126 :: v127 :: v128 :: v129 :: v130 :: v131 :: v132 :: v133 :: v134 :: v135 :: v136 :: v137 :: v138 :: v139 :: v140 :: v141 :: v142 :: v143 :: v144 :: v145 :: v146 :: v147 :: v148 :: v149 :: v150 :: v151 :: v152 :: v153 :: v154 :: v155 :: v156 :: v157 :: v158 :: v159 :: v160 :: v161 :: v162 :: v163 :: v164 :: v165 :: v166 :: v167 :: v168 :: v169 :: v170 :: v171 :: v172 :: v173 :: v174 :: v175 :: v176 :: v177 :: v178 :: v179 :: v180 :: v181 :: v182 :: v183 :: v184 :: v185 :: v186 :: v187 :: v188 :: v189 :: v190 :: v191 :: v192 :: v193 :: v194 :: v195 :: v196 :: v197 :: v198 :: v199 :: v200 :: v201 :: v202 :: v203 :: v204 :: v205 :: v206 :: v207 :: v208 :: v209 :: v210 :: v211 :: v212 :: v213 :: v214 :: v215 :: v216 :: v217 :: v218 :: v219 :: v220 :: v221 :: v222 :: v223 :: v224 :: v225 :: v226 :: v227 :: v228 :: v229 :: v230 :: v231 :: v232 :: v233 :: v234 :: v235 :: u236 :: u237 :: u238 :: u239 :: u240 :: u241 :: u242 :: u243 :: u244 :: u245 :: u246 :: u247 :: u248 :: u249 :: u250 :: u251 :: u252 :: u253 :: u254 :: u255 :: u256 :: u257 :: u258 :: u259 :: u260 :: u261 :: u262 :: u263 :: u264 :: u265 :: u266 :: u267 :: u268 :: u269 :: u270 :: u271 :: u272 :: u273 :: u274 :: u275 :: u276 :: u277 :: u278 :: u279 :: []), []⟩ wx) :
    Code.wp Try.prog fsMain_code Q ⟨List.toArray (u0 :: (.slice sad steps.length scap) :: (.slice tad sets.length tcap) :: u3 :: u4 :: u5 :: u6 :: u7 :: u8 :: u9 :: u10 :: u11 :: u12 :: (.pointer (some ⟨p, 0, none⟩)) :: u14 :: (.int .i64 0) :: (.int .i64 0) :: u17 :: u18 :: u19 :: u20 :: u21 :: u22 :: u23 :: u24 :: u25 :: u26 :: u27 :: u28 :: u29 :: u30 :: u31 :: u32 :: u33 :: u34 :: u35 :: u36 :: u37 :: u38 :: u39 :: u40 :: u41 :: u42 :: u43 :: u44 :: u45 :: u46 :: u47 :: u48 :: u49 :: u50 :: u51 :: u52 :: u53 :: u54 :: u55 :: u56 :: u57 :: u58 :: u59 :: u60 :: u61 :: u62 :: u63 :: u64 :: u65 :: u66 :: u67 :: u68 :: u69 :: u70 :: u71 :: u72 :: u73 :: u74 :: u75 :: u76 :: u77 :: u78 :: u79 :: u80 :: u81 :: u82 :: u83 :: u84 :: u85 :: u86 :: u87 :: u88 :: u89 :: u90 :: u91 :: u92 :: u93 :: u94 :: u95 :: u96 :: u97 :: u98 :: u99 :: u100 :: u101 :: u102 :: u103 :: u104 :: u105 :: u106 :: u107 :: u108 :: u109 :: u110 :: u111 :: u112 :: u113 :: u114 :: u115 :: u116 :: u117 :: u118 :: u119 :: u120 :: u121 :: u122 :: u123 :: u124 :: u125 :: u126 :: u127 :: u128 :: u129 :: u130 :: u131 :: u132 :: u133 :: u134 :: u135 :: u136 :: u137 :: u138 :: u139 :: u140 :: u141 :: u142 :: u143 :: u144 :: u145 :: u146 :: u147 :: u148 :: u149 :: u150 :: u151 :: u152 :: u153 :: u154 :: u155 :: u156 :: u157 :: u158 :: u159 :: u160 :: u161 :: u162 :: u163 :: u164 :: u165 :: u166 :: u167 :: u168 :: u169 :: u170 :: u171 :: u172 :: u173 :: u174 :: u175 :: u176 :: u177 :: u178 :: u179 :: u180 :: u181 :: u182 :: u183 :: u184 :: u185 :: u186 :: u187 :: u188 :: u189 :: u190 :: u191 :: u192 :: u193 :: u194 :: u195 :: u196 :: u197 :: u198 :: u199 :: u200 :: u201 :: u202 :: u203 :: u204 :: u205 :: u206 :: u207 :: u208 :: u209 :: u210 :: u211 :: u212 :: u213 :: u214 :: u215 :: u216 :: u217 :: u218 :: u219 :: u220 :: u221 :: u222 :: u223 :: u224 :: u225 :: u226 :: u227 :: u228 :: u229 :: u230 :: u231 :: u232 :: u233 :: u234 :: u235 :: u236 :: u237 :: u238 :: u239 :: u240 :: u241 :: u242 :: u243 :: u244 :: u245 :: u246 :: u247 :: u248 :: u249 :: u250 :: u251 :: u252 :: u253 :: u254 :: u255 :: u256 :: u257 :: u258 :: u259 :: u260 :: u261 :: u262 :: u263 :: u264 :: u265 :: u266 :: u267 :: u268 :: u269 :: u270 :: u271 :: u272 :: u273 :: u274 :: u275 :: u276 :: u277 :: u278 :: u279 :: []), []⟩ w1 := by
  conv => arg 2; whnf
  have HK := Lib.hid hK
  clear hK
  go_wp2_with fail
  go_loopw [15, 16] (fun av iv wr => ∃ (a k : Nat) (s : Fl), a ≤ k ∧ k ≤ steps.length ∧ k ≤ 120 ∧ av = .int .i64 a ∧ iv = .int .i64 k ∧ Hid (flInv s) ∧ Hid (Own w (FlP p s * emp) wr)) (fun _ iv _ => steps.length - (intOf iv).toNat)
  case atStart => exact ⟨0, 0, flNew N, Nat.le_refl _, Nat.zero_le _, Nat.zero_le _, rfl, rfl, Lib.hid (flInv_new N hN5), HO8⟩
  case round =>
    clear HO8
    obtain ⟨a, k, s, ha, hk, hk2, rfl, rfl, HI, HP⟩ := hrel
    by_cases h1 : k < steps.length
    rotate_left
    · go_wp2_with fail
      apply HK.out
      exact ⟨s, HI.out, HP.out⟩
    by_cases h2 : k < 120
    rotate_left
    · go_wp2_with fail
      apply HK.out
      exact ⟨s, HI.out, HP.out⟩
    go_upto_block 1 with fail
    refine fsRound w p k a ha s steps sets sad tad scap tcap h1 h2 hsc1 hsc2 htc1 htc2 HVS HVT HI.out HP ?_
    intros
    rename_i hcut
    obtain ⟨a', s', ha', rfl, hi', hp'⟩ := hcut
    have HI2 := Lib.hid hi'
    have HP2 := Lib.hid hp'
    clear hi' hp' HI HP
    go_wp2_with fail
    go_roundw
    case rel => exact ⟨a', k + 1, s', by omega, by omega, by omega, rfl, by go_num, HI2, HP2⟩
    case measure => simp [intOf]; omega
noncomputable def fsEnd_code : Code := ((Try.f11.body.bind (findBlock 9)).getD .skip)
set_option maxRecDepth 1000000 in
set_option maxHeartbeats 4000000 in
theorem fsEnd {Q : Exit → Act → World → Prop} {u0 u1 u2 u3 u4 u5 u6 u7 u8 u9 u10 u11 u12 u14 u15 u16 u17 u18 u19 u20 u21 u22 u23 u24 u25 u26 u27 u28 u29 u31 u32 u33 u34 u35 u36 u37 u38 u39 u40 u41 u42 u43 u44 u45 u46 u47 u48 u49 u50 u51 u52 u53 u54 u55 u56 u57 u58 u59 u60 u61 u62 u63 u64 u65 u66 u67 u68 u69 u70 u71 u72 u73 u74 u75 u76 u77 u78 u79 u80 u81 u82 u83 u84 u85 u86 u87 u88 u89 u90 u91 u92 u93 u94 u95 u96 u97 u98 u99 u100 u101 u102 u103 u104 u105 u106 u107 u108 u109 u110 u111 u112 u113 u114 u115 u116 u117 u118 u119 u120 u121 u122 u123 u124 u125 u126 u127 u128 u129 u130 u131 u132 u133 u134 u135 u136 u137 u138 u139 u140 u141 u142 u143 u144 u145 u146 u147 u148 u149 u150 u151 u152 u153 u154 u155 u156 u157 u158 u159 u160 u161 u162 u163 u164 u165 u166 u167 u168 u169 u170 u171 u172 u173 u174 u175 u176 u177 u178 u179 u180 u181 u182 u183 u184 u185 u186 u187 u188 u189 u190 u191 u192 u193 u194 u195 u196 u197 u198 u199 u200 u201 u202 u203 u204 u205 u206 u207 u208 u209 u210 u211 u212 u213 u214 u215 u216 u217 u218 u219 u220 u221 u222 u223 u224 u225 u226 u227 u228 u229 u230 u231 u232 u233 u234 u235 u236 u237 u238 u239 u240 u241 u242 u243 u244 u245 u246 u247 u248 u249 u250 u251 u252 u253 u254 u255 u256 u257 u258 u259 u260 u261 u262 u263 u264 u265 u266 u267 u268 u269 u270 u271 u272 u273 u274 u275 u276 u277 u278 u279 : Value} {w1 : World} (w : World) (p : Nat) (s : Fl) (hinv : flInv s) (HP : Hid (Own w (FlP p s * emp) w1))
    (hK : ∀ (v6 v30 v31 v32 v33 v34 v35 v36 v236 v237 v238 v239 v240 v241 v242 v243 v244 v245 v246 v247 v248 v249 v250 v251 v252 v253 v254 v255 v256 v257 v258 v259 v260 v261 v262 v263 v264 v265 v266 v267 v268 v269 v270 v271 v272 v273 v274 v275 v276 v277 v278 v279 : Value) (wx : World), (Own w (FlP p s * emp) wx) → Q .normal ⟨List.toArray (u0 :: u1 :: u2 :: u3 :: u4 :: u5 :: v6 :: u7 :: u8 :: u9 :: u10 :: u11 :: u12 :: (.pointer (some ⟨p, 0, none⟩)) :: u14 :: u15 :: u16 :: u17 :: u18 :: u19 :: u20 :: u21 :: u22 :: u23 :: u24 :: u25 :: u26 :: u27 :: u28 :: u29 :: v30 :: v31 :: v32 :: v33 :: v34 :: v35 :: v36 :: u37 :: u38 :: u39 :: u40 :: u41 :: u42 :: u43 :: u44 :: u45 :: u46 :: u47 :: u48 :: u49 :: u50 :: u51 :: u52 :: u53 :: u54 :: u55 :: u56 :: u57 :: u58 :: u59 :: u60 :: u61 :: u62 :: u63 :: u64 :: u65 :: u66 :: u67 :: u68 :: u69 :: u70 :: u71 :: u72 :: u73 :: u74 :: u75 :: u76 :: u77 :: u78 :: u79 :: u80 :: u81 :: u82 :: u83 :: u84 :: u85 :: u86 :: u87 :: u88 :: u89 :: u90 :: u91 :: u92 :: u93 :: u94 :: u95 :: u96 :: u97 :: u98 :: u99 :: u100 :: u101 :: u102 :: u103 :: u104 :: u105 :: u106 :: u107 :: u108 :: u109 :: u110 :: u111 :: u112 :: u113 :: u114 :: u115 :: u116 :: u117 :: u118 :: u119 :: u120 :: u121 :: u122 :: u123 :: u124 :: u125 :: u126 :: u127 :: u128 :: u129 :: u130 :: u131 :: u132 :: u133 :: u134 :: u135 :: u136 :: u137 :: u138 :: u139 :: u140 :: u141 :: u142 :: u143 :: u144 :: u145 :: u146 :: u147 :: u148 :: u149 :: u150 :: u151 :: u152 :: u153 :: u154 :: u155 :: u156 :: u157 :: u158 :: u159 :: u160 :: u161 :: u162 :: u163 :: u164 :: u165 :: u166 :: u167 :: u168 :: u169 :: u170 :: u171 :: u172 :: u173 :: u174 :: u175 :: u176 :: u177 :: u178 :: u179 :: u180 :: u181 :: u182 :: u183 :: u184 :: u185 :: u186 :: u187 :: u188 :: u189 :: u190 :: u191 :: u192 :: u193 :: u194 :: u195 :: u196 :: u197 :: u198 :: u199 :: u200 :: u201 :: u202 :: u203 :: u204 :: u205 :: u206 :: u207 :: u208 :: u209 :: u210 :: u211 :: u212 :: u213 :: u214 :: u215 :: u216 :: u217 :: u218 :: u219 :: u220 :: u221 :: u222 :: u223 :: u224 :: u225 :: u226 :: u227 :: u228 :: u229 :: u230 :: u231 :: u232 :: u233 :: u234 :: u235 :: v236 :: v237 :: v238 :: v239 :: v240 :: v241 :: v242 :: v243 :: v244 :: v245 :: v246 :: v247 :: v248 :: v249 :: v250 :: v251 :: v252 :: v253 :: v254 :: v255 :: v256 :: v257 :: v258 :: v259 :: v260 :: v261 :: v262 :: v263 :: v264 :: v265 :: v266 :: v267 :: v268 :: v269 :: v270 :: v271 :: v272 :: v273 :: v274 :: v275 :: v276 :: v277 :: v278 :: v279 :: []), []⟩ wx) :
    Code.wp Try.prog fsEnd_code Q ⟨List.toArray (u0 :: u1 :: u2 :: u3 :: u4 :: u5 :: u6 :: u7 :: u8 :: u9 :: u10 :: u11 :: u12 :: (.pointer (some ⟨p, 0, none⟩)) :: u14 :: u15 :: u16 :: u17 :: u18 :: u19 :: u20 :: u21 :: u22 :: u23 :: u24 :: u25 :: u26 :: u27 :: u28 :: u29 :: (.int .i64 0) :: u31 :: u32 :: u33 :: u34 :: u35 :: u36 :: u37 :: u38 :: u39 :: u40 :: u41 :: u42 :: u43 :: u44 :: u45 :: u46 :: u47 :: u48 :: u49 :: u50 :: u51 :: u52 :: u53 :: u54 :: u55 :: u56 :: u57 :: u58 :: u59 :: u60 :: u61 :: u62 :: u63 :: u64 :: u65 :: u66 :: u67 :: u68 :: u69 :: u70 :: u71 :: u72 :: u73 :: u74 :: u75 :: u76 :: u77 :: u78 :: u79 :: u80 :: u81 :: u82 :: u83 :: u84 :: u85 :: u86 :: u87 :: u88 :: u89 :: u90 :: u91 :: u92 :: u93 :: u94 :: u95 :: u96 :: u97 :: u98 :: u99 :: u100 :: u101 :: u102 :: u103 :: u104 :: u105 :: u106 :: u107 :: u108 :: u109 :: u110 :: u111 :: u112 :: u113 :: u114 :: u115 :: u116 :: u117 :: u118 :: u119 :: u120 :: u121 :: u122 :: u123 :: u124 :: u125 :: u126 :: u127 :: u128 :: u129 :: u130 :: u131 :: u132 :: u133 :: u134 :: u135 :: u136 :: u137 :: u138 :: u139 :: u140 :: u141 :: u142 :: u143 :: u144 :: u145 :: u146 :: u147 :: u148 :: u149 :: u150 :: u151 :: u152 :: u153 :: u154 :: u155 :: u156 :: u157 :: u158 :: u159 :: u160 :: u161 :: u162 :: u163 :: u164 :: u165 :: u166 :: u167 :: u168 :: u169 :: u170 :: u171 :: u172 :: u173 :: u174 :: u175 :: u176 :: u177 :: u178 :: u179 :: u180 :: u181 :: u182 :: u183 :: u184 :: u185 :: u186 :: u187 :: u188 :: u189 :: u190 :: u191 :: u192 :: u193 :: u194 :: u195 :: u196 :: u197 :: u198 :: u199 :: u200 :: u201 :: u202 :: u203 :: u204 :: u205 :: u206 :: u207 :: u208 :: u209 :: u210 :: u211 :: u212 :: u213 :: u214 :: u215 :: u216 :: u217 :: u218 :: u219 :: u220 :: u221 :: u222 :: u223 :: u224 :: u225 :: u226 :: u227 :: u228 :: u229 :: u230 :: u231 :: u232 :: u233 :: u234 :: u235 :: u236 :: u237 :: u238 :: u239 :: u240 :: u241 :: u242 :: u243 :: u244 :: u245 :: u246 :: u247 :: u248 :: u249 :: u250 :: u251 :: u252 :: u253 :: u254 :: u255 :: u256 :: u257 :: u258 :: u259 :: u260 :: u261 :: u262 :: u263 :: u264 :: u265 :: u266 :: u267 :: u268 :: u269 :: u270 :: u271 :: u272 :: u273 :: u274 :: u275 :: u276 :: u277 :: u278 :: u279 :: []), []⟩ w1 := by
  conv => arg 2; whnf
  have HK := Lib.hid hK
  clear hK
  go_wp2_with fail
  go_loopw [30] (fun mv wr => ∃ m : Nat, m ≤ 5 ∧ mv = .int .i64 m ∧ Hid (Own w (FlP p s * emp) wr)) (fun mv _ => 5 - (intOf mv).toNat)
  case atStart => exact ⟨0, Nat.zero_le _, rfl, HP⟩
  case round =>
    clear HP
    obtain ⟨m, hm, rfl, HP⟩ := hrel
    by_cases h1 : m < 5
    rotate_left
    · go_wp2_with fail
      apply HK.out
      exact HP.out
    go_upto_block 10 with fail
    refine fsAll w p m h1 s hinv emp HP ?_
    intros
    rename_i hcut
    have HP2 := Lib.hid hcut
    clear hcut HP
    go_wp2_with fail
    go_roundw
    case rel => exact ⟨m + 1, by omega, by go_num, HP2⟩
    case measure => simp [intOf]; omega
end Go.Proofs.Ytkgnjkokbiefgaa
