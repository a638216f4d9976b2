/- FlushPlays: one round of the law. -/
import Derived.Test.YtpgonkecicmanaaDoorMFlushPlays15
namespace Go.Proofs.YtpgonkecicmanaaDoor
set_option linter.unusedVariables false
set_option linter.unusedSimpArgs false
open Go.RowKit Go.Maps
def FpR (w : World) (p q tn : Nat) (av : Value) (wx : World) : Prop := ∃ (j : Nat) (s2 : Fl), j ≤ tn ∧ av = .int .i64 (j : Int) ∧ FpI s2 ∧ Own w (FlP p s2 * (RfP q s2 * emp)) wx
theorem fpHeard_cases (s : Fl) (y n : Int) : (flHeardErr s y n = 1 ∧ flHeard s y n = [] ∧ (y < 0 ∨ (¬ y < 0 ∧ 4 < y) ∨ (¬ y < 0 ∧ ¬ 4 < y ∧ n < 0) ∨ (¬ y < 0 ∧ ¬ 4 < y ∧ ¬ n < 0 ∧ s.n < n))) ∨
    (flHeardErr s y n = 0 ∧ flHeard s y n = flRow s (n, y) ∧ ¬ y < 0 ∧ ¬ 4 < y ∧ ¬ n < 0 ∧ ¬ s.n < n) := by
  by_cases h : flHeardErr s y n = 0
  · right
    refine ⟨h, by unfold flHeard; rw [if_pos h], ?_⟩
    unfold flHeardErr at h
    cases h1 : isMember y
    · rw [if_pos h1] at h; cases h
    rw [if_neg (by rw [h1]; simp)] at h
    have hy : 0 ≤ y ∧ y < 5 := by simpa [isMember] using h1
    by_cases h2 : n < 0
    · rw [if_pos h2] at h; cases h
    rw [if_neg h2] at h
    by_cases h3 : s.n < n
    · rw [if_pos h3] at h; cases h
    exact ⟨by omega, by omega, h2, h3⟩
  · left
    have h1 : flHeardErr s y n = 1 := by
      unfold flHeardErr at h ⊢
      split
      · rfl
      rename_i ha
      rw [if_neg ha] at h
      split
      · rfl
      rename_i hb
      rw [if_neg hb] at h
      split
      · rfl
      rename_i hc
      rw [if_neg hc] at h
      exact absurd rfl h
    refine ⟨h1, by unfold flHeard; rw [if_neg h], ?_⟩
    unfold flHeardErr at h
    cases h2 : isMember y
    · have hy : ¬ (0 ≤ y ∧ y < 5) := fun hc => by
        have : isMember y = true := by simpa [isMember] using hc
        rw [h2] at this; cases this
      by_cases h3 : y < 0
      · exact .inl h3
      · exact .inr (.inl ⟨h3, by omega⟩)
    have hy : 0 ≤ y ∧ y < 5 := by simpa [isMember] using h2
    rw [if_neg (by rw [h2]; simp)] at h
    by_cases h3 : n < 0
    · exact .inr (.inr (.inl ⟨by omega, by omega, h3⟩))
    rw [if_neg h3] at h
    by_cases h4 : s.n < n
    · exact .inr (.inr (.inr ⟨by omega, by omega, h3, h4⟩))
    · rw [if_neg h4] at h; exact absurd rfl h
/-- The reference as it lies there: what may be read of it, while it is there. -/
theorem Own.rf_frame {w0 w : World} {q : Nat} {S : Fl} {A G : HProp} (hok : flOk S) (h : Own w0 (A * (RfP q S * G)) w) : ∃ (FR : HProp) (N db off dc : Nat) (hhd : Option Addr) (hhc : Nat) (V : Nat → Nat → Value), S.n = (N : Int) ∧ N + 1 ≤ dc ∧ dc ≤ 9223372036854775807 ∧ Own w0 (A * FR) w ∧
    ∀ w' T, Own w0 (T * FR) w' → Own w0 (RfP q S * (T * G)) w' ∧ w'.cell? ⟨q, 0, none⟩ = some (.int .i64 (N : Int)) ∧ w'.cell? ⟨q, 1, none⟩ = some (.slice hhd S.has.length hhc) ∧ w'.cell? ⟨q, 34, none⟩ = some (.slice (some ⟨db, off, none⟩) (N + 1) dc) ∧ Ints w' (.slice hhd S.has.length hhc) S.has ∧
      ∀ k m : Nat, k ≤ N → m < 5 → w'.cell? ⟨db, off + k * 5 + m, none⟩ = some (V k m) ∧ Ints w' (V k m) (flRow S ((k : Int), (m : Int))) := by
  obtain ⟨cs, hv, sv, dv, N, rows, he, ho⟩ := (h.perm (star_left_comm _ _ _)).rf_open
  obtain ⟨hhd, hhc, hs⟩ := Own.int_shape ho.second
  subst hs
  obtain ⟨db, off, dc, hdv, h5⟩ := Own.rf_at he.r.len (ho.perm (show _ = dSl dv N rows * (rfBlk q cs * (IntSl (.slice hhd S.has.length hhc) S.has * (IntSl sv S.said * (starL rowP rows * (A * G))))) by ac_rfl))
  subst hdv
  obtain ⟨q1, q2, _, _⟩ := Own.rf_tab h5
  refine ⟨dAt db off dc N rows * (rfBlk q cs * (IntSl (.slice hhd S.has.length hhc) S.has * (IntSl sv S.said * (starL rowP rows * G)))), N, db, off, dc, hhd, hhc, fun k m => (rows.getD (k * 5 + m) nilRow).1, he.n, q1, by unfold maxLen at q2; omega, h5.perm (by ac_rfl), fun w' T h' => ?_⟩
  have h6 : Own w0 (dAt db off dc N rows * (rfBlk q cs * (IntSl (.slice hhd S.has.length hhc) S.has * (IntSl sv S.said * (starL rowP rows * (T * G)))))) w' := h'.perm (by ac_rfl)
  obtain ⟨_, _, hcell, _⟩ := Own.rf_tab h6
  obtain ⟨c0, c1, c33, c34, _, _⟩ := h6.second.rf_cells he.c
  rw [he.n] at c0
  have h7 : Own w0 (dSl (.slice (some ⟨db, off, none⟩) (N + 1) dc) N rows * _) w' := h6.sl_of_at
  refine ⟨Own.rf_close he (h7.perm (show _ = rfBlk q cs * (IntSl (.slice hhd S.has.length hhc) S.has * (IntSl sv S.said * (dSl (.slice (some ⟨db, off, none⟩) (N + 1) dc) N rows * (starL rowP rows * (T * G))))) by ac_rfl)), c0, c1, c34, IntSl_reads hok.2.1.2 _ h6.third, fun k m hk hm => ?_⟩
  obtain ⟨hl, hr⟩ := he.r.get hk hm
  have e1 : rows.getD (k * 5 + m) nilRow = rows[k * 5 + m] := by rw [List.getD_eq_getElem?_getD, List.getElem?_eq_getElem hl]; rfl
  refine ⟨?_, ?_⟩
  · have := hcell (k * 5 + m) _ (List.getElem?_eq_getElem hl)
    rw [Nat.add_assoc]
    show _ = some (rows.getD (k * 5 + m) nilRow).1
    rw [e1]; exact this
  · show Ints w' (rows.getD (k * 5 + m) nilRow).1 _
    rw [e1]
    obtain ⟨ad, cap, g1, g2⟩ := Own.rf_take hl (h6.fifth.perm (show _ = starL rowP rows * (T * G * (dAt db off dc N rows * (rfBlk q cs * (IntSl (.slice hhd S.has.length hhc) S.has * IntSl sv S.said)))) by ac_rfl))
    rw [hr] at g1 g2
    rw [g1]
    exact IntSl_reads (hok.2.2.2 _).2 _ g2
def FpV (w w1 : World) (FR : HProp) (E : Nat) (L : List Int) (AA : HProp) (ev hv : Value) (wx : World) : Prop := ev = .int .i64 (E : Int) ∧ (∀ T, Reads w (T * FR) hv L) ∧ Own w (AA * FR) wx
noncomputable def fpRound_code : Code := ((Tryd.f5.body.bind (findBlock 1)).getD .skip)
set_option maxRecDepth 1000000 in
set_option maxHeartbeats 4000000 in
theorem fpRound {Q : Exit → Act → World → Prop} {u0 u3 u4 u5 u6 u7 u9 u10 u14 u15 u16 u17 u18 u19 u20 u21 u22 u23 u24 u25 u26 u27 u28 u29 u30 u31 u32 u33 u34 u35 u36 u37 u38 u39 u40 u41 u42 u43 u44 u45 u46 u47 u48 u49 u50 u51 u52 u53 u54 u55 u56 u57 u58 u59 u60 u61 u62 u63 u64 u65 u66 u67 u68 u69 u70 u71 u72 u73 u74 u75 u76 u77 u78 u79 u80 u81 u82 u83 u84 u85 u86 u87 u88 u89 u90 u91 u92 u93 u94 u95 u96 u97 u98 u99 u100 u101 u102 u103 u104 u105 u106 u107 u108 u109 u110 u111 u112 u113 u114 u115 u116 u117 u118 u119 u120 u121 u122 u123 u124 u125 u126 u127 u128 u129 u130 u131 u132 u133 u134 u135 u136 u137 u138 u139 u140 u141 u142 u143 u144 u145 u146 u147 u148 u149 u150 u151 u152 u153 u154 u155 u156 u157 u158 u159 u160 u161 u162 u163 u164 u165 u166 u167 u168 u169 u170 u171 u172 u173 u174 u175 u176 u177 u178 u179 u180 u181 u182 u183 u184 u185 u186 u187 u188 u189 u190 u191 u192 u193 u194 u195 u196 u197 u198 u199 u200 u201 u202 u203 u204 u205 u206 u207 u208 u209 u210 u211 u212 u213 u214 u215 u216 u217 u218 u219 u220 u221 u222 u223 : Value} {wr : World} (w : World) (hg : As.Handle w) (p q at0 k : Nat) (s : Fl) (hI : FpI s) (steps : List (List Int)) (sad : Option Addr) (scap : Nat) (h1 : k < steps.length) (hsc1 : steps.length ≤ scap) (hsc2 : scap ≤ 9223372036854775807) (HVS : Hid (Rows2 w (.slice sad steps.length scap) steps)) (sets : List (List Int)) (tad : Option Addr) (tcap : Nat) (hat : at0 ≤ sets.length) (htc1 : sets.length ≤ tcap) (htc2 : tcap ≤ 9223372036854775807) (HVT : Hid (Rows2 w (.slice tad sets.length tcap) sets)) (HP : Hid (Own w (FlP p s * (RfP q s * emp)) wr))
    (hK : ∀ (v6 v7 v10 v12 v14 v15 v16 v17 v18 v19 v20 v21 v22 v23 v24 v58 v59 v60 v61 v62 v63 v64 v65 v66 v67 v68 v69 v70 v71 v72 v73 v74 v75 v76 v77 v78 v79 v80 v81 v82 v83 v84 v85 v86 v87 v88 v89 v90 v91 v92 v93 v94 v95 v96 v97 v98 v99 v100 v101 v102 v103 v104 v105 v106 v107 v108 v109 v110 v111 v112 v113 v114 v115 v116 v117 v118 v119 v120 v121 v122 v123 v124 v125 v126 v127 v128 v129 v130 v131 v132 v133 v134 v135 v136 v137 v138 v139 v140 v141 v142 v143 v144 v145 v146 v147 v148 v149 v150 v151 v152 v153 v154 v155 v156 v157 v158 v159 v160 v161 v162 v163 v164 v165 v166 v167 v168 v169 v170 v171 v172 v173 v174 v175 v176 v177 v178 v179 v180 v181 v182 v183 v184 v185 v186 v187 v188 v189 v190 v191 v192 v193 v194 v195 v196 v197 v198 v199 v200 v201 v202 v203 v204 v205 v206 v207 v208 v209 v210 v211 v212 v213 v214 v215 v216 v217 v218 v219 v220 v221 v222 v223 : Value) (wx : World), (FpR w p q sets.length v12 wx) → Q .normal ⟨List.toArray (u0 :: (.slice sad steps.length scap) :: (.slice tad sets.length tcap) :: u3 :: u4 :: u5 :: v6 :: v7 :: (.pointer (some ⟨p, 0, none⟩)) :: u9 :: v10 :: (.pointer (some ⟨q, 0, none⟩)) :: v12 :: (.int .i64 (k : Int)) :: v14 :: v15 :: v16 :: v17 :: v18 :: v19 :: v20 :: v21 :: v22 :: v23 :: v24 :: u25 :: u26 :: u27 :: u28 :: u29 :: u30 :: u31 :: u32 :: u33 :: u34 :: u35 :: u36 :: u37 :: u38 :: u39 :: u40 :: u41 :: u42 :: u43 :: u44 :: u45 :: u46 :: u47 :: u48 :: u49 :: u50 :: u51 :: u52 :: u53 :: u54 :: u55 :: u56 :: u57 :: v58 :: v59 :: v60 :: v61 :: v62 :: v63 :: v64 :: v65 :: v66 :: v67 :: v68 :: v69 :: v70 :: v71 :: v72 :: v73 :: v74 :: v75 :: v76 :: v77 :: v78 :: v79 :: v80 :: v81 :: v82 :: v83 :: v84 :: v85 :: v86 :: v87 :: v88 :: v89 :: v90 :: v91 :: v92 :: v93 :: v94 :: v95 :: v96 :: v97 :: v98 :: v99 :: v100 :: v101 :: v102 :: v103 :: v104 :: v105 :: v106 :: v107 :: v108 :: v109 :: v110 :: v111 :: v112 :: v113 :: v114 :: v115 :: v116 :: v117 :: v118 :: v119 :: v120 :: v121 :: v122 :: v123 :: v124 :: v125 :: v126 :: v127 :: v128 :: v129 :: v130 :: v131 :: v132 :: v133 :: v134 :: v135 :: v136 :: v137 :: v138 :: v139 :: v140 :: v141 :: v142 :: v143 :: v144 :: v145 :: v146 :: v147 :: v148 :: v149 :: v150 :: v151 :: v152 :: v153 :: v154 :: v155 :: v156 :: v157 :: v158 :: v159 :: v160 :: v161 :: v162 :: v163 :: v164 :: v165 :: v166 :: v167 :: v168 :: v169 :: v170 :: v171 :: v172 :: v173 :: v174 :: v175 :: v176 :: v177 :: v178 :: v179 :: v180 :: v181 :: v182 :: v183 :: v184 :: v185 :: v186 :: v187 :: v188 :: v189 :: v190 :: v191 :: v192 :: v193 :: v194 :: v195 :: v196 :: v197 :: v198 :: v199 :: v200 :: v201 :: v202 :: v203 :: v204 :: v205 :: v206 :: v207 :: v208 :: v209 :: v210 :: v211 :: v212 :: v213 :: v214 :: v215 :: v216 :: v217 :: v218 :: v219 :: v220 :: v221 :: v222 :: v223 :: []), []⟩ wx) :
    Code.wp Tryd.prog fpRound_code Q ⟨List.toArray (u0 :: (.slice sad steps.length scap) :: (.slice tad sets.length tcap) :: u3 :: u4 :: u5 :: u6 :: u7 :: (.pointer (some ⟨p, 0, none⟩)) :: u9 :: u10 :: (.pointer (some ⟨q, 0, none⟩)) :: (.int .i64 (at0 : Int)) :: (.int .i64 (k : Int)) :: u14 :: u15 :: u16 :: u17 :: u18 :: u19 :: u20 :: u21 :: u22 :: u23 :: u24 :: u25 :: u26 :: u27 :: u28 :: u29 :: u30 :: u31 :: u32 :: u33 :: u34 :: u35 :: u36 :: u37 :: u38 :: u39 :: u40 :: u41 :: u42 :: u43 :: u44 :: u45 :: u46 :: u47 :: u48 :: u49 :: u50 :: u51 :: u52 :: u53 :: u54 :: u55 :: u56 :: u57 :: u58 :: u59 :: u60 :: u61 :: u62 :: u63 :: u64 :: u65 :: u66 :: u67 :: u68 :: u69 :: u70 :: u71 :: u72 :: u73 :: u74 :: u75 :: u76 :: u77 :: u78 :: u79 :: u80 :: u81 :: u82 :: u83 :: u84 :: u85 :: u86 :: u87 :: u88 :: u89 :: u90 :: u91 :: u92 :: u93 :: u94 :: u95 :: u96 :: u97 :: u98 :: u99 :: u100 :: u101 :: u102 :: u103 :: u104 :: u105 :: u106 :: u107 :: u108 :: u109 :: u110 :: u111 :: u112 :: u113 :: u114 :: u115 :: u116 :: u117 :: u118 :: u119 :: u120 :: u121 :: u122 :: u123 :: u124 :: u125 :: u126 :: u127 :: u128 :: u129 :: u130 :: u131 :: u132 :: u133 :: u134 :: u135 :: u136 :: u137 :: u138 :: u139 :: u140 :: u141 :: u142 :: u143 :: u144 :: u145 :: u146 :: u147 :: u148 :: u149 :: u150 :: u151 :: u152 :: u153 :: u154 :: u155 :: u156 :: u157 :: u158 :: u159 :: u160 :: u161 :: u162 :: u163 :: u164 :: u165 :: u166 :: u167 :: u168 :: u169 :: u170 :: u171 :: u172 :: u173 :: u174 :: u175 :: u176 :: u177 :: u178 :: u179 :: u180 :: u181 :: u182 :: u183 :: u184 :: u185 :: u186 :: u187 :: u188 :: u189 :: u190 :: u191 :: u192 :: u193 :: u194 :: u195 :: u196 :: u197 :: u198 :: u199 :: u200 :: u201 :: u202 :: u203 :: u204 :: u205 :: u206 :: u207 :: u208 :: u209 :: u210 :: u211 :: u212 :: u213 :: u214 :: u215 :: u216 :: u217 :: u218 :: u219 :: u220 :: u221 :: u222 :: u223 :: []), []⟩ wr := by
  conv => arg 2; whnf
  have HK := Lib.hid hK
  clear hK
  obtain ⟨a2, rad, rcap, e2, hr, hc⟩ := HVS.out.at_later k h1
  obtain ⟨row, hrow⟩ : ∃ row, row = steps[k] := ⟨_, rfl⟩
  rw [← hrow] at hr hc
  subst e2
  obtain ⟨vb, hvb⟩ : ∃ b, b = wr.heap.size := ⟨_, rfl⟩
  have ht := HP.out.alloc (.cells #[.int .i64 0, .int .i64 0, .int .i64 0] 42)
  rw [← hvb] at ht
  have HT : Hid (Own w (Nms 42 vb [0, 0, 0] * (FlP p s * (RfP q s * emp))) (wr.alloc (.cells #[.int .i64 0, .int .i64 0, .int .i64 0] 42))) := Lib.hid ht
  have HR := Lib.hid hr; have HC := Lib.hid hc; have HROW := Lib.hid hrow; have HG := Lib.hid hg
  clear hr hc hrow hg
  clear ht
  go_upto_block 2 with fail
  rw [← hvb]
  clear hvb
  refine fpFill w (FlP p s * (RfP q s * emp)) vb k steps row a2 scap rcap rad h1 hsc1 hsc2 HR HC HT ?_
  intros
  rename_i wq hpp
  obtain ⟨x, y, z, hT⟩ := hpp.three
  have HO1 : Hid (Own w (FlP p s * (RfP q s * (Nms 42 vb [x, y, z] * emp))) wq) := Lib.hid (hT.perm (by ac_rfl))
  clear HT HP hT hpp
  have d0 : wq.cell? ⟨vb, 0, none⟩ = some (.int .i64 x) := HO1.out.third.nms_cell 0 (by simp)
  go_upto_block 4 with fail
  refine fpSwitch w HG.out p q vb at0 x y z s hI sets tad tcap hat htc1 htc2 HVT HO1 ?_
  intros
  rename_i wp hpp
  obtain ⟨rfl, j, S, hj, rfl, hS, ho⟩ := hpp
  clear d0 HO1
  have hok : flOk S := hS.inv.1.ok
  obtain ⟨FR, N, db, off, dc, hhd, hhc, V, hN, hdc1, hdc2, hO, hFR⟩ := Own.rf_frame (A := FlP p S) (G := Nms 42 vb [x, y, z] * emp) hok (ho.perm (by ac_rfl))
  have HFR : Hid (∀ w' T, Own w (T * FR) w' → Own w (FlP p S * (RfP q S * emp)) w' ∨ True) := Lib.hid (fun _ _ _ => .inr trivial)
  have HRD : Hid (∀ w' T, Own w (T * FR) w' → (w'.cell? ⟨vb, 1, none⟩ = some (.int .i64 y) ∧ w'.cell? ⟨vb, 2, none⟩ = some (.int .i64 z)) ∧ w'.cell? ⟨q, 0, none⟩ = some (.int .i64 (N : Int)) ∧ w'.cell? ⟨q, 1, none⟩ = some (.slice hhd S.has.length hhc) ∧ w'.cell? ⟨q, 34, none⟩ = some (.slice (some ⟨db, off, none⟩) (N + 1) dc)) := Lib.hid (fun w' T h => by
    obtain ⟨g1, c0, c1, c34, _⟩ := hFR w' T h
    have g2 : Own w (Nms 42 vb [x, y, z] * (RfP q S * (T * emp))) w' := g1.perm (by ac_rfl)
    exact ⟨⟨g2.nms_cell 1 (by simp), g2.nms_cell 2 (by simp)⟩, c0, c1, c34⟩)
  have HHI : Hid (∀ w' T, Own w (T * FR) w' → Ints w' (.slice hhd S.has.length hhc) S.has) := Lib.hid (fun w' T h => (hFR w' T h).2.2.2.2.1)
  have HRW : Hid (∀ k m : Nat, k ≤ N → m < 5 → ∀ w' T, Own w (T * FR) w' → w'.cell? ⟨db, off + k * 5 + m, none⟩ = some (V k m) ∧ Ints w' (V k m) (flRow S ((k : Int), (m : Int)))) := Lib.hid (fun k m hk hm w' T h => (hFR w' T h).2.2.2.2.2 k m hk hm)
  have HCL : Hid (∀ w', Own w (FlP p S * FR) w' → Own w (FlP p S * (RfP q S * emp)) w') := Lib.hid (fun w' h => by
    have g1 := (hFR w' _ h).1
    exact (g1.perm (show _ = Nms 42 vb [x, y, z] * (FlP p S * (RfP q S * emp)) by ac_rfl)).drop)
  have HO := Lib.hid hO
  obtain ⟨⟨d1, d2⟩, c0, _, c34⟩ := HRD.out _ _ hO
  obtain ⟨n, hn⟩ : ∃ n, n = if ((k : Int) % 3 == 1) = true then z else (N : Int) := ⟨_, rfl⟩
  clear ho hO hFR HFR
  have HN := Lib.hid hN; have HOK := Lib.hid hok
  clear hN hok
  go_upto_if 158 with fail
  go_cut [21] from 21 to 21 (fun nv wx => nv = .int .i64 n ∧ wx = wp)
  case first =>
    by_cases hD : ((k : Int) % 3 == 1) = true
    · rw [if_pos hD] at hn
      have HN := Lib.hid hn
      clear hn
      go_wp2_with fail
      go_meet
      exact ⟨by rw [HN.out], rfl⟩
    · rw [if_neg hD] at hn
      have hD2 : ((k : Int) % 3 == 1) = false := by simpa using hD
      clear hD
      have HN := Lib.hid hn
      clear hn
      go_wp2_with fail
      go_meet
      exact ⟨by rw [HN.out], rfl⟩
  case rest =>
  obtain ⟨rfl, hw⟩ := hcut
  subst wc
  clear hn
  have hcs := fpHeard_cases S y n
  rw [HN.out] at hcs
  obtain ⟨E, hE⟩ : ∃ E, E = flHeardErr S y n := ⟨_, rfl⟩
  obtain ⟨LL, hLL⟩ : ∃ L, L = flHeard S y n := ⟨_, rfl⟩
  rw [← hE, ← hLL] at hcs
  obtain ⟨B, hB⟩ : ∃ B : Bool, B = decide (E = 1) := ⟨_, rfl⟩
  have HCS := Lib.hid hcs
  have HLI : Hid (∀ v ∈ LL, I64 v) := Lib.hid (by
    rw [hLL]
    unfold flHeard
    split
    · exact (HOK.out.2.2.2 _).2
    · intro v hv; cases hv)
  clear hcs
  have HE := Lib.hid hE; have HLL := Lib.hid hLL; have HB := Lib.hid hB
  clear hE hLL hB
  go_upto_region 45 with fail
  go_cut [181] from 161 to 181 (fun v wx => v = .bool B ∧ wx = wp)
  case first =>
    rcases HCS.out with ⟨h3, _, h4 | ⟨h4, h5⟩ | ⟨h4, h5, h6⟩ | ⟨h4, h5, h6, h7⟩⟩ | ⟨h3, _, h4, h5, h6, h7⟩
    · have HH3 := Lib.hid h3
      clear h3
      go_wp2_with fail
      go_meet
      exact ⟨by rw [HB.out, HH3.out]; rfl, rfl⟩
    · have HH3 := Lib.hid h3
      clear h3
      go_wp2_with fail
      go_meet
      exact ⟨by rw [HB.out, HH3.out]; rfl, rfl⟩
    · have HH3 := Lib.hid h3
      clear h3
      go_wp2_with fail
      go_meet
      exact ⟨by rw [HB.out, HH3.out]; rfl, rfl⟩
    · have HH3 := Lib.hid h3
      clear h3
      go_wp2_with fail
      go_meet
      exact ⟨by rw [HB.out, HH3.out]; rfl, rfl⟩
    · have HH3 := Lib.hid h3
      clear h3
      go_wp2_with fail
      go_meet
      exact ⟨by rw [HB.out, HH3.out]; rfl, rfl⟩
  case rest =>
  obtain ⟨rfl, hw⟩ := hcut
  subst wc
  go_upto_if 181 with fail
  go_cut [7, 20] from 7 to 7 (fun ev hv wx => FpV w wp FR E LL (FlP p S) ev hv wx)
  case first =>
    have hcs := HCS.out
    rcases hcs with ⟨h3, h4, _⟩ | ⟨h3, h4, h5, h6, h7, h8⟩
    · have hb : B = true := by rw [HB.out, h3]; rfl
      subst hb
      have HH3 := Lib.hid h3
      have HH4 := Lib.hid h4
      clear h3 h4
      go_wp2_with fail
      go_meet
      exact ⟨by rw [HH3.out]; rfl, fun T => by rw [HH4.out]; exact (Ints_nil w).reads, HO.out⟩
    · have hb : B = false := by rw [HB.out, h3]; rfl
      subst hb
      obtain ⟨m, rfl⟩ : ∃ m : Nat, y = (m : Int) := ⟨y.toNat, by omega⟩
      obtain ⟨kk, rfl⟩ : ∃ m : Nat, n = (m : Int) := ⟨n.toNat, by omega⟩
      have hm5 : m < 5 := by omega
      have hkN : kk ≤ N := by omega
      obtain ⟨hcc, _⟩ := HRW.out kk m hkN hm5 _ _ HO.out
      have HRR : Hid (∀ T, Reads w (T * FR) (V kk m) LL) := Lib.hid (fun T w' h => by rw [h4]; exact (HRW.out kk m hkN hm5 w' T h).2)
      have m0 : (0 : Int) ≤ (m : Int) := by omega
      have m5 : (m : Int) < 5 := by omega
      have k0 : (0 : Int) ≤ (kk : Int) := by omega
      have kN : (kk : Int) < (N : Int) + 1 := by omega
      have HH3 := Lib.hid h3
      clear h3 h4 h5 h6 h7 h8 hm5 hkN
      go_upto_region 47 with fail
      refine wp_region_tail 10 (by kernel_rfl) (by kernel_rfl) ?_
      simp only [List.take_succ_cons, List.take_zero, List.drop_succ_cons, List.drop_zero]
      repeat still_step
      refine wpStill_nil ?_
      go_wp2_with fail
      go_meet
      exact ⟨by rw [HH3.out]; rfl, HRR.out, HO.out.drew⟩
  case rest =>
  obtain ⟨rfl, hRH, ho⟩ := hcut
  have HRH := Lib.hid hRH
  have HO2 := Lib.hid ho
  clear ho hRH HO d1 d2 c0 c34
  obtain ⟨⟨d1, d2⟩, c0, c1, c34⟩ := HRD.out _ _ HO2.out
  go_wp2_with fail
  refine (flHeard_all p S y n HOK.out HO2.out).mono ?_
  rintro e w3 ⟨v3, rfl, ho⟩
  rw [← HE.out]
  rw [← HLL.out] at ho
  obtain ⟨a3, c3, hv3⟩ := Own.int_shape ho
  obtain ⟨LN, hLN⟩ : ∃ L, L = LL.length := ⟨_, rfl⟩
  rw [← hLN] at hv3
  subst hv3
  have HO3 := Lib.hid ho
  clear ho d1 d2 c0 c1 c34
  have tE := fp_same E
  have HLN := Lib.hid hLN
  clear hLN
  go_wp2_with fail
  refine (sameErr_any HG.out E E HO3.out).mono ?_
  rintro e w4 ⟨rfl, ho⟩
  rw [tE]
  have HO4 := Lib.hid ho
  clear ho HO3 HO2
  go_wp2_with fail
  refine (sameInts_any _ _ LL LL _ (IntSl_reads HLI.out _ HO4.out) (HRH.out (IntSl (.slice a3 LN c3) LL * FlP p S) _ (HO4.out.perm (by ac_rfl)))).mono ?_
  rintro e w5 ⟨rfl, n5, rfl⟩
  rw [show (LL == LL) = true from beq_iff_eq.2 rfl]
  have HO5 : Hid (Own w (FlP p S * FR) (w4.drewN n5)) := Lib.hid (HO4.out.drewN n5).drop
  clear HO4
  obtain ⟨w6, hw6⟩ : ∃ x, x = w4.drewN n5 := ⟨_, rfl⟩
  rw [← hw6] at HO5 ⊢
  clear hw6
  obtain ⟨hhl, hHL⟩ : ∃ L, L = S.has.length := ⟨_, rfl⟩
  have HHC : Hid (∀ w' T, Own w (T * FR) w' → w'.cell? ⟨q, 0, none⟩ = some (.int .i64 (N : Int)) ∧ w'.cell? ⟨q, 1, none⟩ = some (.slice hhd hhl hhc)) := Lib.hid (fun w' T h => by
    rw [hHL]
    exact ⟨(HRD.out w' T h).2.1, (HRD.out w' T h).2.2.1⟩)
  rw [← hHL] at HHI
  have HHL := Lib.hid hHL
  clear hHL
  obtain ⟨c0, c1⟩ := HHC.out _ _ HO5.out
  go_upto_region 50 with fail
  refine wp_region_planH 15 [] [(true, 0), (true, 1), (true, 2), (true, 3), (true, 4), (true, 5), (true, 6), (true, 7), (true, 9), (true, 10), (true, 11), (true, 12), (false, 8), (false, 13), (true, 14)] [15] (fun wS => wS.cell? ⟨q, 0, none⟩ = some (.int .i64 (N : Int)) ∧ wS.cell? ⟨q, 1, none⟩ = some (.slice hhd hhl hhc)) (by kernel_rfl) (by kernel_rfl) (⟨c0, c1⟩) ?_
  simp only [pickH, pick, List.getElem?_cons_succ, List.getElem?_cons_zero, Option.toList, Option.map_some, List.cons_append, List.nil_append]
  repeat (refine wpPure_step ?_ rfl ?_ ?_; rotate_left; (focus (intro _; first | with_reducible rfl | (go_simp; done) | (go_simp; with_reducible rfl) | rfl)); go_simp)
  refine wpPure_nil ?_
  repeat (first | (refine wpMix_read ?_ rfl ?_ ?_; rotate_left; (focus (intro _ hS; obtain ⟨s1, s2⟩ := hS; first | with_reducible rfl | (go_simp; done) | (go_simp; with_reducible rfl) | rfl)); go_simp) | (refine wpMix_readW ?_ ?_ ?_ ?_; rotate_left; (focus (first | rfl | (go_simp; done))); (focus (intro _ hS; obtain ⟨s1, s2⟩ := hS; first | with_reducible rfl | (go_simp; done) | (go_simp; with_reducible rfl) | rfl)); go_simp))
  refine wpMix_write (fun K hK => ?_)
  go_simp
  refine (flView_any p S HOK.out HO5.out.drew).mono ?_
  rintro e w7 ⟨v7, rfl, ho⟩
  rw [HN.out]
  have HO7 := Lib.hid ho
  clear ho c0 c1 HO5
  obtain ⟨c0, c1⟩ := HHC.out _ _ (HO7.out.perm (show _ = (IntSl v7 S.has * FlP p S) * FR by ac_rfl))
  refine hK _ _ ⟨⟨c0, c1⟩, ?_⟩
  clear hK K
  go_simp
  repeat (first | (refine wpMix_read ?_ rfl ?_ ?_; rotate_left; (focus (intro _ hS; obtain ⟨s1, s2⟩ := hS; first | with_reducible rfl | (go_simp; done) | (go_simp; with_reducible rfl) | rfl)); go_simp) | (refine wpMix_readW ?_ ?_ ?_ ?_; rotate_left; (focus (first | rfl | (go_simp; done))); (focus (intro _ hS; obtain ⟨s1, s2⟩ := hS; first | with_reducible rfl | (go_simp; done) | (go_simp; with_reducible rfl) | rfl)); go_simp))
  refine wpMix_write (fun K hK => ?_)
  go_simp
  refine (sameView_any (N : Int) (N : Int) v7 (.slice hhd hhl hhc) S.has S.has HO7.out (fun w' h => IntSl_reads HOK.out.2.1.2 _ h) (fun w' h => HHI.out _ (IntSl v7 S.has * FlP p S) (h.perm (by ac_rfl)))).mono ?_
  rintro e w8 ⟨rfl, ho⟩
  rw [show (decide ((N : Int) = (N : Int)) && (S.has == S.has)) = true by simp]
  have HO8 := Lib.hid ho.drop
  clear ho c0 c1 HO7
  obtain ⟨c0, c1⟩ := HHC.out _ _ HO8.out
  refine hK _ _ ⟨⟨c0, c1⟩, ?_⟩
  clear hK K
  go_simp
  repeat (first | (refine wpMix_read ?_ rfl ?_ ?_; rotate_left; (focus (intro _ hS; obtain ⟨s1, s2⟩ := hS; first | with_reducible rfl | (go_simp; done) | (go_simp; with_reducible rfl) | rfl)); go_simp) | (refine wpMix_readW ?_ ?_ ?_ ?_; rotate_left; (focus (first | rfl | (go_simp; done))); (focus (intro _ hS; obtain ⟨s1, s2⟩ := hS; first | with_reducible rfl | (go_simp; done) | (go_simp; with_reducible rfl) | rfl)); go_simp))
  refine wpMix_nil ?_
  go_wp2_with fail
  refine NoPanic.normal ?_
  go_wp2_with fail
  apply HK.out
  exact ⟨j, S, hj, rfl, hS, HCL.out _ HO8.out⟩
end Go.Proofs.YtpgonkecicmanaaDoor
/- FlushPlays: the program's Flush and the reference's do the same. -/
namespace Go.Proofs.YtpgonkecicmanaaDoor
set_option linter.unusedVariables false
set_option linter.unusedSimpArgs false
open Go.RowKit Go.Maps
noncomputable def fpLoop_code : Code := ((Tryd.f5.body.bind (findBlock 0)).getD .skip)
set_option maxRecDepth 1000000 in
set_option maxHeartbeats 4000000 in
theorem fpLoop {Q : Exit → Act → World → Prop} {u0 u3 u4 u5 u6 u7 u9 u10 u14 u15 u16 u17 u18 u19 u20 u21 u22 u23 u24 u25 u26 u27 u28 u29 u30 u31 u32 u33 u34 u35 u36 u37 u38 u39 u40 u41 u42 u43 u44 u45 u46 u47 u48 u49 u50 u51 u52 u53 u54 u55 u56 u57 u58 u59 u60 u61 u62 u63 u64 u65 u66 u67 u68 u69 u70 u71 u72 u73 u74 u75 u76 u77 u78 u79 u80 u81 u82 u83 u84 u85 u86 u87 u88 u89 u90 u91 u92 u93 u94 u95 u96 u97 u98 u99 u100 u101 u102 u103 u104 u105 u106 u107 u108 u109 u110 u111 u112 u113 u114 u115 u116 u117 u118 u119 u120 u121 u122 u123 u124 u125 u126 u127 u128 u129 u130 u131 u132 u133 u134 u135 u136 u137 u138 u139 u140 u141 u142 u143 u144 u145 u146 u147 u148 u149 u150 u151 u152 u153 u154 u155 u156 u157 u158 u159 u160 u161 u162 u163 u164 u165 u166 u167 u168 u169 u170 u171 u172 u173 u174 u175 u176 u177 u178 u179 u180 u181 u182 u183 u184 u185 u186 u187 u188 u189 u190 u191 u192 u193 u194 u195 u196 u197 u198 u199 u200 u201 u202 u203 u204 u205 u206 u207 u208 u209 u210 u211 u212 u213 u214 u215 u216 u217 u218 u219 u220 u221 u222 u223 : Value} {w1 : World} (w : World) (hg : As.Handle w) (p q N : Nat) (hI : FpI (flNew N)) (steps : List (List Int)) (sad : Option Addr) (scap : Nat) (hsc1 : steps.length ≤ scap) (hsc2 : scap ≤ 9223372036854775807) (HVS : Hid (Rows2 w (.slice sad steps.length scap) steps)) (sets : List (List Int)) (tad : Option Addr) (tcap : Nat) (htc1 : sets.length ≤ tcap) (htc2 : tcap ≤ 9223372036854775807) (HVT : Hid (Rows2 w (.slice tad sets.length tcap) sets)) (HP : Hid (Own w (FlP p (flNew N) * (RfP q (flNew N) * emp)) w1))
    (hK : ∀ (v6 v7 v10 v12 v13 v14 v15 v16 v17 v18 v19 v20 v21 v22 v23 v24 v48 v49 v50 v51 v52 v53 v54 v55 v56 v57 v58 v59 v60 v61 v62 v63 v64 v65 v66 v67 v68 v69 v70 v71 v72 v73 v74 v75 v76 v77 v78 v79 v80 v81 v82 v83 v84 v85 v86 v87 v88 v89 v90 v91 v92 v93 v94 v95 v96 v97 v98 v99 v100 v101 v102 v103 v104 v105 v106 v107 v108 v109 v110 v111 v112 v113 v114 v115 v116 v117 v118 v119 v120 v121 v122 v123 v124 v125 v126 v127 v128 v129 v130 v131 v132 v133 v134 v135 v136 v137 v138 v139 v140 v141 v142 v143 v144 v145 v146 v147 v148 v149 v150 v151 v152 v153 v154 v155 v156 v157 v158 v159 v160 v161 v162 v163 v164 v165 v166 v167 v168 v169 v170 v171 v172 v173 v174 v175 v176 v177 v178 v179 v180 v181 v182 v183 v184 v185 v186 v187 v188 v189 v190 v191 v192 v193 v194 v195 v196 v197 v198 v199 v200 v201 v202 v203 v204 v205 v206 v207 v208 v209 v210 v211 v212 v213 v214 v215 v216 v217 v218 v219 v220 v221 v222 v223 : Value) (wx : World), (Below w.heap.size w wx) → Q .normal ⟨List.toArray (u0 :: (.slice sad steps.length scap) :: (.slice tad sets.length tcap) :: u3 :: u4 :: u5 :: v6 :: v7 :: (.pointer (some ⟨p, 0, none⟩)) :: u9 :: v10 :: (.pointer (some ⟨q, 0, none⟩)) :: v12 :: v13 :: v14 :: v15 :: v16 :: v17 :: v18 :: v19 :: v20 :: v21 :: v22 :: v23 :: v24 :: u25 :: u26 :: u27 :: u28 :: u29 :: u30 :: u31 :: u32 :: u33 :: u34 :: u35 :: u36 :: u37 :: u38 :: u39 :: u40 :: u41 :: u42 :: u43 :: u44 :: u45 :: u46 :: u47 :: v48 :: v49 :: v50 :: v51 :: v52 :: v53 :: v54 :: v55 :: v56 :: v57 :: v58 :: v59 :: v60 :: v61 :: v62 :: v63 :: v64 :: v65 :: v66 :: v67 :: v68 :: v69 :: v70 :: v71 :: v72 :: v73 :: v74 :: v75 :: v76 :: v77 :: v78 :: v79 :: v80 :: v81 :: v82 :: v83 :: v84 :: v85 :: v86 :: v87 :: v88 :: v89 :: v90 :: v91 :: v92 :: v93 :: v94 :: v95 :: v96 :: v97 :: v98 :: v99 :: v100 :: v101 :: v102 :: v103 :: v104 :: v105 :: v106 :: v107 :: v108 :: v109 :: v110 :: v111 :: v112 :: v113 :: v114 :: v115 :: v116 :: v117 :: v118 :: v119 :: v120 :: v121 :: v122 :: v123 :: v124 :: v125 :: v126 :: v127 :: v128 :: v129 :: v130 :: v131 :: v132 :: v133 :: v134 :: v135 :: v136 :: v137 :: v138 :: v139 :: v140 :: v141 :: v142 :: v143 :: v144 :: v145 :: v146 :: v147 :: v148 :: v149 :: v150 :: v151 :: v152 :: v153 :: v154 :: v155 :: v156 :: v157 :: v158 :: v159 :: v160 :: v161 :: v162 :: v163 :: v164 :: v165 :: v166 :: v167 :: v168 :: v169 :: v170 :: v171 :: v172 :: v173 :: v174 :: v175 :: v176 :: v177 :: v178 :: v179 :: v180 :: v181 :: v182 :: v183 :: v184 :: v185 :: v186 :: v187 :: v188 :: v189 :: v190 :: v191 :: v192 :: v193 :: v194 :: v195 :: v196 :: v197 :: v198 :: v199 :: v200 :: v201 :: v202 :: v203 :: v204 :: v205 :: v206 :: v207 :: v208 :: v209 :: v210 :: v211 :: v212 :: v213 :: v214 :: v215 :: v216 :: v217 :: v218 :: v219 :: v220 :: v221 :: v222 :: v223 :: []), []⟩ wx) :
    Code.wp Tryd.prog fpLoop_code Q ⟨List.toArray (u0 :: (.slice sad steps.length scap) :: (.slice tad sets.length tcap) :: u3 :: u4 :: u5 :: u6 :: u7 :: (.pointer (some ⟨p, 0, none⟩)) :: u9 :: u10 :: (.pointer (some ⟨q, 0, none⟩)) :: (.int .i64 0) :: (.int .i64 0) :: u14 :: u15 :: u16 :: u17 :: u18 :: u19 :: u20 :: u21 :: u22 :: u23 :: u24 :: u25 :: u26 :: u27 :: u28 :: u29 :: u30 :: u31 :: u32 :: u33 :: u34 :: u35 :: u36 :: u37 :: u38 :: u39 :: u40 :: u41 :: u42 :: u43 :: u44 :: u45 :: u46 :: u47 :: u48 :: u49 :: u50 :: u51 :: u52 :: u53 :: u54 :: u55 :: u56 :: u57 :: u58 :: u59 :: u60 :: u61 :: u62 :: u63 :: u64 :: u65 :: u66 :: u67 :: u68 :: u69 :: u70 :: u71 :: u72 :: u73 :: u74 :: u75 :: u76 :: u77 :: u78 :: u79 :: u80 :: u81 :: u82 :: u83 :: u84 :: u85 :: u86 :: u87 :: u88 :: u89 :: u90 :: u91 :: u92 :: u93 :: u94 :: u95 :: u96 :: u97 :: u98 :: u99 :: u100 :: u101 :: u102 :: u103 :: u104 :: u105 :: u106 :: u107 :: u108 :: u109 :: u110 :: u111 :: u112 :: u113 :: u114 :: u115 :: u116 :: u117 :: u118 :: u119 :: u120 :: u121 :: u122 :: u123 :: u124 :: u125 :: u126 :: u127 :: u128 :: u129 :: u130 :: u131 :: u132 :: u133 :: u134 :: u135 :: u136 :: u137 :: u138 :: u139 :: u140 :: u141 :: u142 :: u143 :: u144 :: u145 :: u146 :: u147 :: u148 :: u149 :: u150 :: u151 :: u152 :: u153 :: u154 :: u155 :: u156 :: u157 :: u158 :: u159 :: u160 :: u161 :: u162 :: u163 :: u164 :: u165 :: u166 :: u167 :: u168 :: u169 :: u170 :: u171 :: u172 :: u173 :: u174 :: u175 :: u176 :: u177 :: u178 :: u179 :: u180 :: u181 :: u182 :: u183 :: u184 :: u185 :: u186 :: u187 :: u188 :: u189 :: u190 :: u191 :: u192 :: u193 :: u194 :: u195 :: u196 :: u197 :: u198 :: u199 :: u200 :: u201 :: u202 :: u203 :: u204 :: u205 :: u206 :: u207 :: u208 :: u209 :: u210 :: u211 :: u212 :: u213 :: u214 :: u215 :: u216 :: u217 :: u218 :: u219 :: u220 :: u221 :: u222 :: u223 :: []), []⟩ w1 := by
  conv => arg 2; whnf
  have HK := Lib.hid hK
  clear hK
  have HI := Lib.hid hI
  clear hI
  go_wp2_with fail
  go_loopw [12, 13] (fun av iv wr => ∃ (k j : Nat) (s : Fl), k ≤ steps.length ∧ k ≤ 120 ∧ j ≤ sets.length ∧ iv = .int .i64 (k : Int) ∧ av = .int .i64 (j : Int) ∧ Hid (FpI s) ∧ Hid (Own w (FlP p s * (RfP q s * emp)) wr)) (fun _ iv _ => 120 - (intOf iv).toNat)
  case atStart => exact ⟨0, 0, flNew N, Nat.zero_le _, Nat.zero_le _, Nat.zero_le _, rfl, rfl, HI, HP⟩
  case round =>
    clear HP HI
    obtain ⟨k, j, s, hk, hk2, hj, rfl, rfl, HI, HP⟩ := hrel
    by_cases h1 : k < steps.length
    rotate_left
    · go_wp2_with fail
      apply HK.out
      exact HP.out.below
    by_cases h2 : k < 120
    rotate_left
    · go_wp2_with fail
      apply HK.out
      exact HP.out.below
    go_upto_block 1 with fail
    refine fpRound w hg p q j k s HI.out steps sad scap h1 hsc1 hsc2 HVS sets tad tcap hj htc1 htc2 HVT HP ?_
    intros
    rename_i wq hpp
    obtain ⟨j2, s2, hj2, rfl, hi2, ho2⟩ := hpp
    have HI2 := Lib.hid hi2
    have HO2 := Lib.hid ho2
    clear hi2 ho2 HP
    go_wp2_with fail
    go_roundw
    case rel => exact ⟨k + 1, j2, s2, by omega, by omega, hj2, by go_num, rfl, HI2, HO2⟩
    case measure => simp [intOf]; omega
set_option maxRecDepth 100000 in
set_option maxHeartbeats 4000000 in
theorem flushPlays_law (w : World) (hg : As.Handle w) (n : Int) (_hn : I64 n) (vs : Value) (steps : List (List Int)) (hvs : Rows2 w vs steps) (vt : Value) (sets : List (List Int)) (hvt : Rows2 w vt sets) :
    Calls Tryd.prog 5 #[.int .i64 n, vs, vt] w fun e w' => e = .returned (.bool true) ∧ Below w.heap.size w w' := by
  obtain ⟨sad, scap, rfl, hsc1, hsc2⟩ := hvs.shape
  obtain ⟨tad, tcap, rfl, htc1, htc2⟩ := hvt.shape
  have HW0 := Lib.hid (Own.start w)
  cases hgn : isGroup n
  · have hcs : n < 2 ∨ (¬ n < 2 ∧ 5 < n) := by
      unfold isGroup at hgn
      by_cases h : n < 2
      · exact .inl h
      · refine .inr ⟨h, ?_⟩
        rw [decide_eq_true (by omega)] at hgn
        simp at hgn; omega
    have HGN := Lib.hid hgn; have HVS := Lib.hid hvs; have HVT := Lib.hid hvt; have HG := Lib.hid hg
    clear hgn hvs hvt hg
    rcases hcs with h1 | ⟨h1, h2⟩
    all_goals
      go_enter Tryd.func5, Tryd.ntmps5
      go_wp2_with fail
      refine (flNew_no n HGN.out).mono ?_
      rintro e w8 ⟨rfl, rfl⟩
      go_wp2_with fail
      refine (sameErr_any HG.out 1 1 HW0.out).mono ?_
      rintro e w2 ⟨rfl, ho⟩
      have HO2 := Lib.hid ho
      clear ho
      go_wp2
      go_ret
      exact ⟨rfl, HO2.out.below⟩
  have hn2 : 2 ≤ n ∧ n ≤ 5 := by simp [isGroup] at hgn; omega
  obtain ⟨N, rfl⟩ : ∃ N : Nat, n = N := ⟨n.toNat, by omega⟩
  have hN2 : 2 ≤ N := by omega
  have hN5 : N ≤ 5 := by omega
  have t1 : ¬ (N : Int) < 2 := by omega
  have t2 : ¬ (5 : Int) < (N : Int) := by omega
  clear hn2
  have HGN := Lib.hid hgn; have HVS := Lib.hid hvs; have HVT := Lib.hid hvt; have HG := Lib.hid hg
  clear hgn hvs hvt hg
  go_enter Tryd.func5, Tryd.ntmps5
  go_wp2_with fail
  refine (flNew_yes N HGN.out HW0.out).mono ?_
  rintro e w8 ⟨p, rfl, ho⟩
  have HO1 := Lib.hid ho
  clear ho
  go_wp2_with fail
  refine (sameErr_any HG.out 0 0 HO1.out).mono ?_
  rintro e w2 ⟨rfl, ho⟩
  have HO2 := Lib.hid ho
  clear ho HO1
  go_wp2_with fail
  refine (rfNew_any N hN5 HO2.out).mono ?_
  rintro e w3 ⟨q, rfl, ho⟩
  have HO3 := Lib.hid (ho.perm (star_left_comm _ _ _))
  clear ho HO2
  go_upto_block 0 with fail
  refine fpLoop w HG.out p q N (FpI.new N hN2 hN5) steps sad scap hsc1 hsc2 HVS sets tad tcap htc1 htc2 HVT HO3 ?_
  intros
  rename_i hpp
  have HPP := Lib.hid hpp
  clear hpp HO3
  go_wp2
  go_ret
  exact ⟨rfl, HPP.out⟩
end Go.Proofs.YtpgonkecicmanaaDoor
