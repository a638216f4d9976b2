/- TopCast: all of it logged; all words packed and read. -/
import Derived.Test.YtpafhfnimncklaaGreatDoorMTopCast22
import Derived.Test.YtpafhfnimncklaaGreatDoorMTopCast23
import Derived.Test.YtpafhfnimncklaaGreatDoorMTopCast24
import Derived.Test.YtpafhfnimncklaaGreatDoorMTopCast8
import Derived.Test.YtpafhfnimncklaaGreatDoorMTopCast10
namespace Go.Proofs.YtpafhfnimncklaaGreatDoor
set_option linter.unusedVariables false
set_option linter.unusedSimpArgs false
open Go.RowKit Go.Maps
noncomputable def tcDo_code : Code := ((Tryz.f3.body.bind (findBlock 4)).getD .skip)
set_option maxRecDepth 1000000 in
set_option maxHeartbeats 4000000 in
theorem tcDo {Q : Exit → Act → World → Prop} {u0 u1 u2 u3 u4 u5 u6 u7 u8 u9 u10 u14 u15 u16 u17 u18 u19 u20 u21 u22 u23 u24 u25 u26 u27 u28 u29 u30 u31 u32 u33 u34 u35 u36 u37 u38 u39 u40 u41 u42 u43 u44 u45 u46 u47 u48 u49 u50 u51 u52 u53 u54 u55 u56 u57 u58 u59 u60 u61 u62 u63 u64 u65 u66 u67 u68 u69 u70 u71 u72 u73 u74 u75 u76 u77 u78 u79 u80 u81 u82 u83 u84 u85 u86 u87 u88 u89 u90 u91 u92 u93 u94 u95 u96 u97 u98 u99 u100 u101 u102 u103 u104 u105 u106 u107 u108 u109 u110 u111 u112 u113 u114 u115 u116 u117 u118 u119 u120 u121 u122 u123 u124 u125 u126 u127 u128 u129 u130 u131 u132 u133 u134 u135 u136 u137 u138 u139 u140 u141 u142 u143 u144 u145 u146 u147 u148 u149 u150 u151 u152 u153 u154 u155 u156 u157 u158 u159 u160 u161 u162 u163 u164 u165 u166 u167 u168 u169 u170 u171 u172 u173 u174 u175 u176 u177 u178 u179 u180 u181 u182 u183 u184 u185 u186 u187 u188 : Value} {w1 : World} (w : World) (R : HProp) (p LH hcap : Nat) (had : Option Addr) (hs : List Ev) (hr : RightH hs) (hLH : LH = hs.length) (hx1 : LH ≤ hcap) (hx2 : hcap ≤ 9223372036854775807) (hgo : ∀ e ∈ hs, goodEv e) (HO : Hid (Own w (LgP p lgNew * (EvSl (.slice had LH hcap) hs * R)) w1))
    (hK : ∀ (v4 v13 v82 v83 v84 v85 v86 v87 v88 v89 v90 v91 v92 v93 v94 : Value) (wx : World), (Own w (LgP p (lgAt hs hs.length) * (EvSl (.slice had LH hcap) hs * R)) wx) → Q .normal ⟨List.toArray (u0 :: u1 :: u2 :: u3 :: v4 :: u5 :: u6 :: u7 :: u8 :: u9 :: u10 :: (.slice had LH hcap) :: (.pointer (some ⟨p, 0, none⟩)) :: v13 :: u14 :: u15 :: u16 :: u17 :: u18 :: u19 :: u20 :: u21 :: u22 :: u23 :: u24 :: u25 :: u26 :: u27 :: u28 :: u29 :: u30 :: u31 :: u32 :: u33 :: u34 :: u35 :: u36 :: u37 :: u38 :: u39 :: u40 :: u41 :: u42 :: u43 :: u44 :: u45 :: u46 :: u47 :: u48 :: u49 :: u50 :: u51 :: u52 :: u53 :: u54 :: u55 :: u56 :: u57 :: u58 :: u59 :: u60 :: u61 :: u62 :: u63 :: u64 :: u65 :: u66 :: u67 :: u68 :: u69 :: u70 :: u71 :: u72 :: u73 :: u74 :: u75 :: u76 :: u77 :: u78 :: u79 :: u80 :: u81 :: v82 :: v83 :: v84 :: v85 :: v86 :: v87 :: v88 :: v89 :: v90 :: v91 :: v92 :: v93 :: v94 :: u95 :: u96 :: u97 :: u98 :: u99 :: u100 :: u101 :: u102 :: u103 :: u104 :: u105 :: u106 :: u107 :: u108 :: u109 :: u110 :: u111 :: u112 :: u113 :: u114 :: u115 :: u116 :: u117 :: u118 :: u119 :: u120 :: u121 :: u122 :: u123 :: u124 :: u125 :: u126 :: u127 :: u128 :: u129 :: u130 :: u131 :: u132 :: u133 :: u134 :: u135 :: u136 :: u137 :: u138 :: u139 :: u140 :: u141 :: u142 :: u143 :: u144 :: u145 :: u146 :: u147 :: u148 :: u149 :: u150 :: u151 :: u152 :: u153 :: u154 :: u155 :: u156 :: u157 :: u158 :: u159 :: u160 :: u161 :: u162 :: u163 :: u164 :: u165 :: u166 :: u167 :: u168 :: u169 :: u170 :: u171 :: u172 :: u173 :: u174 :: u175 :: u176 :: u177 :: u178 :: u179 :: u180 :: u181 :: u182 :: u183 :: u184 :: u185 :: u186 :: u187 :: u188 :: []), []⟩ wx) :
    Code.wp Tryz.prog tcDo_code Q ⟨List.toArray (u0 :: u1 :: u2 :: u3 :: u4 :: u5 :: u6 :: u7 :: u8 :: u9 :: u10 :: (.slice had LH hcap) :: (.pointer (some ⟨p, 0, none⟩)) :: (.int .i64 0) :: u14 :: u15 :: u16 :: u17 :: u18 :: u19 :: u20 :: u21 :: u22 :: u23 :: u24 :: u25 :: u26 :: u27 :: u28 :: u29 :: u30 :: u31 :: u32 :: u33 :: u34 :: u35 :: u36 :: u37 :: u38 :: u39 :: u40 :: u41 :: u42 :: u43 :: u44 :: u45 :: u46 :: u47 :: u48 :: u49 :: u50 :: u51 :: u52 :: u53 :: u54 :: u55 :: u56 :: u57 :: u58 :: u59 :: u60 :: u61 :: u62 :: u63 :: u64 :: u65 :: u66 :: u67 :: u68 :: u69 :: u70 :: u71 :: u72 :: u73 :: u74 :: u75 :: u76 :: u77 :: u78 :: u79 :: u80 :: u81 :: u82 :: u83 :: u84 :: u85 :: u86 :: u87 :: u88 :: u89 :: u90 :: u91 :: u92 :: u93 :: u94 :: u95 :: u96 :: u97 :: u98 :: u99 :: u100 :: u101 :: u102 :: u103 :: u104 :: u105 :: u106 :: u107 :: u108 :: u109 :: u110 :: u111 :: u112 :: u113 :: u114 :: u115 :: u116 :: u117 :: u118 :: u119 :: u120 :: u121 :: u122 :: u123 :: u124 :: u125 :: u126 :: u127 :: u128 :: u129 :: u130 :: u131 :: u132 :: u133 :: u134 :: u135 :: u136 :: u137 :: u138 :: u139 :: u140 :: u141 :: u142 :: u143 :: u144 :: u145 :: u146 :: u147 :: u148 :: u149 :: u150 :: u151 :: u152 :: u153 :: u154 :: u155 :: u156 :: u157 :: u158 :: u159 :: u160 :: u161 :: u162 :: u163 :: u164 :: u165 :: u166 :: u167 :: u168 :: u169 :: u170 :: u171 :: u172 :: u173 :: u174 :: u175 :: u176 :: u177 :: u178 :: u179 :: u180 :: u181 :: u182 :: u183 :: u184 :: u185 :: u186 :: u187 :: u188 :: []), []⟩ w1 := by
  conv => arg 2; whnf
  have HK := Lib.hid hK
  clear hK
  rw [lgAt_zero hs] at HO
  have h60 := hr.1
  have hl60 : LH ≤ 60 := by omega
  clear h60
  have HRR := Lib.hid hr
  have HGO := Lib.hid hgo
  have HLH := Lib.hid hLH
  clear hLH
  clear hr hgo
  go_wp2_with fail
  go_loopw [13] (fun iv wr => ∃ k : Nat, k ≤ LH ∧ iv = .int .i64 k ∧ Hid (Own w (LgP p (lgAt hs k) * (EvSl (.slice had LH hcap) hs * R)) wr)) (fun iv _ => LH - (intOf iv).toNat)
  case atStart => exact ⟨0, Nat.zero_le _, rfl, HO⟩
  case round =>
    clear HO
    obtain ⟨k, hk, rfl, HP⟩ := hrel
    by_cases hlt : k < LH
    rotate_left
    · have hkn : k = LH := by omega
      subst hkn
      go_wp2_with fail
      apply HK.out
      rw [← HLH.out]
      exact HP.out
    have hkl : k < hs.length := by rw [← HLH.out]; exact hlt
    obtain ⟨aa, eb, eo, es, e1, hea, hcs, hge⟩ := ReadsE.at (EvSl_reads (v := .slice had LH hcap) HGO.out) (HP.out.perm (star_left_comm _ _ _)) k hkl
    subst e1
    obtain ⟨g0, g1, g2⟩ := hcs _ (HP.out.perm (star_left_comm _ _ _))
    have hev : evAt hs k = hs[k] := by unfold evAt; rw [List.getD_eq_getElem?_getD, List.getElem?_eq_getElem hkl]; rfl
    obtain ⟨hd1, hd2⟩ := lgAt_do HRR.out hkl
    have hI := lgAt_I HRR.out (Nat.le_of_lt hkl)
    rw [← hev] at hd1 hd2
    obtain ⟨ev, hev2⟩ : ∃ ev, ev = evAt hs k := ⟨_, rfl⟩
    rw [← hev2] at g0 g1 g2 hge hd1 hd2
    obtain ⟨x, y, z⟩ := ev
    simp only at g0 g1 g2
    have i0 : (0 : Int) ≤ (k : Int) := by omega
    have iN : (k : Int) < (LH : Int) := by omega
    have HD1 := Lib.hid hd1; have HD2 := Lib.hid hd2; have HI := Lib.hid hI; have HGE := Lib.hid hge
    clear hd1 hd2 hI hge
    clear hcs hev hev2
    go_wp2_with fail
    refine (lgDo_any p (lgAt hs k) (x, y, z) HI.out HGE.out HP.out).mono ?_
    rintro e w2 ⟨rfl, ho⟩
    rw [HD1.out, errV0]
    rw [HD2.out] at ho
    have HO2 := Lib.hid ho
    clear ho HP g0 g1 g2
    go_wp2_with fail
    go_roundw
    case rel => exact ⟨k + 1, by omega, by go_num, HO2⟩
    case measure => simp [intOf]; omega
noncomputable def tcEnd_code : Code := ((Tryz.f3.body.bind (findBlock 6)).getD .skip)
set_option maxRecDepth 1000000 in
set_option maxHeartbeats 4000000 in
theorem tcEnd {Q : Exit → Act → World → Prop} {u0 u1 u2 u3 u4 u5 u6 u7 u8 u9 u10 u12 u13 u14 u15 u17 u19 u20 u21 u22 u23 u24 u25 u26 u27 u28 u29 u30 u31 u32 u33 u34 u35 u36 u37 u38 u39 u40 u41 u42 u43 u44 u45 u46 u47 u48 u49 u50 u51 u52 u53 u54 u55 u56 u57 u58 u59 u60 u61 u62 u63 u64 u65 u66 u67 u68 u69 u70 u71 u72 u73 u74 u75 u76 u77 u78 u79 u80 u81 u82 u83 u84 u85 u86 u87 u88 u89 u90 u91 u92 u93 u94 u95 u96 u97 u98 u99 u100 u101 u102 u103 u104 u105 u106 u107 u108 u109 u110 u111 u112 u113 u114 u115 u116 u117 u118 u119 u120 u121 u122 u123 u124 u125 u126 u127 u128 u129 u130 u131 u132 u133 u134 u135 u136 u137 u138 u139 u140 u141 u142 u143 u144 u145 u146 u147 u148 u149 u150 u151 u152 u153 u154 u155 u156 u157 u158 u159 u160 u161 u162 u163 u164 u165 u166 u167 u168 u169 u170 u171 u172 u173 u174 u175 u176 u177 u178 u179 u180 u181 u182 u183 u184 u185 u186 u187 u188 : Value} {w1 : World} (w : World) (LH hcap vcap : Nat) (had vad : Option Addr) (c : Cs) (hz : CZ c) (rs : List (Value × List Int)) (hrs : rs.map (·.2) = vecsR c.hist) (hLH : LH = c.hist.length) (hx1 : LH ≤ hcap) (hx2 : hcap ≤ 9223372036854775807) (hgo : ∀ e ∈ c.hist, goodEv e) (hv1 : LH ≤ vcap) (hv2 : vcap ≤ 9223372036854775807) (HO : Hid (Own w (EvSl (.slice had LH hcap) c.hist * (LSl (.slice vad LH vcap) rs * emp)) w1))
    (hK : ∀ (v4 v18 v19 v20 v21 v22 v23 v140 v141 v142 v143 v144 v145 v146 v147 v148 v149 v150 v151 v152 v153 v154 v155 v156 v157 v158 v159 v160 v161 v162 v163 v164 v165 v166 v167 v168 v169 v170 v171 v172 v173 v174 v175 v176 v177 v178 v179 v180 v181 v182 v183 v184 v185 v186 v187 v188 : Value) (wx : World), (Own w (EvSl (.slice had LH hcap) c.hist * (LSl (.slice vad LH vcap) rs * emp)) wx) → Q .normal ⟨List.toArray (u0 :: u1 :: u2 :: u3 :: v4 :: u5 :: u6 :: u7 :: u8 :: u9 :: u10 :: (.slice had LH hcap) :: u12 :: u13 :: u14 :: u15 :: (.slice vad LH vcap) :: u17 :: v18 :: v19 :: v20 :: v21 :: v22 :: v23 :: u24 :: u25 :: u26 :: u27 :: u28 :: u29 :: u30 :: u31 :: u32 :: u33 :: u34 :: u35 :: u36 :: u37 :: u38 :: u39 :: u40 :: u41 :: u42 :: u43 :: u44 :: u45 :: u46 :: u47 :: u48 :: u49 :: u50 :: u51 :: u52 :: u53 :: u54 :: u55 :: u56 :: u57 :: u58 :: u59 :: u60 :: u61 :: u62 :: u63 :: u64 :: u65 :: u66 :: u67 :: u68 :: u69 :: u70 :: u71 :: u72 :: u73 :: u74 :: u75 :: u76 :: u77 :: u78 :: u79 :: u80 :: u81 :: u82 :: u83 :: u84 :: u85 :: u86 :: u87 :: u88 :: u89 :: u90 :: u91 :: u92 :: u93 :: u94 :: u95 :: u96 :: u97 :: u98 :: u99 :: u100 :: u101 :: u102 :: u103 :: u104 :: u105 :: u106 :: u107 :: u108 :: u109 :: u110 :: u111 :: u112 :: u113 :: u114 :: u115 :: u116 :: u117 :: u118 :: u119 :: u120 :: u121 :: u122 :: u123 :: u124 :: u125 :: u126 :: u127 :: u128 :: u129 :: u130 :: u131 :: u132 :: u133 :: u134 :: u135 :: u136 :: u137 :: u138 :: u139 :: v140 :: v141 :: v142 :: v143 :: v144 :: v145 :: v146 :: v147 :: v148 :: v149 :: v150 :: v151 :: v152 :: v153 :: v154 :: v155 :: v156 :: v157 :: v158 :: v159 :: v160 :: v161 :: v162 :: v163 :: v164 :: v165 :: v166 :: v167 :: v168 :: v169 :: v170 :: v171 :: v172 :: v173 :: v174 :: v175 :: v176 :: v177 :: v178 :: v179 :: v180 :: v181 :: v182 :: v183 :: v184 :: v185 :: v186 :: v187 :: v188 :: []), []⟩ wx) :
    Code.wp Tryz.prog tcEnd_code Q ⟨List.toArray (u0 :: u1 :: u2 :: u3 :: u4 :: u5 :: u6 :: u7 :: u8 :: u9 :: u10 :: (.slice had LH hcap) :: u12 :: u13 :: u14 :: u15 :: (.slice vad LH vcap) :: u17 :: (.int .i64 0) :: u19 :: u20 :: u21 :: u22 :: u23 :: u24 :: u25 :: u26 :: u27 :: u28 :: u29 :: u30 :: u31 :: u32 :: u33 :: u34 :: u35 :: u36 :: u37 :: u38 :: u39 :: u40 :: u41 :: u42 :: u43 :: u44 :: u45 :: u46 :: u47 :: u48 :: u49 :: u50 :: u51 :: u52 :: u53 :: u54 :: u55 :: u56 :: u57 :: u58 :: u59 :: u60 :: u61 :: u62 :: u63 :: u64 :: u65 :: u66 :: u67 :: u68 :: u69 :: u70 :: u71 :: u72 :: u73 :: u74 :: u75 :: u76 :: u77 :: u78 :: u79 :: u80 :: u81 :: u82 :: u83 :: u84 :: u85 :: u86 :: u87 :: u88 :: u89 :: u90 :: u91 :: u92 :: u93 :: u94 :: u95 :: u96 :: u97 :: u98 :: u99 :: u100 :: u101 :: u102 :: u103 :: u104 :: u105 :: u106 :: u107 :: u108 :: u109 :: u110 :: u111 :: u112 :: u113 :: u114 :: u115 :: u116 :: u117 :: u118 :: u119 :: u120 :: u121 :: u122 :: u123 :: u124 :: u125 :: u126 :: u127 :: u128 :: u129 :: u130 :: u131 :: u132 :: u133 :: u134 :: u135 :: u136 :: u137 :: u138 :: u139 :: u140 :: u141 :: u142 :: u143 :: u144 :: u145 :: u146 :: u147 :: u148 :: u149 :: u150 :: u151 :: u152 :: u153 :: u154 :: u155 :: u156 :: u157 :: u158 :: u159 :: u160 :: u161 :: u162 :: u163 :: u164 :: u165 :: u166 :: u167 :: u168 :: u169 :: u170 :: u171 :: u172 :: u173 :: u174 :: u175 :: u176 :: u177 :: u178 :: u179 :: u180 :: u181 :: u182 :: u183 :: u184 :: u185 :: u186 :: u187 :: u188 :: []), []⟩ w1 := by
  conv => arg 2; whnf
  have HK := Lib.hid hK
  clear hK
  have hl60 : LH ≤ 60 := by have := hz.len; omega
  have hr : RightH c.hist := (histR_ok _).1 hz.right
  obtain ⟨hvl, hvo⟩ := vecs_ok hr
  have hrl : rs.length = LH := by rw [hLH, ← hvl, ← hrs, List.length_map]
  have HZ := Lib.hid hz
  have HGO := Lib.hid hgo
  have HLH := Lib.hid hLH; have HRS := Lib.hid hrs; have HVO := Lib.hid hvo; have HRL := Lib.hid hrl
  clear hLH hrs hvo hrl
  clear hz hgo hr hvl
  go_wp2_with fail
  go_loopw [18] (fun iv wr => ∃ k : Nat, k ≤ LH ∧ iv = .int .i64 k ∧ Hid (Own w (EvSl (.slice had LH hcap) c.hist * (LSl (.slice vad LH vcap) rs * emp)) wr)) (fun iv _ => LH - (intOf iv).toNat)
  case atStart => exact ⟨0, Nat.zero_le _, rfl, HO⟩
  case round =>
    clear HO
    obtain ⟨k, hk, rfl, HP⟩ := hrel
    by_cases hlt : k < LH
    rotate_left
    · have hkn : k = LH := by omega
      subst hkn
      go_wp2_with fail
      apply HK.out
      exact HP.out
    have hkl : k < c.hist.length := by rw [← HLH.out]; exact hlt
    have hkr : k < rs.length := by rw [HRL.out]; exact hlt
    obtain ⟨aa, eb, eo, es, e1, hea, hcs, hge⟩ := ReadsE.at (EvSl_reads (v := .slice had LH hcap) HGO.out) HP.out k hkl
    subst e1
    have hev : evAt c.hist k = c.hist[k] := by unfold evAt; rw [List.getD_eq_getElem?_getD, List.getElem?_eq_getElem hkl]; rfl
    obtain ⟨hs1, hs2, hs3⟩ := HZ.out.said0 hkl
    rw [← hev] at hs1 hs2 hs3
    obtain ⟨ev, hev2⟩ : ∃ ev, ev = evAt c.hist k := ⟨_, rfl⟩
    rw [← hev2] at hcs hge hs1 hs2 hs3
    obtain ⟨x, y, z⟩ := ev
    simp only at hcs hs1 hs2 hs3
    obtain ⟨rv, l, hrk⟩ : ∃ rv l, rs[k]? = some (rv, l) := ⟨rs[k].1, rs[k].2, by rw [List.getElem?_eq_getElem hkr]⟩
    have hlm : l ∈ vecsR c.hist := by
      rw [← HRS.out]
      exact List.mem_map.2 ⟨(rv, l), List.mem_of_getElem? hrk, rfl⟩
    obtain ⟨hl1, hl2⟩ := HVO.out l hlm
    have hse := said_ok hs2 hs3 hl1
    obtain ⟨u1, u2, u3, u4⟩ := said_back hse
    have i0 : (0 : Int) ≤ (k : Int) := by omega
    have iN : (k : Int) < (LH : Int) := by omega
    have hrow : ∀ (Q : HProp) (wq : World), Own w (EvSl (.slice (some aa) LH hcap) c.hist * (LSl (.slice vad LH vcap) rs * Q)) wq → ∃ b off, vad = some ⟨b, off, none⟩ ∧ wq.cell? ⟨b, off + k, none⟩ = some rv ∧ Ints wq rv l := fun Q wq hq => by
      obtain ⟨b, off, cap, hv, _, _, h1, h2⟩ := (hq.perm (star_left_comm _ _ _)).ls_row hrk hl2
      injection hv with hv1 hv2 hv3
      exact ⟨b, off, hv1, h1, h2⟩
    have HROW : (∃ vb voff, vad = some ⟨vb, voff, none⟩) ∧ ∃ rad rcap, rv = .slice rad 5 rcap := by
      obtain ⟨b, off, h1, _, h2⟩ := hrow _ _ HP.out
      obtain ⟨rad, rcap, h3, _⟩ := h2.shape
      rw [(vecErr0 hl1).1] at h3
      exact ⟨⟨b, off, h1⟩, rad, rcap, h3⟩
    obtain ⟨⟨vb, voff, hvad⟩, rad, rcap, hrv⟩ := HROW
    subst hvad
    subst hrv
    have hcs2 : ∀ (Q : HProp) (wq : World), Own w (EvSl (.slice (some aa) LH hcap) c.hist * (LSl (.slice (some ⟨vb, voff, none⟩) LH vcap) rs * Q)) wq → wq.cell? ⟨eb, eo, es⟩ = some (.int .i64 x) ∧ wq.cell? ⟨eb, eo + 1, none⟩ = some (.int .i64 y) ∧ wq.cell? ⟨eb, eo + 2, none⟩ = some (.int .i64 z) ∧ wq.cell? ⟨vb, voff + k, none⟩ = some (.slice rad 5 rcap) := fun Q wq hq => by
      obtain ⟨aa', eb', eo', es', e1', hea', hcs', _⟩ := ReadsE.at (EvSl_reads (v := .slice (some aa) LH hcap) HGO.out) hq k hkl
      injection e1' with e1'
      subst e1'
      rw [hea] at hea'
      injection hea' with q1 q2 q3
      subst q1; subst q2; subst q3
      obtain ⟨g0, g1, g2⟩ := hcs' _ hq
      rw [← hev2] at g0 g1 g2
      obtain ⟨b', off', h1, h2, _⟩ := hrow _ _ hq
      injection h1 with h1
      injection h1 with q1 q2 q3
      subst q1; subst q2
      exact ⟨g0, g1, g2, h2⟩
    have hrd : ∀ (Q : HProp), Reads w (EvSl (.slice (some aa) LH hcap) c.hist * (LSl (.slice (some ⟨vb, voff, none⟩) LH vcap) rs * Q)) (.slice rad 5 rcap) l := fun Q wq hq => by
      obtain ⟨_, _, _, _, h⟩ := hrow _ _ hq
      exact h
    have HCS := Lib.hid hcs2
    have HRD := Lib.hid hrd
    have HEV := Lib.hid hev2
    obtain ⟨g0, g1, g2, gv⟩ := hcs2 _ _ HP.out
    clear hcs hcs2 hrd hrow hev hev2
    have HRK := Lib.hid hrk; have HLM := Lib.hid hlm; have HL1 := Lib.hid hl1; have HL2 := Lib.hid hl2; have HGE := Lib.hid hge; have HS2 := Lib.hid hs2; have HS3 := Lib.hid hs3; have HSE := Lib.hid hse; have U1 := Lib.hid u1; have U2 := Lib.hid u2; have U3 := Lib.hid u3; have U4 := Lib.hid u4
    clear hrk hlm hl1 hl2 hge hs2 hs3 hse u1 u2 u3 u4
    go_upto_region 37 with fail
    clear hs1
    have f2 := HCS.out _ _ HP.out.drew
    obtain ⟨b1, hb_b1⟩ : ∃ zz_, zz_ = (wr).heap.size := ⟨_, rfl⟩
    obtain ⟨w3, hw_w3⟩ : ∃ zz_, zz_ = (wr).alloc (.cells #[.int .i64 0, .int .i64 0, .slice none 0 0] 51 (0, 0)) := ⟨_, rfl⟩
    have h_HO3 := (HP.out).alloc (.cells #[.int .i64 0, .int .i64 0, .slice none 0 0] 51 (0, 0))
    rw [← hb_b1, ← hw_w3] at h_HO3
    have HO3 := Lib.hid h_HO3
    clear h_HO3
    have f3 := HCS.out (blk b1 (.cells #[.int .i64 0, .int .i64 0, .slice none 0 0] 51 (0, 0)) * emp) _ (HO3.out.drew.perm (by ac_rfl))
    obtain ⟨k0, k1, k2, k3⟩ := f2
    obtain ⟨m0, m1, m2, m3⟩ := f3
    refine wp_region_planH 16 [] [(true, 0), (true, 1), (true, 2), (true, 3), (true, 4), (true, 5), (true, 6), (true, 7), (true, 8), (true, 9), (true, 10), (true, 11), (true, 12), (true, 13), (true, 14), (false, 15)] [16] (fun wS => wS.cell? ⟨eb, eo, es⟩ = some (.int .i64 x) ∧ wS.cell? ⟨eb, eo + 2, none⟩ = some (.int .i64 z) ∧ wS.cell? ⟨vb, voff + k, none⟩ = some (.slice rad 5 rcap)) (by kernel_rfl) (by kernel_rfl) (⟨k0, k2, k3⟩) ?_
    simp only [pickH, pick, List.getElem?_cons_succ, List.getElem?_cons_zero, Option.toList, Option.map_some, List.cons_append, List.nil_append]
    repeat (refine wpPure_step ?_ rfl ?_ ?_; rotate_left; (focus (intro _; first | with_reducible rfl | (go_simp; done) | (go_simp; with_reducible rfl) | rfl)); go_simp)
    refine wpPure_nil ?_
    repeat (refine wpMix_read ?_ rfl ?_ ?_; rotate_left; (focus (intro _ hS; obtain ⟨s1, s2, s3⟩ := hS; first | with_reducible rfl | (go_simp; done) | (go_simp; with_reducible rfl) | rfl)); go_simp)
    refine wpMix_write (fun K hK => ?_)
    go_simp
    rw [← hb_b1, ← hw_w3]
    clear hb_b1 hw_w3
    refine hK _ _ ⟨⟨m0, m2, m3⟩, ?_⟩
    clear hK K
    go_simp
    refine wpMix_nil ?_
    clear k0 k1 k2 k3 m0 m1 m2 m3 g0 g1 g2 gv
    have HO4 : Hid (Own w (SdB b1 0 0 (.slice none 0 0) * (EvSl (.slice (some aa) LH hcap) c.hist * (LSl (.slice (some ⟨vb, voff, none⟩) LH vcap) rs * emp))) w3) := Lib.hid HO3.out
    obtain ⟨n0, n1, n2, nf0, nf1, nf2⟩ := HO4.out.sdB
    have hput := (HO4.out.sdB_put x z (.slice rad 5 rcap)).drew
    go_wp2_with fail
    refine NoPanic.normal ?_
    obtain ⟨w4, hw4⟩ : ∃ w4, w4 = (((w3.setCell ⟨b1, 0, none⟩ (.int .i64 x)).setCell ⟨b1, 1, none⟩ (.int .i64 z)).setCell ⟨b1, 2, none⟩ (.slice rad 5 rcap)).drew := ⟨_, rfl⟩
    rw [← hw4] at hput ⊢
    clear n0 n1 n2 nf0 nf1 nf2 HO4 HO3 HP
    obtain ⟨n0, n1, n2, nf0, nf1, nf2⟩ := hput.sdB
    have HO5 := Lib.hid hput
    clear hput hw4
    go_wp2_with fail
    refine (wpack_any x z _ l HO5.out (show Reads w (SdB b1 x z (.slice rad 5 rcap) * (EvSl (.slice (some aa) LH hcap) c.hist * (LSl (.slice (some ⟨vb, voff, none⟩) LH vcap) rs * emp))) _ l from (HRD.out emp).more)).mono ?_
    rintro e w5 ⟨rfl, ho⟩
    rw [HSE.out, errV0]
    obtain ⟨T, hT⟩ : ∃ T, T = packS x z l := ⟨_, rfl⟩
    have hu1 := U1.out; have hu2 := U2.out; have hu3 := U3.out; have hu4 := U4.out
    rw [← hT] at hu1 hu2 hu3 hu4 ⊢
    have HO6 := Lib.hid ho
    clear ho HO5 n0 n1 n2 nf0 nf1 nf2
    have HT := Lib.hid hT; have HU1 := Lib.hid hu1; have HU2 := Lib.hid hu2; have HU3 := Lib.hid hu3; have HU4 := Lib.hid hu4
    clear hT hu1 hu2 hu3 hu4
    go_wp2_with fail
    refine (wunpack_any T HO6.out).mono ?_
    rintro e w6 ⟨v6, rfl, ho⟩
    rw [HU1.out, HU2.out, HU3.out, errV0]
    rw [HU4.out] at ho
    obtain ⟨ad6, cp6, hv6, _⟩ := Own.rd ho
    rw [(vecErr0 HL1.out).1] at hv6
    subst hv6
    have HO7 := Lib.hid ho
    clear ho HO6
    obtain ⟨b2, hb_b2⟩ : ∃ zz_, zz_ = (w6).heap.size := ⟨_, rfl⟩
    obtain ⟨w7, hw_w7⟩ : ∃ zz_, zz_ = (w6).alloc (.cells #[.int .i64 x, .int .i64 z, .slice ad6 5 cp6] 51 (0, 0)) := ⟨_, rfl⟩
    have h_HO8 := (HO7.out).alloc (.cells #[.int .i64 x, .int .i64 z, .slice ad6 5 cp6] 51 (0, 0))
    rw [← hb_b2, ← hw_w7] at h_HO8
    have HO8 := Lib.hid h_HO8
    clear h_HO8
    go_upto_region 40 with fail
    rw [← hb_b2, ← hw_w7]
    clear hb_b2 hw_w7
    have HO9 : Hid (Own w (SdB b2 x z (.slice ad6 5 cp6) * (IntSl (.slice ad6 5 cp6) l * (SdB b1 x z (.slice rad 5 rcap) * (EvSl (.slice (some aa) LH hcap) c.hist * (LSl (.slice (some ⟨vb, voff, none⟩) LH vcap) rs * emp))))) w7) := HO8
    obtain ⟨q0, q1, q2, _⟩ := HO9.out.sdB
    obtain ⟨r0, r1, r2, _⟩ := HO9.out.drop.drop.sdB
    have hra : Reads w (SdB b2 x z (.slice ad6 5 cp6) * (IntSl (.slice ad6 5 cp6) l * (SdB b1 x z (.slice rad 5 rcap) * (EvSl (.slice (some aa) LH hcap) c.hist * (LSl (.slice (some ⟨vb, voff, none⟩) LH vcap) rs * emp))))) (.slice ad6 5 cp6) l := (IntSl_reads HL2.out).more
    have hrb : Reads w (SdB b2 x z (.slice ad6 5 cp6) * (IntSl (.slice ad6 5 cp6) l * (SdB b1 x z (.slice rad 5 rcap) * (EvSl (.slice (some aa) LH hcap) c.hist * (LSl (.slice (some ⟨vb, voff, none⟩) LH vcap) rs * emp))))) (.slice rad 5 rcap) l := (HRD.out emp).more.more.more
    have HRA := Lib.hid hra; have HRB := Lib.hid hrb
    clear hra hrb
    clear HO8 HO7
    go_wp2_with fail
    refine (sameSaid_eq x z _ _ l HO9.out HRA.out HRB.out).mono ?_
    rintro e w8 ⟨rfl, ho⟩
    have HOA : Hid (Own w (EvSl (.slice (some aa) LH hcap) c.hist * (LSl (.slice (some ⟨vb, voff, none⟩) LH vcap) rs * emp)) w8) := Lib.hid ho.drop.drop.drop
    clear ho HO9 q0 q1 q2 r0 r1 r2
    go_wp2_with fail
    go_roundw
    case rel => exact ⟨k + 1, by omega, by go_num, HOA⟩
    case measure => simp [intOf]; omega
end Go.Proofs.YtpafhfnimncklaaGreatDoor
/- HistoryBefore: who is ahead is an order; a beginning of a history is a cut that could have been. -/
namespace Go.Proofs.YtpafhfnimncklaaGreatDoor
set_option linter.unusedVariables false
set_option linter.unusedSimpArgs false
open Go.RowKit
def oneH : List Ev := [(0, 2, 1), (1, 3, 1), (2, 1, 0)]
theorem oneH1 : befB oneH 0 1 = true := by decide +kernel
theorem oneH2 : befErr oneH 0 1 = 0 := by decide +kernel
theorem oneH3 : befB oneH 0 2 = false := by decide +kernel
theorem oneH4 : befErr oneH 0 2 = 0 := by decide +kernel
def oneO : Obj := .cells #[.int .i64 0, .int .i64 2, .int .i64 1, .int .i64 1, .int .i64 3, .int .i64 1, .int .i64 2, .int .i64 1, .int .i64 0] 40 (0, 0)
theorem Own.evs_lit {w0 : World} {b : Nat} {R : HProp} (cs : Array Value) (l : List Ev) (n : Nat) (hcs : cs.toList = l.flatMap evCells) (hn : n = l.length) (hg : ∀ e ∈ l, goodEv e) (hm : n ≤ 1000) :
    ReadsE w0 (blk b (.cells cs 40 (0, 0)) * R) (.slice (some ⟨b, 0, none⟩) n n) l := by
  intro w ho
  subst hn
  refine ⟨Rd_one (cs := l.flatMap evCells) (fun i u hu => ?_) (Nat.le_refl _) (by unfold maxLen; omega), hg⟩
  rw [cell_of_heap ho.blk_at.1, ← hu, ← hcs]
  simp
theorem befErr0 {hs : List Ev} {i k : Int} (h : befErr hs i k = 0) : (histR hs).2 = 0 ∧ insideB hs.length i = false ∧ insideB hs.length k = false := by
  unfold befErr at h
  split at h
  · rename_i h1; exact absurd h h1
  rename_i h1
  split at h
  · cases h
  rename_i h2
  refine ⟨by simpa using h1, ?_, ?_⟩
  · cases hh : insideB hs.length i <;> simp_all
  · cases hh : insideB hs.length k <;> simp_all
theorem befErr_mk {hs : List Ev} {i k : Int} (h1 : (histR hs).2 = 0) (h2 : insideB hs.length i = false) (h3 : insideB hs.length k = false) : befErr hs i k = 0 := by
  unfold befErr; rw [if_neg (by simpa using h1), if_neg (by simp [h2, h3])]
def HbR (w : World) (hs : List Ev) (i k j : Int) (a e1 b e2 c e3 d e4 s e5 : Value) (wx : World) : Prop :=
  a = .bool (befB hs i k) ∧ e1 = errV (befErr hs i k) ∧ b = .bool (befB hs k j) ∧ e2 = errV (befErr hs k j) ∧ c = .bool (befB hs i j) ∧ e3 = errV (befErr hs i j) ∧ d = .bool (befB hs k i) ∧ e4 = errV (befErr hs k i) ∧ s = .bool (befB hs i i) ∧ e5 = errV (befErr hs i i) ∧ Own w emp wx
end Go.Proofs.YtpafhfnimncklaaGreatDoor
/- moottop's own first check: of two events that are one message, the first is ahead. -/
namespace Go.Proofs.YtpafhfnimncklaaGreatDoor
set_option linter.unusedVariables false
set_option linter.unusedSimpArgs false
open Go.RowKit
def oneT : List Ev := [(0, 2, 1), (1, 3, 1)]
theorem oneT1 : befB oneT 0 1 = true := by decide +kernel
theorem oneT2 : befErr oneT 0 1 = 0 := by decide +kernel
def oneTO : Obj := .cells #[.int .i64 0, .int .i64 2, .int .i64 1, .int .i64 1, .int .i64 3, .int .i64 1] 40 (0, 0)
set_option maxRecDepth 100000 in
set_option maxHeartbeats 4000000 in
theorem one_any {w0 w : World} {R : HProp} (h : Own w0 R w) :
    Calls Tryz.prog 4 #[] w fun e w' => e = .returned (.bool true) ∧ Own w0 R w' := by
  obtain ⟨b1, hb_b1⟩ : ∃ zz_, zz_ = (w).heap.size := ⟨_, rfl⟩
  obtain ⟨w1, hw_w1⟩ : ∃ zz_, zz_ = (w).alloc (oneTO) := ⟨_, rfl⟩
  have h_HO1 := (h).alloc (oneTO)
  rw [← hb_b1, ← hw_w1] at h_HO1
  have HO1 := Lib.hid h_HO1
  clear h_HO1
  have HL1 : Hid (ReadsE w0 (blk b1 oneTO * R) (.slice (some ⟨b1, 0, none⟩) 2 2) oneT) := Lib.hid (Own.evs_lit _ oneT 2 rfl rfl (by intro e he; simp [oneT] at he; rcases he with rfl | rfl <;> (unfold goodEv I64; simp)) (by omega))
  obtain ⟨oo, hoo⟩ : ∃ oo, oo = oneTO := ⟨_, rfl⟩
  rw [← hoo] at HO1 HL1
  unfold oneTO at hoo
  have HOO := hoo
  rw [show oneTO = oo from by rw [hoo]; rfl] at hw_w1
  have H := Lib.hid h
  clear h
  go_enter Tryz.func4, Tryz.ntmps4
  go_upto_region 2 with fail
  rw [← HOO]
  rw [← hb_b1, ← hw_w1]
  clear hb_b1 hw_w1
  clear HOO hoo
  go_wp2_with fail
  refine (hBefore_any _ oneT 0 1 (by unfold I64; omega) (by unfold I64; omega) HO1.out HL1.out).mono ?_
  rintro e w2 ⟨rfl, ho⟩
  rw [oneT1, oneT2, errV0]
  have HO2 := Lib.hid ho.drop
  clear ho HO1 HL1
  go_wp2
  go_ret
  exact ⟨rfl, HO2.out⟩
end Go.Proofs.YtpafhfnimncklaaGreatDoor
/- Package log: Crash. -/
namespace Go.Proofs.YtpafhfnimncklaaGreatDoor
set_option linter.unusedVariables false
set_option linter.unusedSimpArgs false
open Go.RowKit
theorem Own.lg_cutH {w0 w : World} {p : Nat} {ad : Option Addr} {n cap k : Nat} {s : Lg} {R : HProp} (hk : k ≤ s.h.length) (hn : n = s.h.length) (h : Own w0 (LgO p (.slice ad n cap) s * R) w) :
    Own w0 (LgO p (.slice ad k cap) { s with h := s.h.take k } * R) (w.setCell ⟨p, 0, none⟩ (.slice ad k cap)) := by
  have h1 := h.perm (show _ = EvSl (.slice ad n cap) s.h * (blk p (.cells #[.slice ad n cap, .string (strL s.bs), .int .i64 (s.safe : Nat), .int .i64 s.left, .bool s.st] 85 (0, 0)) * R) by unfold LgO; ac_rfl)
  have h2 : Own w0 (EvSl (.slice ad k cap) (s.h.take k) * (blk p (.cells #[.slice ad n cap, .string (strL s.bs), .int .i64 (s.safe : Nat), .int .i64 s.left, .bool s.st] 85 (0, 0)) * R)) w := by
    have hlen : (s.h.take k).length = k := by rw [List.length_take]; omega
    refine Own.cons h1 fun x hx => ?_
    rcases hx with ⟨e, h2, h3, h4⟩ | ⟨b, off, cp, cs, e, h2, h3, h4, h5, h6, h7⟩
    · left
      cases e
      have hk0 : k = 0 := by omega
      subst hk0
      exact ⟨rfl, by rw [hlen], by simp, h4⟩
    · right
      cases e
      refine ⟨b, off, cap, cs, by rw [hlen], by omega, h3, ?_, h5, fun i hi => ?_, h7⟩
      · rw [cells_len evCells 3 (fun _ => rfl), hlen]
      · have hi2 : i < (s.h.flatMap evCells).length := by
          rw [cells_len evCells 3 (fun _ => rfl), hlen] at hi
          rw [cells_len evCells 3 (fun _ => rfl)]; omega
        rw [h6 i hi2]
        have e2 : s.h.flatMap evCells = (s.h.take k).flatMap evCells ++ (s.h.drop k).flatMap evCells := by rw [← List.flatMap_append, List.take_append_drop]
        rw [e2, List.getElem?_append_left hi]
  have h3 := (h2.perm (star_left_comm _ _ _)).setCell (i := 0) (v := .slice ad k cap)
  refine h3.perm ?_
  unfold LgO
  rw [show (#[.slice ad n cap, .string (strL s.bs), .int .i64 (s.safe : Nat), .int .i64 s.left, .bool s.st] : Array Value).setIfInBounds 0 (.slice ad k cap) = #[.slice ad k cap, .string (strL s.bs), .int .i64 (s.safe : Nat), .int .i64 s.left, .bool s.st] by simp [Array.setIfInBounds]]
  ac_rfl
theorem ev_size (w : World) : (sizeOf 40).run Tryz.prog w = .ok 3 w := Tryz.sizeOf40 w
theorem cut_ev {ad : Option Addr} {n cap k : Nat} (hk : k ≤ cap) (w : World) : (Instr.sliceAt 34 (.slice ad n cap) none (some (.int .i64 (k : Int))) none).run Tryz.prog w = .ok (.slice ad k cap) w := by
  have he : ∀ a : Addr, a.add 0 = a := fun a => by simp [Addr.add]
  have h2 : (if cap = 0 then ad else ad.map (·.add (0 * 3))) = ad := by
    split
    · rfl
    · cases ad with
      | none => rfl
      | some a => simp [he]
  simp [Instr.sliceAt, Instr.slice, Instr.sliceBounds, Instr.sliceBound, asIntOf, run_underlying Tryz.underlying34, ev_size, hk, Result.andThen]
  cases ad with
  | none => simp
  | some a => simp [he]
set_option maxRecDepth 100000 in
set_option maxHeartbeats 4000000 in
theorem lgCrash_any {w0 w : World} {R : HProp} (p : Nat) (s : Lg) (keep : Int) (hI : LgI s) (h : Own w0 (LgP p s * R) w) :
    Calls Tryz.prog 12 #[.pointer (some ⟨p, 0, none⟩), .int .i64 keep] w fun e w' => e = .returned (.tuple #[]) ∧ Own w0 (LgP p (lgCrash s keep) * R) w' := by
  obtain ⟨hv, ho⟩ := h.lg_open
  obtain ⟨ad, n, cap, rfl, hnc, hn⟩ : ∃ ad n cap, hv = .slice ad n cap ∧ n ≤ cap ∧ n = s.h.length := by
    obtain ⟨ad, cp, e, h1, _⟩ := Own.rd (show Own w0 (Sl 40 3 hv s.h.length (s.h.flatMap evCells) * _) w from (ho.perm (show _ = EvSl hv s.h * (blk p (.cells #[hv, .string (strL s.bs), .int .i64 (s.safe : Nat), .int .i64 s.left, .bool s.st] 85 (0, 0)) * R) by unfold LgO; ac_rfl)))
    exact ⟨ad, _, cp, e, h1, rfl⟩
  obtain ⟨c0, c1, c2, c3, c4, cf⟩ := ho.lg_facts
  have hbl := hI.len
  have hsf := hI.safe
  obtain ⟨hhi1, hhi2⟩ := lgHigh_le hI keep
  obtain ⟨hlast, htk⟩ := lg_last hI keep
  have hlines := lg_lines keep hI
  obtain ⟨hcut, _, _, _, hA, _⟩ := lg_cut hI keep
  have hhd : lgHigh s keep = s.safe + (if keep ≤ 0 then 0 else if keep ≤ ((s.bs.length : Nat) : Int) - s.safe then keep.toNat else s.bs.length - s.safe) := rfl
  obtain ⟨N, hN⟩ : ∃ x, x = s.bs.length := ⟨_, rfl⟩
  obtain ⟨F, hF⟩ : ∃ x, x = s.safe := ⟨_, rfl⟩
  obtain ⟨M, hM⟩ : ∃ x, x = lgHigh s keep := ⟨_, rfl⟩
  obtain ⟨k, hk⟩ : ∃ x, x = lgCut s keep := ⟨_, rfl⟩
  obtain ⟨C, hC⟩ : ∃ x, x = (lgCrash s keep).bs := ⟨_, rfl⟩
  have hCe : C = encH (s.h.take k) := by rw [hC, hk]; rfl
  have hCr : lgCrash s keep = ⟨s.h.take k, C, C.length, -1, false⟩ := by rw [hCe, hk]; rfl
  rw [← hk, ← hM] at hA
  rw [← hCe] at hA
  rw [← hM, ← hC] at hlast htk
  rw [← hC, ← hk] at hlines
  rw [← hk] at hcut
  rw [← hM, ← hN, ← hF] at hhd
  rw [← hN] at hbl hsf hhi2
  rw [← hF] at hsf hhi1 c2
  rw [← hM] at hhi1 hhi2
  have hsz := strL_size s.bs
  have hszC := strL_size C
  have hsl1 : ∀ w : World, (Instr.slice 9 (.string (strL s.bs)) none (some (.int .i64 (M : Int))) none).run Tryz.prog w = .ok (.string (strL (s.bs.take M))) w := fun w => by
    rw [run_slice_string_h w 9 (strL s.bs) Tryz.underlying9 .i64 _ (by omega) (by rw [hsz]; omega), Int.toNat_natCast, strL_take]
  have hsz2 := strL_size (s.bs.take M)
  rw [List.length_take] at hsz2
  have hsl2 : ∀ w : World, (Instr.slice 9 (.string (strL (s.bs.take M))) none (some (.int .i64 (C.length : Int))) none).run Tryz.prog w = .ok (.string (strL C)) w := fun w => by
    rw [run_slice_string_h w 9 (strL (s.bs.take M)) Tryz.underlying9 .i64 _ (by omega) (by rw [hsz2]; omega), Int.toNat_natCast, strL_take, htk]
  have HLI : Hid (∀ w, Calls Tryz.prog 35 #[.string (strL (s.bs.take M)), .string ⟨#[10]⟩] w fun e w' => e = .returned (.int .i64 ((C.length : Int) - 1)) ∧ w = w') := Lib.hid (fun w => by
    have h1 := stLast (strL (s.bs.take M)) (by rw [hsz2]; omega) w
    rw [show Lib.lastIndexByte (strL (s.bs.take M)) 10 = (C.length : Int) - 1 from hlast] at h1
    exact h1)
  have HCT : Hid (∀ w, Calls Tryz.prog 36 #[.string (strL C), .string ⟨#[10]⟩] w fun e w' => e = .returned (.int .i64 (k : Int)) ∧ w = w') := Lib.hid (fun w => by
    have h1 := stCount (strL C) w
    rw [show (strL C).data.toList = C from by simp [strL], hlines] at h1
    exact h1)
  have hM2 : (F : Int) + max 0 (min keep ((N : Int) - (F : Int))) = (M : Int) := by
    rw [hhd, Int.max_def, Int.min_def]
    split <;> split <;> (split <;> omega)
  have hw1 : IntKind.i64.wrap ((N : Int) - (F : Int)) = (N : Int) - (F : Int) := IntWalk.i64_in _ (by omega)
  have hw2 : IntKind.i64.wrap ((F : Int) + max 0 (min keep ((N : Int) - (F : Int)))) = (M : Int) := by rw [hM2]; exact IntWalk.i64_in _ (by omega)
  have hw3 : IntKind.i64.wrap (M : Int) = (M : Int) := IntWalk.i64_in _ (by omega)
  have hx1 : (strL s.bs).extract 0 M = strL (s.bs.take M) := strL_take _ _
  have hx2 : (strL (s.bs.take M)).extract 0 C.length = strL C := by rw [strL_take, htk]
  have HO := Lib.hid ho
  obtain ⟨B, hB⟩ : ∃ x, x = strL s.bs := ⟨_, rfl⟩
  obtain ⟨B2, hB2⟩ : ∃ x, x = strL (s.bs.take M) := ⟨_, rfl⟩
  obtain ⟨B3, hB3⟩ : ∃ x, x = strL C := ⟨_, rfl⟩
  obtain ⟨LC, hLC⟩ : ∃ x, x = C.length := ⟨_, rfl⟩
  rw [← hB] at c1 hsl1 hsz hx1
  rw [← hN] at hsz
  rw [← hB2] at hsl1 hsl2 HLI hsz2 hx1 hx2
  rw [← hB3] at hsl2 HCT hszC hx2
  rw [← hLC] at hsl2 HLI hA hszC hx2
  have hszM : B2.size = M := by rw [hsz2, ← hN]; omega
  clear hB2 hsz2 htk hlast hlines hhd
  have HB := Lib.hid hB; have HB3 := Lib.hid hB3
  clear hB hB3
  have HN' := Lib.hid hn
  have H := Lib.hid h; have HI := Lib.hid hI; have HN := Lib.hid hN; have HF := Lib.hid hF; have HM := Lib.hid hM; have HK := Lib.hid hk; have HC := Lib.hid hC; have HCE := Lib.hid hCe; have HCR := Lib.hid hCr; have HLC := Lib.hid hLC; have HO := Lib.hid ho
  clear h hI hN hF hM hk hC hCe hCr hLC ho
  go_enter Tryz.func12, Tryz.ntmps12
  go_upto_region 0 with fail
  refine wp_region_planH 23 [] [(true, 0), (true, 1), (true, 2), (true, 3), (true, 4), (true, 5), (true, 6), (true, 7), (true, 8), (true, 9), (true, 10), (true, 11), (true, 12), (true, 13), (true, 14), (true, 15), (true, 16), (true, 17), (true, 18), (false, 19), (false, 20), (true, 21), (true, 22)] [23] (fun wS => wS = w.drew) (by kernel_rfl) (by kernel_rfl) (rfl) ?_
  simp only [pickH, pick, List.getElem?_cons_succ, List.getElem?_cons_zero, Option.toList, Option.map_some, List.cons_append, List.nil_append]
  repeat (refine wpPure_step ?_ rfl ?_ ?_; rotate_left; (focus (intro _; first | with_reducible rfl | (go_simp; done) | (go_simp; with_reducible rfl) | rfl)); go_simp)
  refine wpPure_nil ?_
  repeat (refine wpMix_read ?_ rfl ?_ ?_; rotate_left; (focus (intro _ hS; obtain rfl := hS; first | with_reducible rfl | (go_simp; done) | (go_simp; with_reducible rfl) | rfl)); go_simp)
  refine wpMix_write (fun K hK => ?_)
  go_simp
  refine hK _ _ ⟨rfl, ?_⟩
  clear hK K
  go_simp
  refine wpMix_write (fun K hK => ?_)
  go_simp
  refine hK _ _ ⟨rfl, ?_⟩
  clear hK K
  go_simp
  repeat (refine wpMix_read ?_ rfl ?_ ?_; rotate_left; (focus (intro _ hS; obtain rfl := hS; first | with_reducible rfl | (go_simp; done) | (go_simp; with_reducible rfl) | rfl)); go_simp)
  refine wpMix_nil ?_
  go_wp2_with fail
  refine NoPanic.normal ?_
  go_wp2_with fail
  refine (HLI.out _).mono ?_
  rintro e w' ⟨rfl, rfl⟩
  go_wp2_with fail
  obtain ⟨wa, hwa⟩ : ∃ x, x = w.drew := ⟨_, rfl⟩
  have HOA : Hid (Own w0 (LgO p (.slice ad n cap) s * R) wa) := Lib.hid (by rw [hwa]; exact HO.out.drew)
  rw [← hwa]
  clear hwa HO c0 c1 c2 c3 c4 cf
  have hkc : k ≤ cap := by have := HN'.out; omega
  have hcut2 := fun w => cut_ev (ad := ad) (n := n) hkc w
  obtain ⟨c0, _, _, _, _, cf⟩ := HOA.out.lg_facts
  refine wp_region_planH 10 [] [(true, 0), (true, 1), (true, 2), (true, 3), (true, 4), (true, 5), (false, 6), (true, 7), (true, 8), (true, 9)] [10] (fun wS => wS = wa.drew) (by kernel_rfl) (by kernel_rfl) (rfl) ?_
  simp only [pickH, pick, List.getElem?_cons_succ, List.getElem?_cons_zero, Option.toList, Option.map_some, List.cons_append, List.nil_append]
  repeat (refine wpPure_step ?_ rfl ?_ ?_; rotate_left; (focus (intro _; first | with_reducible rfl | (go_simp; done) | (go_simp; with_reducible rfl) | rfl)); go_simp)
  refine wpPure_nil ?_
  repeat (refine wpMix_read ?_ rfl ?_ ?_; rotate_left; (focus (intro _ hS; obtain rfl := hS; first | with_reducible rfl | (go_simp; done) | (go_simp; with_reducible rfl) | rfl)); go_simp)
  refine wpMix_write (fun K hK => ?_)
  go_simp
  refine (HCT.out _).mono ?_
  rintro e w' ⟨rfl, rfl⟩
  refine hK _ _ ⟨rfl, ?_⟩
  clear hK K
  go_simp
  repeat (refine wpMix_read ?_ rfl ?_ ?_; rotate_left; (focus (intro _ hS; obtain rfl := hS; first | with_reducible rfl | (go_simp; done) | (go_simp; with_reducible rfl) | rfl)); go_simp)
  refine wpMix_nil ?_
  go_wp2_with fail
  refine NoPanic.normal ?_
  have ho7 := (HOA.out.lg_cutH (k := k) hcut HN'.out).drew
  obtain ⟨w7, hw7⟩ : ∃ x, x = (wa.setCell ⟨p, 0, none⟩ (.slice ad k cap)).drew := ⟨_, rfl⟩
  rw [← hw7] at ho7 ⊢
  clear hw7 c0 cf HOA
  have e1 := ho7.lg_set (s' := { ({ s with h := s.h.take k } : Lg) with bs := C }) 1 (.string (strL C)) rfl rfl (by simp [Array.setIfInBounds])
  obtain ⟨_, _, _, _, _, f1⟩ := ho7.lg_facts
  obtain ⟨w8, hw8⟩ : ∃ x, x = w7.setCell ⟨p, 1, none⟩ (.string (strL C)) := ⟨_, rfl⟩
  rw [← hw8] at e1
  have e2 := e1.lg_set (s' := { ({ ({ s with h := s.h.take k } : Lg) with bs := C } : Lg) with safe := C.length }) 2 (.int .i64 (C.length : Nat)) rfl rfl (by simp [Array.setIfInBounds])
  obtain ⟨w9, hw9⟩ : ∃ x, x = w8.setCell ⟨p, 2, none⟩ (.int .i64 (C.length : Nat)) := ⟨_, rfl⟩
  rw [← hw9] at e2
  have e3 := e2.lg_set (s' := { ({ ({ ({ s with h := s.h.take k } : Lg) with bs := C } : Lg) with safe := C.length } : Lg) with left := -1 }) 3 (.int .i64 (-1)) rfl rfl (by simp [Array.setIfInBounds])
  obtain ⟨wb, hwb⟩ : ∃ x, x = w9.setCell ⟨p, 3, none⟩ (.int .i64 (-1)) := ⟨_, rfl⟩
  rw [← hwb] at e3
  have e4 := e3.lg_set (s' := ⟨s.h.take k, C, C.length, -1, false⟩) 4 (.bool false) rfl rfl (by simp [Array.setIfInBounds])
  rw [← HCR.out] at e4
  have HF := Lib.hid (Own.lg_close e4)
  obtain ⟨g0, g1, g2, g3, g4, gf⟩ := ho7.lg_facts
  subst hw8
  subst hw9
  subst hwb
  rw [← HB3.out, ← HLC.out] at HF
  clear e1 e2 e3 e4 ho7 f1
  go_wp2
  go_end0
  exact ⟨rfl, HF.out⟩
end Go.Proofs.YtpafhfnimncklaaGreatDoor
/- Package log: Faces. -/
namespace Go.Proofs.YtpafhfnimncklaaGreatDoor
set_option linter.unusedVariables false
set_option linter.unusedSimpArgs false
open Go.RowKit
set_option maxRecDepth 100000 in
set_option maxHeartbeats 4000000 in
theorem lgFaces_any {w0 w : World} {R : HProp} (p : Nat) (s : Lg) (hI : LgI s) (h : Own w0 (LgP p s * R) w) :
    Calls Tryz.prog 13 #[.pointer (some ⟨p, 0, none⟩)] w fun e w' => e = .returned (.tuple #[.agg #[.bool (facesF s.h), .bool (facesC s.h), .bool (facesT s.h)], errV (facesErr s.h)]) ∧ Own w0 (LgP p s * R) w' := by
  obtain ⟨hv, ho⟩ := h.lg_open
  obtain ⟨fb, hb_fb⟩ : ∃ zz_, zz_ = (w).heap.size := ⟨_, rfl⟩
  obtain ⟨w1, hw_w1⟩ : ∃ zz_, zz_ = (w).alloc (.cells #[.bool false, .bool false, .bool false] 44 (0, 0)) := ⟨_, rfl⟩
  have h_H1 := (ho).alloc (.cells #[.bool false, .bool false, .bool false] 44 (0, 0))
  rw [← hb_fb, ← hw_w1] at h_H1
  have H1 := Lib.hid h_H1
  clear h_H1
  have H2 : Hid (Own w0 (FaO fb false false false * (LgO p hv s * R)) w1) := Lib.hid H1.out
  obtain ⟨c0, _⟩ := H2.out.drop.lg_facts
  have HE : Hid (ReadsE w0 (FaO fb false false false * (LgO p hv s * R)) hv s.h) := Lib.hid (fun wq hq => hq.drop.lg_evs hI.hr)
  clear ho H1
  have H := Lib.hid h; have HI := Lib.hid hI
  clear h hI
  obtain ⟨V, hV⟩ : ∃ x, x = errV (facesErr s.h) := ⟨_, rfl⟩
  go_enter Tryz.func13, Tryz.ntmps13
  go_upto_region 1 with fail
  rw [← hb_fb, ← hw_w1]
  clear hb_fb hw_w1
  go_wp2_with fail
  refine (facesOf_any hv s.h H2.out HE.out).mono ?_
  rintro e w2 ⟨rfl, ho⟩
  rw [← hV]
  have HV := Lib.hid hV
  clear hV
  obtain ⟨g0, g1, g2, g4⟩ := ho.fa
  have hst := ((ho.fa0 (facesF s.h)).fa1 (facesC s.h)).fa2 (facesT s.h)
  obtain ⟨p0, p1, p2, _⟩ := hst.fa
  have HO3 := Lib.hid hst.drop
  clear hst ho c0
  go_wp2_with fail
  exact bodyPost_ret (v := .tuple #[.agg #[.bool (facesF s.h), .bool (facesC s.h), .bool (facesT s.h)], errV (facesErr s.h)]) (by rw [← HV.out]; simp [results, Tryz.results13, go_sem, p0, p1, p2]) rfl ⟨rfl, Own.lg_close HO3.out⟩
end Go.Proofs.YtpafhfnimncklaaGreatDoor
/- mootsame.Events of two that are the same. -/
namespace Go.Proofs.YtpafhfnimncklaaGreatDoor
set_option linter.unusedVariables false
set_option linter.unusedSimpArgs false
open Go.RowKit
set_option maxRecDepth 100000 in
set_option maxHeartbeats 4000000 in
theorem sameEv_any {w : World} (va vb : Value) (l : List Ev) (ha : Evs w va l) (hb : Evs w vb l) :
    Calls Tryz.prog 15 #[va, vb] w fun e w' => e = .returned (.bool true) ∧ ∃ n, w' = w.drewN n := by
  obtain ⟨ad, cap, rfl, hac, hacap⟩ := ha.shape
  obtain ⟨bd, bcap, rfl, hbc, hbcap⟩ := hb.shape
  obtain ⟨n, hn⟩ : ∃ n, n = l.length := ⟨_, rfl⟩
  rw [← hn] at ha hb hac hbc ⊢
  have hl' : ((n : Int) != (n : Int)) = false := by rw [bne_eq_false_iff_eq]
  have HRA := Lib.hid (ha.reads (R := emp))
  have HRB := Lib.hid (hb.reads (R := emp))
  have HA := Lib.hid ha; have HB := Lib.hid hb; have HN := Lib.hid hn
  clear ha hb hn
  go_enter Tryz.func15, Tryz.ntmps15
  go_wp2_with fail
  go_loopw [5] (fun iv wr => ∃ k : Nat, k ≤ n ∧ iv = .int .i64 k ∧ Hid (∃ j, wr = w.drewN j)) (fun iv _ => n - (intOf iv).toNat)
  case atStart => exact ⟨0, Nat.zero_le _, rfl, Lib.hid ⟨0, rfl⟩⟩
  case round =>
    obtain ⟨k, hk, rfl, hp⟩ := hrel
    obtain ⟨j, rfl⟩ := hp.out
    by_cases hlt : k < n
    rotate_left
    · have hkn : k = n := by omega
      subst hkn
      go_wp2
      go_ret
      exact ⟨rfl, _, rfl⟩
    obtain ⟨a, eb, eo, es, rfl, e1, hc, _⟩ := HRA.out.at (Own.start w) k (by rw [← HN.out]; exact hlt)
    obtain ⟨a', eb', eo', es', rfl, e1', hc', _⟩ := HRB.out.at (Own.start w) k (by rw [← HN.out]; exact hlt)
    obtain ⟨x, hx⟩ : ∃ x, x = evAt l k := ⟨_, rfl⟩
    rw [← hx] at hc hc'
    obtain ⟨c0, c1, c2⟩ := hc _ (Own.start w)
    obtain ⟨c0', c1', c2'⟩ := hc' _ (Own.start w)
    clear hc hc'
    have HX := Lib.hid hx
    clear hx
    go_wp2_with fail
    go_quiet (fail)
    go_wp2
    go_roundw
    case rel => exact ⟨k + 1, by omega, by go_num, Lib.hid ⟨_, rfl⟩⟩
    case measure => simp [intOf]; omega
end Go.Proofs.YtpafhfnimncklaaGreatDoor
