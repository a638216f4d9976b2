/- AgreePlays: one step of the law. -/
import Derived.Test.YtpgonkecicmanaaDoorMAgreePlays14
import Derived.Test.YtpgonkecicmanaaDoorMAgreePlays15
import Derived.Test.YtpgonkecicmanaaDoorRows
import Derived.ChangeSame
import Derived.ChangeVars
import Derived.JoinedOf
import Derived.LaidLaws
import Derived.LaidHandle
import Derived.Stop.Joined
namespace Go.Proofs.YtpgonkecicmanaaDoor
set_option linter.unusedVariables false
set_option linter.unusedSimpArgs false
open Go.RowKit Go.Maps
theorem RgIs.say {cs : Array Value} {rows : List (Value × List Int)} {g : Ag} (he : RgIs cs rows g) {v : Nat} (hv : v < 31) (hE : agSayErr g (v : Int) = 0) : RgIs (cs.setIfInBounds (1 + v) (.bool true)) rows (agSay g (v : Int)) := by
  have hget : ∀ j : Int, agGet (agSay g (v : Int)) j = agGet g j := fun j => by unfold agGet; rw [agSay_mem]
  refine ⟨(he.1.setWas hv).congr _ ?_ (fun w _ => ?_) (fun w k _ _ => ?_) (fun w k _ _ => ?_) (fun w k _ _ => ?_) (fun k _ => ?_), ?_⟩
  · show g.mem.length = (agSay g (v : Int)).mem.length
    rw [agSay_mem]
  · show (if w = v then true else agSaid g (w : Int)) = agSaid (agSay g (v : Int)) (w : Int)
    unfold agSaid agSay
    rw [if_pos hE]
    show _ = (mget (mput g.given (v : Int) []) (w : Int)).isSome
    rw [mget_mput]
    by_cases e : w = v
    · subst e; rw [if_pos rfl, if_pos rfl]; rfl
    · rw [if_neg e, if_neg (by omega)]
  · show rgSt g _ _ = rgSt _ _ _
    unfold rgSt; rw [agSay_gv]
  · show rgHas g _ _ = rgHas _ _ _
    unfold rgHas; rw [agSay_gv]
  · show decide _ = decide _
    rw [hget]
  · show (agGet g _).n = (agGet _ _).n
    rw [hget]
  · rw [he.2]
    exact List.map_congr_left fun j _ => by rw [hget]
theorem agSayErr_cases (g : Ag) (z : Int) : (isWord z = false ∧ agSayErr g z = 1) ∨ (isWord z = true ∧ agSaid g z = true ∧ agSayErr g z = 7) ∨ (isWord z = true ∧ agSaid g z = false ∧ agSayErr g z = 0) := by
  unfold agSayErr agSaid
  cases h : isWord z
  · exact .inl ⟨rfl, by simp⟩
  · cases h2 : (mget g.given z).isSome
    · exact .inr (.inr ⟨rfl, rfl, by simp⟩)
    · exact .inr (.inl ⟨rfl, rfl, by simp⟩)
theorem same_nat' (n : Nat) : ((n : Int) == (n : Int)) = true := by simp
theorem agSetOut_I64 {n : Nat} {g : Ag} (hN : AgN n g) (y z : Int) : ∀ x ∈ agSetOut g y z, I64 x := by
  intro x hx
  unfold agSetOut at hx
  by_cases he : agSetErr g y z = 0
  · rw [if_pos he] at hx
    obtain ⟨⟨h0, h1⟩, _, _⟩ := agChk0 (agSetErr0 he).1
    obtain ⟨k, rfl⟩ : ∃ k : Nat, y = (k : Int) := ⟨y.toNat, by omega⟩
    have hk : k < g.mem.length := by omega
    have h := (hN.set k z).fit k (by rw [agSet_len]; omega)
    rw [agSet_with he, agWith_get hk, if_pos rfl] at h
    exact h.2 x (List.mem_append_right _ hx)
  · rw [if_neg he] at hx; cases hx
def ApC (w : World) (p q vb n k : Nat) (x y z : Int) (R : HProp) (tv : Value) (wx : World) : Prop := tv = .bool true ∧ ∃ g2, AgN n g2 ∧ AgLe g2 ((k : Int) + 1) ∧ Own w (AgP p g2 * (RgP q g2 * (Nms 42 vb [x, y, z] * R))) wx
noncomputable def apFill_code : Code := ((Tryd.f3.body.bind (findBlock 2)).getD .skip)
set_option maxRecDepth 1000000 in
set_option maxHeartbeats 4000000 in
theorem apFill {Q : Exit → Act → World → Prop} {u0 u2 u3 u4 u5 u6 u7 u8 u9 u13 u14 u15 u16 u17 u18 u19 u20 u21 u22 u23 u24 u25 u26 u27 u28 u29 u30 u31 u32 u33 u34 u35 u36 u37 u38 u39 u40 u41 u42 u43 u44 u45 u46 u47 u48 u49 u50 u51 u52 u53 u54 u55 u56 u57 u58 u59 u60 u61 u62 u63 u64 u65 u66 u67 u68 u69 u70 u71 u72 u73 u74 u75 u76 u77 u78 u79 u80 u81 u82 u83 u84 u85 u86 u87 u88 u89 u90 u91 u92 u93 u94 u95 u96 u97 u98 u99 u100 u101 u102 u103 u104 u105 u106 u107 u108 u109 u110 u111 u112 u113 u114 u115 u116 u117 u118 u119 u120 u121 u122 u123 u124 u125 u126 u127 u128 u129 u130 u131 u132 u133 u134 u135 u136 u137 u138 u139 u140 u141 u142 u143 u144 u145 u146 u147 u148 u149 u150 u151 u152 u153 u154 u155 u156 u157 u158 u159 u160 u161 u162 u163 u164 u165 u166 u167 u168 u169 u170 u171 u172 u173 u174 u175 u176 u177 u178 u179 u180 u181 u182 u183 u184 u185 u186 u187 u188 u189 u190 u191 u192 u193 u194 u195 u196 u197 u198 u199 u200 u201 u202 u203 u204 : Value} {w1 : World} (w : World) (R : HProp) (vb k : Nat) (steps : List (List Int)) (row : List Int) (a2 : Addr) (scap rcap : Nat) (rad : Option Addr) (h1 : k < steps.length) (hc1 : steps.length ≤ scap) (hc2 : scap ≤ 9223372036854775807) (HR : Hid (Ints w (.slice rad row.length rcap) row)) (HC : Hid (∀ (w1 : World) (P : HProp), Own w P w1 → w1.cell? (a2.add k) = some (.slice rad row.length rcap))) (HT : Hid (Own w (Nms 42 vb [0, 0, 0] * R) w1))
    (hK : ∀ (v12 v59 v60 v61 v62 v63 v64 v65 v66 v67 v68 v69 v70 v71 v72 v73 v74 v75 v76 v77 v78 v79 v80 : Value) (wx : World), (NmV 42 3 w vb R wx) → Q .normal ⟨List.toArray (u0 :: (.slice (some a2) steps.length scap) :: u2 :: u3 :: u4 :: u5 :: u6 :: u7 :: u8 :: u9 :: (.int .i64 (k : Int)) :: (.pointer (some ⟨vb, 0, none⟩)) :: v12 :: u13 :: u14 :: u15 :: u16 :: u17 :: u18 :: u19 :: u20 :: u21 :: u22 :: u23 :: u24 :: u25 :: u26 :: u27 :: u28 :: u29 :: u30 :: u31 :: u32 :: u33 :: u34 :: u35 :: u36 :: u37 :: u38 :: u39 :: u40 :: u41 :: u42 :: u43 :: u44 :: u45 :: u46 :: u47 :: u48 :: u49 :: u50 :: u51 :: u52 :: u53 :: u54 :: u55 :: u56 :: u57 :: u58 :: v59 :: v60 :: v61 :: v62 :: v63 :: v64 :: v65 :: v66 :: v67 :: v68 :: v69 :: v70 :: v71 :: v72 :: v73 :: v74 :: v75 :: v76 :: v77 :: v78 :: v79 :: v80 :: u81 :: u82 :: u83 :: u84 :: u85 :: u86 :: u87 :: u88 :: u89 :: u90 :: u91 :: u92 :: u93 :: u94 :: u95 :: u96 :: u97 :: u98 :: u99 :: u100 :: u101 :: u102 :: u103 :: u104 :: u105 :: u106 :: u107 :: u108 :: u109 :: u110 :: u111 :: u112 :: u113 :: u114 :: u115 :: u116 :: u117 :: u118 :: u119 :: u120 :: u121 :: u122 :: u123 :: u124 :: u125 :: u126 :: u127 :: u128 :: u129 :: u130 :: u131 :: u132 :: u133 :: u134 :: u135 :: u136 :: u137 :: u138 :: u139 :: u140 :: u141 :: u142 :: u143 :: u144 :: u145 :: u146 :: u147 :: u148 :: u149 :: u150 :: u151 :: u152 :: u153 :: u154 :: u155 :: u156 :: u157 :: u158 :: u159 :: u160 :: u161 :: u162 :: u163 :: u164 :: u165 :: u166 :: u167 :: u168 :: u169 :: u170 :: u171 :: u172 :: u173 :: u174 :: u175 :: u176 :: u177 :: u178 :: u179 :: u180 :: u181 :: u182 :: u183 :: u184 :: u185 :: u186 :: u187 :: u188 :: u189 :: u190 :: u191 :: u192 :: u193 :: u194 :: u195 :: u196 :: u197 :: u198 :: u199 :: u200 :: u201 :: u202 :: u203 :: u204 :: []), []⟩ wx) :
    Code.wp Tryd.prog apFill_code Q ⟨List.toArray (u0 :: (.slice (some a2) steps.length scap) :: u2 :: u3 :: u4 :: u5 :: u6 :: u7 :: u8 :: u9 :: (.int .i64 (k : Int)) :: (.pointer (some ⟨vb, 0, none⟩)) :: (.int .i64 0) :: u13 :: u14 :: u15 :: u16 :: u17 :: u18 :: u19 :: u20 :: u21 :: u22 :: u23 :: u24 :: u25 :: u26 :: u27 :: u28 :: u29 :: u30 :: u31 :: u32 :: u33 :: u34 :: u35 :: u36 :: u37 :: u38 :: u39 :: u40 :: u41 :: u42 :: u43 :: u44 :: u45 :: u46 :: u47 :: u48 :: u49 :: u50 :: u51 :: u52 :: u53 :: u54 :: u55 :: u56 :: u57 :: u58 :: u59 :: u60 :: u61 :: u62 :: u63 :: u64 :: u65 :: u66 :: u67 :: u68 :: u69 :: u70 :: u71 :: u72 :: u73 :: u74 :: u75 :: u76 :: u77 :: u78 :: u79 :: u80 :: u81 :: u82 :: u83 :: u84 :: u85 :: u86 :: u87 :: u88 :: u89 :: u90 :: u91 :: u92 :: u93 :: u94 :: u95 :: u96 :: u97 :: u98 :: u99 :: u100 :: u101 :: u102 :: u103 :: u104 :: u105 :: u106 :: u107 :: u108 :: u109 :: u110 :: u111 :: u112 :: u113 :: u114 :: u115 :: u116 :: u117 :: u118 :: u119 :: u120 :: u121 :: u122 :: u123 :: u124 :: u125 :: u126 :: u127 :: u128 :: u129 :: u130 :: u131 :: u132 :: u133 :: u134 :: u135 :: u136 :: u137 :: u138 :: u139 :: u140 :: u141 :: u142 :: u143 :: u144 :: u145 :: u146 :: u147 :: u148 :: u149 :: u150 :: u151 :: u152 :: u153 :: u154 :: u155 :: u156 :: u157 :: u158 :: u159 :: u160 :: u161 :: u162 :: u163 :: u164 :: u165 :: u166 :: u167 :: u168 :: u169 :: u170 :: u171 :: u172 :: u173 :: u174 :: u175 :: u176 :: u177 :: u178 :: u179 :: u180 :: u181 :: u182 :: u183 :: u184 :: u185 :: u186 :: u187 :: u188 :: u189 :: u190 :: u191 :: u192 :: u193 :: u194 :: u195 :: u196 :: u197 :: u198 :: u199 :: u200 :: u201 :: u202 :: u203 :: u204 :: []), []⟩ w1 := by
  conv => arg 2; whnf
  have HK := Lib.hid hK
  clear hK
  go_wp2_with fail
  go_loopw [12] (fun jv w2 => ∃ (j : Nat) (l : List Int), j ≤ 3 ∧ jv = .int .i64 j ∧ Hid (l.length = 3) ∧ Hid (Own w (Nms 42 vb l * R) w2)) (fun jv _ => 3 - (intOf jv).toNat)
  case atStart => exact ⟨0, [0, 0, 0], Nat.zero_le _, rfl, Lib.hid rfl, HT⟩
  case round =>
    obtain ⟨j, l, hj, rfl, hl, hpw⟩ := hrel
    have c1 := HC.out _ _ hpw.out
    have FIN := Lib.hid (show NmV 42 3 w vb R wr from ⟨l, hl.out, hpw.out⟩)
    by_cases h3 : j < row.length
    rotate_left
    · go_wp2_with fail
      apply HK.out
      exact FIN.out
    by_cases h4 : j < 3
    rotate_left
    · go_wp2_with fail
      apply HK.out
      exact FIN.out
    obtain ⟨b3, rfl, hcb⟩ := HR.out.at_later j h3
    have c2 := hcb _ _ hpw.out
    have hjl : j < l.length := by rw [hl.out]; exact h4
    have c3 := hpw.out.nms_cell j hjl
    have c4 := hpw.out.nms_free j
    have HS := Lib.hid (hpw.out.nms_set j row[j])
    have i0 : (0 : Int) ≤ (j : Int) := by omega
    have i3 : (j : Int) < 3 := by omega
    clear hcb
    go_wp2_with fail
    go_roundw
    case rel => exact ⟨j + 1, l.set j row[j], by omega, by go_num, Lib.hid (by rw [List.length_set]; exact hl.out), HS⟩
    case measure => simp [intOf]; omega
noncomputable def apSwitch_code : Code := ((Tryd.f3.body.bind (findBlock 4)).getD .skip)
set_option maxRecDepth 1000000 in
set_option maxHeartbeats 4000000 in
theorem apSwitch {Q : Exit → Act → World → Prop} {u0 u1 u2 u3 u4 u7 u8 u10 u12 u13 u14 u15 u16 u17 u18 u19 u20 u21 u22 u23 u24 u25 u26 u27 u28 u29 u30 u31 u32 u33 u34 u35 u36 u37 u38 u39 u40 u41 u42 u43 u44 u45 u46 u47 u48 u49 u50 u51 u52 u53 u54 u55 u56 u57 u58 u59 u60 u61 u62 u63 u64 u65 u66 u67 u68 u69 u70 u71 u72 u73 u74 u75 u76 u77 u78 u79 u80 u81 u83 u84 u85 u86 u87 u88 u89 u90 u91 u92 u93 u94 u95 u96 u97 u98 u99 u100 u101 u102 u103 u104 u105 u106 u107 u108 u109 u110 u111 u112 u113 u114 u115 u116 u117 u118 u119 u120 u121 u122 u123 u124 u125 u126 u127 u128 u129 u130 u131 u132 u133 u134 u135 u136 u137 u138 u139 u140 u141 u142 u143 u144 u145 u146 u147 u148 u149 u150 u151 u152 u153 u154 u155 u156 u157 u158 u159 u160 u161 u162 u163 u164 u165 u166 u167 u168 u169 u170 u171 u172 u173 u174 u175 u176 u177 u178 u179 u180 u181 u182 u183 u184 u185 u186 u187 u188 u189 u190 u191 u192 u193 u194 u195 u196 u197 u198 u199 u200 u201 u202 u203 u204 : Value} {w2 : World} (w : World) (hg : As.Handle w) (p q vb n k : Nat) (x y z : Int) (g : Ag) (R : HProp) (hk : k ≤ 150) (hn5 : n ≤ 5) (HN : Hid (AgN n g)) (HL : Hid (AgLe g (k : Int))) (HP : Hid (Own w (AgP p g * (RgP q g * (Nms 42 vb [x, y, z] * R))) w2))
    (hK : ∀ (v5 v8 v13 v14 v15 v16 v17 v18 v19 v20 v83 v84 v85 v86 v87 v88 v89 v90 v91 v92 v93 v94 v95 v96 v97 v98 v99 v100 v101 v102 v103 v104 v105 v106 v107 v108 v109 v110 v111 v112 v113 v114 v115 v116 v117 v118 v119 v120 v121 v122 v123 v124 v125 v126 v127 v128 v129 v130 v131 v132 v133 v134 v135 v136 v137 v138 v139 v140 v141 v142 v143 v144 v145 v146 v147 v148 v149 v150 v151 v152 v153 v154 v155 v156 v157 v158 v159 v160 v161 v162 v163 v164 v165 v166 v167 : Value) (wx : World), (ApC w p q vb n k x y z R v8 wx) → Q .normal ⟨List.toArray (u0 :: u1 :: u2 :: u3 :: u4 :: v5 :: (.pointer (some ⟨p, 0, none⟩)) :: u7 :: v8 :: (.pointer (some ⟨q, 0, none⟩)) :: u10 :: (.pointer (some ⟨vb, 0, none⟩)) :: u12 :: v13 :: v14 :: v15 :: v16 :: v17 :: v18 :: v19 :: v20 :: u21 :: u22 :: u23 :: u24 :: u25 :: u26 :: u27 :: u28 :: u29 :: u30 :: u31 :: u32 :: u33 :: u34 :: u35 :: u36 :: u37 :: u38 :: u39 :: u40 :: u41 :: u42 :: u43 :: u44 :: u45 :: u46 :: u47 :: u48 :: u49 :: u50 :: u51 :: u52 :: u53 :: u54 :: u55 :: u56 :: u57 :: u58 :: u59 :: u60 :: u61 :: u62 :: u63 :: u64 :: u65 :: u66 :: u67 :: u68 :: u69 :: u70 :: u71 :: u72 :: u73 :: u74 :: u75 :: u76 :: u77 :: u78 :: u79 :: u80 :: u81 :: (.int .i64 x) :: v83 :: v84 :: v85 :: v86 :: v87 :: v88 :: v89 :: v90 :: v91 :: v92 :: v93 :: v94 :: v95 :: v96 :: v97 :: v98 :: v99 :: v100 :: v101 :: v102 :: v103 :: v104 :: v105 :: v106 :: v107 :: v108 :: v109 :: v110 :: v111 :: v112 :: v113 :: v114 :: v115 :: v116 :: v117 :: v118 :: v119 :: v120 :: v121 :: v122 :: v123 :: v124 :: v125 :: v126 :: v127 :: v128 :: v129 :: v130 :: v131 :: v132 :: v133 :: v134 :: v135 :: v136 :: v137 :: v138 :: v139 :: v140 :: v141 :: v142 :: v143 :: v144 :: v145 :: v146 :: v147 :: v148 :: v149 :: v150 :: v151 :: v152 :: v153 :: v154 :: v155 :: v156 :: v157 :: v158 :: v159 :: v160 :: v161 :: v162 :: v163 :: v164 :: v165 :: v166 :: v167 :: u168 :: u169 :: u170 :: u171 :: u172 :: u173 :: u174 :: u175 :: u176 :: u177 :: u178 :: u179 :: u180 :: u181 :: u182 :: u183 :: u184 :: u185 :: u186 :: u187 :: u188 :: u189 :: u190 :: u191 :: u192 :: u193 :: u194 :: u195 :: u196 :: u197 :: u198 :: u199 :: u200 :: u201 :: u202 :: u203 :: u204 :: []), []⟩ wx) :
    Code.wp Tryd.prog apSwitch_code Q ⟨List.toArray (u0 :: u1 :: u2 :: u3 :: u4 :: (.int .i64 0) :: (.pointer (some ⟨p, 0, none⟩)) :: u7 :: u8 :: (.pointer (some ⟨q, 0, none⟩)) :: u10 :: (.pointer (some ⟨vb, 0, none⟩)) :: u12 :: u13 :: u14 :: u15 :: u16 :: u17 :: u18 :: u19 :: u20 :: u21 :: u22 :: u23 :: u24 :: u25 :: u26 :: u27 :: u28 :: u29 :: u30 :: u31 :: u32 :: u33 :: u34 :: u35 :: u36 :: u37 :: u38 :: u39 :: u40 :: u41 :: u42 :: u43 :: u44 :: u45 :: u46 :: u47 :: u48 :: u49 :: u50 :: u51 :: u52 :: u53 :: u54 :: u55 :: u56 :: u57 :: u58 :: u59 :: u60 :: u61 :: u62 :: u63 :: u64 :: u65 :: u66 :: u67 :: u68 :: u69 :: u70 :: u71 :: u72 :: u73 :: u74 :: u75 :: u76 :: u77 :: u78 :: u79 :: u80 :: u81 :: (.int .i64 x) :: u83 :: u84 :: u85 :: u86 :: u87 :: u88 :: u89 :: u90 :: u91 :: u92 :: u93 :: u94 :: u95 :: u96 :: u97 :: u98 :: u99 :: u100 :: u101 :: u102 :: u103 :: u104 :: u105 :: u106 :: u107 :: u108 :: u109 :: u110 :: u111 :: u112 :: u113 :: u114 :: u115 :: u116 :: u117 :: u118 :: u119 :: u120 :: u121 :: u122 :: u123 :: u124 :: u125 :: u126 :: u127 :: u128 :: u129 :: u130 :: u131 :: u132 :: u133 :: u134 :: u135 :: u136 :: u137 :: u138 :: u139 :: u140 :: u141 :: u142 :: u143 :: u144 :: u145 :: u146 :: u147 :: u148 :: u149 :: u150 :: u151 :: u152 :: u153 :: u154 :: u155 :: u156 :: u157 :: u158 :: u159 :: u160 :: u161 :: u162 :: u163 :: u164 :: u165 :: u166 :: u167 :: u168 :: u169 :: u170 :: u171 :: u172 :: u173 :: u174 :: u175 :: u176 :: u177 :: u178 :: u179 :: u180 :: u181 :: u182 :: u183 :: u184 :: u185 :: u186 :: u187 :: u188 :: u189 :: u190 :: u191 :: u192 :: u193 :: u194 :: u195 :: u196 :: u197 :: u198 :: u199 :: u200 :: u201 :: u202 :: u203 :: u204 :: []), []⟩ w2 := by
  conv => arg 2; whnf
  have HK := Lib.hid hK
  clear hK
  have d1 : w2.cell? ⟨vb, 1, none⟩ = some (.int .i64 y) := HP.out.third.nms_cell 1 (by simp)
  have d2 : w2.cell? ⟨vb, 2, none⟩ = some (.int .i64 z) := HP.out.third.nms_cell 2 (by simp)
  have hl5 : g.mem.length ≤ 5 := by rw [HN.out.len]; exact hn5
  have hsm := HL.out.sm HN.out.inv (by omega)
  have hinv := HN.out.inv
  have HL5 := Lib.hid hl5; have HSM := Lib.hid hsm; have HINV := Lib.hid hinv; have HG := Lib.hid hg
  clear hl5 hsm hinv hg
  by_cases h0 : x = 0
  · subst h0
    skip
    rcases agSayErr_cases g z with ⟨h1, h2⟩ | ⟨h1, h2, h3⟩ | ⟨h1, h2, h3⟩
    · have hs : agSay g z = g := by unfold agSay; rw [h2]; rfl
      have hcs : z < 1 ∨ (¬ z < 1 ∧ 30 < z) := by simp [isWord] at h1; omega
      have H1 := Lib.hid h1; have H2 := Lib.hid h2; have HS := Lib.hid hs
      clear h1 h2 hs
      rcases hcs with h4 | ⟨h4, h5⟩
      all_goals
        go_wp2_with fail
        refine (agSay_any p g z HP.out).mono ?_
        rintro e w3 ⟨rfl, ho⟩
        rw [HS.out] at ho
        rw [H2.out]
        have HO3 := Lib.hid ho
        clear ho d1 d2
        go_wp2_with fail
        refine (sameErr_any HG.out 1 1 HO3.out).mono ?_
        rintro e w4 ⟨rfl, ho⟩
        have HO4 := Lib.hid ho
        clear ho
        go_wp2_with fail
        apply HK.out
        exact ⟨rfl, g, HN.out, HL.out.mono (by omega), HO4.out⟩
    · have hs : agSay g z = g := by unfold agSay; rw [h3]; rfl
      have hwb : 1 ≤ z ∧ z ≤ 30 := by simpa [isWord] using h1
      obtain ⟨v, rfl⟩ : ∃ v : Nat, z = (v : Int) := ⟨z.toNat, by omega⟩
      have hv : v < 31 := by omega
      obtain ⟨cs, rows, he, ho⟩ := HP.out.second.rg_open
      obtain ⟨_, cw, _⟩ := ho.rg_cells he
      have c1 := cw v hv
      rw [h2] at c1
      have v0 : (0 : Int) ≤ (v : Int) := by omega
      have v31 : (v : Int) < 31 := by omega
      have v1 : ¬ (v : Int) < 1 := by omega
      have v30 : ¬ (30 : Int) < (v : Int) := by omega
      clear cw ho
      have H1 := Lib.hid h1; have H2 := Lib.hid h2; have H3 := Lib.hid h3; have HS := Lib.hid hs; have HE := Lib.hid he
      clear h1 h2 h3 hs he
      go_upto_region 25 with fail
      refine wp_region_planH 6 [] [(true, 0), (true, 1), (true, 2), (true, 3), (true, 4), (true, 5)] [6] (fun wS => wS = w2.drew) (by kernel_rfl) (by kernel_rfl) (rfl) ?_
      simp only [pickH, pick, List.getElem?_cons_succ, List.getElem?_cons_zero, Option.toList, Option.map_some, List.cons_append, List.nil_append]
      repeat (refine wpPure_step ?_ rfl ?_ ?_; rotate_left; (focus (intro _; first | with_reducible rfl | (go_simp; done) | (go_simp; with_reducible rfl) | rfl)); go_simp)
      refine wpPure_nil ?_
      repeat (refine wpMix_read ?_ rfl ?_ ?_; rotate_left; (focus (intro _ hS; obtain rfl := hS; first | with_reducible rfl | (go_simp; done) | (go_simp; with_reducible rfl) | rfl)); go_simp)
      refine wpMix_nil ?_
      go_wp2_with fail
      refine NoPanic.normal ?_
      go_wp2_with fail
      refine (agSay_any p g v HP.out.drew).mono ?_
      rintro e w3 ⟨rfl, ho⟩
      rw [HS.out] at ho
      rw [H3.out]
      have HO3 := Lib.hid ho
      clear ho d1 d2 c1
      go_wp2_with fail
      refine (sameErr_any HG.out 7 7 HO3.out).mono ?_
      rintro e w4 ⟨rfl, ho⟩
      have HO4 := Lib.hid ho
      clear ho
      go_wp2_with fail
      apply HK.out
      exact ⟨rfl, g, HN.out, HL.out.mono (by omega), HO4.out⟩
    · have hwb : 1 ≤ z ∧ z ≤ 30 := by simpa [isWord] using h1
      obtain ⟨v, rfl⟩ : ∃ v : Nat, z = (v : Int) := ⟨z.toNat, by omega⟩
      have hv : v < 31 := by omega
      obtain ⟨cs, rows, he, ho⟩ := HP.out.second.rg_open
      obtain ⟨_, cw, _, _, _, cf⟩ := ho.rg_cells he
      have c1 := cw v hv
      rw [h2] at c1
      have f1 := cf (1 + v) none
      have v0 : (0 : Int) ≤ (v : Int) := by omega
      have v31 : (v : Int) < 31 := by omega
      have v1 : ¬ (v : Int) < 1 := by omega
      have v30 : ¬ (30 : Int) < (v : Int) := by omega
      have he2 := he.say hv h3
      have ho2 : Own w (rgBlk q (cs.setIfInBounds (1 + v) (.bool true)) * (starL rowP rows * (AgP p g * (Nms 42 vb [0, y, (v : Int)] * R)))) (w2.setCell ⟨q, 1 + v, none⟩ (.bool true)).drew.drew := (Own.setCell (i := 1 + v) (v := .bool true) ho).drew.drew
      have HO2 : Hid (Own w (AgP p g * (RgP q (agSay g (v : Int)) * (Nms 42 vb [0, y, (v : Int)] * R))) (w2.setCell ⟨q, 1 + v, none⟩ (.bool true)).drew.drew) := Lib.hid (ho2.rg_close he2).second
      clear cw cf ho ho2 he2
      have H1 := Lib.hid h1; have H2 := Lib.hid h2; have H3 := Lib.hid h3; have HE := Lib.hid he
      clear h1 h2 h3 he
      go_upto_region 25 with fail
      refine wp_region_planH 6 [] [(true, 0), (true, 1), (true, 2), (true, 3), (true, 4), (true, 5)] [6] (fun wS => wS = w2.drew) (by kernel_rfl) (by kernel_rfl) (rfl) ?_
      simp only [pickH, pick, List.getElem?_cons_succ, List.getElem?_cons_zero, Option.toList, Option.map_some, List.cons_append, List.nil_append]
      repeat (refine wpPure_step ?_ rfl ?_ ?_; rotate_left; (focus (intro _; first | with_reducible rfl | (go_simp; done) | (go_simp; with_reducible rfl) | rfl)); go_simp)
      refine wpPure_nil ?_
      repeat (refine wpMix_read ?_ rfl ?_ ?_; rotate_left; (focus (intro _ hS; obtain rfl := hS; first | with_reducible rfl | (go_simp; done) | (go_simp; with_reducible rfl) | rfl)); go_simp)
      refine wpMix_nil ?_
      go_wp2_with fail
      refine NoPanic.normal ?_
      go_upto_region 27 with fail
      refine wp_region_tail 6 (by kernel_rfl) (by kernel_rfl) ?_
      simp only [List.take_succ_cons, List.take_zero, List.drop_succ_cons, List.drop_zero]
      repeat still_step
      refine wpStill_nil ?_
      go_upto_region 28 with fail
      obtain ⟨w3, hw3⟩ : ∃ x, x = (w2.setCell ⟨q, 1 + v, none⟩ (.bool true)).drew.drew := ⟨_, rfl⟩
      rw [← hw3] at HO2 ⊢
      clear hw3 d1 d2 c1 f1
      have d2 : w3.cell? ⟨vb, 2, none⟩ = some (.int .i64 (v : Int)) := HO2.out.third.nms_cell 2 (by simp)
      go_wp2_with fail
      refine (agSay_any p g v HO2.out).mono ?_
      rintro e w4 ⟨rfl, ho⟩
      rw [H3.out]
      have HO4 := Lib.hid ho
      clear ho d2
      go_wp2_with fail
      refine (sameErr_any HG.out 0 0 HO4.out).mono ?_
      rintro e w5 ⟨rfl, ho⟩
      have HO5 := Lib.hid ho
      clear ho
      go_wp2_with fail
      apply HK.out
      exact ⟨rfl, agSay g v, HN.out.say v, (HL.out.say v).mono (by omega), HO5.out⟩
  have t0 : (x == 0) = false := by rw [beq_eq_false_iff_ne]; exact h0
  by_cases h123 : x = 1 ∨ x = 2 ∨ x = 3
  · obtain ⟨E, hE⟩ : ∃ E, E = agPropErr g y z := ⟨_, rfl⟩
    obtain ⟨st, hst⟩ : ∃ s, s = agPropSt g y z := ⟨_, rfl⟩
    obtain ⟨sa, sb⟩ := st
    have tE := same_nat' E
    have HE := Lib.hid hE; have HST := Lib.hid hst
    clear hE hst
    rcases h123 with rfl | rfl | rfl
    all_goals
      clear h0 t0
      go_wp2_with fail
      refine (rgPropose_any q g y z HINV.out HSM.out HL5.out HP.out.second).mono ?_
      rintro e w3 ⟨rfl, ho⟩
      unfold rgTup
      rw [← HST.out, ← HE.out]
      dsimp only
      obtain ⟨b13, hb_b13⟩ : ∃ zz_, zz_ = (w3).heap.size := ⟨_, rfl⟩
      obtain ⟨w4, hw_w4⟩ : ∃ zz_, zz_ = (w3).alloc (.cells #[.int .i64 sa, .int .i64 sb] 32 (0, 0)) := ⟨_, rfl⟩
      have h_HB4 := (ho).alloc (.cells #[.int .i64 sa, .int .i64 sb] 32 (0, 0))
      rw [← hb_b13, ← hw_w4] at h_HB4
      have HB4 := Lib.hid h_HB4
      clear h_HB4
      have HO4 : Hid (Own w (AgP p g * (StO b13 (sa, sb) * (RgP q (agProp g y z) * (Nms 42 vb [_, y, z] * R)))) w4) := Lib.hid (HB4.out.perm (by unfold StO; ac_rfl))
      clear ho HB4 d1 d2
      have d1 : w4.cell? ⟨vb, 1, none⟩ = some (.int .i64 y) := HO4.out.fourth.nms_cell 1 (by simp)
      have d2 : w4.cell? ⟨vb, 2, none⟩ = some (.int .i64 z) := HO4.out.fourth.nms_cell 2 (by simp)
      go_upto_region 33 with fail
      rw [← hb_b13, ← hw_w4]
      clear hb_b13 hw_w4
      go_wp2_with fail
      refine (agPropose_any p g y z HINV.out HSM.out HL5.out HO4.out).mono ?_
      rintro e w5 ⟨rfl, ho⟩
      unfold stTup
      rw [← HST.out, ← HE.out]
      dsimp only
      obtain ⟨b15, hb_b15⟩ : ∃ zz_, zz_ = (w5).heap.size := ⟨_, rfl⟩
      obtain ⟨w6, hw_w6⟩ : ∃ zz_, zz_ = (w5).alloc (.cells #[.int .i64 sa, .int .i64 sb] 32 (0, 0)) := ⟨_, rfl⟩
      have h_HB6 := (ho).alloc (.cells #[.int .i64 sa, .int .i64 sb] 32 (0, 0))
      rw [← hb_b15, ← hw_w6] at h_HB6
      have HB6 := Lib.hid h_HB6
      clear h_HB6
      have HO6 : Hid (Own w (StO b15 (sa, sb) * (StO b13 (sa, sb) * (AgP p (agProp g y z) * (RgP q (agProp g y z) * (Nms 42 vb [_, y, z] * R))))) w6) := Lib.hid (HB6.out.perm (by unfold StO; ac_rfl))
      clear ho HB6 d1 d2
      go_upto_region 34 with fail
      rw [← hb_b15, ← hw_w6]
      clear hb_b15 hw_w6
      go_wp2_with fail
      refine (sameErr_any HG.out E E HO6.out).mono ?_
      rintro e w7 ⟨rfl, ho⟩
      rw [tE]
      obtain ⟨x0, x1, _⟩ := ho.sto
      obtain ⟨y0, y1, _⟩ := ho.second.sto
      simp only at x0 x1 y0 y1
      have HO7 := Lib.hid ho.drop.drop
      clear ho
      go_wp2_with fail
      apply HK.out
      exact ⟨by simp, agProp g y z, HN.out.prop y z, HL.out.prop y z, HO7.out⟩
  have t1 : (x == 1) = false := by rw [beq_eq_false_iff_ne]; omega
  have t2 : (x == 2) = false := by rw [beq_eq_false_iff_ne]; omega
  have t3 : (x == 3) = false := by rw [beq_eq_false_iff_ne]; omega
  obtain ⟨E, hE⟩ : ∃ E, E = agSetErr g y z := ⟨_, rfl⟩
  obtain ⟨O, hO⟩ : ∃ s, s = agSetOut g y z := ⟨_, rfl⟩
  have tE := same_nat' E
  have HE := Lib.hid hE; have HO := Lib.hid hO
  clear hE hO
  clear h0 h123
  go_wp2_with fail
  refine (rgSettle_any q g y z HINV.out HL5.out HP.out.second).mono ?_
  rintro e w3 ⟨v1, rfl, ho⟩
  rw [← HO.out] at ho
  rw [← HE.out]
  have HO3 : Hid (Own w (AgP p g * (IntSl v1 O * (RgP q (agSet g y z) * (Nms 42 vb [x, y, z] * R)))) w3) := Lib.hid (ho.perm (by ac_rfl))
  have HOI := Lib.hid (agSetOut_I64 HN.out y z)
  rw [← HO.out] at HOI
  clear ho d1 d2
  have d1 : w3.cell? ⟨vb, 1, none⟩ = some (.int .i64 y) := HO3.out.fourth.nms_cell 1 (by simp)
  have d2 : w3.cell? ⟨vb, 2, none⟩ = some (.int .i64 z) := HO3.out.fourth.nms_cell 2 (by simp)
  go_wp2_with fail
  refine (agSettle_any p g y z HINV.out HL5.out HO3.out).mono ?_
  rintro e w4 ⟨v2, rfl, ho⟩
  rw [← HO.out] at ho
  rw [← HE.out]
  have HO4 : Hid (Own w (IntSl v2 O * (IntSl v1 O * (AgP p (agSet g y z) * (RgP q (agSet g y z) * (Nms 42 vb [x, y, z] * R))))) w4) := Lib.hid (ho.perm (by ac_rfl))
  clear ho d1 d2
  go_wp2_with fail
  refine (sameErr_any HG.out E E HO4.out).mono ?_
  rintro e w5 ⟨rfl, ho⟩
  rw [tE]
  have HO5 := Lib.hid ho
  clear ho
  go_wp2_with fail
  refine (sameInts_any v2 v1 O O _ (IntSl_reads HOI.out _ HO5.out) (IntSl_reads HOI.out _ HO5.out.second)).mono ?_
  rintro e w' ⟨rfl, n6, rfl⟩
  rw [show (O == O) = true from beq_iff_eq.2 rfl]
  have HO6 := Lib.hid (HO5.out.drewN n6).drop.drop
  go_wp2_with fail
  apply HK.out
  exact ⟨rfl, agSet g y z, HN.out.set y z, (HL.out.set HN.out.inv y z).mono (by omega), HO6.out⟩
end Go.Proofs.YtpgonkecicmanaaDoor
/- The package-level variable errors.errorType as the rows list it: what a walk has of it; a world that meets it. (After the guide's Toyas example.) -/
namespace Go.Proofs.YtpgonkecicmanaaDoor
set_option linter.unusedVariables false
set_option linter.unusedSimpArgs false
open Go.ChangeShapes Go.WideShapes Go.RowKit
theorem errt : Tryd.prog.globalNamed "errors.errorType" = some 0 := by kernel_rfl
theorem rtt : (Tryd.prog.cutTypes.find? (·.1 == "internal/reflectlite.rtype")).map (·.2) = some 228 := by kernel_rfl
theorem oneRow : ((List.range 287).filter fun t => Tryd.prog.rowNamed t [101, 114, 114, 111, 114]) = [25] := by kernel_rfl
theorem typesSize : Tryd.prog.types.size = 287 := by kernel_rfl
def theLaid : List (String × DataW Unit) := [("errors.errorType", Rows.laid_errors_errorType)]
theorem handle_of_laid {W : World} (h : laidMetH Tryd.prog theLaid W) : As.Handle W := by
  have h' : laidMet Tryd.prog [] W ∧ handlesMet Tryd.prog theLaid W := h
  obtain ⟨name, u, ty, e1, e2, e3, e4, e5⟩ := h'.2 _ (List.mem_singleton.2 rfl)
  have en : name = [101, 114, 114, 111, 114] := (Option.some.inj e1).symm
  subst en
  obtain rfl := Option.some.inj (rtt.symm.trans e2)
  have hm : ty ∈ (List.range 287).filter fun t => Tryd.prog.rowNamed t [101, 114, 114, 111, 114] := List.mem_filter.2 ⟨List.mem_range.2 (by rw [← typesSize]; exact e3), e4⟩
  rw [oneRow] at hm
  obtain rfl := List.mem_singleton.1 hm
  have hh : typeHandle Tryd.prog 25 = .pointer (some ⟨5, 25, none⟩) := by kernel_rfl
  rw [hh] at e5
  unfold As.Handle
  simpa using World.var?_cell errt e5 0
def laidWorld (P : Program) (os : Os) : World :=
  { World.holding P os ⟨#[], #[], []⟩ with heap := (World.holding P os ⟨#[], #[], []⟩).heap.setIfInBounds 0 (.cells #[.iface 228 (.agg #[.pointer (some ⟨5, 25, none⟩)])] 205 (0, 0)) }
theorem laidWorld_met (os : Os) (args : Array Value) : laidMetH Tryd.prog theLaid ((laidWorld Tryd.prog os).forCall (fun _ _ => 0) ⟨#[], args, []⟩).memory :=
  laidMetH_of_parts (laidMet_nil _ _) (by kernel_rfl)
end Go.Proofs.YtpgonkecicmanaaDoor
/- AgreePlays: the program's group and the reference's do the same. -/
namespace Go.Proofs.YtpgonkecicmanaaDoor
set_option linter.unusedVariables false
set_option linter.unusedSimpArgs false
open Go.RowKit Go.Maps
def rg0 (n : Nat) : List Value := .int .i64 (n : Int) :: (List.replicate 31 (.bool false) ++ (List.replicate 310 (.int .i64 0) ++ (List.replicate 310 (.bool false) ++ (List.replicate 5 (.int .i64 0) ++ List.replicate 5 (.slice none 0 0)))))
theorem rg0_at (n : Nat) (i : Nat) (hi : 1 ≤ i) (h2 : i < 662) : (rg0 n).toArray[i]? = some (if i < 32 then .bool false else if i < 342 then .int .i64 0 else if i < 652 then .bool false else if i < 657 then .int .i64 0 else .slice none 0 0) := by
  rw [List.getElem?_toArray]
  unfold rg0
  obtain ⟨j, rfl⟩ : ∃ j, i = j + 1 := ⟨i - 1, by omega⟩
  rw [List.getElem?_cons_succ]
  by_cases h : j < 31
  · rw [List.getElem?_append_left (by rw [List.length_replicate]; omega), List.getElem?_replicate, if_pos h, if_pos (by omega)]
  rw [List.getElem?_append_right (by rw [List.length_replicate]; omega), List.length_replicate, if_neg (by omega)]
  by_cases h : j < 341
  · rw [List.getElem?_append_left (by rw [List.length_replicate]; omega), List.getElem?_replicate, if_pos (by omega), if_pos (by omega)]
  rw [List.getElem?_append_right (by rw [List.length_replicate]; omega), List.length_replicate, if_neg (by omega)]
  by_cases h : j < 651
  · rw [List.getElem?_append_left (by rw [List.length_replicate]; omega), List.getElem?_replicate, if_pos (by omega), if_pos (by omega)]
  rw [List.getElem?_append_right (by rw [List.length_replicate]; omega), List.length_replicate, if_neg (by omega)]
  by_cases h : j < 656
  · rw [List.getElem?_append_left (by rw [List.length_replicate]; omega), List.getElem?_replicate, if_pos (by omega), if_pos (by omega)]
  rw [List.getElem?_append_right (by rw [List.length_replicate]; omega), List.length_replicate, if_neg (by omega), List.getElem?_replicate, if_pos (by omega)]
theorem agNew_at (n : Nat) (k : Nat) : agGet (agNew n) (k : Int) = ⟨0, [], [], []⟩ := by
  unfold agGet agNew
  rw [List.getD_eq_getElem?_getD, Int.toNat_natCast, List.getElem?_replicate]
  split <;> rfl
theorem rg0_is (n : Nat) : RgIs (rg0 n).toArray (List.replicate 5 nilRow) (agNew n) := by
  refine ⟨⟨by rw [List.size_toArray]; unfold rg0; rw [List.length_cons, List.length_append, List.length_append, List.length_append, List.length_append, List.length_replicate, List.length_replicate, List.length_replicate, List.length_replicate, List.length_replicate], by rw [List.length_map, List.length_replicate], ?_, fun w hw => ?_, fun w k hw hk => ?_, fun w k hw hk => ?_, fun w k hw hk => ?_, fun w k hw hk => ?_, fun k hk => ?_, fun k hk => ?_⟩, ?_⟩
  · show _ = some (Value.int .i64 ((List.replicate n (⟨0, [], [], []⟩ : AgM)).length : Int))
    rw [List.length_replicate, List.getElem?_toArray]
    unfold rg0
    rw [List.getElem?_cons_zero]
  · rw [rg0_at n _ (by omega) (by omega), if_pos (by omega)]; rfl
  · rw [rg0_at n _ (by omega) (by omega), if_neg (by omega), if_pos (by omega)]; rfl
  · rw [rg0_at n _ (by omega) (by omega), if_neg (by omega), if_pos (by omega)]; rfl
  · rw [rg0_at n _ (by omega) (by omega), if_neg (by omega), if_neg (by omega), if_pos (by omega)]; rfl
  · rw [rg0_at n _ (by omega) (by omega), if_neg (by omega), if_neg (by omega), if_pos (by omega)]
    show _ = some (Value.bool (decide ((w : Int) ∈ (agGet (agNew n) (k : Int)).knew)))
    rw [agNew_at]; rfl
  · rw [rg0_at n _ (by omega) (by omega), if_neg (by omega), if_neg (by omega), if_neg (by omega), if_pos (by omega)]
    show _ = some (Value.int .i64 (agGet (agNew n) (k : Int)).n)
    rw [agNew_at]
  · rw [rg0_at n _ (by omega) (by omega), if_neg (by omega), if_neg (by omega), if_neg (by omega), if_neg (by omega), List.getElem?_map, List.getElem?_replicate, if_pos hk]; rfl
  · unfold agHeards
    rw [List.map_replicate]
    refine List.ext_getElem? fun j => ?_
    rw [List.getElem?_replicate, List.getElem?_map]
    by_cases hj : j < 5
    · rw [if_pos hj, List.getElem?_range hj, Option.map_some, agNew_at]; rfl
    · rw [if_neg hj, List.getElem?_eq_none (by simpa using hj)]; rfl
theorem rg_zero (n : Nat) : Tryd.zeroCells41.setIfInBounds 0 (.int .i64 (n : Int)) = (rg0 n).toArray := by kernel_rfl
theorem rows_nil (n : Nat) : starL rowP (List.replicate n nilRow) = emp := by
  induction n with
  | zero => rfl
  | succ n ih => rw [List.replicate_succ]; simp only [starL]; rw [rowP_nil, ih, emp_star]
set_option maxRecDepth 100000 in
set_option maxHeartbeats 4000000 in
theorem agreePlays_bad (w : World) (hg : As.Handle w) (n : Int) (hn : isGroup n = false) (vs : Value) :
    Calls Tryd.prog 3 #[.int .i64 n, vs] w fun e w' => e = .returned (.bool true) ∧ Below w.heap.size w w' := by
  have HW0 := Lib.hid (Own.start w)
  have hcs : n < 2 ∨ (¬ n < 2 ∧ 5 < n) := by simp [isGroup] at hn; omega
  have HG := Lib.hid hg; have HN := Lib.hid hn
  clear hg hn
  rcases hcs with h1 | ⟨h1, h2⟩
  all_goals
    go_enter Tryd.func3, Tryd.ntmps3
    go_wp2_with fail
    refine (agNew_no n _ HN.out).mono ?_
    rintro e w' ⟨rfl, rfl⟩
    go_wp2_with fail
    refine (sameErr_any HG.out 1 1 HW0.out).mono ?_
    rintro e w2 ⟨rfl, ho⟩
    have HO2 := Lib.hid ho
    clear ho
    go_wp2
    go_ret
    exact ⟨rfl, HO2.out.below⟩
set_option maxRecDepth 100000 in
set_option maxHeartbeats 4000000 in
theorem agreePlays_good (w : World) (hg : As.Handle w) (N : Nat) (hgr : isGroup (N : Int) = true) (vs : Value) (steps : List (List Int)) (hvs : Rows2 w vs steps) (n : Int) (hnN : n = (N : Int)) :
    Calls Tryd.prog 3 #[.int .i64 n, vs] w fun e w' => e = .returned (.bool true) ∧ Below w.heap.size w w' := by
  subst hnN
  obtain ⟨sad, scap, rfl, hsc1, hsc2⟩ := hvs.shape
  have HW0 := Lib.hid (Own.start w)
  have hg5 : 2 ≤ N ∧ N ≤ 5 := by simp [isGroup] at hgr; omega
  obtain ⟨hN2, hN5⟩ := hg5
  have hz := rg_zero N
  have hle : AgLe (agNew N) 0 := fun k hk => by rw [agNew_at]; exact Int.le_refl _
  have HG := Lib.hid hg; have HVS := Lib.hid hvs; have HGR := Lib.hid hgr; have HZ := Lib.hid hz; have HLE := Lib.hid hle
  clear hg hvs hgr hz hle
  go_enter Tryd.func3, Tryd.ntmps3
  go_wp2_with fail
  refine (agNew_yes N HGR.out HW0.out).mono ?_
  rintro e w1 ⟨p, rfl, ho⟩
  have HO1 := Lib.hid ho
  clear ho
  go_wp2_with fail
  refine (sameErr_any HG.out 0 0 HO1.out).mono ?_
  rintro e w2 ⟨rfl, ho⟩
  have HO2 := Lib.hid ho
  clear ho
  obtain ⟨q, hb_q⟩ : ∃ zz_, zz_ = (w2).heap.size := ⟨_, rfl⟩
  obtain ⟨w3, hw_w3⟩ : ∃ zz_, zz_ = (w2).alloc (.cells (rg0 N).toArray 41 (0, 0)) := ⟨_, rfl⟩
  have h_HB3 := (HO2.out).alloc (.cells (rg0 N).toArray 41 (0, 0))
  rw [← hb_q, ← hw_w3] at h_HB3
  have HB3 := Lib.hid h_HB3
  clear h_HB3
  have HO3 : Hid (Own w (AgP p (agNew N) * (RgP q (agNew N) * emp)) w3) := Lib.hid (by
    have h1 : Own w (rgBlk q (rg0 N).toArray * (starL rowP (List.replicate 5 nilRow) * (AgP p (agNew N) * emp))) w3 := HB3.out.perm (by rw [rows_nil, emp_star])
    exact (h1.rg_close (rg0_is N)).perm (by ac_rfl))
  clear HB3 HO2 HO1
  go_upto_region 9 with fail
  rw [HZ.out]
  rw [← hb_q, ← hw_w3]
  clear hb_q hw_w3
  clear HZ
  go_wp2_with fail
  go_loopw [10] (fun iv wr => ∃ (k : Nat) (g : Ag), k ≤ steps.length ∧ k ≤ 150 ∧ iv = .int .i64 k ∧ Hid (AgN N g ∧ AgLe g (k : Int)) ∧ Hid (Own w (AgP p g * (RgP q g * emp)) wr)) (fun iv _ => 150 - (intOf iv).toNat)
  case atStart => exact ⟨0, agNew N, Nat.zero_le _, Nat.zero_le _, rfl, Lib.hid ⟨AgN.new N, HLE.out⟩, HO3⟩
  case round =>
    clear HO3 HLE
    obtain ⟨k, g, hk, hk2, rfl, HI, HP⟩ := hrel
    by_cases h1 : k < steps.length
    rotate_left
    · go_wp2
      go_ret
      exact ⟨rfl, HP.out.below⟩
    by_cases h2 : k < 150
    rotate_left
    · go_wp2
      go_ret
      exact ⟨rfl, HP.out.below⟩
    obtain ⟨a2, rad, rcap, e2, hr, hc⟩ := HVS.out.at_later k h1
    obtain ⟨row, hrow⟩ : ∃ row, row = steps[k] := ⟨_, rfl⟩
    rw [← hrow] at hr hc
    subst e2
    obtain ⟨vb, hvb⟩ : ∃ b, b = wr.heap.size := ⟨_, rfl⟩
    have ht := HP.out.alloc (.cells #[.int .i64 0, .int .i64 0, .int .i64 0] 42)
    rw [← hvb] at ht
    have HT : Hid (Own w (Nms 42 vb [0, 0, 0] * (AgP p g * (RgP q g * emp))) (wr.alloc (.cells #[.int .i64 0, .int .i64 0, .int .i64 0] 42))) := Lib.hid ht
    have HR := Lib.hid hr; have HC := Lib.hid hc; have HROW := Lib.hid hrow
    clear hr hc hrow
    clear ht
    go_upto_block 2 with fail
    rw [← hvb]
    clear hvb
    go_cut [12] (fun jv wx => NmV 42 3 w vb (AgP p g * (RgP q g * emp)) wx)
    case first =>
      refine apFill w (AgP p g * (RgP q g * emp)) vb k steps row a2 scap rcap rad h1 hsc1 hsc2 HR HC HT ?_
      intros
      go_step
      go_step
      go_meet
      assumption
    case rest =>
    obtain ⟨x, y, z, hT⟩ := hcut.three
    have HT2 : Hid (Own w (AgP p g * (RgP q g * (Nms 42 vb [x, y, z] * emp))) wc) := Lib.hid (hT.perm (by ac_rfl))
    clear HT HP hT hcut
    have d0 : wc.cell? ⟨vb, 0, none⟩ = some (.int .i64 x) := HT2.out.third.nms_cell 0 (by simp)
    go_upto_block 4 with fail
    go_cut [8] (fun tv wx => ApC w p q vb N k x y z emp tv wx)
    case first =>
      refine apSwitch w HG.out p q vb N k x y z g emp (by omega) hN5 (Lib.hid HI.out.1) (Lib.hid HI.out.2) HT2 ?_
      intros
      go_step
      go_step
      go_meet
      assumption
    case rest =>
    obtain ⟨rfl, g2, hn2, hl2, ho2⟩ := hcut
    have HO2 := Lib.hid ho2
    clear HT2 d0 ho2 HI
    have d1 : wc.cell? ⟨vb, 1, none⟩ = some (.int .i64 y) := HO2.out.third.nms_cell 1 (by simp)
    have hfit := hn2.fit
    have hlen : g2.mem.length = N := hn2.len
    by_cases hin : 0 ≤ y ∧ y < (N : Int)
    · obtain ⟨m, rfl⟩ : ∃ m : Nat, y = (m : Int) := ⟨y.toNat, by omega⟩
      have hmN : m < N := by omega
      obtain ⟨a1, a2'⟩ := agHeard_at hn2 hmN
      obtain ⟨X, hX⟩ : ∃ X, X = (agGet g2 (m : Int)).heard := ⟨_, rfl⟩
      have hXI : ∀ x ∈ X, I64 x := by rw [hX]; exact (hfit m (by omega)).2
      rw [← hX] at a2'
      obtain ⟨cs, rows, he, ho⟩ := HO2.out.second.rg_open
      obtain ⟨ad, cap, e5, hrd⟩ := ho.rg_row he (k := m) (by omega) (by rw [← hX]; exact hXI)
      rw [← hX] at e5 hrd
      obtain ⟨LX, hLX⟩ : ∃ L, L = X.length := ⟨_, rfl⟩
      rw [← hLX] at e5
      rw [← hLX] at hrd
      have HRX : Hid (∀ w' T, Own w (T * (RgP q g2 * (Nms 42 vb [x, (m : Int), z] * emp))) w' → True) := Lib.hid (fun _ _ _ => trivial)
      clear HRX
      -- the list stays readable while the rest is turned
      have HOX : Hid (Own w (IntSl (.slice ad LX cap) X * (AgP p g2 * (rgBlk q cs * (starL rowP (rows.eraseIdx m) * (Nms 42 vb [x, (m : Int), z] * emp))))) wc ∧ m < rows.length ∧ rows[m]? = some (.slice ad LX cap, X)) := Lib.hid (by
        obtain ⟨hl, r1, r2⟩ := he.heard (k := m) (by omega)
        rw [← hX] at r1
        have hv : rows[m].1 = .slice ad LX cap := by
          have h9 := (Own.cell ho (657 + m)).symm.trans e5
          rw [r2] at h9
          exact Option.some.inj h9
        refine ⟨?_, hl, by rw [List.getElem?_eq_getElem hl]; exact congrArg some (Prod.ext hv r1)⟩
        rw [starL_split rowP rows m hl] at ho
        have h2 : rowP rows[m] = IntSl (.slice ad LX cap) X := by unfold rowP; rw [hv, r1]
        rw [h2] at ho
        exact ho.perm (by ac_rfl))
      have m0 : (0 : Int) ≤ (m : Int) := by omega
      have m5 : (m : Int) < 5 := by omega
      have t1 : decide ((m : Int) < 0) = false := decide_eq_false (by omega)
      have t2 : decide ((N : Int) ≤ (m : Int)) = false := decide_eq_false (by omega)
      clear ho hrd
      have HE_ := Lib.hid he
      clear he
      have A1 := Lib.hid a1; have A2' := Lib.hid a2'; have HXI := Lib.hid hXI; have HX := Lib.hid hX; have HLX := Lib.hid hLX; have HFIT := Lib.hid hfit; have HLEN := Lib.hid hlen; have HN2 := Lib.hid hn2; have HL2 := Lib.hid hl2; have HIN := Lib.hid hin
      clear a1 a2' hXI hX hLX hfit hlen hn2 hl2 hin
      go_upto_region 39 with fail
      refine wp_region_tail 7 (by kernel_rfl) (by kernel_rfl) ?_
      simp only [List.take_succ_cons, List.take_zero, List.drop_succ_cons, List.drop_zero]
      repeat still_step
      refine wpStill_nil ?_
      go_upto_region 40 with fail
      have HAG : Hid (Own w (AgP p g2 * (IntSl (.slice ad LX cap) X * (rgBlk q cs * (starL rowP (rows.eraseIdx m) * (Nms 42 vb [x, (m : Int), z] * emp))))) wc.drew) := Lib.hid (HOX.out.1.drew.perm (by ac_rfl))
      go_wp2_with fail
      refine (agHeard_any p g2 m HFIT.out HAG.out).mono ?_
      rintro e w5 ⟨v5, rfl, ho5⟩
      rw [A1.out]
      rw [A2'.out] at ho5
      have HO5 := Lib.hid ho5
      clear ho5 d1 e5
      go_wp2_with fail
      refine (sameErr_any HG.out 0 0 HO5.out).mono ?_
      rintro e w6 ⟨rfl, ho6⟩
      have HO6 := Lib.hid ho6
      clear ho6
      go_wp2_with fail
      refine (sameInts_any v5 (.slice ad LX cap) X X _ (IntSl_reads HXI.out _ HO6.out) (IntSl_reads HXI.out _ HO6.out.third)).mono ?_
      rintro e w' ⟨rfl, n6, rfl⟩
      rw [show (X == X) = true from beq_iff_eq.2 rfl]
      have HF : Hid (Own w (AgP p g2 * (RgP q g2 * emp)) (w6.drewN n6)) := Lib.hid (by
        have h1 := (HO6.out.drewN n6).drop
        have hl := HOX.out.2.1
        have h2 : rowP rows[m] = IntSl (.slice ad LX cap) X := by
          have h3 := HOX.out.2.2
          rw [List.getElem?_eq_getElem hl] at h3
          rw [Option.some.inj h3]; rfl
        rw [← h2] at h1
        have h4 : Own w (rgBlk q cs * (starL rowP rows * (AgP p g2 * (Nms 42 vb [x, (m : Int), z] * emp)))) (w6.drewN n6) := h1.perm (by
          rw [starL_split rowP rows m hl]
          ac_rfl)
        have h5 := h4.rg_close HE_.out
        exact (h5.perm (show _ = Nms 42 vb [x, (m : Int), z] * (AgP p g2 * (RgP q g2 * emp)) by ac_rfl)).drop)
      clear HO5 HO6 HAG HOX HO2
      go_wp2_with fail
      go_roundw
      case rel => exact ⟨k + 1, g2, by omega, by omega, by go_num, Lib.hid ⟨HN2.out, by have := HL2.out; rw [Int.natCast_add]; exact this⟩, HF⟩
      case measure => simp [intOf]; omega
    · have he : agHeardErr g2 y = 1 := by unfold agHeardErr; rw [if_neg (by rw [hlen]; simp [inR]; omega)]
      have ho : agHeard g2 y = [] := by unfold agHeard; rw [if_neg (by rw [hlen]; simp [inR]; omega)]
      have hcs : y < 0 ∨ (¬ y < 0 ∧ (N : Int) ≤ y) := by omega
      have HE := Lib.hid he; have HO := Lib.hid ho; have HFIT := Lib.hid hfit; have HLEN := Lib.hid hlen; have HN2 := Lib.hid hn2; have HL2 := Lib.hid hl2; have HIN := Lib.hid hin
      clear he ho hfit hlen hn2 hl2 hin
      rcases hcs with h3 | ⟨h3, h4⟩
      all_goals
        go_wp2_with fail
        refine (agHeard_any p g2 y HFIT.out HO2.out).mono ?_
        rintro e w5 ⟨v5, rfl, ho5⟩
        rw [HE.out]
        rw [HO.out] at ho5
        have HO5 := Lib.hid ho5
        clear ho5 d1
        go_wp2_with fail
        refine (sameErr_any HG.out 1 1 HO5.out).mono ?_
        rintro e w6 ⟨rfl, ho6⟩
        have HO6 := Lib.hid ho6
        clear ho6
        go_wp2_with fail
        refine (sameInts_any v5 (.slice none 0 0) [] [] _ (IntSl_reads (by intro x hx; cases hx) _ HO6.out) (Ints_nil _)).mono ?_
        rintro e w' ⟨rfl, n6, rfl⟩
        rw [show (([] : List Int) == []) = true from rfl]
        have HF : Hid (Own w (AgP p g2 * (RgP q g2 * emp)) (w6.drewN n6)) := Lib.hid ((HO6.out.drewN n6).drop.perm (show _ = Nms 42 vb [x, y, z] * (AgP p g2 * (RgP q g2 * emp)) by ac_rfl)).drop
        clear HO5 HO6 HO2
        go_wp2_with fail
        go_roundw
        case rel => exact ⟨k + 1, g2, by omega, by omega, by go_num, Lib.hid ⟨HN2.out, by have := HL2.out; rw [Int.natCast_add]; exact this⟩, HF⟩
        case measure => simp [intOf]; omega
set_option maxRecDepth 100000 in
set_option maxHeartbeats 4000000 in
theorem agreePlays_law (w : World) (hg : As.Handle w) (n : Int) (_hn : I64 n) (vs : Value) (steps : List (List Int)) (hvs : Rows2 w vs steps) :
    Calls Tryd.prog 3 #[.int .i64 n, vs] w fun e w' => e = .returned (.bool true) ∧ Below w.heap.size w w' := by
  cases hn : isGroup n
  · exact agreePlays_bad w hg n hn vs
  · have hnb : 2 ≤ n ∧ n ≤ 5 := by simp [isGroup] at hn; omega
    obtain ⟨N, rfl⟩ : ∃ N : Nat, n = (N : Int) := ⟨n.toNat, by omega⟩
    exact agreePlays_good w hg N hn vs steps hvs _ rfl
end Go.Proofs.YtpgonkecicmanaaDoor
