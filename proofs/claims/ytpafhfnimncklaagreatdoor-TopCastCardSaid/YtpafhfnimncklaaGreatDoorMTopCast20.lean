/- TopCast: the steps of the group. -/
import Derived.Test.YtpafhfnimncklaaGreatDoorMTopCast19
import Derived.Test.YtpafhfnimncklaaGreatDoorMTopCast8
import Derived.Test.YtpafhfnimncklaaGreatDoorMTopCast11
import Derived.Lib.ItoaNum
import Derived.Lib.LastIndexByte
import Derived.Test.YtpafhfnimncklaaGreatDoorMTopCast1
namespace Go.Proofs.YtpafhfnimncklaaGreatDoor
set_option linter.unusedVariables false
set_option linter.unusedSimpArgs false
open Go.RowKit Go.Maps
noncomputable def tcFill_code : Code := ((Tryz.f3.body.bind (findBlock 2)).getD .skip)
set_option maxRecDepth 1000000 in
set_option maxHeartbeats 4000000 in
theorem tcFill {Q : Exit → Act → World → Prop} {u0 u2 u3 u4 u5 u6 u7 u11 u12 u13 u14 u15 u16 u17 u18 u19 u20 u21 u22 u23 u24 u25 u26 u27 u28 u29 u30 u31 u32 u33 u34 u35 u36 u37 u38 u39 u40 u41 u42 u43 u44 u45 u46 u47 u48 u49 u50 u51 u52 u53 u54 u55 u56 u57 u58 u59 u60 u61 u62 u63 u64 u65 u66 u67 u68 u69 u70 u71 u72 u73 u74 u75 u76 u77 u78 u79 u80 u81 u82 u83 u84 u85 u86 u87 u88 u89 u90 u91 u92 u93 u94 u95 u96 u97 u98 u99 u100 u101 u102 u103 u104 u105 u106 u107 u108 u109 u110 u111 u112 u113 u114 u115 u116 u117 u118 u119 u120 u121 u122 u123 u124 u125 u126 u127 u128 u129 u130 u131 u132 u133 u134 u135 u136 u137 u138 u139 u140 u141 u142 u143 u144 u145 u146 u147 u148 u149 u150 u151 u152 u153 u154 u155 u156 u157 u158 u159 u160 u161 u162 u163 u164 u165 u166 u167 u168 u169 u170 u171 u172 u173 u174 u175 u176 u177 u178 u179 u180 u181 u182 u183 u184 u185 u186 u187 u188 : Value} {w1 : World} (w : World) (R : HProp) (vb k : Nat) (steps : List (List Int)) (row : List Int) (a2 : Addr) (scap rcap : Nat) (rad : Option Addr) (h1 : k < steps.length) (hc1 : steps.length ≤ scap) (hc2 : scap ≤ 9223372036854775807) (HR : Hid (Ints w (.slice rad row.length rcap) row)) (HC : Hid (∀ (w1 : World) (P : HProp), Own w P w1 → w1.cell? (a2.add k) = some (.slice rad row.length rcap))) (HT : Hid (Own w (Nms 29 vb [0, 0, 0] * R) w1))
    (hK : ∀ (v10 v44 v45 v46 v47 v48 v49 v50 v51 v52 v53 v54 v55 v56 v57 v58 v59 v60 v61 v62 v63 v64 v65 : Value) (wx : World), (NmV 29 3 w vb R wx) → Q .normal ⟨List.toArray (u0 :: (.slice (some a2) steps.length scap) :: u2 :: u3 :: u4 :: u5 :: u6 :: u7 :: (.int .i64 (k : Int)) :: (.pointer (some ⟨vb, 0, none⟩)) :: v10 :: u11 :: u12 :: u13 :: u14 :: u15 :: u16 :: u17 :: u18 :: u19 :: u20 :: u21 :: u22 :: u23 :: u24 :: u25 :: u26 :: u27 :: u28 :: u29 :: u30 :: u31 :: u32 :: u33 :: u34 :: u35 :: u36 :: u37 :: u38 :: u39 :: u40 :: u41 :: u42 :: u43 :: v44 :: v45 :: v46 :: v47 :: v48 :: v49 :: v50 :: v51 :: v52 :: v53 :: v54 :: v55 :: v56 :: v57 :: v58 :: v59 :: v60 :: v61 :: v62 :: v63 :: v64 :: v65 :: u66 :: u67 :: u68 :: u69 :: u70 :: u71 :: u72 :: u73 :: u74 :: u75 :: u76 :: u77 :: u78 :: u79 :: u80 :: u81 :: u82 :: u83 :: u84 :: u85 :: u86 :: u87 :: u88 :: u89 :: u90 :: u91 :: u92 :: u93 :: u94 :: u95 :: u96 :: u97 :: u98 :: u99 :: u100 :: u101 :: u102 :: u103 :: u104 :: u105 :: u106 :: u107 :: u108 :: u109 :: u110 :: u111 :: u112 :: u113 :: u114 :: u115 :: u116 :: u117 :: u118 :: u119 :: u120 :: u121 :: u122 :: u123 :: u124 :: u125 :: u126 :: u127 :: u128 :: u129 :: u130 :: u131 :: u132 :: u133 :: u134 :: u135 :: u136 :: u137 :: u138 :: u139 :: u140 :: u141 :: u142 :: u143 :: u144 :: u145 :: u146 :: u147 :: u148 :: u149 :: u150 :: u151 :: u152 :: u153 :: u154 :: u155 :: u156 :: u157 :: u158 :: u159 :: u160 :: u161 :: u162 :: u163 :: u164 :: u165 :: u166 :: u167 :: u168 :: u169 :: u170 :: u171 :: u172 :: u173 :: u174 :: u175 :: u176 :: u177 :: u178 :: u179 :: u180 :: u181 :: u182 :: u183 :: u184 :: u185 :: u186 :: u187 :: u188 :: []), []⟩ wx) :
    Code.wp Tryz.prog tcFill_code Q ⟨List.toArray (u0 :: (.slice (some a2) steps.length scap) :: u2 :: u3 :: u4 :: u5 :: u6 :: u7 :: (.int .i64 (k : Int)) :: (.pointer (some ⟨vb, 0, none⟩)) :: (.int .i64 0) :: u11 :: u12 :: u13 :: u14 :: u15 :: u16 :: u17 :: u18 :: u19 :: u20 :: u21 :: u22 :: u23 :: u24 :: u25 :: u26 :: u27 :: u28 :: u29 :: u30 :: u31 :: u32 :: u33 :: u34 :: u35 :: u36 :: u37 :: u38 :: u39 :: u40 :: u41 :: u42 :: u43 :: u44 :: u45 :: u46 :: u47 :: u48 :: u49 :: u50 :: u51 :: u52 :: u53 :: u54 :: u55 :: u56 :: u57 :: u58 :: u59 :: u60 :: u61 :: u62 :: u63 :: u64 :: u65 :: u66 :: u67 :: u68 :: u69 :: u70 :: u71 :: u72 :: u73 :: u74 :: u75 :: u76 :: u77 :: u78 :: u79 :: u80 :: u81 :: u82 :: u83 :: u84 :: u85 :: u86 :: u87 :: u88 :: u89 :: u90 :: u91 :: u92 :: u93 :: u94 :: u95 :: u96 :: u97 :: u98 :: u99 :: u100 :: u101 :: u102 :: u103 :: u104 :: u105 :: u106 :: u107 :: u108 :: u109 :: u110 :: u111 :: u112 :: u113 :: u114 :: u115 :: u116 :: u117 :: u118 :: u119 :: u120 :: u121 :: u122 :: u123 :: u124 :: u125 :: u126 :: u127 :: u128 :: u129 :: u130 :: u131 :: u132 :: u133 :: u134 :: u135 :: u136 :: u137 :: u138 :: u139 :: u140 :: u141 :: u142 :: u143 :: u144 :: u145 :: u146 :: u147 :: u148 :: u149 :: u150 :: u151 :: u152 :: u153 :: u154 :: u155 :: u156 :: u157 :: u158 :: u159 :: u160 :: u161 :: u162 :: u163 :: u164 :: u165 :: u166 :: u167 :: u168 :: u169 :: u170 :: u171 :: u172 :: u173 :: u174 :: u175 :: u176 :: u177 :: u178 :: u179 :: u180 :: u181 :: u182 :: u183 :: u184 :: u185 :: u186 :: u187 :: u188 :: []), []⟩ w1 := by
  conv => arg 2; whnf
  have HK := Lib.hid hK
  clear hK
  go_wp2_with fail
  go_loopw [10] (fun jv w2 => ∃ (j : Nat) (l : List Int), j ≤ 3 ∧ jv = .int .i64 j ∧ Hid (l.length = 3) ∧ Hid (Own w (Nms 29 vb l * R) w2)) (fun jv _ => 3 - (intOf jv).toNat)
  case atStart => exact ⟨0, [0, 0, 0], Nat.zero_le _, rfl, Lib.hid rfl, HT⟩
  case round =>
    obtain ⟨j, l, hj, rfl, hl, hpw⟩ := hrel
    have c1 := HC.out _ _ hpw.out
    have FIN := Lib.hid (show NmV 29 3 w vb R wr from ⟨l, hl.out, hpw.out⟩)
    by_cases h3 : j < row.length
    rotate_left
    · go_wp2_with fail
      apply HK.out
      exact FIN.out
    by_cases h4 : j < 3
    rotate_left
    · go_wp2_with fail
      apply HK.out
      exact FIN.out
    obtain ⟨b3, rfl, hcb⟩ := HR.out.at_later j h3
    have c2 := hcb _ _ hpw.out
    have hjl : j < l.length := by rw [hl.out]; exact h4
    have c3 := hpw.out.nms_cell j hjl
    have c4 := hpw.out.nms_free j
    have HS := Lib.hid (hpw.out.nms_set j row[j])
    have i0 : (0 : Int) ≤ (j : Int) := by omega
    have i3 : (j : Int) < 3 := by omega
    clear hcb
    go_wp2_with fail
    go_roundw
    case rel => exact ⟨j + 1, l.set j row[j], by omega, by go_num, Lib.hid (by rw [List.length_set]; exact hl.out), HS⟩
    case measure => simp [intOf]; omega
noncomputable def tcStep_code : Code := ((Tryz.f3.body.bind (findIf 68)).getD .skip)
set_option maxRecDepth 1000000 in
set_option maxHeartbeats 4000000 in
theorem tcStep {Q : Exit → Act → World → Prop} {u0 u1 u2 u3 u4 u5 u7 u8 u10 u11 u12 u13 u14 u15 u16 u17 u18 u19 u20 u21 u22 u23 u24 u25 u26 u27 u28 u29 u30 u31 u32 u33 u34 u35 u36 u37 u38 u39 u40 u41 u42 u43 u44 u45 u46 u47 u48 u49 u50 u51 u52 u53 u54 u55 u56 u57 u58 u59 u60 u61 u62 u63 u64 u65 u66 u67 u69 u70 u71 u72 u73 u74 u75 u76 u77 u78 u79 u80 u81 u82 u83 u84 u85 u86 u87 u88 u89 u90 u91 u92 u93 u94 u95 u96 u97 u98 u99 u100 u101 u102 u103 u104 u105 u106 u107 u108 u109 u110 u111 u112 u113 u114 u115 u116 u117 u118 u119 u120 u121 u122 u123 u124 u125 u126 u127 u128 u129 u130 u131 u132 u133 u134 u135 u136 u137 u138 u139 u140 u141 u142 u143 u144 u145 u146 u147 u148 u149 u150 u151 u152 u153 u154 u155 u156 u157 u158 u159 u160 u161 u162 u163 u164 u165 u166 u167 u168 u169 u170 u171 u172 u173 u174 u175 u176 u177 u178 u179 u180 u181 u182 u183 u184 u185 u186 u187 u188 : Value} {w1 : World} (w : World) (hg : As.Handle w) {p vb N : Nat} (c : Cs) (hI : Cc N true c) (x y z : Int) (T : Bool) (hT : decide (x < 2) = T) (HP : Hid (Own w (CsP p c * (Nms 29 vb [x, y, z] * emp)) w1))
    (hK : ∀ (v69 v70 v71 v72 v73 v74 v75 v76 v77 v78 : Value) (wx : World), (CcO w p N true wx) → Q .normal ⟨List.toArray (u0 :: u1 :: u2 :: u3 :: u4 :: u5 :: (.pointer (some ⟨p, 0, none⟩)) :: u7 :: u8 :: (.pointer (some ⟨vb, 0, none⟩)) :: u10 :: u11 :: u12 :: u13 :: u14 :: u15 :: u16 :: u17 :: u18 :: u19 :: u20 :: u21 :: u22 :: u23 :: u24 :: u25 :: u26 :: u27 :: u28 :: u29 :: u30 :: u31 :: u32 :: u33 :: u34 :: u35 :: u36 :: u37 :: u38 :: u39 :: u40 :: u41 :: u42 :: u43 :: u44 :: u45 :: u46 :: u47 :: u48 :: u49 :: u50 :: u51 :: u52 :: u53 :: u54 :: u55 :: u56 :: u57 :: u58 :: u59 :: u60 :: u61 :: u62 :: u63 :: u64 :: u65 :: u66 :: u67 :: (.bool T) :: v69 :: v70 :: v71 :: v72 :: v73 :: v74 :: v75 :: v76 :: v77 :: v78 :: u79 :: u80 :: u81 :: u82 :: u83 :: u84 :: u85 :: u86 :: u87 :: u88 :: u89 :: u90 :: u91 :: u92 :: u93 :: u94 :: u95 :: u96 :: u97 :: u98 :: u99 :: u100 :: u101 :: u102 :: u103 :: u104 :: u105 :: u106 :: u107 :: u108 :: u109 :: u110 :: u111 :: u112 :: u113 :: u114 :: u115 :: u116 :: u117 :: u118 :: u119 :: u120 :: u121 :: u122 :: u123 :: u124 :: u125 :: u126 :: u127 :: u128 :: u129 :: u130 :: u131 :: u132 :: u133 :: u134 :: u135 :: u136 :: u137 :: u138 :: u139 :: u140 :: u141 :: u142 :: u143 :: u144 :: u145 :: u146 :: u147 :: u148 :: u149 :: u150 :: u151 :: u152 :: u153 :: u154 :: u155 :: u156 :: u157 :: u158 :: u159 :: u160 :: u161 :: u162 :: u163 :: u164 :: u165 :: u166 :: u167 :: u168 :: u169 :: u170 :: u171 :: u172 :: u173 :: u174 :: u175 :: u176 :: u177 :: u178 :: u179 :: u180 :: u181 :: u182 :: u183 :: u184 :: u185 :: u186 :: u187 :: u188 :: []), []⟩ wx) :
    Code.wp Tryz.prog tcStep_code Q ⟨List.toArray (u0 :: u1 :: u2 :: u3 :: u4 :: u5 :: (.pointer (some ⟨p, 0, none⟩)) :: u7 :: u8 :: (.pointer (some ⟨vb, 0, none⟩)) :: u10 :: u11 :: u12 :: u13 :: u14 :: u15 :: u16 :: u17 :: u18 :: u19 :: u20 :: u21 :: u22 :: u23 :: u24 :: u25 :: u26 :: u27 :: u28 :: u29 :: u30 :: u31 :: u32 :: u33 :: u34 :: u35 :: u36 :: u37 :: u38 :: u39 :: u40 :: u41 :: u42 :: u43 :: u44 :: u45 :: u46 :: u47 :: u48 :: u49 :: u50 :: u51 :: u52 :: u53 :: u54 :: u55 :: u56 :: u57 :: u58 :: u59 :: u60 :: u61 :: u62 :: u63 :: u64 :: u65 :: u66 :: u67 :: (.bool T) :: u69 :: u70 :: u71 :: u72 :: u73 :: u74 :: u75 :: u76 :: u77 :: u78 :: u79 :: u80 :: u81 :: u82 :: u83 :: u84 :: u85 :: u86 :: u87 :: u88 :: u89 :: u90 :: u91 :: u92 :: u93 :: u94 :: u95 :: u96 :: u97 :: u98 :: u99 :: u100 :: u101 :: u102 :: u103 :: u104 :: u105 :: u106 :: u107 :: u108 :: u109 :: u110 :: u111 :: u112 :: u113 :: u114 :: u115 :: u116 :: u117 :: u118 :: u119 :: u120 :: u121 :: u122 :: u123 :: u124 :: u125 :: u126 :: u127 :: u128 :: u129 :: u130 :: u131 :: u132 :: u133 :: u134 :: u135 :: u136 :: u137 :: u138 :: u139 :: u140 :: u141 :: u142 :: u143 :: u144 :: u145 :: u146 :: u147 :: u148 :: u149 :: u150 :: u151 :: u152 :: u153 :: u154 :: u155 :: u156 :: u157 :: u158 :: u159 :: u160 :: u161 :: u162 :: u163 :: u164 :: u165 :: u166 :: u167 :: u168 :: u169 :: u170 :: u171 :: u172 :: u173 :: u174 :: u175 :: u176 :: u177 :: u178 :: u179 :: u180 :: u181 :: u182 :: u183 :: u184 :: u185 :: u186 :: u187 :: u188 :: []), []⟩ w1 := by
  conv => arg 2; whnf
  have HK := Lib.hid hK
  clear hK
  obtain ⟨c0, c1, c2⟩ := HP.out.second.cc_three
  have hbb : c.hist.length ≤ 100000 := by have := hI.z.len; omega
  cases T
  · have hni := hI.give y
    have HG := Lib.hid hg; have HI := Lib.hid hI; have HNI := Lib.hid hni; have HT := Lib.hid hT
    clear hg hI hni hT
    go_wp2_with fail
    refine (csGive_any HG.out p c y HI.out.z.i hbb HP.out).mono ?_
    rintro e w3 ⟨v1, rfl, ho⟩
    have HO3 := Lib.hid ho.drop.second.drop
    clear ho c0 c1 c2
    go_wp2_with fail
    apply HK.out
    exact ⟨_, HNI.out, HO3.out.perm (by ac_rfl)⟩
  · have hni := hI.say y z
    have HG := Lib.hid hg; have HI := Lib.hid hI; have HNI := Lib.hid hni; have HT := Lib.hid hT
    clear hg hI hni hT
    go_wp2_with fail
    refine (csSay_any p c y z HI.out.z.i hbb HP.out).mono ?_
    rintro e w3 ⟨rfl, ho⟩
    have HO3 := Lib.hid ho.second.drop
    clear ho c0 c1 c2
    go_wp2_with fail
    apply HK.out
    exact ⟨_, HNI.out, HO3.out.perm (by ac_rfl)⟩
noncomputable def tcLoop_code : Code := ((Tryz.f3.body.bind (findBlock 0)).getD .skip)
set_option maxRecDepth 1000000 in
set_option maxHeartbeats 4000000 in
theorem tcLoop {Q : Exit → Act → World → Prop} {u0 u2 u3 u4 u5 u7 u9 u10 u11 u12 u13 u14 u15 u16 u17 u18 u19 u20 u21 u22 u23 u24 u25 u26 u27 u28 u29 u30 u31 u32 u33 u34 u35 u36 u37 u38 u39 u40 u41 u42 u43 u44 u45 u46 u47 u48 u49 u50 u51 u52 u53 u54 u55 u56 u57 u58 u59 u60 u61 u62 u63 u64 u65 u66 u67 u68 u69 u70 u71 u72 u73 u74 u75 u76 u77 u78 u79 u80 u81 u82 u83 u84 u85 u86 u87 u88 u89 u90 u91 u92 u93 u94 u95 u96 u97 u98 u99 u100 u101 u102 u103 u104 u105 u106 u107 u108 u109 u110 u111 u112 u113 u114 u115 u116 u117 u118 u119 u120 u121 u122 u123 u124 u125 u126 u127 u128 u129 u130 u131 u132 u133 u134 u135 u136 u137 u138 u139 u140 u141 u142 u143 u144 u145 u146 u147 u148 u149 u150 u151 u152 u153 u154 u155 u156 u157 u158 u159 u160 u161 u162 u163 u164 u165 u166 u167 u168 u169 u170 u171 u172 u173 u174 u175 u176 u177 u178 u179 u180 u181 u182 u183 u184 u185 u186 u187 u188 : Value} {w1 : World} (w : World) (hg : As.Handle w) {p N : Nat} (c0 : Cs) (hI0 : Cc N true c0) (sad : Option Addr) (scap : Nat) (steps : List (List Int)) (hsc1 : steps.length ≤ scap) (hsc2 : scap ≤ 9223372036854775807) (hvs : Rows2 w (.slice sad steps.length scap) steps) (HP0 : Hid (Own w (CsP p c0 * emp) w1))
    (hK : ∀ (v8 v9 v10 v34 v35 v36 v37 v38 v39 v40 v41 v42 v43 v44 v45 v46 v47 v48 v49 v50 v51 v52 v53 v54 v55 v56 v57 v58 v59 v60 v61 v62 v63 v64 v65 v66 v67 v68 v69 v70 v71 v72 v73 v74 v75 v76 v77 v78 : Value) (wx : World), (CcO w p N true wx) → Q .normal ⟨List.toArray (u0 :: (.slice sad steps.length scap) :: u2 :: u3 :: u4 :: u5 :: (.pointer (some ⟨p, 0, none⟩)) :: u7 :: v8 :: v9 :: v10 :: u11 :: u12 :: u13 :: u14 :: u15 :: u16 :: u17 :: u18 :: u19 :: u20 :: u21 :: u22 :: u23 :: u24 :: u25 :: u26 :: u27 :: u28 :: u29 :: u30 :: u31 :: u32 :: u33 :: v34 :: v35 :: v36 :: v37 :: v38 :: v39 :: v40 :: v41 :: v42 :: v43 :: v44 :: v45 :: v46 :: v47 :: v48 :: v49 :: v50 :: v51 :: v52 :: v53 :: v54 :: v55 :: v56 :: v57 :: v58 :: v59 :: v60 :: v61 :: v62 :: v63 :: v64 :: v65 :: v66 :: v67 :: v68 :: v69 :: v70 :: v71 :: v72 :: v73 :: v74 :: v75 :: v76 :: v77 :: v78 :: u79 :: u80 :: u81 :: u82 :: u83 :: u84 :: u85 :: u86 :: u87 :: u88 :: u89 :: u90 :: u91 :: u92 :: u93 :: u94 :: u95 :: u96 :: u97 :: u98 :: u99 :: u100 :: u101 :: u102 :: u103 :: u104 :: u105 :: u106 :: u107 :: u108 :: u109 :: u110 :: u111 :: u112 :: u113 :: u114 :: u115 :: u116 :: u117 :: u118 :: u119 :: u120 :: u121 :: u122 :: u123 :: u124 :: u125 :: u126 :: u127 :: u128 :: u129 :: u130 :: u131 :: u132 :: u133 :: u134 :: u135 :: u136 :: u137 :: u138 :: u139 :: u140 :: u141 :: u142 :: u143 :: u144 :: u145 :: u146 :: u147 :: u148 :: u149 :: u150 :: u151 :: u152 :: u153 :: u154 :: u155 :: u156 :: u157 :: u158 :: u159 :: u160 :: u161 :: u162 :: u163 :: u164 :: u165 :: u166 :: u167 :: u168 :: u169 :: u170 :: u171 :: u172 :: u173 :: u174 :: u175 :: u176 :: u177 :: u178 :: u179 :: u180 :: u181 :: u182 :: u183 :: u184 :: u185 :: u186 :: u187 :: u188 :: []), []⟩ wx) :
    Code.wp Tryz.prog tcLoop_code Q ⟨List.toArray (u0 :: (.slice sad steps.length scap) :: u2 :: u3 :: u4 :: u5 :: (.pointer (some ⟨p, 0, none⟩)) :: u7 :: (.int .i64 0) :: u9 :: u10 :: u11 :: u12 :: u13 :: u14 :: u15 :: u16 :: u17 :: u18 :: u19 :: u20 :: u21 :: u22 :: u23 :: u24 :: u25 :: u26 :: u27 :: u28 :: u29 :: u30 :: u31 :: u32 :: u33 :: u34 :: u35 :: u36 :: u37 :: u38 :: u39 :: u40 :: u41 :: u42 :: u43 :: u44 :: u45 :: u46 :: u47 :: u48 :: u49 :: u50 :: u51 :: u52 :: u53 :: u54 :: u55 :: u56 :: u57 :: u58 :: u59 :: u60 :: u61 :: u62 :: u63 :: u64 :: u65 :: u66 :: u67 :: u68 :: u69 :: u70 :: u71 :: u72 :: u73 :: u74 :: u75 :: u76 :: u77 :: u78 :: u79 :: u80 :: u81 :: u82 :: u83 :: u84 :: u85 :: u86 :: u87 :: u88 :: u89 :: u90 :: u91 :: u92 :: u93 :: u94 :: u95 :: u96 :: u97 :: u98 :: u99 :: u100 :: u101 :: u102 :: u103 :: u104 :: u105 :: u106 :: u107 :: u108 :: u109 :: u110 :: u111 :: u112 :: u113 :: u114 :: u115 :: u116 :: u117 :: u118 :: u119 :: u120 :: u121 :: u122 :: u123 :: u124 :: u125 :: u126 :: u127 :: u128 :: u129 :: u130 :: u131 :: u132 :: u133 :: u134 :: u135 :: u136 :: u137 :: u138 :: u139 :: u140 :: u141 :: u142 :: u143 :: u144 :: u145 :: u146 :: u147 :: u148 :: u149 :: u150 :: u151 :: u152 :: u153 :: u154 :: u155 :: u156 :: u157 :: u158 :: u159 :: u160 :: u161 :: u162 :: u163 :: u164 :: u165 :: u166 :: u167 :: u168 :: u169 :: u170 :: u171 :: u172 :: u173 :: u174 :: u175 :: u176 :: u177 :: u178 :: u179 :: u180 :: u181 :: u182 :: u183 :: u184 :: u185 :: u186 :: u187 :: u188 :: []), []⟩ w1 := by
  conv => arg 2; whnf
  have HK := Lib.hid hK
  clear hK
  have HG := Lib.hid hg; have HVS := Lib.hid hvs
  clear hg hvs
  go_wp2_with fail
  go_loopw [8] (fun iv wr => ∃ (k : Nat) (c : Cs), k ≤ steps.length ∧ k ≤ 100 ∧ iv = .int .i64 k ∧ Hid (Cc N true c) ∧ Hid (Own w (CsP p c * emp) wr)) (fun iv _ => 100 - (intOf iv).toNat)
  case atStart => exact ⟨0, c0, Nat.zero_le _, Nat.zero_le _, rfl, Lib.hid hI0, HP0⟩
  case round =>
    clear HP0 hI0
    obtain ⟨k, c, hk, hk2, rfl, HI, HP⟩ := hrel
    by_cases h1 : k < steps.length
    rotate_left
    · go_wp2_with fail
      apply HK.out
      exact ⟨c, HI.out, HP.out⟩
    by_cases h2 : k < 100
    rotate_left
    · go_wp2_with fail
      apply HK.out
      exact ⟨c, HI.out, HP.out⟩
    obtain ⟨a2, rad, rcap, e2, hr, hc⟩ := HVS.out.at_later k h1
    obtain ⟨row, hrow⟩ : ∃ row, row = steps[k] := ⟨_, rfl⟩
    rw [← hrow] at hr hc
    subst e2
    obtain ⟨vb, hvb⟩ : ∃ b, b = wr.heap.size := ⟨_, rfl⟩
    have ht := HP.out.alloc (.cells #[.int .i64 0, .int .i64 0, .int .i64 0] 29)
    rw [← hvb] at ht
    have HT : Hid (Own w (Nms 29 vb [0, 0, 0] * (CsP p c * emp)) (wr.alloc (.cells #[.int .i64 0, .int .i64 0, .int .i64 0] 29))) := Lib.hid ht
    have HR := Lib.hid hr; have HC := Lib.hid hc; have HROW := Lib.hid hrow
    clear hr hc hrow
    clear ht
    go_upto_block 2 with fail
    rw [← hvb]
    clear hvb
    refine tcFill w (CsP p c * emp) vb k steps row a2 scap rcap rad h1 hsc1 hsc2 HR HC HT ?_
    intros
    rename_i wq hcut
    obtain ⟨x, y, z, hT⟩ := hcut.three
    have HT2 : Hid (Own w (CsP p c * (Nms 29 vb [x, y, z] * emp)) wq) := Lib.hid (hT.perm (by ac_rfl))
    clear HT HP hT hcut
    obtain ⟨d0, d1, d2⟩ := HT2.out.second.cc_three
    obtain ⟨T, hT⟩ : ∃ T, decide (x < 2) = T := ⟨_, rfl⟩
    go_upto_if 68 with fail
    refine tcStep w HG.out c HI.out x y z T hT HT2 ?_
    intros
    rename_i hcut
    obtain ⟨c', hi, ho⟩ := hcut
    have HO4 := Lib.hid ho
    have HI4 := Lib.hid hi
    clear ho hi HT2 d0 d1 d2 HI hT
    go_wp2_with fail
    go_roundw
    case rel => exact ⟨k + 1, c', by omega, by omega, by go_num, HI4, HO4⟩
    case measure => simp [intOf]; omega
end Go.Proofs.YtpafhfnimncklaaGreatDoor
/- Package log, plainly: a history kept as lines of bytes; what is left behind a crash. -/
namespace Go.Proofs.YtpafhfnimncklaaGreatDoor
set_option linter.unusedVariables false
set_option linter.unusedSimpArgs false
open Go.RowKit
/-! ### Lines -/
theorem dig_ge : ∀ i : Nat, ∀ b ∈ Lib.decDigits i, 48 ≤ b.toNat := by
  intro i
  induction i using Nat.strongRecOn with
  | ind i ih =>
    intro b hb
    rw [Lib.decDigits] at hb
    split at hb
    · rename_i h
      rw [List.mem_singleton.1 hb]
      rw [UInt8.toNat_ofNat']; omega
    · rename_i h
      rcases List.mem_append.1 hb with h1 | h1
      · exact ih (i / 10) (by omega) b h1
      · rw [List.mem_singleton.1 h1, UInt8.toNat_ofNat']; omega
theorem dig_len : ∀ i : Nat, i < 100 → 1 ≤ (Lib.decDigits i).length ∧ (Lib.decDigits i).length ≤ 2 := by
  intro i hi
  rw [Lib.decDigits]
  split
  · simp
  · rename_i h
    rw [Lib.decDigits, dif_pos (by omega)]; simp
def encB (e : Ev) : List UInt8 := Lib.decDigits e.1.toNat ++ [32] ++ Lib.decDigits e.2.1.toNat ++ [32] ++ Lib.decDigits e.2.2.toNat
def encE (e : Ev) : List UInt8 := encB e ++ [10]
def encH (h : List Ev) : List UInt8 := h.flatMap encE
theorem encB_no (e : Ev) : (10 : UInt8) ∉ encB e := by
  have h1 : ∀ i, (10 : UInt8) ∉ Lib.decDigits i := fun i h => by
    have := dig_ge i 10 h
    exact absurd this (by decide)
  unfold encB
  simp [h1]
def okEv (e : Ev) : Prop := (0 ≤ e.1 ∧ e.1 < 5) ∧ (1 ≤ e.2.1 ∧ e.2.1 ≤ 3) ∧ (0 ≤ e.2.2 ∧ e.2.2 ≤ 30)
theorem encE_len {e : Ev} (h : okEv e) : 6 ≤ (encE e).length ∧ (encE e).length ≤ 9 := by
  obtain ⟨h1, h2, h3⟩ := h
  have d1 := dig_len e.1.toNat (by omega)
  have d2 := dig_len e.2.1.toNat (by omega)
  have d3 := dig_len e.2.2.toNat (by omega)
  unfold encE encB
  simp only [List.length_append, List.length_cons, List.length_nil]
  omega
theorem evErr_ok {ahead : List Ev} {e : Ev} (h : evErr ahead e = 0) : okEv e := by
  unfold evErr at h
  split at h
  · cases h
  rename_i h1
  unfold rightB isMember isWord at h1
  unfold okEv
  by_cases h2 : e.2.1 = 1
  · rw [h2] at h1 ⊢
    simp at h1
    omega
  · rw [if_neg h2] at h1
    simp at h1
    omega
theorem RightH.ok {h : List Ev} (hr : RightH h) : ∀ e ∈ h, okEv e := by
  intro e he
  obtain ⟨k, hk, rfl⟩ := List.getElem_of_mem he
  exact evErr_ok (hr.2 k hk)
theorem okEv_good {e : Ev} (h : okEv e) : goodEv e := by unfold okEv at h; unfold goodEv I64; omega
theorem encH_len : ∀ {h : List Ev}, (∀ e ∈ h, okEv e) → (encH h).length ≤ h.length * 9
  | [], _ => Nat.le_refl _
  | e :: r, hh => by
    have ih := encH_len (h := r) (fun x hx => hh x (List.mem_cons_of_mem _ hx))
    have h1 := encE_len (hh e (List.mem_cons_self ..))
    unfold encH at *
    simp only [List.flatMap_cons, List.length_append, List.length_cons]
    omega
theorem encH_snoc (h : List Ev) (e : Ev) : encH (h ++ [e]) = encH h ++ encE e := by unfold encH; simp
theorem encH_take_succ {h : List Ev} {k : Nat} (hk : k < h.length) : encH (h.take (k + 1)) = encH (h.take k) ++ encE h[k] := by
  rw [List.take_succ_eq_append_getElem hk, encH_snoc]
/-- What m bytes show: whole lines, and what is no line. -/
theorem cut_at {part : List UInt8} (hp : (10 : UInt8) ∉ part) : ∀ (h : List Ev) (m : Nat), ∃ k, k ≤ h.length ∧ ∃ tail, (encH h ++ part).take m = encH (h.take k) ++ tail ∧ (10 : UInt8) ∉ tail ∧ (m ≤ (encH h ++ part).length → (encH (h.take k)).length ≤ m) ∧ (k < h.length → m < (encH (h.take (k + 1))).length)
  | [], m => ⟨0, Nat.le_refl _, part.take m, by simp [encH], fun h => hp (List.mem_of_mem_take h), fun _ => by simp [encH], fun h => absurd h (by simp)⟩
  | e :: r, m => by
    have hs : encH (e :: r) ++ part = encE e ++ (encH r ++ part) := by unfold encH; simp
    by_cases hm : m < (encE e).length
    · refine ⟨0, Nat.zero_le _, (encE e).take m, ?_, fun h => ?_, fun _ => by simp [encH], fun _ => by simpa [encH] using hm⟩
      · rw [hs, List.take_append_of_le_length (by omega)]; simp [encH]
      · unfold encE at h hm
        rw [List.length_append] at hm
        rw [List.take_append_of_le_length (by simp at hm; omega)] at h
        exact encB_no e (List.mem_of_mem_take h)
    · obtain ⟨k, hk, tail, h1, h2, h3, h4⟩ := cut_at hp r (m - (encE e).length)
      have e1 : encH ((e :: r).take (k + 1)) = encE e ++ encH (r.take k) := by unfold encH; simp
      refine ⟨k + 1, by simpa using hk, tail, ?_, h2, fun hle => ?_, fun hlt => ?_⟩
      · rw [hs, e1, List.take_append, List.take_of_length_le (by omega), h1, List.append_assoc]
      · rw [hs, List.length_append] at hle
        have := h3 (by omega)
        rw [e1, List.length_append]; omega
      · have := h4 (by simpa using hlt)
        have e2 : encH ((e :: r).take (k + 1 + 1)) = encE e ++ encH (r.take (k + 1)) := by unfold encH; simp
        rw [e2, List.length_append]; omega
theorem count_encH : ∀ h : List Ev, (encH h).count 10 = h.length
  | [] => rfl
  | e :: r => by
    have ih := count_encH r
    have h1 : (encB e).count 10 = 0 := List.count_eq_zero.2 (encB_no e)
    unfold encH encE at *
    simp only [List.flatMap_cons, List.count_append, List.length_cons, ih, h1]
    simp; omega
/-- The last line's end. -/
theorem last_line {A tail : List UInt8} (ht : (10 : UInt8) ∉ tail) (hA : A = [] ∨ ∃ B, A = B ++ [10]) : Lib.lastIndexByte ⟨(A ++ tail).toArray⟩ 10 = (A.length : Int) - 1 := by
  have key := Lib.lastIndexByte_spec ⟨(A ++ tail).toArray⟩ 10
  have hsz : (⟨(A ++ tail).toArray⟩ : ByteArray).size = A.length + tail.length := by simp [ByteArray.size]
  have hget : ∀ j, j < A.length + tail.length → ((⟨(A ++ tail).toArray⟩ : ByteArray).data[j]!) = (A ++ tail)[j]! := fun j hj => by
    rw [getElem!_pos _ j (by simpa using hj), getElem!_pos _ j (by simpa using hj)]; simp
  have h10 : ∀ x : UInt8, ((x.toNat : Int) = 10) ↔ x = 10 := fun x => by
    constructor
    · intro h
      have : x.toNat = 10 := by omega
      exact UInt8.toNat_inj.1 (by rw [this]; rfl)
    · rintro rfl; rfl
  have htl : ∀ j, A.length ≤ j → j < A.length + tail.length → (A ++ tail)[j]! ≠ 10 := fun j h1 h2 e => by
    rw [getElem!_pos _ j (by simpa using h2), List.getElem_append_right h1] at e
    exact ht (e ▸ List.getElem_mem _)
  rw [hsz] at key
  rcases hA with rfl | ⟨B, rfl⟩
  · rcases key with ⟨h1, _⟩ | ⟨i, hi, _, h2, _⟩
    · rw [h1]; rfl
    · rw [hget i hi, h10] at h2
      exact absurd h2 (htl i (by simp) hi)
  · rcases key with ⟨_, h1⟩ | ⟨i, hi, h1, h2, h3⟩
    · have := h1 B.length (by simp; omega)
      rw [hget _ (by simp; omega), ne_eq, h10] at this
      exact absurd (by rw [getElem!_pos _ _ (by simp)]; simp) this
    · rw [hget i hi, h10] at h2
      have hi2 : i < (B ++ [10]).length := Nat.lt_of_not_le fun h => htl i h hi h2
      have hi3 : ¬ i < B.length := fun h => by
        have := h3 B.length h (by simp; omega)
        rw [hget _ (by simp; omega), ne_eq, h10] at this
        exact this (by rw [getElem!_pos _ _ (by simp)]; simp)
      rw [h1]
      simp only [List.length_append, List.length_cons, List.length_nil] at hi2 ⊢
      omega
theorem encH_end : ∀ h : List Ev, encH h = [] ∨ ∃ B, encH h = B ++ [10] := by
  intro h
  rcases List.eq_nil_or_concat h with rfl | ⟨r, e, rfl⟩
  · exact .inl rfl
  · refine .inr ⟨encH r ++ encB e, ?_⟩
    rw [List.concat_eq_append, encH_snoc]; unfold encE; simp
/-! ### The log -/
structure Lg where
  h : List Ev
  bs : List UInt8
  safe : Nat
  left : Int
  st : Bool
def lgNew : Lg := ⟨[], [], 0, -1, false⟩
def dec1 (x : Int) : Int := max (-1) (x - 1)
theorem dec1_is (x : Int) : dec1 x = if x ≤ 0 then -1 else x - 1 := by unfold dec1; rw [Int.max_def]; split <;> split <;> omega
def lgErr (s : Lg) (e : Ev) : Nat := if s.st = true then 6 else if (histR (s.h ++ [e])).2 ≠ 0 then (histR (s.h ++ [e])).2 else if s.left = 0 then 6 else 0
def halfE (e : Ev) : List UInt8 := (encE e).take ((encE e).length / 2)
def lgDo (s : Lg) (e : Ev) : Lg := if s.st = true then s else if (histR (s.h ++ [e])).2 ≠ 0 then s else if s.left = 0 then { s with st := true, left := -1, bs := s.bs ++ halfE e } else { s with st := false, left := dec1 s.left, bs := s.bs ++ encE e, h := s.h ++ [e] }
def lgSyncErr (s : Lg) : Nat := if s.st = true ∨ s.left = 0 then 6 else 0
def lgSync (s : Lg) : Lg := if s.st = true then s else if s.left = 0 then { s with st := true, left := -1 } else { s with st := false, left := dec1 s.left, safe := s.bs.length }
def lgFail (s : Lg) (n : Int) : Lg := { s with left := max (-1) n }
def lgHigh (s : Lg) (keep : Int) : Nat := s.safe + (if keep ≤ 0 then 0 else if keep ≤ ((s.bs.length : Nat) : Int) - s.safe then keep.toNat else s.bs.length - s.safe)
def lgCut (s : Lg) (keep : Int) : Nat := (s.bs.take (lgHigh s keep)).count 10
def lgCrash (s : Lg) (keep : Int) : Lg := ⟨s.h.take (lgCut s keep), encH (s.h.take (lgCut s keep)), (encH (s.h.take (lgCut s keep))).length, -1, false⟩
structure LgI (s : Lg) : Prop where
  hr : RightH s.h
  bs : ∃ part, s.bs = encH s.h ++ part ∧ (10 : UInt8) ∉ part ∧ part.length ≤ 4 ∧ (s.st = false → part = [])
  safe : s.safe ≤ s.bs.length
  left : -1 ≤ s.left ∧ s.left ≤ 9223372036854775807
theorem LgI.len {s : Lg} (h : LgI s) : s.bs.length ≤ 1000 := by
  obtain ⟨part, h1, _, h2, _⟩ := h.bs
  have := encH_len h.hr.ok
  have := h.hr.1
  rw [h1, List.length_append]; omega
theorem lgNew_I : LgI lgNew := ⟨⟨by simp [lgNew], fun k hk => by simp [lgNew] at hk⟩, ⟨[], rfl, by simp, by simp, fun _ => rfl⟩, Nat.le_refl _, by simp [lgNew]⟩
theorem LgI.do {s : Lg} (h : LgI s) (e : Ev) : LgI (lgDo s e) := by
  unfold lgDo
  split
  · exact h
  rename_i hst
  have hst' : s.st = false := by simpa using hst
  split
  · exact h
  rename_i h0
  have hr : RightH (s.h ++ [e]) := (histR_ok _).1 (by simpa using h0)
  have hok : okEv e := hr.ok e (by simp)
  have hl := encE_len hok
  obtain ⟨part, h1, h2, h3, h4⟩ := h.bs
  have hp := h4 hst'
  subst hp
  rw [List.append_nil] at h1
  have hsf := h.safe
  split
  · refine ⟨h.hr, ⟨halfE e, by show s.bs ++ _ = _; rw [h1], fun hh => ?_, ?_, fun h => by cases h⟩, ?_, by simp⟩
    · unfold halfE at hh
      unfold encE at hh hl
      rw [List.take_append_of_le_length (by simp at hl ⊢; omega)] at hh
      exact encB_no e (List.mem_of_mem_take hh)
    · unfold halfE; rw [List.length_take]; omega
    · show s.safe ≤ (s.bs ++ _).length
      rw [List.length_append]; omega
  · rename_i hn
    have hlf := h.left
    refine ⟨hr, ⟨[], by show s.bs ++ _ = encH (s.h ++ [e]) ++ []; rw [h1, encH_snoc, List.append_nil], by simp, by simp, fun _ => rfl⟩, ?_, ?_⟩
    · show s.safe ≤ (s.bs ++ _).length
      rw [List.length_append]; omega
    · show -1 ≤ dec1 s.left ∧ dec1 s.left ≤ 9223372036854775807
      rw [dec1_is]; split <;> omega
theorem LgI.sync {s : Lg} (h : LgI s) : LgI (lgSync s) := by
  unfold lgSync
  split
  · exact h
  rename_i hst
  have hst' : s.st = false := by simpa using hst
  obtain ⟨part, h1, h2, h3, h4⟩ := h.bs
  have hlf := h.left
  split
  · exact ⟨h.hr, ⟨part, h1, h2, h3, fun h => by cases h⟩, h.safe, by simp⟩
  · refine ⟨h.hr, ⟨part, h1, h2, h3, fun _ => h4 hst'⟩, Nat.le_refl _, ?_⟩
    show -1 ≤ dec1 s.left ∧ dec1 s.left ≤ 9223372036854775807
    rw [dec1_is]; split <;> omega
theorem LgI.fail {s : Lg} (h : LgI s) {n : Int} (hn : I64 n) : LgI (lgFail s n) := ⟨h.hr, h.bs, h.safe, by
  show -1 ≤ max (-1) n ∧ max (-1) n ≤ 9223372036854775807
  unfold I64 at hn
  rw [Int.max_def]
  split <;> omega⟩
theorem lgHigh_le {s : Lg} (h : LgI s) (keep : Int) : s.safe ≤ lgHigh s keep ∧ lgHigh s keep ≤ s.bs.length := by
  have := h.safe
  unfold lgHigh
  split
  · omega
  · split <;> omega
/-- A crash, in the words of the program: the bytes up to the last line's end; as many events as lines. -/
theorem lg_cut {s : Lg} (h : LgI s) (keep : Int) : lgCut s keep ≤ s.h.length ∧ ∃ tail, s.bs.take (lgHigh s keep) = encH (s.h.take (lgCut s keep)) ++ tail ∧ (10 : UInt8) ∉ tail ∧ (encH (s.h.take (lgCut s keep))).length ≤ lgHigh s keep ∧ (lgCut s keep < s.h.length → lgHigh s keep < (encH (s.h.take (lgCut s keep + 1))).length) := by
  obtain ⟨part, h1, h2, h3, h4⟩ := h.bs
  obtain ⟨k, hk, tail, e1, e2, e3, e4⟩ := cut_at h2 s.h (lgHigh s keep)
  have hle := (lgHigh_le h keep).2
  rw [← h1] at e1 e3
  have hc : lgCut s keep = k := by
    unfold lgCut
    rw [e1, List.count_append, count_encH, List.count_eq_zero.2 e2, List.length_take]
    omega
  rw [hc]
  exact ⟨hk, tail, e1, e2, e3 hle, e4⟩
theorem lg_last {s : Lg} (h : LgI s) (keep : Int) : Lib.lastIndexByte ⟨(s.bs.take (lgHigh s keep)).toArray⟩ 10 = (((lgCrash s keep).bs.length : Nat) : Int) - 1 ∧ (s.bs.take (lgHigh s keep)).take (lgCrash s keep).bs.length = (lgCrash s keep).bs := by
  obtain ⟨_, tail, e1, e2, _⟩ := lg_cut h keep
  rw [e1]
  refine ⟨last_line e2 (encH_end _), ?_⟩
  show (encH (s.h.take (lgCut s keep)) ++ tail).take (encH (s.h.take (lgCut s keep))).length = encH (s.h.take (lgCut s keep))
  simp
theorem lg_lines {s : Lg} (keep : Int) (h : LgI s) : (lgCrash s keep).bs.count 10 = lgCut s keep := by
  have := (lg_cut h keep).1
  show (encH (s.h.take (lgCut s keep))).count 10 = _
  rw [count_encH, List.length_take]; omega
theorem LgI.crash {s : Lg} (h : LgI s) (keep : Int) : LgI (lgCrash s keep) := ⟨h.hr.front _ (lg_cut h keep).1, ⟨[], by simp [lgCrash], by simp, by simp, fun _ => rfl⟩, Nat.le_refl _, by simp [lgCrash]⟩
end Go.Proofs.YtpafhfnimncklaaGreatDoor
/- Words as bytes, plainly: packing, unpacking, and that they undo one another. -/
namespace Go.Proofs.YtpafhfnimncklaaGreatDoor
set_option linter.unusedVariables false
set_option linter.unusedSimpArgs false
open Go.RowKit
def saidErr (who word : Int) (l : List Int) : Nat := if isMember who = false then 1 else if isWord word = false then 1 else vecErr l
def byt (n : Int) : UInt8 := UInt8.ofNat n.toNat
def dig3 (n : Int) : List UInt8 := [byt (n / 65536), byt (n / 256), byt n]
def wHead (who word : Int) (l : List Int) : List UInt8 := byt who :: byt word :: l.flatMap dig3
def sumB (l : List UInt8) : UInt8 := l.foldl (· + ·) 0
def packB (who word : Int) (l : List Int) : List UInt8 := wHead who word l ++ [sumB (wHead who word l)]
def packS (who word : Int) (l : List Int) : ByteArray := if saidErr who word l = 0 then ⟨(packB who word l).toArray⟩ else ⟨#[]⟩
def bn (b : List UInt8) (k : Nat) : Int := ((b.getD k 0).toNat : Int)
def num3 (b : List UInt8) (k : Nat) : Int := (bn b k * 256 + bn b (k + 1)) * 256 + bn b (k + 2)
def clkN (b : List UInt8) (k : Nat) : List Int := (List.range k).map fun j => num3 b (2 + 3 * j)
def unpackErr (b : List UInt8) : Nat := if b.length ≠ 18 then 2 else if sumB (b.take 17) ≠ b.getD 17 0 then 2 else if saidErr (bn b 0) (bn b 1) (clkN b 5) ≠ 0 then 2 else 0
def unpackWho (b : List UInt8) : Int := if unpackErr b = 0 then bn b 0 else 0
def unpackWord (b : List UInt8) : Int := if unpackErr b = 0 then bn b 1 else 0
def unpackClock (b : List UInt8) : List Int := if unpackErr b = 0 then clkN b 5 else []
theorem clkN_succ (b : List UInt8) (k : Nat) : clkN b (k + 1) = clkN b k ++ [num3 b (2 + 3 * k)] := by unfold clkN; rw [List.range_succ, List.map_append]; rfl
theorem clkN_len (b : List UInt8) (k : Nat) : (clkN b k).length = k := by simp [clkN]
theorem sumB_snoc (l : List UInt8) (x : UInt8) : sumB (l ++ [x]) = sumB l + x := by simp [sumB, List.foldl_append]
theorem sumB_next {l : List UInt8} {k : Nat} (h : k < l.length) : sumB (l.take (k + 1)) = sumB (l.take k) + l[k] := by rw [List.take_succ_eq_append_getElem h, sumB_snoc]
theorem bn_byte (b : List UInt8) (k : Nat) : 0 ≤ bn b k ∧ bn b k ≤ 255 := by
  unfold bn
  have := (b.getD k 0).toNat_lt
  omega
theorem num3_bd (b : List UInt8) (k : Nat) : 0 ≤ num3 b k ∧ num3 b k ≤ 16777215 := by
  have h1 := bn_byte b k; have h2 := bn_byte b (k + 1); have h3 := bn_byte b (k + 2)
  unfold num3; omega
theorem clkN_I64 (b : List UInt8) (k : Nat) : ∀ x ∈ clkN b k, I64 x := by
  intro x hx
  obtain ⟨j, _, rfl⟩ := List.mem_map.1 hx
  have := num3_bd b (2 + 3 * j)
  unfold I64; omega
theorem byt_toNat (n : Int) (h : 0 ≤ n) : ((byt n).toNat : Int) = n % 256 := by
  unfold byt
  rw [UInt8.toNat_ofNat']
  omega
theorem byt_bn (x : UInt8) (n : Int) (h : 0 ≤ n) (h2 : n % 256 = (x.toNat : Int)) : byt n = x := by
  apply UInt8.toNat_inj.1
  have := byt_toNat n h
  omega
theorem list18 (b : List UInt8) (h : b.length = 18) : ∃ b0 b1 b2 b3 b4 b5 b6 b7 b8 b9 b10 b11 b12 b13 b14 b15 b16 b17 : UInt8, b = [b0, b1, b2, b3, b4, b5, b6, b7, b8, b9, b10, b11, b12, b13, b14, b15, b16, b17] := by
  match b, h with
  | [b0, b1, b2, b3, b4, b5, b6, b7, b8, b9, b10, b11, b12, b13, b14, b15, b16, b17], _ => exact ⟨b0, b1, b2, b3, b4, b5, b6, b7, b8, b9, b10, b11, b12, b13, b14, b15, b16, b17, rfl⟩
theorem list5 (l : List Int) (h : l.length = 5) : ∃ a b c d e : Int, l = [a, b, c, d, e] := by
  match l, h with
  | [a, b, c, d, e], _ => exact ⟨a, b, c, d, e, rfl⟩
theorem dig3_num (a b c : UInt8) : dig3 (((a.toNat : Int) * 256 + b.toNat) * 256 + c.toNat) = [a, b, c] := by
  have ha := a.toNat_lt; have hb := b.toNat_lt; have hc := c.toNat_lt
  unfold dig3
  rw [byt_bn a _ (by omega) (by omega), byt_bn b _ (by omega) (by omega), byt_bn c _ (by omega) (by omega)]
theorem saidErr0 {who word : Int} {l : List Int} (h : saidErr who word l = 0) : isMember who = true ∧ isWord word = true ∧ vecErr l = 0 := by
  unfold saidErr at h
  cases h1 : isMember who
  · rw [if_pos h1] at h; cases h
  rw [if_neg (by rw [h1]; simp)] at h
  cases h2 : isWord word
  · rw [if_pos h2] at h; cases h
  rw [if_neg (by rw [h2]; simp)] at h
  exact ⟨rfl, rfl, h⟩
/-- What was read as a word is its bytes. -/
theorem pack_unpack {b : List UInt8} (h : unpackErr b = 0) : saidErr (bn b 0) (bn b 1) (clkN b 5) = 0 ∧ packB (bn b 0) (bn b 1) (clkN b 5) = b := by
  unfold unpackErr at h
  by_cases h1 : b.length = 18
  rotate_left
  · rw [if_pos h1] at h; cases h
  rw [if_neg (by omega)] at h
  by_cases h2 : sumB (b.take 17) = b.getD 17 0
  rotate_left
  · rw [if_pos h2] at h; cases h
  rw [if_neg (by simpa using h2)] at h
  by_cases h3 : saidErr (bn b 0) (bn b 1) (clkN b 5) = 0
  rotate_left
  · rw [if_pos h3] at h; cases h
  refine ⟨h3, ?_⟩
  clear h h3
  obtain ⟨b0, b1, b2, b3, b4, b5, b6, b7, b8, b9, b10, b11, b12, b13, b14, b15, b16, b17, rfl⟩ := list18 b h1
  have e0 : byt (b0.toNat : Int) = b0 := byt_bn b0 _ (by omega) (by have := b0.toNat_lt; omega)
  have e1 : byt (b1.toNat : Int) = b1 := byt_bn b1 _ (by omega) (by have := b1.toNat_lt; omega)
  have hh : wHead (b0.toNat : Int) (b1.toNat : Int) [((b2.toNat : Int) * 256 + b3.toNat) * 256 + b4.toNat, ((b5.toNat : Int) * 256 + b6.toNat) * 256 + b7.toNat, ((b8.toNat : Int) * 256 + b9.toNat) * 256 + b10.toNat, ((b11.toNat : Int) * 256 + b12.toNat) * 256 + b13.toNat, ((b14.toNat : Int) * 256 + b15.toNat) * 256 + b16.toNat] = [b0, b1, b2, b3, b4, b5, b6, b7, b8, b9, b10, b11, b12, b13, b14, b15, b16] := by
    unfold wHead
    simp only [List.flatMap_cons, List.flatMap_nil, dig3_num, e0, e1]
    rfl
  have h2' : sumB [b0, b1, b2, b3, b4, b5, b6, b7, b8, b9, b10, b11, b12, b13, b14, b15, b16] = b17 := h2
  show packB (b0.toNat : Int) (b1.toNat : Int) [((b2.toNat : Int) * 256 + b3.toNat) * 256 + b4.toNat, ((b5.toNat : Int) * 256 + b6.toNat) * 256 + b7.toNat, ((b8.toNat : Int) * 256 + b9.toNat) * 256 + b10.toNat, ((b11.toNat : Int) * 256 + b12.toNat) * 256 + b13.toNat, ((b14.toNat : Int) * 256 + b15.toNat) * 256 + b16.toNat] = _
  unfold packB
  rw [hh, h2']
  rfl
theorem wHead_len {who word : Int} {l : List Int} (h : l.length = 5) : (wHead who word l).length = 17 := by
  obtain ⟨a, b, c, d, e, rfl⟩ := list5 l h
  rfl
theorem packB_len {who word : Int} {l : List Int} (h : l.length = 5) : (packB who word l).length = 18 := by
  unfold packB; rw [List.length_append, wHead_len h]; rfl
theorem num_dig3 (n : Int) (h : 0 ≤ n ∧ n ≤ 1000000) : (((byt (n / 65536)).toNat : Int) * 256 + (byt (n / 256)).toNat) * 256 + (byt n).toNat = n := by
  rw [byt_toNat _ (by omega), byt_toNat _ (by omega), byt_toNat _ (by omega)]
  omega
/-- What was packed is read as it was. -/
theorem unpack_pack {who word : Int} {l : List Int} (h : saidErr who word l = 0) : unpackErr (packB who word l) = 0 ∧ bn (packB who word l) 0 = who ∧ bn (packB who word l) 1 = word ∧ clkN (packB who word l) 5 = l := by
  obtain ⟨hm, hw, hv⟩ := saidErr0 h
  obtain ⟨h5, hb⟩ := vecErr0 hv
  have hlen : (packB who word l).length = 18 := packB_len h5
  have hhl : (wHead who word l).length = 17 := wHead_len h5
  have ht : (packB who word l).take 17 = wHead who word l := by unfold packB; rw [List.take_append_of_le_length (by omega), List.take_of_length_le (by omega)]
  have hs : (packB who word l).getD 17 0 = sumB (wHead who word l) := by unfold packB; rw [List.getD_eq_getElem?_getD, List.getElem?_append_right (by omega), hhl]; rfl
  have hm' : 0 ≤ who ∧ who < 5 := by simpa [isMember] using hm
  have hw' : 1 ≤ word ∧ word ≤ 30 := by simpa [isWord] using hw
  have e0 : ((byt who).toNat : Int) = who := by rw [byt_toNat _ (by omega)]; omega
  have e1 : ((byt word).toNat : Int) = word := by rw [byt_toNat _ (by omega)]; omega
  obtain ⟨a, b, c, d, e, rfl⟩ := list5 l h5
  have g0 : bn (packB who word [a, b, c, d, e]) 0 = who := e0
  have g1 : bn (packB who word [a, b, c, d, e]) 1 = word := e1
  have g2 : clkN (packB who word [a, b, c, d, e]) 5 = [a, b, c, d, e] := by
    show [(((byt (a / 65536)).toNat : Int) * 256 + (byt (a / 256)).toNat) * 256 + (byt a).toNat, (((byt (b / 65536)).toNat : Int) * 256 + (byt (b / 256)).toNat) * 256 + (byt b).toNat, (((byt (c / 65536)).toNat : Int) * 256 + (byt (c / 256)).toNat) * 256 + (byt c).toNat, (((byt (d / 65536)).toNat : Int) * 256 + (byt (d / 256)).toNat) * 256 + (byt d).toNat, (((byt (e / 65536)).toNat : Int) * 256 + (byt (e / 256)).toNat) * 256 + (byt e).toNat] = _
    rw [num_dig3 a (hb a (by simp)), num_dig3 b (hb b (by simp)), num_dig3 c (hb c (by simp)), num_dig3 d (hb d (by simp)), num_dig3 e (hb e (by simp))]
  refine ⟨?_, g0, g1, g2⟩
  unfold unpackErr
  rw [if_neg (by omega), ht, hs, if_neg (by simp), g0, g1, g2, h]
  first | done | rfl | simp
def sumN (l : List UInt8) : Nat := (l.map UInt8.toNat).sum
theorem sumB_toNat : ∀ (l : List UInt8) (a : UInt8), (l.foldl (· + ·) a).toNat = (a.toNat + sumN l) % 256
  | [], a => by have := a.toNat_lt; simp [sumN]; try omega
  | x :: r, a => by
    rw [List.foldl_cons, sumB_toNat r]
    simp only [UInt8.toNat_add, sumN, List.map_cons, List.sum_cons]
    omega
theorem sumN_set : ∀ (l : List UInt8) (k : Nat) (x : UInt8) (h : k < l.length), sumN (l.set k x) + l[k].toNat = sumN l + x.toNat
  | y :: r, 0, x, _ => by simp [sumN]; omega
  | y :: r, k + 1, x, h => by
    have ih := sumN_set r k x (by simpa using h)
    simp only [sumN, List.set_cons_succ, List.map_cons, List.sum_cons, List.getElem_cons_succ] at ih ⊢
    omega
/-- With one byte another one it is none. -/
theorem unpack_set {who word : Int} {l : List Int} (h : saidErr who word l = 0) (k : Nat) (x : UInt8) (hk : k < 18) (hx : (packB who word l).getD k 0 ≠ x) : unpackErr ((packB who word l).set k x) = 2 := by
  obtain ⟨hm, hw, hv⟩ := saidErr0 h
  obtain ⟨h5, _⟩ := vecErr0 hv
  have hhl : (wHead who word l).length = 17 := wHead_len h5
  unfold packB at hx ⊢
  obtain ⟨A, hA⟩ : ∃ A, A = wHead who word l := ⟨_, rfl⟩
  rw [← hA] at hhl hx ⊢
  unfold unpackErr
  rw [if_neg (by rw [List.length_set, List.length_append, hhl]; simp)]
  by_cases h17 : k = 17
  · subst h17
    have ht : ((A ++ [sumB A]).set 17 x).take 17 = A := by
      rw [List.set_append_right _ _ (by omega), List.take_append_of_le_length (by omega), List.take_of_length_le (by omega)]
    rw [if_pos]
    rw [ht, List.getD_eq_getElem?_getD, List.getElem?_set_self (by rw [List.length_append, hhl]; simp)]
    rw [List.getD_eq_getElem?_getD, List.getElem?_append_right (by omega), hhl] at hx
    exact hx
  · have ht : ((A ++ [sumB A]).set k x).take 17 = A.set k x := by
      rw [List.set_append_left _ _ (by omega), List.take_append_of_le_length (by simp; omega), List.take_of_length_le (by simp; omega)]
    have hk17 : k < A.length := by omega
    have hl17 : ((A ++ [sumB A]).set k x).getD 17 0 = sumB A := by
      rw [List.getD_eq_getElem?_getD, List.getElem?_set_ne (by omega), List.getElem?_append_right (by omega), hhl]; rfl
    rw [List.getD_eq_getElem?_getD, List.getElem?_append_left hk17, List.getElem?_eq_getElem hk17] at hx
    rw [if_pos]
    rw [ht, hl17]
    intro he
    apply hx
    apply UInt8.toNat_inj.1
    have h1 := sumB_toNat (A.set k x) 0
    have h2 := sumB_toNat A 0
    have h3 := sumN_set A k x hk17
    have h4 := A[k].toNat_lt
    have h6 := x.toNat_lt
    unfold sumB at he
    rw [he, h2] at h1
    simp only [UInt8.toNat_zero] at h1
    show A[k].toNat = x.toNat
    omega
theorem bytes_ext {a b : ByteArray} (h : a.data.toList = b.data.toList) : a = b := by
  cases a; cases b
  simp only at h
  congr 1
  exact Array.toList_inj.1 h
theorem unpack_short {b : List UInt8} (h : b.length ≠ 18) : unpackErr b = 2 := by unfold unpackErr; rw [if_pos h]
end Go.Proofs.YtpafhfnimncklaaGreatDoor
