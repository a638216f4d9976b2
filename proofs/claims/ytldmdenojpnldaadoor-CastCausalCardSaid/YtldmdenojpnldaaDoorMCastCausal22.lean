/- CastCausal: one step of the law; all steps; all that is on its way given; says and hearings counted. -/
import Derived.Test.YtldmdenojpnldaaDoorMCastCausal12
import Derived.Test.YtldmdenojpnldaaDoorMCastCausal18
import Derived.Test.YtldmdenojpnldaaDoorMCastCausal19
import Derived.Test.YtldmdenojpnldaaDoorMCastCausal21
import Derived.Test.YtldmdenojpnldaaDoorMCastCausal8
import Derived.Test.YtldmdenojpnldaaDoorRows
import Derived.ChangeSame
import Derived.ChangeVars
import Derived.JoinedOf
import Derived.LaidLaws
import Derived.LaidHandle
import Derived.Stop.Joined
namespace Go.Proofs.YtldmdenojpnldaaDoor
set_option linter.unusedVariables false
set_option linter.unusedSimpArgs false
open Go.RowKit Go.Maps
theorem Own.cc_three {w0 w : World} {ty : TypeId} {b : Nat} {x y z : Int} {R : HProp} (h : Own w0 (Nms ty b [x, y, z] * R) w) : w.cell? ⟨b, 0, none⟩ = some (.int .i64 x) ∧ w.cell? ⟨b, 1, none⟩ = some (.int .i64 y) ∧ w.cell? ⟨b, 2, none⟩ = some (.int .i64 z) :=
  ⟨h.nms_cell 0 (by simp), h.nms_cell 1 (by simp), h.nms_cell 2 (by simp)⟩
/-- What is kept. -/
structure Cc (N : Nat) (D : Bool) (c : Cs) : Prop where
  z : CZ c
  nd : D = false → ND c
  n : c.mem.length = N
theorem Cc.new {N : Nat} (h2 : 2 ≤ N) (h5 : N ≤ 5) (D : Bool) : Cc N D (csNew N) := ⟨CZ.new h2 h5, fun _ => ND.new N, by simp [csNew]⟩
theorem Cc.say {N D c} (h : Cc N D c) (a b : Int) : Cc N D (csSay c a b) := ⟨h.z.say a b, fun hd => ND.say h.z (h.nd hd) a b, by
  rw [← h.n]; unfold csSay; split
  · simp
  · rfl⟩
theorem Cc.give {N D c} (h : Cc N D c) (i : Int) : Cc N D (csGive c i) := ⟨h.z.give i, fun hd => ND.give h.z (h.nd hd) i, by
  rw [← h.n]; unfold csGive; split
  · simp
  · rfl⟩
theorem Cc.drop {N c} (h : Cc N true c) (i : Int) : Cc N true (csDrop c i) := ⟨h.z.drop i, fun hd => (by cases hd), h.n⟩
theorem Cc.twice {N D c} (h : Cc N D c) (i : Int) : Cc N D (csTwice c i) := ⟨h.z.twice i, fun hd => ND.twice (h.nd hd) i, h.n⟩
def CcO (w : World) (p N : Nat) (D : Bool) (wx : World) : Prop := ∃ c : Cs, Cc N D c ∧ Own w (CsP p c * emp) wx
theorem saysN_take (h : List Ev) (k : Nat) (hk : k < h.length) : saysN (h.take (k + 1)) = saysN (h.take k) + if h[k].2.1 = 2 then 1 else 0 := by
  unfold saysN
  rw [List.take_succ_eq_append_getElem hk, List.filter_append, List.length_append]
  congr 1
  by_cases he : h[k].2.1 = 2 <;> simp [he]
theorem hearsN_take (h : List Ev) (k : Nat) (hk : k < h.length) : hearsN (h.take (k + 1)) = hearsN (h.take k) + if h[k].2.1 = 3 then 1 else 0 := by
  unfold hearsN
  rw [List.take_succ_eq_append_getElem hk, List.filter_append, List.length_append]
  congr 1
  by_cases he : h[k].2.1 = 3 <;> simp [he]
noncomputable def ccFill_code : Code := ((Tryd.f10.body.bind (findBlock 2)).getD .skip)
set_option maxRecDepth 1000000 in
set_option maxHeartbeats 4000000 in
theorem ccFill {Q : Exit → Act → World → Prop} {u0 u2 u3 u4 u5 u6 u7 u8 u9 u10 u11 u15 u16 u17 u18 u19 u20 u21 u22 u23 u24 u25 u26 u27 u28 u29 u30 u31 u32 u33 u34 u35 u36 u37 u38 u39 u40 u41 u42 u43 u44 u45 u46 u47 u48 u49 u50 u51 u52 u53 u54 u55 u56 u57 u58 u59 u60 u61 u62 u63 u64 u65 u66 u67 u68 u69 u70 u71 u72 u73 u74 u75 u76 u77 u78 u79 u80 u81 u82 u83 u84 u85 u86 u87 u88 u89 u90 u91 u92 u93 u94 u95 u96 u97 u98 u99 u100 u101 u102 u103 u104 u105 u106 u107 u108 u109 u110 u111 u112 u113 u114 u115 u116 u117 u118 u119 u120 u121 u122 u123 u124 u125 u126 u127 u128 u129 u130 u131 u132 u133 u134 u135 u136 u137 u138 u139 u140 u141 u142 u143 u144 u145 u146 u147 u148 u149 u150 u151 u152 u153 u154 u155 u156 u157 u158 u159 u160 u161 u162 u163 u164 u165 u166 u167 u168 u169 u170 u171 u172 u173 u174 u175 u176 u177 u178 u179 u180 u181 u182 u183 u184 u185 u186 u187 u188 u189 u190 u191 u192 u193 u194 u195 u196 u197 u198 u199 u200 u201 u202 u203 u204 u205 u206 u207 u208 u209 u210 u211 u212 u213 u214 u215 u216 u217 u218 u219 u220 u221 : Value} {w1 : World} (w : World) (R : HProp) (vb k : Nat) (steps : List (List Int)) (row : List Int) (a2 : Addr) (scap rcap : Nat) (rad : Option Addr) (h1 : k < steps.length) (hc1 : steps.length ≤ scap) (hc2 : scap ≤ 9223372036854775807) (HR : Hid (Ints w (.slice rad row.length rcap) row)) (HC : Hid (∀ (w1 : World) (P : HProp), Own w P w1 → w1.cell? (a2.add k) = some (.slice rad row.length rcap))) (HT : Hid (Own w (Nms 85 vb [0, 0, 0] * R) w1))
    (hK : ∀ (v14 v70 v71 v72 v73 v74 v75 v76 v77 v78 v79 v80 v81 v82 v83 v84 v85 v86 v87 v88 v89 v90 v91 : Value) (wx : World), (NmV 85 3 w vb R wx) → Q .normal ⟨List.toArray (u0 :: (.slice (some a2) steps.length scap) :: u2 :: u3 :: u4 :: u5 :: u6 :: u7 :: u8 :: u9 :: u10 :: u11 :: (.int .i64 (k : Int)) :: (.pointer (some ⟨vb, 0, none⟩)) :: v14 :: u15 :: u16 :: u17 :: u18 :: u19 :: u20 :: u21 :: u22 :: u23 :: u24 :: u25 :: u26 :: u27 :: u28 :: u29 :: u30 :: u31 :: u32 :: u33 :: u34 :: u35 :: u36 :: u37 :: u38 :: u39 :: u40 :: u41 :: u42 :: u43 :: u44 :: u45 :: u46 :: u47 :: u48 :: u49 :: u50 :: u51 :: u52 :: u53 :: u54 :: u55 :: u56 :: u57 :: u58 :: u59 :: u60 :: u61 :: u62 :: u63 :: u64 :: u65 :: u66 :: u67 :: u68 :: u69 :: v70 :: v71 :: v72 :: v73 :: v74 :: v75 :: v76 :: v77 :: v78 :: v79 :: v80 :: v81 :: v82 :: v83 :: v84 :: v85 :: v86 :: v87 :: v88 :: v89 :: v90 :: v91 :: u92 :: u93 :: u94 :: u95 :: u96 :: u97 :: u98 :: u99 :: u100 :: u101 :: u102 :: u103 :: u104 :: u105 :: u106 :: u107 :: u108 :: u109 :: u110 :: u111 :: u112 :: u113 :: u114 :: u115 :: u116 :: u117 :: u118 :: u119 :: u120 :: u121 :: u122 :: u123 :: u124 :: u125 :: u126 :: u127 :: u128 :: u129 :: u130 :: u131 :: u132 :: u133 :: u134 :: u135 :: u136 :: u137 :: u138 :: u139 :: u140 :: u141 :: u142 :: u143 :: u144 :: u145 :: u146 :: u147 :: u148 :: u149 :: u150 :: u151 :: u152 :: u153 :: u154 :: u155 :: u156 :: u157 :: u158 :: u159 :: u160 :: u161 :: u162 :: u163 :: u164 :: u165 :: u166 :: u167 :: u168 :: u169 :: u170 :: u171 :: u172 :: u173 :: u174 :: u175 :: u176 :: u177 :: u178 :: u179 :: u180 :: u181 :: u182 :: u183 :: u184 :: u185 :: u186 :: u187 :: u188 :: u189 :: u190 :: u191 :: u192 :: u193 :: u194 :: u195 :: u196 :: u197 :: u198 :: u199 :: u200 :: u201 :: u202 :: u203 :: u204 :: u205 :: u206 :: u207 :: u208 :: u209 :: u210 :: u211 :: u212 :: u213 :: u214 :: u215 :: u216 :: u217 :: u218 :: u219 :: u220 :: u221 :: []), []⟩ wx) :
    Code.wp Tryd.prog ccFill_code Q ⟨List.toArray (u0 :: (.slice (some a2) steps.length scap) :: u2 :: u3 :: u4 :: u5 :: u6 :: u7 :: u8 :: u9 :: u10 :: u11 :: (.int .i64 (k : Int)) :: (.pointer (some ⟨vb, 0, none⟩)) :: (.int .i64 0) :: u15 :: u16 :: u17 :: u18 :: u19 :: u20 :: u21 :: u22 :: u23 :: u24 :: u25 :: u26 :: u27 :: u28 :: u29 :: u30 :: u31 :: u32 :: u33 :: u34 :: u35 :: u36 :: u37 :: u38 :: u39 :: u40 :: u41 :: u42 :: u43 :: u44 :: u45 :: u46 :: u47 :: u48 :: u49 :: u50 :: u51 :: u52 :: u53 :: u54 :: u55 :: u56 :: u57 :: u58 :: u59 :: u60 :: u61 :: u62 :: u63 :: u64 :: u65 :: u66 :: u67 :: u68 :: u69 :: u70 :: u71 :: u72 :: u73 :: u74 :: u75 :: u76 :: u77 :: u78 :: u79 :: u80 :: u81 :: u82 :: u83 :: u84 :: u85 :: u86 :: u87 :: u88 :: u89 :: u90 :: u91 :: u92 :: u93 :: u94 :: u95 :: u96 :: u97 :: u98 :: u99 :: u100 :: u101 :: u102 :: u103 :: u104 :: u105 :: u106 :: u107 :: u108 :: u109 :: u110 :: u111 :: u112 :: u113 :: u114 :: u115 :: u116 :: u117 :: u118 :: u119 :: u120 :: u121 :: u122 :: u123 :: u124 :: u125 :: u126 :: u127 :: u128 :: u129 :: u130 :: u131 :: u132 :: u133 :: u134 :: u135 :: u136 :: u137 :: u138 :: u139 :: u140 :: u141 :: u142 :: u143 :: u144 :: u145 :: u146 :: u147 :: u148 :: u149 :: u150 :: u151 :: u152 :: u153 :: u154 :: u155 :: u156 :: u157 :: u158 :: u159 :: u160 :: u161 :: u162 :: u163 :: u164 :: u165 :: u166 :: u167 :: u168 :: u169 :: u170 :: u171 :: u172 :: u173 :: u174 :: u175 :: u176 :: u177 :: u178 :: u179 :: u180 :: u181 :: u182 :: u183 :: u184 :: u185 :: u186 :: u187 :: u188 :: u189 :: u190 :: u191 :: u192 :: u193 :: u194 :: u195 :: u196 :: u197 :: u198 :: u199 :: u200 :: u201 :: u202 :: u203 :: u204 :: u205 :: u206 :: u207 :: u208 :: u209 :: u210 :: u211 :: u212 :: u213 :: u214 :: u215 :: u216 :: u217 :: u218 :: u219 :: u220 :: u221 :: []), []⟩ w1 := by
  conv => arg 2; whnf
  have HK := Lib.hid hK
  clear hK
  go_wp2_with fail
  go_loopw [14] (fun jv w2 => ∃ (j : Nat) (l : List Int), j ≤ 3 ∧ jv = .int .i64 j ∧ Hid (l.length = 3) ∧ Hid (Own w (Nms 85 vb l * R) w2)) (fun jv _ => 3 - (intOf jv).toNat)
  case atStart => exact ⟨0, [0, 0, 0], Nat.zero_le _, rfl, Lib.hid rfl, HT⟩
  case round =>
    obtain ⟨j, l, hj, rfl, hl, hpw⟩ := hrel
    have c1 := HC.out _ _ hpw.out
    have FIN := Lib.hid (show NmV 85 3 w vb R wr from ⟨l, hl.out, hpw.out⟩)
    by_cases h3 : j < row.length
    rotate_left
    · go_wp2_with fail
      apply HK.out
      exact FIN.out
    by_cases h4 : j < 3
    rotate_left
    · go_wp2_with fail
      apply HK.out
      exact FIN.out
    obtain ⟨b3, rfl, hcb⟩ := HR.out.at_later j h3
    have c2 := hcb _ _ hpw.out
    have hjl : j < l.length := by rw [hl.out]; exact h4
    have c3 := hpw.out.nms_cell j hjl
    have c4 := hpw.out.nms_free j
    have HS := Lib.hid (hpw.out.nms_set j row[j])
    have i0 : (0 : Int) ≤ (j : Int) := by omega
    have i3 : (j : Int) < 3 := by omega
    clear hcb
    go_wp2_with fail
    go_roundw
    case rel => exact ⟨j + 1, l.set j row[j], by omega, by go_num, Lib.hid (by rw [List.length_set]; exact hl.out), HS⟩
    case measure => simp [intOf]; omega
noncomputable def ccStep_code : Code := ((Tryd.f10.body.bind (findBlock 4)).getD .skip)
set_option maxRecDepth 1000000 in
set_option maxHeartbeats 4000000 in
theorem ccStep {Q : Exit → Act → World → Prop} {u0 u1 u3 u4 u5 u6 u7 u8 u9 u11 u12 u14 u15 u16 u17 u18 u19 u20 u21 u22 u23 u24 u25 u26 u27 u28 u29 u30 u31 u32 u33 u34 u35 u36 u37 u38 u39 u40 u41 u42 u43 u44 u45 u46 u47 u48 u49 u50 u51 u52 u53 u54 u55 u56 u57 u58 u59 u60 u61 u62 u63 u64 u65 u66 u67 u68 u69 u70 u71 u72 u73 u74 u75 u76 u77 u78 u79 u80 u81 u82 u83 u84 u85 u86 u87 u88 u89 u90 u91 u92 u94 u95 u96 u97 u98 u99 u100 u101 u102 u103 u104 u105 u106 u107 u108 u109 u110 u111 u112 u113 u114 u115 u116 u117 u118 u119 u120 u121 u122 u123 u124 u125 u126 u127 u128 u129 u130 u131 u132 u133 u134 u135 u136 u137 u138 u139 u140 u141 u142 u143 u144 u145 u146 u147 u148 u149 u150 u151 u152 u153 u154 u155 u156 u157 u158 u159 u160 u161 u162 u163 u164 u165 u166 u167 u168 u169 u170 u171 u172 u173 u174 u175 u176 u177 u178 u179 u180 u181 u182 u183 u184 u185 u186 u187 u188 u189 u190 u191 u192 u193 u194 u195 u196 u197 u198 u199 u200 u201 u202 u203 u204 u205 u206 u207 u208 u209 u210 u211 u212 u213 u214 u215 u216 u217 u218 u219 u220 u221 : Value} {w1 : World} (w : World) (hg : As.Handle w) {p vb N : Nat} (D : Bool) (c : Cs) (hI : Cc N D c) (x y z : Int) (HP : Hid (Own w (CsP p c * (Nms 85 vb [x, y, z] * emp)) w1))
    (hK : ∀ (v94 v95 v96 v97 v98 v99 v100 v101 v102 v103 v104 v105 v106 v107 v108 v109 v110 v111 v112 v113 v114 v115 v116 v117 v118 v119 : Value) (wx : World), (CcO w p N D wx) → Q .normal ⟨List.toArray (u0 :: u1 :: (.bool D) :: u3 :: u4 :: u5 :: u6 :: u7 :: u8 :: u9 :: (.pointer (some ⟨p, 0, none⟩)) :: u11 :: u12 :: (.pointer (some ⟨vb, 0, none⟩)) :: u14 :: u15 :: u16 :: u17 :: u18 :: u19 :: u20 :: u21 :: u22 :: u23 :: u24 :: u25 :: u26 :: u27 :: u28 :: u29 :: u30 :: u31 :: u32 :: u33 :: u34 :: u35 :: u36 :: u37 :: u38 :: u39 :: u40 :: u41 :: u42 :: u43 :: u44 :: u45 :: u46 :: u47 :: u48 :: u49 :: u50 :: u51 :: u52 :: u53 :: u54 :: u55 :: u56 :: u57 :: u58 :: u59 :: u60 :: u61 :: u62 :: u63 :: u64 :: u65 :: u66 :: u67 :: u68 :: u69 :: u70 :: u71 :: u72 :: u73 :: u74 :: u75 :: u76 :: u77 :: u78 :: u79 :: u80 :: u81 :: u82 :: u83 :: u84 :: u85 :: u86 :: u87 :: u88 :: u89 :: u90 :: u91 :: u92 :: (.int .i64 x) :: v94 :: v95 :: v96 :: v97 :: v98 :: v99 :: v100 :: v101 :: v102 :: v103 :: v104 :: v105 :: v106 :: v107 :: v108 :: v109 :: v110 :: v111 :: v112 :: v113 :: v114 :: v115 :: v116 :: v117 :: v118 :: v119 :: u120 :: u121 :: u122 :: u123 :: u124 :: u125 :: u126 :: u127 :: u128 :: u129 :: u130 :: u131 :: u132 :: u133 :: u134 :: u135 :: u136 :: u137 :: u138 :: u139 :: u140 :: u141 :: u142 :: u143 :: u144 :: u145 :: u146 :: u147 :: u148 :: u149 :: u150 :: u151 :: u152 :: u153 :: u154 :: u155 :: u156 :: u157 :: u158 :: u159 :: u160 :: u161 :: u162 :: u163 :: u164 :: u165 :: u166 :: u167 :: u168 :: u169 :: u170 :: u171 :: u172 :: u173 :: u174 :: u175 :: u176 :: u177 :: u178 :: u179 :: u180 :: u181 :: u182 :: u183 :: u184 :: u185 :: u186 :: u187 :: u188 :: u189 :: u190 :: u191 :: u192 :: u193 :: u194 :: u195 :: u196 :: u197 :: u198 :: u199 :: u200 :: u201 :: u202 :: u203 :: u204 :: u205 :: u206 :: u207 :: u208 :: u209 :: u210 :: u211 :: u212 :: u213 :: u214 :: u215 :: u216 :: u217 :: u218 :: u219 :: u220 :: u221 :: []), []⟩ wx) :
    Code.wp Tryd.prog ccStep_code Q ⟨List.toArray (u0 :: u1 :: (.bool D) :: u3 :: u4 :: u5 :: u6 :: u7 :: u8 :: u9 :: (.pointer (some ⟨p, 0, none⟩)) :: u11 :: u12 :: (.pointer (some ⟨vb, 0, none⟩)) :: u14 :: u15 :: u16 :: u17 :: u18 :: u19 :: u20 :: u21 :: u22 :: u23 :: u24 :: u25 :: u26 :: u27 :: u28 :: u29 :: u30 :: u31 :: u32 :: u33 :: u34 :: u35 :: u36 :: u37 :: u38 :: u39 :: u40 :: u41 :: u42 :: u43 :: u44 :: u45 :: u46 :: u47 :: u48 :: u49 :: u50 :: u51 :: u52 :: u53 :: u54 :: u55 :: u56 :: u57 :: u58 :: u59 :: u60 :: u61 :: u62 :: u63 :: u64 :: u65 :: u66 :: u67 :: u68 :: u69 :: u70 :: u71 :: u72 :: u73 :: u74 :: u75 :: u76 :: u77 :: u78 :: u79 :: u80 :: u81 :: u82 :: u83 :: u84 :: u85 :: u86 :: u87 :: u88 :: u89 :: u90 :: u91 :: u92 :: (.int .i64 x) :: u94 :: u95 :: u96 :: u97 :: u98 :: u99 :: u100 :: u101 :: u102 :: u103 :: u104 :: u105 :: u106 :: u107 :: u108 :: u109 :: u110 :: u111 :: u112 :: u113 :: u114 :: u115 :: u116 :: u117 :: u118 :: u119 :: u120 :: u121 :: u122 :: u123 :: u124 :: u125 :: u126 :: u127 :: u128 :: u129 :: u130 :: u131 :: u132 :: u133 :: u134 :: u135 :: u136 :: u137 :: u138 :: u139 :: u140 :: u141 :: u142 :: u143 :: u144 :: u145 :: u146 :: u147 :: u148 :: u149 :: u150 :: u151 :: u152 :: u153 :: u154 :: u155 :: u156 :: u157 :: u158 :: u159 :: u160 :: u161 :: u162 :: u163 :: u164 :: u165 :: u166 :: u167 :: u168 :: u169 :: u170 :: u171 :: u172 :: u173 :: u174 :: u175 :: u176 :: u177 :: u178 :: u179 :: u180 :: u181 :: u182 :: u183 :: u184 :: u185 :: u186 :: u187 :: u188 :: u189 :: u190 :: u191 :: u192 :: u193 :: u194 :: u195 :: u196 :: u197 :: u198 :: u199 :: u200 :: u201 :: u202 :: u203 :: u204 :: u205 :: u206 :: u207 :: u208 :: u209 :: u210 :: u211 :: u212 :: u213 :: u214 :: u215 :: u216 :: u217 :: u218 :: u219 :: u220 :: u221 :: []), []⟩ w1 := by
  conv => arg 2; whnf
  have HK := Lib.hid hK
  clear hK
  obtain ⟨c0, c1, c2⟩ := HP.out.second.cc_three
  have hbb : c.hist.length ≤ 100000 := by have := hI.z.len; omega
  by_cases h01 : x = 0 ∨ x = 1
  · have hni := hI.say y z
    rcases h01 with rfl | rfl
    all_goals
      have HG := Lib.hid hg; have HI := Lib.hid hI; have HNI := Lib.hid hni
      clear hg hI hni
      go_wp2_with fail
      refine (csSay_any p c y z HI.out.z.i hbb HP.out).mono ?_
      rintro e w3 ⟨rfl, ho⟩
      have HO3 := Lib.hid ho.second.drop
      clear ho c0 c1 c2
      go_wp2_with fail
      apply HK.out
      exact ⟨_, HNI.out, HO3.out.perm (by ac_rfl)⟩
  have t0 : (x == 0) = false := by rw [beq_eq_false_iff_ne]; exact fun e => h01 (.inl e)
  have t1 : (x == 1) = false := by rw [beq_eq_false_iff_ne]; exact fun e => h01 (.inr e)
  by_cases h2 : x = 2
  · subst h2
    cases D
    · have HG := Lib.hid hg; have HI := Lib.hid hI; have H01 := Lib.hid h01
      clear hg hI h01
      have HO3 := Lib.hid HP.out.second.drop
      go_wp2_with fail
      apply HK.out
      exact ⟨_, HI.out, HO3.out.perm (by ac_rfl)⟩
    · have hni := hI.drop y
      have HG := Lib.hid hg; have HI := Lib.hid hI; have HNI := Lib.hid hni; have H01 := Lib.hid h01
      clear hg hI hni h01
      go_wp2_with fail
      refine (csDrop_any p c y HI.out.z.i HP.out).mono ?_
      rintro e w3 ⟨rfl, ho⟩
      have HO3 := Lib.hid ho.second.drop
      clear ho c0 c1 c2
      go_wp2_with fail
      apply HK.out
      exact ⟨_, HNI.out, HO3.out.perm (by ac_rfl)⟩
  have t2 : (x == 2) = false := by rw [beq_eq_false_iff_ne]; exact h2
  by_cases h3 : x = 3
  · subst h3
    have hni := hI.twice y
    have HG := Lib.hid hg; have HI := Lib.hid hI; have HNI := Lib.hid hni; have H01 := Lib.hid h01; have H2 := Lib.hid h2
    clear hg hI hni h01 h2
    go_wp2_with fail
    refine (csTwice_any p c y HI.out.z.i HP.out).mono ?_
    rintro e w3 ⟨rfl, ho⟩
    have HO3 := Lib.hid ho.second.drop
    clear ho c0 c1 c2
    go_wp2_with fail
    apply HK.out
    exact ⟨_, HNI.out, HO3.out.perm (by ac_rfl)⟩
  have t3 : (x == 3) = false := by rw [beq_eq_false_iff_ne]; exact h3
  have hni := hI.give y
  have HG := Lib.hid hg; have HI := Lib.hid hI; have HNI := Lib.hid hni; have H01 := Lib.hid h01; have H2 := Lib.hid h2; have H3 := Lib.hid h3
  clear hg hI hni h01 h2 h3
  go_wp2_with fail
  refine (csGive_any HG.out p c y HI.out.z.i hbb HP.out).mono ?_
  rintro e w3 ⟨v1, rfl, ho⟩
  have HO3 := Lib.hid ho.drop.second.drop
  clear ho c0 c1 c2
  go_wp2_with fail
  apply HK.out
  exact ⟨_, HNI.out, HO3.out.perm (by ac_rfl)⟩
noncomputable def ccLoop_code : Code := ((Tryd.f10.body.bind (findBlock 0)).getD .skip)
set_option maxRecDepth 1000000 in
set_option maxHeartbeats 4000000 in
theorem ccLoop {Q : Exit → Act → World → Prop} {u0 u3 u4 u5 u6 u7 u8 u9 u11 u13 u14 u15 u16 u17 u18 u19 u20 u21 u22 u23 u24 u25 u26 u27 u28 u29 u30 u31 u32 u33 u34 u35 u36 u37 u38 u39 u40 u41 u42 u43 u44 u45 u46 u47 u48 u49 u50 u51 u52 u53 u54 u55 u56 u57 u58 u59 u60 u61 u62 u63 u64 u65 u66 u67 u68 u69 u70 u71 u72 u73 u74 u75 u76 u77 u78 u79 u80 u81 u82 u83 u84 u85 u86 u87 u88 u89 u90 u91 u92 u93 u94 u95 u96 u97 u98 u99 u100 u101 u102 u103 u104 u105 u106 u107 u108 u109 u110 u111 u112 u113 u114 u115 u116 u117 u118 u119 u120 u121 u122 u123 u124 u125 u126 u127 u128 u129 u130 u131 u132 u133 u134 u135 u136 u137 u138 u139 u140 u141 u142 u143 u144 u145 u146 u147 u148 u149 u150 u151 u152 u153 u154 u155 u156 u157 u158 u159 u160 u161 u162 u163 u164 u165 u166 u167 u168 u169 u170 u171 u172 u173 u174 u175 u176 u177 u178 u179 u180 u181 u182 u183 u184 u185 u186 u187 u188 u189 u190 u191 u192 u193 u194 u195 u196 u197 u198 u199 u200 u201 u202 u203 u204 u205 u206 u207 u208 u209 u210 u211 u212 u213 u214 u215 u216 u217 u218 u219 u220 u221 : Value} {w1 : World} (w : World) (hg : As.Handle w) {p N : Nat} (D : Bool) (c0 : Cs) (hI0 : Cc N D c0) (sad : Option Addr) (scap : Nat) (steps : List (List Int)) (hsc1 : steps.length ≤ scap) (hsc2 : scap ≤ 9223372036854775807) (hvs : Rows2 w (.slice sad steps.length scap) steps) (HP0 : Hid (Own w (CsP p c0 * emp) w1))
    (hK : ∀ (v12 v13 v14 v60 v61 v62 v63 v64 v65 v66 v67 v68 v69 v70 v71 v72 v73 v74 v75 v76 v77 v78 v79 v80 v81 v82 v83 v84 v85 v86 v87 v88 v89 v90 v91 v92 v93 v94 v95 v96 v97 v98 v99 v100 v101 v102 v103 v104 v105 v106 v107 v108 v109 v110 v111 v112 v113 v114 v115 v116 v117 v118 v119 : Value) (wx : World), (CcO w p N D wx) → Q .normal ⟨List.toArray (u0 :: (.slice sad steps.length scap) :: (.bool D) :: u3 :: u4 :: u5 :: u6 :: u7 :: u8 :: u9 :: (.pointer (some ⟨p, 0, none⟩)) :: u11 :: v12 :: v13 :: v14 :: u15 :: u16 :: u17 :: u18 :: u19 :: u20 :: u21 :: u22 :: u23 :: u24 :: u25 :: u26 :: u27 :: u28 :: u29 :: u30 :: u31 :: u32 :: u33 :: u34 :: u35 :: u36 :: u37 :: u38 :: u39 :: u40 :: u41 :: u42 :: u43 :: u44 :: u45 :: u46 :: u47 :: u48 :: u49 :: u50 :: u51 :: u52 :: u53 :: u54 :: u55 :: u56 :: u57 :: u58 :: u59 :: v60 :: v61 :: v62 :: v63 :: v64 :: v65 :: v66 :: v67 :: v68 :: v69 :: v70 :: v71 :: v72 :: v73 :: v74 :: v75 :: v76 :: v77 :: v78 :: v79 :: v80 :: v81 :: v82 :: v83 :: v84 :: v85 :: v86 :: v87 :: v88 :: v89 :: v90 :: v91 :: v92 :: v93 :: v94 :: v95 :: v96 :: v97 :: v98 :: v99 :: v100 :: v101 :: v102 :: v103 :: v104 :: v105 :: v106 :: v107 :: v108 :: v109 :: v110 :: v111 :: v112 :: v113 :: v114 :: v115 :: v116 :: v117 :: v118 :: v119 :: u120 :: u121 :: u122 :: u123 :: u124 :: u125 :: u126 :: u127 :: u128 :: u129 :: u130 :: u131 :: u132 :: u133 :: u134 :: u135 :: u136 :: u137 :: u138 :: u139 :: u140 :: u141 :: u142 :: u143 :: u144 :: u145 :: u146 :: u147 :: u148 :: u149 :: u150 :: u151 :: u152 :: u153 :: u154 :: u155 :: u156 :: u157 :: u158 :: u159 :: u160 :: u161 :: u162 :: u163 :: u164 :: u165 :: u166 :: u167 :: u168 :: u169 :: u170 :: u171 :: u172 :: u173 :: u174 :: u175 :: u176 :: u177 :: u178 :: u179 :: u180 :: u181 :: u182 :: u183 :: u184 :: u185 :: u186 :: u187 :: u188 :: u189 :: u190 :: u191 :: u192 :: u193 :: u194 :: u195 :: u196 :: u197 :: u198 :: u199 :: u200 :: u201 :: u202 :: u203 :: u204 :: u205 :: u206 :: u207 :: u208 :: u209 :: u210 :: u211 :: u212 :: u213 :: u214 :: u215 :: u216 :: u217 :: u218 :: u219 :: u220 :: u221 :: []), []⟩ wx) :
    Code.wp Tryd.prog ccLoop_code Q ⟨List.toArray (u0 :: (.slice sad steps.length scap) :: (.bool D) :: u3 :: u4 :: u5 :: u6 :: u7 :: u8 :: u9 :: (.pointer (some ⟨p, 0, none⟩)) :: u11 :: (.int .i64 0) :: u13 :: u14 :: u15 :: u16 :: u17 :: u18 :: u19 :: u20 :: u21 :: u22 :: u23 :: u24 :: u25 :: u26 :: u27 :: u28 :: u29 :: u30 :: u31 :: u32 :: u33 :: u34 :: u35 :: u36 :: u37 :: u38 :: u39 :: u40 :: u41 :: u42 :: u43 :: u44 :: u45 :: u46 :: u47 :: u48 :: u49 :: u50 :: u51 :: u52 :: u53 :: u54 :: u55 :: u56 :: u57 :: u58 :: u59 :: u60 :: u61 :: u62 :: u63 :: u64 :: u65 :: u66 :: u67 :: u68 :: u69 :: u70 :: u71 :: u72 :: u73 :: u74 :: u75 :: u76 :: u77 :: u78 :: u79 :: u80 :: u81 :: u82 :: u83 :: u84 :: u85 :: u86 :: u87 :: u88 :: u89 :: u90 :: u91 :: u92 :: u93 :: u94 :: u95 :: u96 :: u97 :: u98 :: u99 :: u100 :: u101 :: u102 :: u103 :: u104 :: u105 :: u106 :: u107 :: u108 :: u109 :: u110 :: u111 :: u112 :: u113 :: u114 :: u115 :: u116 :: u117 :: u118 :: u119 :: u120 :: u121 :: u122 :: u123 :: u124 :: u125 :: u126 :: u127 :: u128 :: u129 :: u130 :: u131 :: u132 :: u133 :: u134 :: u135 :: u136 :: u137 :: u138 :: u139 :: u140 :: u141 :: u142 :: u143 :: u144 :: u145 :: u146 :: u147 :: u148 :: u149 :: u150 :: u151 :: u152 :: u153 :: u154 :: u155 :: u156 :: u157 :: u158 :: u159 :: u160 :: u161 :: u162 :: u163 :: u164 :: u165 :: u166 :: u167 :: u168 :: u169 :: u170 :: u171 :: u172 :: u173 :: u174 :: u175 :: u176 :: u177 :: u178 :: u179 :: u180 :: u181 :: u182 :: u183 :: u184 :: u185 :: u186 :: u187 :: u188 :: u189 :: u190 :: u191 :: u192 :: u193 :: u194 :: u195 :: u196 :: u197 :: u198 :: u199 :: u200 :: u201 :: u202 :: u203 :: u204 :: u205 :: u206 :: u207 :: u208 :: u209 :: u210 :: u211 :: u212 :: u213 :: u214 :: u215 :: u216 :: u217 :: u218 :: u219 :: u220 :: u221 :: []), []⟩ w1 := by
  conv => arg 2; whnf
  have HK := Lib.hid hK
  clear hK
  have HG := Lib.hid hg; have HVS := Lib.hid hvs
  clear hg hvs
  go_wp2_with fail
  go_loopw [12] (fun iv wr => ∃ (k : Nat) (c : Cs), k ≤ steps.length ∧ k ≤ 120 ∧ iv = .int .i64 k ∧ Hid (Cc N D c) ∧ Hid (Own w (CsP p c * emp) wr)) (fun iv _ => 120 - (intOf iv).toNat)
  case atStart => exact ⟨0, c0, Nat.zero_le _, Nat.zero_le _, rfl, Lib.hid hI0, HP0⟩
  case round =>
    clear HP0 hI0
    obtain ⟨k, c, hk, hk2, rfl, HI, HP⟩ := hrel
    by_cases h1 : k < steps.length
    rotate_left
    · go_wp2_with fail
      apply HK.out
      exact ⟨c, HI.out, HP.out⟩
    by_cases h2 : k < 120
    rotate_left
    · go_wp2_with fail
      apply HK.out
      exact ⟨c, HI.out, HP.out⟩
    obtain ⟨a2, rad, rcap, e2, hr, hc⟩ := HVS.out.at_later k h1
    obtain ⟨row, hrow⟩ : ∃ row, row = steps[k] := ⟨_, rfl⟩
    rw [← hrow] at hr hc
    subst e2
    obtain ⟨vb, hvb⟩ : ∃ b, b = wr.heap.size := ⟨_, rfl⟩
    have ht := HP.out.alloc (.cells #[.int .i64 0, .int .i64 0, .int .i64 0] 85)
    rw [← hvb] at ht
    have HT : Hid (Own w (Nms 85 vb [0, 0, 0] * (CsP p c * emp)) (wr.alloc (.cells #[.int .i64 0, .int .i64 0, .int .i64 0] 85))) := Lib.hid ht
    have HR := Lib.hid hr; have HC := Lib.hid hc; have HROW := Lib.hid hrow
    clear hr hc hrow
    clear ht
    go_upto_block 2 with fail
    rw [← hvb]
    clear hvb
    go_cut [14] from 14 to 14 (fun jv wx => NmV 85 3 w vb (CsP p c * emp) wx)
    case first =>
      refine ccFill w (CsP p c * emp) vb k steps row a2 scap rcap rad h1 hsc1 hsc2 HR HC HT ?_
      intros
      go_step
      go_step
      go_meet
      assumption
    case rest =>
    obtain ⟨x, y, z, hT⟩ := hcut.three
    have HT2 : Hid (Own w (CsP p c * (Nms 85 vb [x, y, z] * emp)) wc) := Lib.hid (hT.perm (by ac_rfl))
    clear HT HP hT hcut
    obtain ⟨d0, d1, d2⟩ := HT2.out.second.cc_three
    go_upto_block 4 with fail
    refine ccStep w HG.out D c HI.out x y z HT2 ?_
    intros
    rename_i hcut
    obtain ⟨c', hi, ho⟩ := hcut
    have HO4 := Lib.hid ho
    have HI4 := Lib.hid hi
    clear ho hi HT2 d0 d1 d2 HI
    go_wp2_with fail
    go_roundw
    case rel => exact ⟨k + 1, c', by omega, by omega, by go_num, HI4, HO4⟩
    case measure => simp [intOf]; omega
end Go.Proofs.YtldmdenojpnldaaDoor
/- CastCausal: all that is on its way given; says and hearings counted. -/
namespace Go.Proofs.YtldmdenojpnldaaDoor
set_option linter.unusedVariables false
set_option linter.unusedSimpArgs false
open Go.RowKit Go.Maps
theorem csGive_net {c : Cs} (h : csGiveErr c 0 = 0) : (csGive c 0).net.all.length + 1 = c.net.all.length := by
  have hh : ntHas c.net 0 = true := by
    unfold csGiveErr ntGiveErr at h
    cases h1 : ntHas c.net 0
    · rw [if_pos h1] at h; cases h
    · rfl
  unfold ntHas inR at hh
  simp only [Bool.and_eq_true, decide_eq_true_eq] at hh
  unfold csGive
  rw [if_pos h]
  show (c.net.all.eraseIdx (0 : Int).toNat).length + 1 = _
  rw [List.length_eraseIdx_of_lt (by omega)]
  omega
theorem csGive_ok {c : Cs} (hc : c.net.cut = []) (h : 0 < c.net.all.length) : csGiveErr c 0 = 0 := by
  have hh : ntHas c.net 0 = true := by
    unfold ntHas inR
    simp only [Bool.and_eq_true, decide_eq_true_eq]
    omega
  unfold csGiveErr ntGiveErr
  rw [if_neg (by rw [hh]; simp), if_neg]
  unfold ntCutAt
  rw [hc]; simp
noncomputable def ccGive_code : Code := ((Tryd.f10.body.bind (findBlock 5)).getD .skip)
set_option maxRecDepth 1000000 in
set_option maxHeartbeats 4000000 in
theorem ccGive {Q : Exit → Act → World → Prop} {u0 u1 u2 u3 u4 u5 u6 u7 u8 u9 u11 u12 u13 u14 u15 u16 u18 u19 u20 u21 u22 u23 u24 u25 u26 u27 u28 u29 u30 u31 u32 u33 u34 u35 u36 u37 u38 u39 u40 u41 u42 u43 u44 u45 u46 u47 u48 u49 u50 u51 u52 u53 u54 u55 u56 u57 u58 u59 u60 u61 u62 u63 u64 u65 u66 u67 u68 u69 u70 u71 u72 u73 u74 u75 u76 u77 u78 u79 u80 u81 u82 u83 u84 u85 u86 u87 u88 u89 u90 u91 u92 u93 u94 u95 u96 u97 u98 u99 u100 u101 u102 u103 u104 u105 u106 u107 u108 u109 u110 u111 u112 u113 u114 u115 u116 u117 u118 u119 u120 u121 u122 u123 u124 u125 u126 u127 u128 u129 u130 u131 u132 u133 u134 u135 u136 u137 u138 u139 u140 u141 u142 u143 u144 u145 u146 u147 u148 u149 u150 u151 u152 u153 u154 u155 u156 u157 u158 u159 u160 u161 u162 u163 u164 u165 u166 u167 u168 u169 u170 u171 u172 u173 u174 u175 u176 u177 u178 u179 u180 u181 u182 u183 u184 u185 u186 u187 u188 u189 u190 u191 u192 u193 u194 u195 u196 u197 u198 u199 u200 u201 u202 u203 u204 u205 u206 u207 u208 u209 u210 u211 u212 u213 u214 u215 u216 u217 u218 u219 u220 u221 : Value} {w1 : World} (w : World) (R : HProp) (hg : As.Handle w) {p N : Nat} (D : Bool) (c0 : Cs) (hI0 : Cc N D c0) (HP0 : Hid (Own w (CsP p c0 * R) w1))
    (hK : ∀ (v6 v17 v18 v19 v138 v139 v140 v141 v142 v143 v144 v145 v146 v147 v148 v149 v150 v151 v152 v153 v154 : Value) (wx : World), (∃ c : Cs, Cc N D c ∧ c.net.all = [] ∧ Own w (CsP p c * R) wx) → Q .normal ⟨List.toArray (u0 :: u1 :: u2 :: u3 :: u4 :: u5 :: v6 :: u7 :: u8 :: u9 :: (.pointer (some ⟨p, 0, none⟩)) :: u11 :: u12 :: u13 :: u14 :: u15 :: u16 :: v17 :: v18 :: v19 :: u20 :: u21 :: u22 :: u23 :: u24 :: u25 :: u26 :: u27 :: u28 :: u29 :: u30 :: u31 :: u32 :: u33 :: u34 :: u35 :: u36 :: u37 :: u38 :: u39 :: u40 :: u41 :: u42 :: u43 :: u44 :: u45 :: u46 :: u47 :: u48 :: u49 :: u50 :: u51 :: u52 :: u53 :: u54 :: u55 :: u56 :: u57 :: u58 :: u59 :: u60 :: u61 :: u62 :: u63 :: u64 :: u65 :: u66 :: u67 :: u68 :: u69 :: u70 :: u71 :: u72 :: u73 :: u74 :: u75 :: u76 :: u77 :: u78 :: u79 :: u80 :: u81 :: u82 :: u83 :: u84 :: u85 :: u86 :: u87 :: u88 :: u89 :: u90 :: u91 :: u92 :: u93 :: u94 :: u95 :: u96 :: u97 :: u98 :: u99 :: u100 :: u101 :: u102 :: u103 :: u104 :: u105 :: u106 :: u107 :: u108 :: u109 :: u110 :: u111 :: u112 :: u113 :: u114 :: u115 :: u116 :: u117 :: u118 :: u119 :: u120 :: u121 :: u122 :: u123 :: u124 :: u125 :: u126 :: u127 :: u128 :: u129 :: u130 :: u131 :: u132 :: u133 :: u134 :: u135 :: u136 :: u137 :: v138 :: v139 :: v140 :: v141 :: v142 :: v143 :: v144 :: v145 :: v146 :: v147 :: v148 :: v149 :: v150 :: v151 :: v152 :: v153 :: v154 :: u155 :: u156 :: u157 :: u158 :: u159 :: u160 :: u161 :: u162 :: u163 :: u164 :: u165 :: u166 :: u167 :: u168 :: u169 :: u170 :: u171 :: u172 :: u173 :: u174 :: u175 :: u176 :: u177 :: u178 :: u179 :: u180 :: u181 :: u182 :: u183 :: u184 :: u185 :: u186 :: u187 :: u188 :: u189 :: u190 :: u191 :: u192 :: u193 :: u194 :: u195 :: u196 :: u197 :: u198 :: u199 :: u200 :: u201 :: u202 :: u203 :: u204 :: u205 :: u206 :: u207 :: u208 :: u209 :: u210 :: u211 :: u212 :: u213 :: u214 :: u215 :: u216 :: u217 :: u218 :: u219 :: u220 :: u221 :: []), []⟩ wx) :
    Code.wp Tryd.prog ccGive_code Q ⟨List.toArray (u0 :: u1 :: u2 :: u3 :: u4 :: u5 :: u6 :: u7 :: u8 :: u9 :: (.pointer (some ⟨p, 0, none⟩)) :: u11 :: u12 :: u13 :: u14 :: u15 :: u16 :: (.int .i64 0) :: u18 :: u19 :: u20 :: u21 :: u22 :: u23 :: u24 :: u25 :: u26 :: u27 :: u28 :: u29 :: u30 :: u31 :: u32 :: u33 :: u34 :: u35 :: u36 :: u37 :: u38 :: u39 :: u40 :: u41 :: u42 :: u43 :: u44 :: u45 :: u46 :: u47 :: u48 :: u49 :: u50 :: u51 :: u52 :: u53 :: u54 :: u55 :: u56 :: u57 :: u58 :: u59 :: u60 :: u61 :: u62 :: u63 :: u64 :: u65 :: u66 :: u67 :: u68 :: u69 :: u70 :: u71 :: u72 :: u73 :: u74 :: u75 :: u76 :: u77 :: u78 :: u79 :: u80 :: u81 :: u82 :: u83 :: u84 :: u85 :: u86 :: u87 :: u88 :: u89 :: u90 :: u91 :: u92 :: u93 :: u94 :: u95 :: u96 :: u97 :: u98 :: u99 :: u100 :: u101 :: u102 :: u103 :: u104 :: u105 :: u106 :: u107 :: u108 :: u109 :: u110 :: u111 :: u112 :: u113 :: u114 :: u115 :: u116 :: u117 :: u118 :: u119 :: u120 :: u121 :: u122 :: u123 :: u124 :: u125 :: u126 :: u127 :: u128 :: u129 :: u130 :: u131 :: u132 :: u133 :: u134 :: u135 :: u136 :: u137 :: u138 :: u139 :: u140 :: u141 :: u142 :: u143 :: u144 :: u145 :: u146 :: u147 :: u148 :: u149 :: u150 :: u151 :: u152 :: u153 :: u154 :: u155 :: u156 :: u157 :: u158 :: u159 :: u160 :: u161 :: u162 :: u163 :: u164 :: u165 :: u166 :: u167 :: u168 :: u169 :: u170 :: u171 :: u172 :: u173 :: u174 :: u175 :: u176 :: u177 :: u178 :: u179 :: u180 :: u181 :: u182 :: u183 :: u184 :: u185 :: u186 :: u187 :: u188 :: u189 :: u190 :: u191 :: u192 :: u193 :: u194 :: u195 :: u196 :: u197 :: u198 :: u199 :: u200 :: u201 :: u202 :: u203 :: u204 :: u205 :: u206 :: u207 :: u208 :: u209 :: u210 :: u211 :: u212 :: u213 :: u214 :: u215 :: u216 :: u217 :: u218 :: u219 :: u220 :: u221 :: []), []⟩ w1 := by
  conv => arg 2; whnf
  have HK := Lib.hid hK
  clear hK
  have HG := Lib.hid hg
  clear hg
  go_wp2_with fail
  go_loopw [17] (fun iv wr => ∃ (k : Nat) (c : Cs), k ≤ 40 ∧ iv = .int .i64 k ∧ Hid (Cc N D c) ∧ Hid (k + c.net.all.length ≤ 40) ∧ Hid (Own w (CsP p c * R) wr)) (fun iv _ => 40 - (intOf iv).toNat)
  case atStart => exact ⟨0, c0, by omega, rfl, Lib.hid hI0, Lib.hid (by have := hI0.z.i.net.len; omega), HP0⟩
  case round =>
    clear HP0 hI0
    obtain ⟨k, c, hk, rfl, HI, HQ, HP⟩ := hrel
    by_cases h1 : k < 40
    rotate_left
    · go_wp2_with fail
      apply HK.out
      exact ⟨c, HI.out, List.length_eq_zero_iff.1 (by have := HQ.out; omega), HP.out⟩
    go_wp2_with fail
    refine (csOnWay_any p c HI.out.z.i HP.out).mono ?_
    rintro e w5 ⟨v5, rfl, ho5⟩
    obtain ⟨ad5, cp5, hv5, _⟩ := Own.rd ho5
    subst hv5
    obtain ⟨L, hL⟩ : ∃ L, L = c.net.all.length := ⟨_, rfl⟩
    rw [← hL]
    have HO5 := Lib.hid ho5.drop
    clear ho5
    by_cases h2 : 0 < L
    rotate_left
    · have HL := Lib.hid hL
      clear hL
      go_wp2_with fail
      apply HK.out
      exact ⟨c, HI.out, List.length_eq_zero_iff.1 (by have := HL.out; omega), HO5.out⟩
    have hE : csGiveErr c 0 = 0 := csGive_ok HI.out.z.i.cut (by omega)
    have hnl := csGive_net hE
    have hni := HI.out.give 0
    have hbb : c.hist.length ≤ 100000 := by have := HI.out.z.len; omega
    have hnk : (k + 1) + (csGive c 0).net.all.length ≤ 40 := by have := HQ.out; omega
    clear hnl
    have HL := Lib.hid hL; have HE := Lib.hid hE; have HNI := Lib.hid hni; have HNK := Lib.hid hnk
    clear hL hE hni hnk
    go_wp2_with fail
    refine (csGive_any HG.out p c 0 HI.out.z.i hbb HO5.out).mono ?_
    rintro e w6 ⟨v6, rfl, ho6⟩
    rw [HE.out, errV0]
    have HO6 := Lib.hid ho6.drop
    clear ho6 HO5
    go_wp2_with fail
    go_roundw
    case rel => exact ⟨k + 1, csGive c 0, by omega, by go_num, HNI, HNK, HO6⟩
    case measure => simp [intOf]; omega
noncomputable def ccCount_code : Code := ((Tryd.f10.body.bind (findBlock 7)).getD .skip)
set_option maxRecDepth 1000000 in
set_option maxHeartbeats 4000000 in
theorem ccCount {Q : Exit → Act → World → Prop} {u0 u1 u2 u3 u4 u5 u6 u7 u8 u9 u10 u11 u12 u13 u14 u15 u16 u17 u18 u19 u24 u25 u26 u27 u28 u29 u30 u31 u32 u33 u34 u35 u36 u37 u38 u39 u40 u41 u42 u43 u44 u45 u46 u47 u48 u49 u50 u51 u52 u53 u54 u55 u56 u57 u58 u59 u60 u61 u62 u63 u64 u65 u66 u67 u68 u69 u70 u71 u72 u73 u74 u75 u76 u77 u78 u79 u80 u81 u82 u83 u84 u85 u86 u87 u88 u89 u90 u91 u92 u93 u94 u95 u96 u97 u98 u99 u100 u101 u102 u103 u104 u105 u106 u107 u108 u109 u110 u111 u112 u113 u114 u115 u116 u117 u118 u119 u120 u121 u122 u123 u124 u125 u126 u127 u128 u129 u130 u131 u132 u133 u134 u135 u136 u137 u138 u139 u140 u141 u142 u143 u144 u145 u146 u147 u148 u149 u150 u151 u152 u153 u154 u155 u156 u157 u158 u159 u160 u161 u162 u163 u164 u165 u166 u167 u168 u169 u170 u171 u172 u173 u174 u175 u176 u177 u178 u179 u180 u181 u182 u183 u184 u185 u186 u187 u188 u189 u190 u191 u192 u193 u194 u195 u196 u197 u198 u199 u200 u201 u202 u203 u204 u205 u206 u207 u208 u209 u210 u211 u212 u213 u214 u215 u216 u217 u218 u219 u220 u221 : Value} {w1 : World} (w : World) (R : HProp) (LH : Nat) (had : Option Addr) (hcap : Nat) (hs : List Ev) (hw : ∀ e ∈ hs, e.2.1 = 2 ∨ e.2.1 = 3) (hLH : LH = hs.length) (hl60 : LH ≤ 60) (hx1 : LH ≤ hcap) (hx2 : hcap ≤ 9223372036854775807) (HV : Hid (ReadsE w R (.slice had LH hcap) hs)) (HO : Hid (Own w R w1))
    (hK : ∀ (v21 v22 v23 v183 v184 v185 v186 v187 v188 v189 v190 v191 v192 v193 v194 v195 v196 v197 v198 v199 v200 v201 v202 v203 v204 : Value) (wx : World), (v21 = .int .i64 (saysN hs : Nat) ∧ v22 = .int .i64 (hearsN hs : Nat) ∧ wx = w1) → Q .normal ⟨List.toArray (u0 :: u1 :: u2 :: u3 :: u4 :: u5 :: u6 :: u7 :: u8 :: u9 :: u10 :: u11 :: u12 :: u13 :: u14 :: u15 :: u16 :: u17 :: u18 :: u19 :: (.slice had LH hcap) :: v21 :: v22 :: v23 :: u24 :: u25 :: u26 :: u27 :: u28 :: u29 :: u30 :: u31 :: u32 :: u33 :: u34 :: u35 :: u36 :: u37 :: u38 :: u39 :: u40 :: u41 :: u42 :: u43 :: u44 :: u45 :: u46 :: u47 :: u48 :: u49 :: u50 :: u51 :: u52 :: u53 :: u54 :: u55 :: u56 :: u57 :: u58 :: u59 :: u60 :: u61 :: u62 :: u63 :: u64 :: u65 :: u66 :: u67 :: u68 :: u69 :: u70 :: u71 :: u72 :: u73 :: u74 :: u75 :: u76 :: u77 :: u78 :: u79 :: u80 :: u81 :: u82 :: u83 :: u84 :: u85 :: u86 :: u87 :: u88 :: u89 :: u90 :: u91 :: u92 :: u93 :: u94 :: u95 :: u96 :: u97 :: u98 :: u99 :: u100 :: u101 :: u102 :: u103 :: u104 :: u105 :: u106 :: u107 :: u108 :: u109 :: u110 :: u111 :: u112 :: u113 :: u114 :: u115 :: u116 :: u117 :: u118 :: u119 :: u120 :: u121 :: u122 :: u123 :: u124 :: u125 :: u126 :: u127 :: u128 :: u129 :: u130 :: u131 :: u132 :: u133 :: u134 :: u135 :: u136 :: u137 :: u138 :: u139 :: u140 :: u141 :: u142 :: u143 :: u144 :: u145 :: u146 :: u147 :: u148 :: u149 :: u150 :: u151 :: u152 :: u153 :: u154 :: u155 :: u156 :: u157 :: u158 :: u159 :: u160 :: u161 :: u162 :: u163 :: u164 :: u165 :: u166 :: u167 :: u168 :: u169 :: u170 :: u171 :: u172 :: u173 :: u174 :: u175 :: u176 :: u177 :: u178 :: u179 :: u180 :: u181 :: u182 :: v183 :: v184 :: v185 :: v186 :: v187 :: v188 :: v189 :: v190 :: v191 :: v192 :: v193 :: v194 :: v195 :: v196 :: v197 :: v198 :: v199 :: v200 :: v201 :: v202 :: v203 :: v204 :: u205 :: u206 :: u207 :: u208 :: u209 :: u210 :: u211 :: u212 :: u213 :: u214 :: u215 :: u216 :: u217 :: u218 :: u219 :: u220 :: u221 :: []), []⟩ wx) :
    Code.wp Tryd.prog ccCount_code Q ⟨List.toArray (u0 :: u1 :: u2 :: u3 :: u4 :: u5 :: u6 :: u7 :: u8 :: u9 :: u10 :: u11 :: u12 :: u13 :: u14 :: u15 :: u16 :: u17 :: u18 :: u19 :: (.slice had LH hcap) :: (.int .i64 0) :: (.int .i64 0) :: (.int .i64 0) :: u24 :: u25 :: u26 :: u27 :: u28 :: u29 :: u30 :: u31 :: u32 :: u33 :: u34 :: u35 :: u36 :: u37 :: u38 :: u39 :: u40 :: u41 :: u42 :: u43 :: u44 :: u45 :: u46 :: u47 :: u48 :: u49 :: u50 :: u51 :: u52 :: u53 :: u54 :: u55 :: u56 :: u57 :: u58 :: u59 :: u60 :: u61 :: u62 :: u63 :: u64 :: u65 :: u66 :: u67 :: u68 :: u69 :: u70 :: u71 :: u72 :: u73 :: u74 :: u75 :: u76 :: u77 :: u78 :: u79 :: u80 :: u81 :: u82 :: u83 :: u84 :: u85 :: u86 :: u87 :: u88 :: u89 :: u90 :: u91 :: u92 :: u93 :: u94 :: u95 :: u96 :: u97 :: u98 :: u99 :: u100 :: u101 :: u102 :: u103 :: u104 :: u105 :: u106 :: u107 :: u108 :: u109 :: u110 :: u111 :: u112 :: u113 :: u114 :: u115 :: u116 :: u117 :: u118 :: u119 :: u120 :: u121 :: u122 :: u123 :: u124 :: u125 :: u126 :: u127 :: u128 :: u129 :: u130 :: u131 :: u132 :: u133 :: u134 :: u135 :: u136 :: u137 :: u138 :: u139 :: u140 :: u141 :: u142 :: u143 :: u144 :: u145 :: u146 :: u147 :: u148 :: u149 :: u150 :: u151 :: u152 :: u153 :: u154 :: u155 :: u156 :: u157 :: u158 :: u159 :: u160 :: u161 :: u162 :: u163 :: u164 :: u165 :: u166 :: u167 :: u168 :: u169 :: u170 :: u171 :: u172 :: u173 :: u174 :: u175 :: u176 :: u177 :: u178 :: u179 :: u180 :: u181 :: u182 :: u183 :: u184 :: u185 :: u186 :: u187 :: u188 :: u189 :: u190 :: u191 :: u192 :: u193 :: u194 :: u195 :: u196 :: u197 :: u198 :: u199 :: u200 :: u201 :: u202 :: u203 :: u204 :: u205 :: u206 :: u207 :: u208 :: u209 :: u210 :: u211 :: u212 :: u213 :: u214 :: u215 :: u216 :: u217 :: u218 :: u219 :: u220 :: u221 :: []), []⟩ w1 := by
  conv => arg 2; whnf
  have HK := Lib.hid hK
  clear hK
  have HW := Lib.hid hw
  have HLH := Lib.hid hLH
  clear hLH
  clear hw
  go_wp2_with fail
  go_loop [23, 21, 22] (fun iv a b => ∃ k : Nat, k ≤ LH ∧ iv = .int .i64 k ∧ a = .int .i64 (saysN (hs.take k) : Nat) ∧ b = .int .i64 (hearsN (hs.take k) : Nat)) (fun iv _ _ => LH - (intOf iv).toNat)
  case atStart => exact ⟨0, Nat.zero_le _, rfl, by simp [saysN], by simp [hearsN]⟩
  case round =>
    obtain ⟨k, hk, rfl, rfl, rfl⟩ := hrel
    by_cases hlt : k < LH
    rotate_left
    · have hkn : k = LH := by omega
      subst hkn
      go_wp2_with fail
      apply HK.out
      refine ⟨?_, ?_, rfl⟩
      · rw [HLH.out, List.take_length]
      · rw [HLH.out, List.take_length]
    have hkl : k < hs.length := by rw [← HLH.out]; exact hlt
    obtain ⟨aa, eb, eo, es, e1, hea, hcs, _⟩ := HV.out.at HO.out k hkl
    subst e1
    obtain ⟨g0, g1, g2⟩ := hcs _ HO.out
    have hev : evAt hs k = hs[k] := by unfold evAt; rw [List.getD_eq_getElem?_getD, List.getElem?_eq_getElem hkl]; rfl
    have hwk := HW.out _ (List.getElem_mem hkl)
    have hs1 := saysN_take hs k hkl
    have hs2 := hearsN_take hs k hkl
    rw [hev] at g0 g1 g2
    have hS : saysN (hs.take k) ≤ k := by
      unfold saysN
      exact Nat.le_trans (List.length_filter_le _ _) (by simp; omega)
    have hH : hearsN (hs.take k) ≤ k := by
      unfold hearsN
      exact Nat.le_trans (List.length_filter_le _ _) (by simp; omega)
    obtain ⟨S, hSe⟩ : ∃ S, S = saysN (hs.take k) := ⟨_, rfl⟩
    obtain ⟨H, hHe⟩ : ∃ H, H = hearsN (hs.take k) := ⟨_, rfl⟩
    obtain ⟨x, hx⟩ : ∃ x, x = hs[k].2.1 := ⟨_, rfl⟩
    rw [← hSe] at hS hs1 ⊢
    rw [← hHe] at hH hs2 ⊢
    rw [← hx] at g1 hwk hs1 hs2
    have i0 : (0 : Int) ≤ (k : Int) := by omega
    have iN : (k : Int) < (LH : Int) := by omega
    clear hcs hev
    rcases hwk with rfl | rfl
    · rw [if_pos rfl] at hs1
      rw [if_neg (by decide)] at hs2
      have HS1 := Lib.hid hs1; have HS2 := Lib.hid hs2; have HSE := Lib.hid hSe; have HHE := Lib.hid hHe; have HX := Lib.hid hx
      clear hs1 hs2 hSe hHe hx
      go_wp2_with fail
      go_round
      case rel => exact ⟨k + 1, by omega, by go_num, by rw [HS1.out]; rfl, by rw [HS2.out]; rfl⟩
      case measure => simp [intOf]; omega
    · rw [if_neg (by decide)] at hs1
      rw [if_pos rfl] at hs2
      have HS1 := Lib.hid hs1; have HS2 := Lib.hid hs2; have HSE := Lib.hid hSe; have HHE := Lib.hid hHe; have HX := Lib.hid hx
      clear hs1 hs2 hSe hHe hx
      go_wp2_with fail
      go_round
      case rel => exact ⟨k + 1, by omega, by go_num, by rw [HS1.out]; rfl, by rw [HS2.out]; rfl⟩
      case measure => simp [intOf]; omega
end Go.Proofs.YtldmdenojpnldaaDoor
/- The package-level variable errors.errorType as the rows list it: what a walk has of it; a world that meets it. (After the guide's Toyas example.) -/
namespace Go.Proofs.YtldmdenojpnldaaDoor
set_option linter.unusedVariables false
set_option linter.unusedSimpArgs false
open Go.ChangeShapes Go.WideShapes Go.RowKit
theorem errt : Tryd.prog.globalNamed "errors.errorType" = some 0 := by kernel_rfl
theorem rtt : (Tryd.prog.cutTypes.find? (·.1 == "internal/reflectlite.rtype")).map (·.2) = some 199 := by kernel_rfl
theorem oneRow : ((List.range 248).filter fun t => Tryd.prog.rowNamed t [101, 114, 114, 111, 114]) = [29] := by kernel_rfl
theorem typesSize : Tryd.prog.types.size = 248 := by kernel_rfl
def theLaid : List (String × DataW Unit) := [("errors.errorType", Rows.laid_errors_errorType)]
theorem handle_of_laid {W : World} (h : laidMetH Tryd.prog theLaid W) : As.Handle W := by
  have h' : laidMet Tryd.prog [] W ∧ handlesMet Tryd.prog theLaid W := h
  obtain ⟨name, u, ty, e1, e2, e3, e4, e5⟩ := h'.2 _ (List.mem_singleton.2 rfl)
  have en : name = [101, 114, 114, 111, 114] := (Option.some.inj e1).symm
  subst en
  obtain rfl := Option.some.inj (rtt.symm.trans e2)
  have hm : ty ∈ (List.range 248).filter fun t => Tryd.prog.rowNamed t [101, 114, 114, 111, 114] := List.mem_filter.2 ⟨List.mem_range.2 (by rw [← typesSize]; exact e3), e4⟩
  rw [oneRow] at hm
  obtain rfl := List.mem_singleton.1 hm
  have hh : typeHandle Tryd.prog 29 = .pointer (some ⟨1, 29, none⟩) := by kernel_rfl
  rw [hh] at e5
  unfold As.Handle
  simpa using World.var?_cell errt e5 0
def laidWorld (P : Program) (os : Os) : World :=
  { World.holding P os ⟨#[], #[], []⟩ with heap := (World.holding P os ⟨#[], #[], []⟩).heap.setIfInBounds 0 (.cells #[.iface 199 (.agg #[.pointer (some ⟨1, 29, none⟩)])] 184 (0, 0)) }
theorem laidWorld_met (os : Os) (args : Array Value) : laidMetH Tryd.prog theLaid ((laidWorld Tryd.prog os).forCall (fun _ _ => 0) ⟨#[], args, []⟩).memory :=
  laidMetH_of_parts (laidMet_nil _ _) (by kernel_rfl)
end Go.Proofs.YtldmdenojpnldaaDoor
