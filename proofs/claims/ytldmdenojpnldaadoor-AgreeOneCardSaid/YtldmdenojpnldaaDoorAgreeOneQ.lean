/- AgreeOne: pieces of the law: what a step says, its round. -/
import Derived.Test.YtldmdenojpnldaaDoorAlike
import Derived.Test.YtldmdenojpnldaaDoorTri
import Derived.Test.YtldmdenojpnldaaDoorPiece
import Derived.Deep.DeepCutAuto
import Derived.Deep.CutBlock
namespace Go.Proofs.YtldmdenojpnldaaDoor
set_option linter.unusedVariables false
set_option linter.unusedSimpArgs false
open Go.RowKit Go.Maps
theorem AgLe.mono {g : Ag} {B C : Int} (h : AgLe g B) (hBC : B ≤ C) : AgLe g C := fun k hk => Int.le_trans (h k hk) hBC
theorem AgLe.say {g : Ag} {B : Int} (h : AgLe g B) (w : Int) : AgLe (agSay g w) B := by
  intro k hk
  unfold agGet
  rw [agSay_mem] at hk ⊢
  exact h k hk
theorem AgLe.set {g : Ag} {B : Int} (h : AgLe g B) (hI : AgI g) (who w : Int) : AgLe (agSet g who w) B := by
  intro k hk
  rw [agSet_len] at hk
  have hk0 := h k hk
  by_cases he : agSetErr g who w = 0
  rotate_left
  · have e : agSet g who w = g := by unfold agSet; rw [if_neg he]
    rw [e]; exact hk0
  obtain ⟨hc, hfull, _⟩ := agSetErr0 he
  obtain ⟨⟨h0, h1⟩, _, _⟩ := agChk0 hc
  obtain ⟨j, rfl⟩ : ∃ j : Nat, who = (j : Int) := ⟨who.toNat, by omega⟩
  have hj : j < g.mem.length := by omega
  have hmx : (maxSt (gvOf g w)).1 ≤ B := by
    have hne : gvOf g w ≠ [] := fun hc => by rw [hc] at hfull; simp at hfull; rw [hfull] at hj; simp at hj
    have hm := maxSt_mem hne
    obtain ⟨_, r1, r2⟩ := hI.range w _ hm
    obtain ⟨i, hi⟩ : ∃ i : Nat, (maxSt (gvOf g w)).2 = (i : Int) := ⟨(maxSt (gvOf g w)).2.toNat, by omega⟩
    have hil : i < g.mem.length := by omega
    have h2 := (hI.mem i hil).own w _ hm hi
    have h3 := h i hil
    rw [agGet_at hil] at h3
    omega
  obtain ⟨m, hm, hmn⟩ : ∃ m, (agSet g j w).mem = g.mem.set j m ∧ m.n = max (agGet g j).n (maxSt (gvOf g w)).1 := by
    unfold agSet
    rw [if_pos he, Int.toNat_natCast]
    exact ⟨_, rfl, rfl⟩
  have hkk : k < (agSet g j w).mem.length := by rw [agSet_len]; exact hk
  rw [agGet_at hkk]
  have e2 : (agSet g j w).mem[k]? = (g.mem.set j m)[k]? := by rw [hm]
  rw [List.getElem?_eq_getElem hkk, List.getElem?_set] at e2
  by_cases e : j = k
  · subst e
    rw [if_pos rfl, if_pos hk] at e2
    rw [Option.some.inj e2, hmn]
    rw [Int.max_def]; split <;> omega
  · rw [if_neg e, List.getElem?_eq_getElem hk] at e2
    rw [Option.some.inj e2, ← agGet_at hk]
    exact hk0
def AoC (w : World) (p vb n k : Nat) (x y z : Int) (R : HProp) (wx : World) : Prop := ∃ g2, AgN n g2 ∧ AgLe g2 ((k : Int) + 1) ∧ Own w (Nms 85 vb [x, y, z] * (AgP p g2 * R)) wx
noncomputable def aoFill_code : Code := ((Tryd.f11.body.bind (findBlock 2)).getD .skip)
set_option maxRecDepth 1000000 in
set_option maxHeartbeats 4000000 in
theorem aoFill {Q : Exit → Act → World → Prop} {u0 u2 u3 u4 u5 u6 u7 u8 u9 u10 u11 u12 u13 u14 u18 u19 u20 u21 u22 u23 u24 u25 u26 u27 u28 u29 u30 u31 u32 u33 u34 u35 u36 u37 u38 u39 u40 u41 u42 u43 u44 u45 u46 u47 u48 u49 u50 u51 u52 u53 u54 u55 u56 u57 u58 u59 u60 u61 u62 u63 u64 u65 u66 u67 u68 u69 u70 u71 u72 u73 u74 u75 u76 u77 u78 u79 u80 u81 u82 u83 u84 u85 u86 u87 u88 u89 u90 u91 u92 u93 u94 u95 u96 u97 u98 u99 u100 u101 u102 u103 u104 u105 u106 u107 u108 u109 u110 u111 u112 u113 u114 u115 u116 u117 u118 u119 u120 u121 u122 u123 u124 u125 u126 u127 u128 u129 u130 u131 u132 u133 u134 u135 u136 u137 u138 u139 u140 u141 u142 u143 u144 u145 u146 u147 u148 u149 u150 u151 u152 u153 u154 u155 u156 u157 u158 u159 u160 u161 u162 u163 u164 u165 u166 u167 u168 u169 u170 u171 u172 u173 u174 u175 u176 u177 u178 u179 u180 u181 u182 u183 u184 u185 u186 u187 u188 u189 u190 u191 u192 u193 u194 u195 u196 u197 u198 u199 u200 u201 u202 u203 u204 u205 u206 u207 u208 u209 u210 u211 u212 : Value} {w1 : World} (w : World) (R : HProp) (vb k : Nat) (steps : List (List Int)) (row : List Int) (a2 : Addr) (scap rcap : Nat) (rad : Option Addr) (h1 : k < steps.length) (hc1 : steps.length ≤ scap) (hc2 : scap ≤ 9223372036854775807) (HR : Hid (Ints w (.slice rad row.length rcap) row)) (HC : Hid (∀ (w1 : World) (P : HProp), Own w P w1 → w1.cell? (a2.add k) = some (.slice rad row.length rcap))) (HT : Hid (Own w (Nms 85 vb [0, 0, 0] * R) w1))
    (hK : ∀ (v17 v103 v104 v105 v106 v107 v108 v109 v110 v111 v112 v113 v114 v115 v116 v117 v118 v119 v120 v121 v122 v123 v124 : Value) (wx : World), (NmV 85 3 w vb R wx) → Q .normal ⟨List.toArray (u0 :: (.slice (some a2) steps.length scap) :: u2 :: u3 :: u4 :: u5 :: u6 :: u7 :: u8 :: u9 :: u10 :: u11 :: u12 :: u13 :: u14 :: (.int .i64 (k : Int)) :: (.pointer (some ⟨vb, 0, none⟩)) :: v17 :: u18 :: u19 :: u20 :: u21 :: u22 :: u23 :: u24 :: u25 :: u26 :: u27 :: u28 :: u29 :: u30 :: u31 :: u32 :: u33 :: u34 :: u35 :: u36 :: u37 :: u38 :: u39 :: u40 :: u41 :: u42 :: u43 :: u44 :: u45 :: u46 :: u47 :: u48 :: u49 :: u50 :: u51 :: u52 :: u53 :: u54 :: u55 :: u56 :: u57 :: u58 :: u59 :: u60 :: u61 :: u62 :: u63 :: u64 :: u65 :: u66 :: u67 :: u68 :: u69 :: u70 :: u71 :: u72 :: u73 :: u74 :: u75 :: u76 :: u77 :: u78 :: u79 :: u80 :: u81 :: u82 :: u83 :: u84 :: u85 :: u86 :: u87 :: u88 :: u89 :: u90 :: u91 :: u92 :: u93 :: u94 :: u95 :: u96 :: u97 :: u98 :: u99 :: u100 :: u101 :: u102 :: v103 :: v104 :: v105 :: v106 :: v107 :: v108 :: v109 :: v110 :: v111 :: v112 :: v113 :: v114 :: v115 :: v116 :: v117 :: v118 :: v119 :: v120 :: v121 :: v122 :: v123 :: v124 :: u125 :: u126 :: u127 :: u128 :: u129 :: u130 :: u131 :: u132 :: u133 :: u134 :: u135 :: u136 :: u137 :: u138 :: u139 :: u140 :: u141 :: u142 :: u143 :: u144 :: u145 :: u146 :: u147 :: u148 :: u149 :: u150 :: u151 :: u152 :: u153 :: u154 :: u155 :: u156 :: u157 :: u158 :: u159 :: u160 :: u161 :: u162 :: u163 :: u164 :: u165 :: u166 :: u167 :: u168 :: u169 :: u170 :: u171 :: u172 :: u173 :: u174 :: u175 :: u176 :: u177 :: u178 :: u179 :: u180 :: u181 :: u182 :: u183 :: u184 :: u185 :: u186 :: u187 :: u188 :: u189 :: u190 :: u191 :: u192 :: u193 :: u194 :: u195 :: u196 :: u197 :: u198 :: u199 :: u200 :: u201 :: u202 :: u203 :: u204 :: u205 :: u206 :: u207 :: u208 :: u209 :: u210 :: u211 :: u212 :: []), []⟩ wx) :
    Code.wp Tryd.prog aoFill_code Q ⟨List.toArray (u0 :: (.slice (some a2) steps.length scap) :: u2 :: u3 :: u4 :: u5 :: u6 :: u7 :: u8 :: u9 :: u10 :: u11 :: u12 :: u13 :: u14 :: (.int .i64 (k : Int)) :: (.pointer (some ⟨vb, 0, none⟩)) :: (.int .i64 0) :: u18 :: u19 :: u20 :: u21 :: u22 :: u23 :: u24 :: u25 :: u26 :: u27 :: u28 :: u29 :: u30 :: u31 :: u32 :: u33 :: u34 :: u35 :: u36 :: u37 :: u38 :: u39 :: u40 :: u41 :: u42 :: u43 :: u44 :: u45 :: u46 :: u47 :: u48 :: u49 :: u50 :: u51 :: u52 :: u53 :: u54 :: u55 :: u56 :: u57 :: u58 :: u59 :: u60 :: u61 :: u62 :: u63 :: u64 :: u65 :: u66 :: u67 :: u68 :: u69 :: u70 :: u71 :: u72 :: u73 :: u74 :: u75 :: u76 :: u77 :: u78 :: u79 :: u80 :: u81 :: u82 :: u83 :: u84 :: u85 :: u86 :: u87 :: u88 :: u89 :: u90 :: u91 :: u92 :: u93 :: u94 :: u95 :: u96 :: u97 :: u98 :: u99 :: u100 :: u101 :: u102 :: u103 :: u104 :: u105 :: u106 :: u107 :: u108 :: u109 :: u110 :: u111 :: u112 :: u113 :: u114 :: u115 :: u116 :: u117 :: u118 :: u119 :: u120 :: u121 :: u122 :: u123 :: u124 :: u125 :: u126 :: u127 :: u128 :: u129 :: u130 :: u131 :: u132 :: u133 :: u134 :: u135 :: u136 :: u137 :: u138 :: u139 :: u140 :: u141 :: u142 :: u143 :: u144 :: u145 :: u146 :: u147 :: u148 :: u149 :: u150 :: u151 :: u152 :: u153 :: u154 :: u155 :: u156 :: u157 :: u158 :: u159 :: u160 :: u161 :: u162 :: u163 :: u164 :: u165 :: u166 :: u167 :: u168 :: u169 :: u170 :: u171 :: u172 :: u173 :: u174 :: u175 :: u176 :: u177 :: u178 :: u179 :: u180 :: u181 :: u182 :: u183 :: u184 :: u185 :: u186 :: u187 :: u188 :: u189 :: u190 :: u191 :: u192 :: u193 :: u194 :: u195 :: u196 :: u197 :: u198 :: u199 :: u200 :: u201 :: u202 :: u203 :: u204 :: u205 :: u206 :: u207 :: u208 :: u209 :: u210 :: u211 :: u212 :: []), []⟩ w1 := by
  conv => arg 2; whnf
  have HK := Lib.hid hK
  clear hK
  go_wp2_with fail
  go_loopw [17] (fun jv w2 => ∃ (j : Nat) (l : List Int), j ≤ 3 ∧ jv = .int .i64 j ∧ Hid (l.length = 3) ∧ Hid (Own w (Nms 85 vb l * R) w2)) (fun jv _ => 3 - (intOf jv).toNat)
  case atStart => exact ⟨0, [0, 0, 0], Nat.zero_le _, rfl, Lib.hid rfl, HT⟩
  case round =>
    obtain ⟨j, l, hj, rfl, hl, hpw⟩ := hrel
    have c1 := HC.out _ _ hpw.out
    have FIN := Lib.hid (show NmV 85 3 w vb R wr from ⟨l, hl.out, hpw.out⟩)
    by_cases h3 : j < row.length
    rotate_left
    · go_wp2_with fail
      apply HK.out
      exact FIN.out
    by_cases h4 : j < 3
    rotate_left
    · go_wp2_with fail
      apply HK.out
      exact FIN.out
    obtain ⟨b3, rfl, hcb⟩ := HR.out.at_later j h3
    have c2 := hcb _ _ hpw.out
    have hjl : j < l.length := by rw [hl.out]; exact h4
    have c3 := hpw.out.nms_cell j hjl
    have c4 := hpw.out.nms_free j
    have HS := Lib.hid (hpw.out.nms_set j row[j])
    have i0 : (0 : Int) ≤ (j : Int) := by omega
    have i3 : (j : Int) < 3 := by omega
    clear hcb
    go_wp2_with fail
    go_roundw
    case rel => exact ⟨j + 1, l.set j row[j], by omega, by go_num, Lib.hid (by rw [List.length_set]; exact hl.out), HS⟩
    case measure => simp [intOf]; omega
noncomputable def aoSwitch_code : Code := ((Tryd.f11.body.bind (findBlock 4)).getD .skip)
set_option maxRecDepth 1000000 in
set_option maxHeartbeats 4000000 in
theorem aoSwitch {Q : Exit → Act → World → Prop} {u0 u1 u2 u3 u4 u5 u6 u7 u8 u9 u10 u11 u12 u14 u15 u17 u18 u19 u20 u21 u22 u23 u24 u25 u26 u27 u28 u29 u30 u31 u32 u33 u34 u35 u36 u37 u38 u39 u40 u41 u42 u43 u44 u45 u46 u47 u48 u49 u50 u51 u52 u53 u54 u55 u56 u57 u58 u59 u60 u61 u62 u63 u64 u65 u66 u67 u68 u69 u70 u71 u72 u73 u74 u75 u76 u77 u78 u79 u80 u81 u82 u83 u84 u85 u86 u87 u88 u89 u90 u91 u92 u93 u94 u95 u96 u97 u98 u99 u100 u101 u102 u103 u104 u105 u106 u107 u108 u109 u110 u111 u112 u113 u114 u115 u116 u117 u118 u119 u120 u121 u122 u123 u124 u125 u127 u128 u129 u130 u131 u132 u133 u134 u135 u136 u137 u138 u139 u140 u141 u142 u143 u144 u145 u146 u147 u148 u149 u150 u151 u152 u153 u154 u155 u156 u157 u158 u159 u160 u161 u162 u163 u164 u165 u166 u167 u168 u169 u170 u171 u172 u173 u174 u175 u176 u177 u178 u179 u180 u181 u182 u183 u184 u185 u186 u187 u188 u189 u190 u191 u192 u193 u194 u195 u196 u197 u198 u199 u200 u201 u202 u203 u204 u205 u206 u207 u208 u209 u210 u211 u212 : Value} {w2 : World} (w : World) (p vb n k : Nat) (x y z : Int) (g : Ag) (R : HProp) (hk : k ≤ 150) (hn5 : n ≤ 5) (HN : Hid (AgN n g)) (HL : Hid (AgLe g (k : Int))) (HT : Hid (Own w (Nms 85 vb [x, y, z] * (AgP p g * R)) w2))
    (hK : ∀ (v127 v128 v129 v130 v131 v132 v133 v134 v135 v136 v137 v138 v139 v140 v141 v142 v143 v144 v145 v146 v147 v148 : Value) (wx : World), (AoC w p vb n k x y z R wx) → Q .normal ⟨List.toArray (u0 :: u1 :: u2 :: u3 :: u4 :: u5 :: u6 :: u7 :: u8 :: u9 :: u10 :: u11 :: u12 :: (.pointer (some ⟨p, 0, none⟩)) :: u14 :: u15 :: (.pointer (some ⟨vb, 0, none⟩)) :: u17 :: u18 :: u19 :: u20 :: u21 :: u22 :: u23 :: u24 :: u25 :: u26 :: u27 :: u28 :: u29 :: u30 :: u31 :: u32 :: u33 :: u34 :: u35 :: u36 :: u37 :: u38 :: u39 :: u40 :: u41 :: u42 :: u43 :: u44 :: u45 :: u46 :: u47 :: u48 :: u49 :: u50 :: u51 :: u52 :: u53 :: u54 :: u55 :: u56 :: u57 :: u58 :: u59 :: u60 :: u61 :: u62 :: u63 :: u64 :: u65 :: u66 :: u67 :: u68 :: u69 :: u70 :: u71 :: u72 :: u73 :: u74 :: u75 :: u76 :: u77 :: u78 :: u79 :: u80 :: u81 :: u82 :: u83 :: u84 :: u85 :: u86 :: u87 :: u88 :: u89 :: u90 :: u91 :: u92 :: u93 :: u94 :: u95 :: u96 :: u97 :: u98 :: u99 :: u100 :: u101 :: u102 :: u103 :: u104 :: u105 :: u106 :: u107 :: u108 :: u109 :: u110 :: u111 :: u112 :: u113 :: u114 :: u115 :: u116 :: u117 :: u118 :: u119 :: u120 :: u121 :: u122 :: u123 :: u124 :: u125 :: (.int .i64 x) :: v127 :: v128 :: v129 :: v130 :: v131 :: v132 :: v133 :: v134 :: v135 :: v136 :: v137 :: v138 :: v139 :: v140 :: v141 :: v142 :: v143 :: v144 :: v145 :: v146 :: v147 :: v148 :: u149 :: u150 :: u151 :: u152 :: u153 :: u154 :: u155 :: u156 :: u157 :: u158 :: u159 :: u160 :: u161 :: u162 :: u163 :: u164 :: u165 :: u166 :: u167 :: u168 :: u169 :: u170 :: u171 :: u172 :: u173 :: u174 :: u175 :: u176 :: u177 :: u178 :: u179 :: u180 :: u181 :: u182 :: u183 :: u184 :: u185 :: u186 :: u187 :: u188 :: u189 :: u190 :: u191 :: u192 :: u193 :: u194 :: u195 :: u196 :: u197 :: u198 :: u199 :: u200 :: u201 :: u202 :: u203 :: u204 :: u205 :: u206 :: u207 :: u208 :: u209 :: u210 :: u211 :: u212 :: []), []⟩ wx) :
    Code.wp Tryd.prog aoSwitch_code Q ⟨List.toArray (u0 :: u1 :: u2 :: u3 :: u4 :: u5 :: u6 :: u7 :: u8 :: u9 :: u10 :: u11 :: u12 :: (.pointer (some ⟨p, 0, none⟩)) :: u14 :: u15 :: (.pointer (some ⟨vb, 0, none⟩)) :: u17 :: u18 :: u19 :: u20 :: u21 :: u22 :: u23 :: u24 :: u25 :: u26 :: u27 :: u28 :: u29 :: u30 :: u31 :: u32 :: u33 :: u34 :: u35 :: u36 :: u37 :: u38 :: u39 :: u40 :: u41 :: u42 :: u43 :: u44 :: u45 :: u46 :: u47 :: u48 :: u49 :: u50 :: u51 :: u52 :: u53 :: u54 :: u55 :: u56 :: u57 :: u58 :: u59 :: u60 :: u61 :: u62 :: u63 :: u64 :: u65 :: u66 :: u67 :: u68 :: u69 :: u70 :: u71 :: u72 :: u73 :: u74 :: u75 :: u76 :: u77 :: u78 :: u79 :: u80 :: u81 :: u82 :: u83 :: u84 :: u85 :: u86 :: u87 :: u88 :: u89 :: u90 :: u91 :: u92 :: u93 :: u94 :: u95 :: u96 :: u97 :: u98 :: u99 :: u100 :: u101 :: u102 :: u103 :: u104 :: u105 :: u106 :: u107 :: u108 :: u109 :: u110 :: u111 :: u112 :: u113 :: u114 :: u115 :: u116 :: u117 :: u118 :: u119 :: u120 :: u121 :: u122 :: u123 :: u124 :: u125 :: (.int .i64 x) :: u127 :: u128 :: u129 :: u130 :: u131 :: u132 :: u133 :: u134 :: u135 :: u136 :: u137 :: u138 :: u139 :: u140 :: u141 :: u142 :: u143 :: u144 :: u145 :: u146 :: u147 :: u148 :: u149 :: u150 :: u151 :: u152 :: u153 :: u154 :: u155 :: u156 :: u157 :: u158 :: u159 :: u160 :: u161 :: u162 :: u163 :: u164 :: u165 :: u166 :: u167 :: u168 :: u169 :: u170 :: u171 :: u172 :: u173 :: u174 :: u175 :: u176 :: u177 :: u178 :: u179 :: u180 :: u181 :: u182 :: u183 :: u184 :: u185 :: u186 :: u187 :: u188 :: u189 :: u190 :: u191 :: u192 :: u193 :: u194 :: u195 :: u196 :: u197 :: u198 :: u199 :: u200 :: u201 :: u202 :: u203 :: u204 :: u205 :: u206 :: u207 :: u208 :: u209 :: u210 :: u211 :: u212 :: []), []⟩ w2 := by
  conv => arg 2; whnf
  have HK := Lib.hid hK
  clear hK
  have d1 : w2.cell? ⟨vb, 1, none⟩ = some (.int .i64 y) := HT.out.nms_cell 1 (by simp)
  have d2 : w2.cell? ⟨vb, 2, none⟩ = some (.int .i64 z) := HT.out.nms_cell 2 (by simp)
  have HA : Hid (Own w (AgP p g * (Nms 85 vb [x, y, z] * R)) w2) := Lib.hid (HT.out.perm (by ac_rfl))
  have hl5 : g.mem.length ≤ 5 := by rw [HN.out.len]; exact hn5
  have hsm := HL.out.sm HN.out.inv (by omega)
  have hinv := HN.out.inv
  have HL5 := Lib.hid hl5; have HSM := Lib.hid hsm; have HINV := Lib.hid hinv
  clear hl5 hsm hinv
  by_cases h0 : x = 0
  · subst h0
    go_wp2_with fail
    refine (agSay_any p g z HA.out).mono ?_
    rintro e w3 ⟨rfl, ho⟩
    have HF : Hid (AoC w p vb n k 0 y z R w3) := Lib.hid ⟨agSay g z, HN.out.say z, (HL.out.say z).mono (by omega), ho.perm (by ac_rfl)⟩
    clear ho
    go_wp2
    apply HK.out
    exact HF.out
  have t0 : (x == 0) = false := by rw [beq_eq_false_iff_ne]; exact h0
  by_cases h123 : x = 1 ∨ x = 2 ∨ x = 3
  · rcases h123 with rfl | rfl | rfl
    all_goals
      clear h0 t0
      go_wp2_with fail
      refine (agPropose_any p g y z HINV.out HSM.out HL5.out HA.out).mono ?_
      rintro e w3 ⟨rfl, ho⟩
      have HF : Hid (AoC w p vb n k _ y z R w3) := Lib.hid ⟨agProp g y z, HN.out.prop y z, (HL.out.prop y z), ho.perm (by ac_rfl)⟩
      clear ho
      go_wp2
      apply HK.out
      exact HF.out
  have t1 : (x == 1) = false := by rw [beq_eq_false_iff_ne]; omega
  have t2 : (x == 2) = false := by rw [beq_eq_false_iff_ne]; omega
  have t3 : (x == 3) = false := by rw [beq_eq_false_iff_ne]; omega
  clear h0 h123
  go_wp2_with fail
  refine (agSettle_any p g y z HINV.out HL5.out HA.out).mono ?_
  rintro e w3 ⟨v3, rfl, ho⟩
  have HF : Hid (AoC w p vb n k x y z R w3) := Lib.hid ⟨agSet g y z, HN.out.set y z, (HL.out.set HN.out.inv y z).mono (by omega), ho.drop.perm (by ac_rfl)⟩
  clear ho
  go_wp2
  apply HK.out
  exact HF.out
noncomputable def aoRound_code : Code := ((Tryd.f11.body.bind (findBlock 1)).getD .skip)
set_option maxRecDepth 1000000 in
set_option maxHeartbeats 4000000 in
theorem aoRound {Q : Exit → Act → World → Prop} {u2 u3 u4 u5 u6 u7 u8 u9 u10 u11 u12 u14 u16 u17 u18 u19 u20 u21 u22 u23 u24 u25 u26 u27 u28 u29 u30 u31 u32 u33 u34 u35 u36 u37 u38 u39 u40 u41 u42 u43 u44 u45 u46 u47 u48 u49 u50 u51 u52 u53 u54 u55 u56 u57 u58 u59 u60 u61 u62 u63 u64 u65 u66 u67 u68 u69 u70 u71 u72 u73 u74 u75 u76 u77 u78 u79 u80 u81 u82 u83 u84 u85 u86 u87 u88 u89 u90 u91 u92 u93 u94 u95 u96 u97 u98 u99 u100 u101 u102 u103 u104 u105 u106 u107 u108 u109 u110 u111 u112 u113 u114 u115 u116 u117 u118 u119 u120 u121 u122 u123 u124 u125 u126 u127 u128 u129 u130 u131 u132 u133 u134 u135 u136 u137 u138 u139 u140 u141 u142 u143 u144 u145 u146 u147 u148 u149 u150 u151 u152 u153 u154 u155 u156 u157 u158 u159 u160 u161 u162 u163 u164 u165 u166 u167 u168 u169 u170 u171 u172 u173 u174 u175 u176 u177 u178 u179 u180 u181 u182 u183 u184 u185 u186 u187 u188 u189 u190 u191 u192 u193 u194 u195 u196 u197 u198 u199 u200 u201 u202 u203 u204 u205 u206 u207 u208 u209 u210 u211 u212 : Value} {wr : World} (w : World) (p n k : Nat) (g : Ag) (steps : List (List Int)) (sad : Option Addr) (scap : Nat) (h1 : k < steps.length) (h2 : k < 150) (hsc1 : steps.length ≤ scap) (hsc2 : scap ≤ 9223372036854775807) (hn5 : n ≤ 5) (HVS : Hid (Rows2 w (.slice sad steps.length scap) steps)) (HN : Hid (AgN n g)) (HL : Hid (AgLe g (k : Int))) (HP : Hid (Own w (AgP p g * emp) wr))
    (hK : ∀ (v4 v16 v17 v18 v103 v104 v105 v106 v107 v108 v109 v110 v111 v112 v113 v114 v115 v116 v117 v118 v119 v120 v121 v122 v123 v124 v125 v126 v127 v128 v129 v130 v131 v132 v133 v134 v135 v136 v137 v138 v139 v140 v141 v142 v143 v144 v145 v146 v147 v148 v149 v150 v151 v152 v153 : Value) (wx : World), (∃ g2, AgN n g2 ∧ AgLe g2 ((k : Int) + 1) ∧ Own w (AgP p g2 * emp) wx) → Q .normal ⟨List.toArray ((.int .i64 (n : Int)) :: (.slice sad steps.length scap) :: u2 :: u3 :: v4 :: u5 :: u6 :: u7 :: u8 :: u9 :: u10 :: u11 :: u12 :: (.pointer (some ⟨p, 0, none⟩)) :: u14 :: (.int .i64 (k : Int)) :: v16 :: v17 :: v18 :: u19 :: u20 :: u21 :: u22 :: u23 :: u24 :: u25 :: u26 :: u27 :: u28 :: u29 :: u30 :: u31 :: u32 :: u33 :: u34 :: u35 :: u36 :: u37 :: u38 :: u39 :: u40 :: u41 :: u42 :: u43 :: u44 :: u45 :: u46 :: u47 :: u48 :: u49 :: u50 :: u51 :: u52 :: u53 :: u54 :: u55 :: u56 :: u57 :: u58 :: u59 :: u60 :: u61 :: u62 :: u63 :: u64 :: u65 :: u66 :: u67 :: u68 :: u69 :: u70 :: u71 :: u72 :: u73 :: u74 :: u75 :: u76 :: u77 :: u78 :: u79 :: u80 :: u81 :: u82 :: u83 :: u84 :: u85 :: u86 :: u87 :: u88 :: u89 :: u90 :: u91 :: u92 :: u93 :: u94 :: u95 :: u96 :: u97 :: u98 :: u99 :: u100 :: u101 :: u102 :: v103 :: v104 :: v105 :: v106 :: v107 :: v108 :: v109 :: v110 :: v111 :: v112 :: v113 :: v114 :: v115 :: v116 :: v117 :: v118 :: v119 :: v120 :: v121 :: v122 :: v123 :: v124 :: v125 :: v126 :: v127 :: v128 :: v129 :: v130 :: v131 :: v132 :: v133 :: v134 :: v135 :: v136 :: v137 :: v138 :: v139 :: v140 :: v141 :: v142 :: v143 :: v144 :: v145 :: v146 :: v147 :: v148 :: v149 :: v150 :: v151 :: v152 :: v153 :: u154 :: u155 :: u156 :: u157 :: u158 :: u159 :: u160 :: u161 :: u162 :: u163 :: u164 :: u165 :: u166 :: u167 :: u168 :: u169 :: u170 :: u171 :: u172 :: u173 :: u174 :: u175 :: u176 :: u177 :: u178 :: u179 :: u180 :: u181 :: u182 :: u183 :: u184 :: u185 :: u186 :: u187 :: u188 :: u189 :: u190 :: u191 :: u192 :: u193 :: u194 :: u195 :: u196 :: u197 :: u198 :: u199 :: u200 :: u201 :: u202 :: u203 :: u204 :: u205 :: u206 :: u207 :: u208 :: u209 :: u210 :: u211 :: u212 :: []), []⟩ wx) :
    Code.wp Tryd.prog aoRound_code Q ⟨List.toArray ((.int .i64 (n : Int)) :: (.slice sad steps.length scap) :: u2 :: u3 :: u4 :: u5 :: u6 :: u7 :: u8 :: u9 :: u10 :: u11 :: u12 :: (.pointer (some ⟨p, 0, none⟩)) :: u14 :: (.int .i64 (k : Int)) :: u16 :: u17 :: u18 :: u19 :: u20 :: u21 :: u22 :: u23 :: u24 :: u25 :: u26 :: u27 :: u28 :: u29 :: u30 :: u31 :: u32 :: u33 :: u34 :: u35 :: u36 :: u37 :: u38 :: u39 :: u40 :: u41 :: u42 :: u43 :: u44 :: u45 :: u46 :: u47 :: u48 :: u49 :: u50 :: u51 :: u52 :: u53 :: u54 :: u55 :: u56 :: u57 :: u58 :: u59 :: u60 :: u61 :: u62 :: u63 :: u64 :: u65 :: u66 :: u67 :: u68 :: u69 :: u70 :: u71 :: u72 :: u73 :: u74 :: u75 :: u76 :: u77 :: u78 :: u79 :: u80 :: u81 :: u82 :: u83 :: u84 :: u85 :: u86 :: u87 :: u88 :: u89 :: u90 :: u91 :: u92 :: u93 :: u94 :: u95 :: u96 :: u97 :: u98 :: u99 :: u100 :: u101 :: u102 :: u103 :: u104 :: u105 :: u106 :: u107 :: u108 :: u109 :: u110 :: u111 :: u112 :: u113 :: u114 :: u115 :: u116 :: u117 :: u118 :: u119 :: u120 :: u121 :: u122 :: u123 :: u124 :: u125 :: u126 :: u127 :: u128 :: u129 :: u130 :: u131 :: u132 :: u133 :: u134 :: u135 :: u136 :: u137 :: u138 :: u139 :: u140 :: u141 :: u142 :: u143 :: u144 :: u145 :: u146 :: u147 :: u148 :: u149 :: u150 :: u151 :: u152 :: u153 :: u154 :: u155 :: u156 :: u157 :: u158 :: u159 :: u160 :: u161 :: u162 :: u163 :: u164 :: u165 :: u166 :: u167 :: u168 :: u169 :: u170 :: u171 :: u172 :: u173 :: u174 :: u175 :: u176 :: u177 :: u178 :: u179 :: u180 :: u181 :: u182 :: u183 :: u184 :: u185 :: u186 :: u187 :: u188 :: u189 :: u190 :: u191 :: u192 :: u193 :: u194 :: u195 :: u196 :: u197 :: u198 :: u199 :: u200 :: u201 :: u202 :: u203 :: u204 :: u205 :: u206 :: u207 :: u208 :: u209 :: u210 :: u211 :: u212 :: []), []⟩ wr := by
  conv => arg 2; whnf
  have HK := Lib.hid hK
  clear hK
  obtain ⟨a2, rad, rcap, e2, hr, hc⟩ := HVS.out.at_later k h1
  obtain ⟨row, hrow⟩ : ∃ row, row = steps[k] := ⟨_, rfl⟩
  rw [← hrow] at hr hc
  subst e2
  obtain ⟨vb, hvb⟩ : ∃ b, b = wr.heap.size := ⟨_, rfl⟩
  have ht := HP.out.alloc (.cells #[.int .i64 0, .int .i64 0, .int .i64 0] 85)
  rw [← hvb] at ht
  have HT : Hid (Own w (Nms 85 vb [0, 0, 0] * (AgP p g * emp)) (wr.alloc (.cells #[.int .i64 0, .int .i64 0, .int .i64 0] 85))) := Lib.hid ht
  have HR := Lib.hid hr; have HC := Lib.hid hc; have HROW := Lib.hid hrow
  clear hr hc hrow
  clear ht
  go_upto_block 2 with fail
  rw [← hvb]
  clear hvb
  go_cut [17] from 17 to 17 (fun jv wx => NmV 85 3 w vb (AgP p g * emp) wx)
  case first =>
    refine aoFill w (AgP p g * emp) vb k steps row a2 scap rcap rad h1 hsc1 hsc2 HR HC HT ?_
    intros
    go_step
    go_step
    go_meet
    assumption
  case rest =>
  obtain ⟨x, y, z, hT⟩ := hcut.three
  clear HT HP
  have HT := Lib.hid hT
  clear hT
  have d0 : wc.cell? ⟨vb, 0, none⟩ = some (.int .i64 x) := HT.out.nms_cell 0 (by simp)
  go_upto_block 4 with fail
  go_cut [] from 133 to 133 (fun wx => AoC w p vb n k x y z emp wx)
  case first =>
    refine aoSwitch w p vb n k x y z g emp (by omega) hn5 HN HL HT ?_
    intros
    go_step
    go_step
    go_meet
    assumption
  case rest =>
  obtain ⟨g2, hn2, hl2, ho2⟩ := hcut
  have HO2 : Hid (Own w (AgP p g2 * (Nms 85 vb [x, y, z] * emp)) wc) := Lib.hid (ho2.perm (by ac_rfl))
  clear HT d0 ho2
  have HN2 := Lib.hid hn2; have HL2 := Lib.hid hl2
  clear hn2 hl2
  go_wp2_with fail
  refine (alike_any p n g2 HN2.out hn5 HO2.out).mono ?_
  rintro e w5 ⟨rfl, ho5⟩
  have HF : Hid (Own w (AgP p g2 * emp) w5) := Lib.hid (ho5.second.drop)
  clear ho5
  go_wp2
  apply HK.out
  exact ⟨g2, HN2.out, HL2.out, HF.out⟩
end Go.Proofs.YtldmdenojpnldaaDoor
