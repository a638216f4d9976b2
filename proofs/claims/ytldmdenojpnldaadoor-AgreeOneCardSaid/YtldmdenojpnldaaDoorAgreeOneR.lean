/- AgreeOne: pieces of the law: stamps for all, all settled, all heard. -/
import Derived.Test.YtldmdenojpnldaaDoorAgreeOneQ
import Derived.Test.YtldmdenojpnldaaDoorTold
namespace Go.Proofs.YtldmdenojpnldaaDoor
set_option linter.unusedVariables false
set_option linter.unusedSimpArgs false
open Go.RowKit Go.Maps
noncomputable def aoStamp_code : Code := ((Tryd.f11.body.bind (findBlock 5)).getD .skip)
set_option maxRecDepth 1000000 in
set_option maxHeartbeats 4000000 in
theorem aoStamp {Q : Exit → Act → World → Prop} {u1 u2 u3 u4 u5 u6 u7 u8 u9 u10 u11 u12 u14 u15 u16 u17 u18 u21 u22 u23 u24 u25 u26 u27 u28 u29 u30 u31 u32 u33 u34 u35 u36 u37 u38 u39 u40 u41 u42 u43 u44 u45 u46 u47 u48 u49 u50 u51 u52 u53 u54 u55 u56 u57 u58 u59 u60 u61 u62 u63 u64 u65 u66 u67 u68 u69 u70 u71 u72 u73 u74 u75 u76 u77 u78 u79 u80 u81 u82 u83 u84 u85 u86 u87 u88 u89 u90 u91 u92 u93 u94 u95 u96 u97 u98 u99 u100 u101 u102 u103 u104 u105 u106 u107 u108 u109 u110 u111 u112 u113 u114 u115 u116 u117 u118 u119 u120 u121 u122 u123 u124 u125 u126 u127 u128 u129 u130 u131 u132 u133 u134 u135 u136 u137 u138 u139 u140 u141 u142 u143 u144 u145 u146 u147 u148 u149 u150 u151 u152 u153 u154 u155 u156 u157 u158 u159 u160 u161 u162 u163 u164 u165 u166 u167 u168 u169 u170 u171 u172 u173 u174 u175 u176 u177 u178 u179 u180 u181 u182 u183 u184 u185 u186 u187 u188 u189 u190 u191 u192 u193 u194 u195 u196 u197 u198 u199 u200 u201 u202 u203 u204 u205 u206 u207 u208 u209 u210 u211 u212 : Value} {w2 : World} (w : World) (p n : Nat) (S : Int → Bool) (g : Ag) (hn1 : 2 ≤ n) (hn5 : n ≤ 5) (HGH : Hid (As.Handle w)) (HN : Hid (AgPs n S 0 0 g)) (HL : Hid (AgLe g 150)) (HP : Hid (Own w (AgP p g * emp) w2))
    (hK : ∀ (v19 v20 v21 v22 v23 v154 v155 v156 v157 v158 v159 v160 v161 v162 v163 v164 v165 v166 v167 v168 v169 v170 v171 v172 v173 v174 v175 v176 v177 : Value) (wx : World), (v19 = .int .i64 (cntTo S 30 : Nat) ∧ ∃ g2, AgPs n S 30 0 g2 ∧ Own w (AgP p g2 * emp) wx) → Q .normal ⟨List.toArray ((.int .i64 (n : Int)) :: u1 :: u2 :: u3 :: u4 :: u5 :: u6 :: u7 :: u8 :: u9 :: u10 :: u11 :: u12 :: (.pointer (some ⟨p, 0, none⟩)) :: u14 :: u15 :: u16 :: u17 :: u18 :: v19 :: v20 :: v21 :: v22 :: v23 :: u24 :: u25 :: u26 :: u27 :: u28 :: u29 :: u30 :: u31 :: u32 :: u33 :: u34 :: u35 :: u36 :: u37 :: u38 :: u39 :: u40 :: u41 :: u42 :: u43 :: u44 :: u45 :: u46 :: u47 :: u48 :: u49 :: u50 :: u51 :: u52 :: u53 :: u54 :: u55 :: u56 :: u57 :: u58 :: u59 :: u60 :: u61 :: u62 :: u63 :: u64 :: u65 :: u66 :: u67 :: u68 :: u69 :: u70 :: u71 :: u72 :: u73 :: u74 :: u75 :: u76 :: u77 :: u78 :: u79 :: u80 :: u81 :: u82 :: u83 :: u84 :: u85 :: u86 :: u87 :: u88 :: u89 :: u90 :: u91 :: u92 :: u93 :: u94 :: u95 :: u96 :: u97 :: u98 :: u99 :: u100 :: u101 :: u102 :: u103 :: u104 :: u105 :: u106 :: u107 :: u108 :: u109 :: u110 :: u111 :: u112 :: u113 :: u114 :: u115 :: u116 :: u117 :: u118 :: u119 :: u120 :: u121 :: u122 :: u123 :: u124 :: u125 :: u126 :: u127 :: u128 :: u129 :: u130 :: u131 :: u132 :: u133 :: u134 :: u135 :: u136 :: u137 :: u138 :: u139 :: u140 :: u141 :: u142 :: u143 :: u144 :: u145 :: u146 :: u147 :: u148 :: u149 :: u150 :: u151 :: u152 :: u153 :: v154 :: v155 :: v156 :: v157 :: v158 :: v159 :: v160 :: v161 :: v162 :: v163 :: v164 :: v165 :: v166 :: v167 :: v168 :: v169 :: v170 :: v171 :: v172 :: v173 :: v174 :: v175 :: v176 :: v177 :: u178 :: u179 :: u180 :: u181 :: u182 :: u183 :: u184 :: u185 :: u186 :: u187 :: u188 :: u189 :: u190 :: u191 :: u192 :: u193 :: u194 :: u195 :: u196 :: u197 :: u198 :: u199 :: u200 :: u201 :: u202 :: u203 :: u204 :: u205 :: u206 :: u207 :: u208 :: u209 :: u210 :: u211 :: u212 :: []), []⟩ wx) :
    Code.wp Tryd.prog aoStamp_code Q ⟨List.toArray ((.int .i64 (n : Int)) :: u1 :: u2 :: u3 :: u4 :: u5 :: u6 :: u7 :: u8 :: u9 :: u10 :: u11 :: u12 :: (.pointer (some ⟨p, 0, none⟩)) :: u14 :: u15 :: u16 :: u17 :: u18 :: (.int .i64 0) :: (.int .i64 1) :: u21 :: u22 :: u23 :: u24 :: u25 :: u26 :: u27 :: u28 :: u29 :: u30 :: u31 :: u32 :: u33 :: u34 :: u35 :: u36 :: u37 :: u38 :: u39 :: u40 :: u41 :: u42 :: u43 :: u44 :: u45 :: u46 :: u47 :: u48 :: u49 :: u50 :: u51 :: u52 :: u53 :: u54 :: u55 :: u56 :: u57 :: u58 :: u59 :: u60 :: u61 :: u62 :: u63 :: u64 :: u65 :: u66 :: u67 :: u68 :: u69 :: u70 :: u71 :: u72 :: u73 :: u74 :: u75 :: u76 :: u77 :: u78 :: u79 :: u80 :: u81 :: u82 :: u83 :: u84 :: u85 :: u86 :: u87 :: u88 :: u89 :: u90 :: u91 :: u92 :: u93 :: u94 :: u95 :: u96 :: u97 :: u98 :: u99 :: u100 :: u101 :: u102 :: u103 :: u104 :: u105 :: u106 :: u107 :: u108 :: u109 :: u110 :: u111 :: u112 :: u113 :: u114 :: u115 :: u116 :: u117 :: u118 :: u119 :: u120 :: u121 :: u122 :: u123 :: u124 :: u125 :: u126 :: u127 :: u128 :: u129 :: u130 :: u131 :: u132 :: u133 :: u134 :: u135 :: u136 :: u137 :: u138 :: u139 :: u140 :: u141 :: u142 :: u143 :: u144 :: u145 :: u146 :: u147 :: u148 :: u149 :: u150 :: u151 :: u152 :: u153 :: u154 :: u155 :: u156 :: u157 :: u158 :: u159 :: u160 :: u161 :: u162 :: u163 :: u164 :: u165 :: u166 :: u167 :: u168 :: u169 :: u170 :: u171 :: u172 :: u173 :: u174 :: u175 :: u176 :: u177 :: u178 :: u179 :: u180 :: u181 :: u182 :: u183 :: u184 :: u185 :: u186 :: u187 :: u188 :: u189 :: u190 :: u191 :: u192 :: u193 :: u194 :: u195 :: u196 :: u197 :: u198 :: u199 :: u200 :: u201 :: u202 :: u203 :: u204 :: u205 :: u206 :: u207 :: u208 :: u209 :: u210 :: u211 :: u212 :: []), []⟩ w2 := by
  conv => arg 2; whnf
  have HK := Lib.hid hK
  clear hK
  go_wp2_with fail
  go_loopw [19, 20] (fun sv iv wr => ∃ (i : Nat) (g : Ag), i ≤ 30 ∧ sv = .int .i64 (cntTo S i : Nat) ∧ iv = .int .i64 ((i : Int) + 1) ∧ Hid (AgPs n S i 0 g ∧ AgLe g (150 + 5 * (i : Int))) ∧ Hid (Own w (AgP p g * emp) wr)) (fun _ iv _ => 31 - (intOf iv).toNat)
  case atStart => exact ⟨0, g, by omega, rfl, rfl, Lib.hid ⟨HN.out, by simpa using HL.out⟩, HP⟩
  case round =>
    clear HN HL HP g
    obtain ⟨i, g, hi, rfl, rfl, HA, HP⟩ := hrel
    by_cases hlt : i < 30
    rotate_left
    · have hi30 : i = 30 := by omega
      subst hi30
      go_wp2_with fail
      apply HK.out
      exact ⟨rfl, g, HA.out.1, HP.out⟩
    obtain ⟨c, hc⟩ : ∃ c, c = cntTo S i := ⟨_, rfl⟩
    have hc30 : c ≤ 30 := by rw [hc]; have := cntTo_le S i; omega
    have hnx := cntTo_next S i
    rw [← hc] at hnx
    rw [← hc]
    obtain ⟨v, hv⟩ : ∃ v, v = (i : Int) + 1 := ⟨_, rfl⟩
    have hv1 : 1 ≤ v ∧ v ≤ 30 := by omega
    obtain ⟨hv2, hv3⟩ := hv1
    have hword : isWord v = true := by simp [isWord]; omega
    have hlen : g.mem.length = n := HA.out.1.ag.len
    have tv : decide (v ≤ 30) = true := decide_eq_true hv3
    rw [← hv] at hnx ⊢
    cases hS : S v
    · rw [hS] at hnx
      have hE : agPropErr g ((0 : Nat) : Int) v = 5 := agProp_no (by rw [hlen]; omega) hword (by rw [HA.out.1.said]; exact hS)
      have hG : agProp g ((0 : Nat) : Int) v = g := by unfold agProp; rw [hE]; rfl
      rw [Int.natCast_zero] at hE hG
      have hnext : AgPs n S (i + 1) 0 g := HA.out.1.skip (by rw [← hv]; exact hS)
      have hle : AgLe g (150 + 5 * ((i + 1 : Nat) : Int)) := HA.out.2.mono (by omega)
      have hsm := HA.out.2.sm HA.out.1.ag.inv (by omega)
      have hinv := HA.out.1.ag.inv
      have hl5 : g.mem.length ≤ 5 := by omega
      have t0 : decide ((0 : Int) < (n : Int)) = true := decide_eq_true (by omega)
      have HC := Lib.hid hc; have HNX := Lib.hid hnx; have HS := Lib.hid hS; have HE := Lib.hid hE; have HG := Lib.hid hG; have HNEXT := Lib.hid hnext; have HLE := Lib.hid hle; have HWORD := Lib.hid hword; have HLEN := Lib.hid hlen; have HV := Lib.hid hv; have HSM := Lib.hid hsm; have HINV := Lib.hid hinv; have HL5 := Lib.hid hl5
      clear hc hnx hS hE hG hnext hle hword hlen hv hsm hinv hl5
      go_wp2_with fail
      go_loopw [19, 21] (fun sv mv wr => sv = .int .i64 c ∧ mv = .int .i64 0 ∧ Hid (Own w (AgP p g * emp) wr)) (fun _ _ _ => 0)
      case atStart => exact ⟨rfl, rfl, HP⟩
      case round =>
        clear HP
        obtain ⟨rfl, rfl, HP⟩ := hrel
        go_wp2_with fail
        refine (agPropose_any p g 0 v HINV.out HSM.out HL5.out HP.out).mono ?_
        rintro e w4 ⟨rfl, ho4⟩
        rw [HG.out] at ho4
        unfold stTup
        rw [HE.out]
        have HO4 := Lib.hid ho4
        clear ho4
        go_wp2_with fail
        refine (sameErr_any HGH.out 5 5 (HO4.out.alloc' _)).mono ?_
        rintro e w5 ⟨rfl, ho5⟩
        have HO5 := Lib.hid ho5
        clear ho5
        rw [show (((5 : Nat) : Int) == 5) = true from rfl]
        go_wp2
        go_roundw
        case rel => exact ⟨i + 1, g, by omega, by rw [HNX.out]; simp, by rw [HV.out]; go_num, Lib.hid ⟨HNEXT.out, HLE.out⟩, HO5⟩
        case measure => simp [intOf]; omega
    · rw [hS, if_pos rfl] at hnx
      have hap := HA.out.1
      have hle := HA.out.2
      have HC := Lib.hid hc; have HNX := Lib.hid hnx; have HS := Lib.hid hS; have HWORD := Lib.hid hword; have HLEN := Lib.hid hlen; have HV := Lib.hid hv; have HAP := Lib.hid hap; have HLE := Lib.hid hle
      clear hc hnx hS hword hlen hv hap hle
      go_wp2_with fail
      go_loopw [19, 21] (fun sv mv wr => ∃ (m : Nat) (g : Ag), m ≤ n ∧ mv = .int .i64 m ∧ sv = .int .i64 (if m = n then (c : Int) + 1 else c) ∧ Hid (AgPs n S i m g ∧ AgLe g (150 + 5 * (i : Int) + m)) ∧ Hid (Own w (AgP p g * emp) wr)) (fun _ mv _ => n - (intOf mv).toNat)
      case atStart => exact ⟨0, g, Nat.zero_le _, rfl, by rw [if_neg (by omega)], Lib.hid ⟨HAP.out, by simpa using HLE.out⟩, HP⟩
      case round =>
        clear HP HAP HLE HLEN HA g
        obtain ⟨m, g, hm, rfl, rfl, HA, HP⟩ := hrel
        by_cases hmn : m < n
        rotate_left
        · have hmn' : m = n := by omega
          subst hmn'
          rw [if_pos rfl]
          go_wp2
          go_roundw
          case rel =>
            refine ⟨i + 1, g, by omega, by rw [HNX.out]; go_num, by rw [HV.out]; go_num, Lib.hid ⟨HA.out.1.next, HA.out.2.mono (by omega)⟩, HP⟩
          case measure => simp [intOf]; omega
        rw [if_neg (by omega)]
        have hlen : g.mem.length = n := HA.out.1.ag.len
        have hsm := HA.out.2.sm HA.out.1.ag.inv (by omega)
        have hinv := HA.out.1.ag.inv
        have hl5 : g.mem.length ≤ 5 := by omega
        have hst := HA.out.1.step hlt hmn
        rw [← HV.out] at hst
        have hle := HA.out.2.prop (m : Int) v
        obtain ⟨E, hE⟩ : ∃ E, E = agPropErr g m v := ⟨_, rfl⟩
        have hE5 : ((E : Int) == 5) = false := by
          rw [hE, agProp_may (by rw [hlen]; exact hmn) HWORD.out (by rw [HA.out.1.said]; exact HS.out)]
          split <;> rfl
        have t0 : decide ((m : Int) < (n : Int)) = true := decide_eq_true (by omega)
        by_cases hlast : m + 1 = n
        · have tl : ((m : Int) == (n : Int) - 1) = true := by rw [beq_iff_eq]; omega
          have HLEN := Lib.hid hlen; have HSM := Lib.hid hsm; have HINV := Lib.hid hinv; have HL5 := Lib.hid hl5; have HST := Lib.hid hst; have HLE := Lib.hid hle; have HE := Lib.hid hE; have HE5 := Lib.hid hE5
          clear hlen hsm hinv hl5 hst hle hE hE5
          go_wp2_with fail
          refine (agPropose_any p g m v HINV.out HSM.out HL5.out HP.out).mono ?_
          rintro e w4 ⟨rfl, ho4⟩
          unfold stTup
          rw [← HE.out]
          have HO4 := Lib.hid ho4
          clear ho4
          go_wp2_with fail
          refine (sameErr_any HGH.out E 5 (HO4.out.alloc' _)).mono ?_
          rintro e w5 ⟨rfl, ho5⟩
          have HO5 := Lib.hid ho5
          clear ho5
          rw [HE5.out]
          go_wp2_with fail
          go_roundw
          case rel => exact ⟨m + 1, _, by omega, by go_num, by rw [if_pos hlast], Lib.hid ⟨HST.out, HLE.out.mono (by omega)⟩, HO5⟩
          case measure => simp [intOf]; omega
        · have tl : ((m : Int) == (n : Int) - 1) = false := by rw [beq_eq_false_iff_ne]; omega
          have HLEN := Lib.hid hlen; have HSM := Lib.hid hsm; have HINV := Lib.hid hinv; have HL5 := Lib.hid hl5; have HST := Lib.hid hst; have HLE := Lib.hid hle; have HE := Lib.hid hE; have HE5 := Lib.hid hE5
          clear hlen hsm hinv hl5 hst hle hE hE5
          go_wp2_with fail
          refine (agPropose_any p g m v HINV.out HSM.out HL5.out HP.out).mono ?_
          rintro e w4 ⟨rfl, ho4⟩
          unfold stTup
          rw [← HE.out]
          have HO4 := Lib.hid ho4
          clear ho4
          go_wp2_with fail
          refine (sameErr_any HGH.out E 5 (HO4.out.alloc' _)).mono ?_
          rintro e w5 ⟨rfl, ho5⟩
          have HO5 := Lib.hid ho5
          clear ho5
          rw [HE5.out]
          go_wp2_with fail
          go_roundw
          case rel => exact ⟨m + 1, _, by omega, by go_num, by rw [if_neg hlast], Lib.hid ⟨HST.out, HLE.out.mono (by omega)⟩, HO5⟩
          case measure => simp [intOf]; omega
noncomputable def aoSettle_code : Code := ((Tryd.f11.body.bind (findBlock 9)).getD .skip)
set_option maxRecDepth 1000000 in
set_option maxHeartbeats 4000000 in
theorem aoSettle {Q : Exit → Act → World → Prop} {u1 u2 u3 u4 u5 u6 u7 u8 u9 u10 u11 u12 u14 u15 u16 u17 u18 u19 u20 u21 u22 u23 u25 u26 u27 u28 u29 u30 u31 u32 u33 u34 u35 u36 u37 u38 u39 u40 u41 u42 u43 u44 u45 u46 u47 u48 u49 u50 u51 u52 u53 u54 u55 u56 u57 u58 u59 u60 u61 u62 u63 u64 u65 u66 u67 u68 u69 u70 u71 u72 u73 u74 u75 u76 u77 u78 u79 u80 u81 u82 u83 u84 u85 u86 u87 u88 u89 u90 u91 u92 u93 u94 u95 u96 u97 u98 u99 u100 u101 u102 u103 u104 u105 u106 u107 u108 u109 u110 u111 u112 u113 u114 u115 u116 u117 u118 u119 u120 u121 u122 u123 u124 u125 u126 u127 u128 u129 u130 u131 u132 u133 u134 u135 u136 u137 u138 u139 u140 u141 u142 u143 u144 u145 u146 u147 u148 u149 u150 u151 u152 u153 u154 u155 u156 u157 u158 u159 u160 u161 u162 u163 u164 u165 u166 u167 u168 u169 u170 u171 u172 u173 u174 u175 u176 u177 u178 u179 u180 u181 u182 u183 u184 u185 u186 u187 u188 u189 u190 u191 u192 u193 u194 u195 u196 u197 u198 u199 u200 u201 u202 u203 u204 u205 u206 u207 u208 u209 u210 u211 u212 : Value} {w2 : World} (w : World) (p n : Nat) (S : Int → Bool) (g : Ag) (hn5 : n ≤ 5) (HN : Hid (AgQs n S 0 0 g)) (HP : Hid (Own w (AgP p g * emp) w2))
    (hK : ∀ (v24 v25 v178 v179 v180 v181 v182 v183 v184 v185 v186 v187 v188 v189 v190 : Value) (wx : World), (∃ g2, AgQs n S 30 0 g2 ∧ Own w (AgP p g2 * emp) wx) → Q .normal ⟨List.toArray ((.int .i64 (n : Int)) :: u1 :: u2 :: u3 :: u4 :: u5 :: u6 :: u7 :: u8 :: u9 :: u10 :: u11 :: u12 :: (.pointer (some ⟨p, 0, none⟩)) :: u14 :: u15 :: u16 :: u17 :: u18 :: u19 :: u20 :: u21 :: u22 :: u23 :: v24 :: v25 :: u26 :: u27 :: u28 :: u29 :: u30 :: u31 :: u32 :: u33 :: u34 :: u35 :: u36 :: u37 :: u38 :: u39 :: u40 :: u41 :: u42 :: u43 :: u44 :: u45 :: u46 :: u47 :: u48 :: u49 :: u50 :: u51 :: u52 :: u53 :: u54 :: u55 :: u56 :: u57 :: u58 :: u59 :: u60 :: u61 :: u62 :: u63 :: u64 :: u65 :: u66 :: u67 :: u68 :: u69 :: u70 :: u71 :: u72 :: u73 :: u74 :: u75 :: u76 :: u77 :: u78 :: u79 :: u80 :: u81 :: u82 :: u83 :: u84 :: u85 :: u86 :: u87 :: u88 :: u89 :: u90 :: u91 :: u92 :: u93 :: u94 :: u95 :: u96 :: u97 :: u98 :: u99 :: u100 :: u101 :: u102 :: u103 :: u104 :: u105 :: u106 :: u107 :: u108 :: u109 :: u110 :: u111 :: u112 :: u113 :: u114 :: u115 :: u116 :: u117 :: u118 :: u119 :: u120 :: u121 :: u122 :: u123 :: u124 :: u125 :: u126 :: u127 :: u128 :: u129 :: u130 :: u131 :: u132 :: u133 :: u134 :: u135 :: u136 :: u137 :: u138 :: u139 :: u140 :: u141 :: u142 :: u143 :: u144 :: u145 :: u146 :: u147 :: u148 :: u149 :: u150 :: u151 :: u152 :: u153 :: u154 :: u155 :: u156 :: u157 :: u158 :: u159 :: u160 :: u161 :: u162 :: u163 :: u164 :: u165 :: u166 :: u167 :: u168 :: u169 :: u170 :: u171 :: u172 :: u173 :: u174 :: u175 :: u176 :: u177 :: v178 :: v179 :: v180 :: v181 :: v182 :: v183 :: v184 :: v185 :: v186 :: v187 :: v188 :: v189 :: v190 :: u191 :: u192 :: u193 :: u194 :: u195 :: u196 :: u197 :: u198 :: u199 :: u200 :: u201 :: u202 :: u203 :: u204 :: u205 :: u206 :: u207 :: u208 :: u209 :: u210 :: u211 :: u212 :: []), []⟩ wx) :
    Code.wp Tryd.prog aoSettle_code Q ⟨List.toArray ((.int .i64 (n : Int)) :: u1 :: u2 :: u3 :: u4 :: u5 :: u6 :: u7 :: u8 :: u9 :: u10 :: u11 :: u12 :: (.pointer (some ⟨p, 0, none⟩)) :: u14 :: u15 :: u16 :: u17 :: u18 :: u19 :: u20 :: u21 :: u22 :: u23 :: (.int .i64 1) :: u25 :: u26 :: u27 :: u28 :: u29 :: u30 :: u31 :: u32 :: u33 :: u34 :: u35 :: u36 :: u37 :: u38 :: u39 :: u40 :: u41 :: u42 :: u43 :: u44 :: u45 :: u46 :: u47 :: u48 :: u49 :: u50 :: u51 :: u52 :: u53 :: u54 :: u55 :: u56 :: u57 :: u58 :: u59 :: u60 :: u61 :: u62 :: u63 :: u64 :: u65 :: u66 :: u67 :: u68 :: u69 :: u70 :: u71 :: u72 :: u73 :: u74 :: u75 :: u76 :: u77 :: u78 :: u79 :: u80 :: u81 :: u82 :: u83 :: u84 :: u85 :: u86 :: u87 :: u88 :: u89 :: u90 :: u91 :: u92 :: u93 :: u94 :: u95 :: u96 :: u97 :: u98 :: u99 :: u100 :: u101 :: u102 :: u103 :: u104 :: u105 :: u106 :: u107 :: u108 :: u109 :: u110 :: u111 :: u112 :: u113 :: u114 :: u115 :: u116 :: u117 :: u118 :: u119 :: u120 :: u121 :: u122 :: u123 :: u124 :: u125 :: u126 :: u127 :: u128 :: u129 :: u130 :: u131 :: u132 :: u133 :: u134 :: u135 :: u136 :: u137 :: u138 :: u139 :: u140 :: u141 :: u142 :: u143 :: u144 :: u145 :: u146 :: u147 :: u148 :: u149 :: u150 :: u151 :: u152 :: u153 :: u154 :: u155 :: u156 :: u157 :: u158 :: u159 :: u160 :: u161 :: u162 :: u163 :: u164 :: u165 :: u166 :: u167 :: u168 :: u169 :: u170 :: u171 :: u172 :: u173 :: u174 :: u175 :: u176 :: u177 :: u178 :: u179 :: u180 :: u181 :: u182 :: u183 :: u184 :: u185 :: u186 :: u187 :: u188 :: u189 :: u190 :: u191 :: u192 :: u193 :: u194 :: u195 :: u196 :: u197 :: u198 :: u199 :: u200 :: u201 :: u202 :: u203 :: u204 :: u205 :: u206 :: u207 :: u208 :: u209 :: u210 :: u211 :: u212 :: []), []⟩ w2 := by
  conv => arg 2; whnf
  have HK := Lib.hid hK
  clear hK
  go_wp2_with fail
  go_loopw [24] (fun iv wr => ∃ (i : Nat) (g : Ag), i ≤ 30 ∧ iv = .int .i64 ((i : Int) + 1) ∧ Hid (AgQs n S i 0 g) ∧ Hid (Own w (AgP p g * emp) wr)) (fun iv _ => 31 - (intOf iv).toNat)
  case atStart => exact ⟨0, g, by omega, rfl, HN, HP⟩
  case round =>
    clear HN HP g
    obtain ⟨i, g, hi, rfl, HA, HP⟩ := hrel
    by_cases hlt : i < 30
    rotate_left
    · have hi30 : i = 30 := by omega
      subst hi30
      go_wp2_with fail
      apply HK.out
      exact ⟨g, HA.out, HP.out⟩
    obtain ⟨v, hv⟩ : ∃ v, v = (i : Int) + 1 := ⟨_, rfl⟩
    have hv1 : 1 ≤ v ∧ v ≤ 30 := by omega
    obtain ⟨hv2, hv3⟩ := hv1
    have tv : decide (v ≤ 30) = true := decide_eq_true hv3
    rw [← hv]
    have HV := Lib.hid hv
    clear hv
    go_wp2_with fail
    go_loopw [25] (fun mv wr => ∃ (m : Nat) (g : Ag), m ≤ n ∧ mv = .int .i64 m ∧ Hid (AgQs n S i m g) ∧ Hid (Own w (AgP p g * emp) wr)) (fun mv _ => n - (intOf mv).toNat)
    case atStart => exact ⟨0, g, Nat.zero_le _, rfl, HA, HP⟩
    case round =>
      clear HP HA g
      obtain ⟨m, g, hm, rfl, HA, HP⟩ := hrel
      by_cases hmn : m < n
      rotate_left
      · have hmn' : m = n := by omega
        subst hmn'
        go_wp2
        go_roundw
        case rel => exact ⟨i + 1, g, by omega, by rw [HV.out]; go_num, Lib.hid HA.out.next, HP⟩
        case measure => simp [intOf]; omega
      have hl5 : g.mem.length ≤ 5 := by rw [HA.out.ag.len]; exact hn5
      have hinv := HA.out.ag.inv
      have hst := HA.out.step hlt hmn
      rw [← HV.out] at hst
      have t0 : decide ((m : Int) < (n : Int)) = true := decide_eq_true (by omega)
      have HINV := Lib.hid hinv; have HL5 := Lib.hid hl5; have HST := Lib.hid hst
      clear hinv hl5 hst
      go_wp2_with fail
      refine (agSettle_any p g m v HINV.out HL5.out HP.out).mono ?_
      rintro e w4 ⟨v4, rfl, ho4⟩
      have HO4 := Lib.hid ho4.drop
      clear ho4
      go_wp2_with fail
      go_roundw
      case rel => exact ⟨m + 1, _, by omega, by go_num, Lib.hid HST.out, HO4⟩
      case measure => simp [intOf]; omega
noncomputable def aoHeard_code : Code := ((Tryd.f11.body.bind (findBlock 13)).getD .skip)
set_option maxRecDepth 1000000 in
set_option maxHeartbeats 4000000 in
theorem aoHeard {Q : Exit → Act → World → Prop} {u1 u2 u3 u4 u5 u6 u7 u8 u9 u10 u11 u12 u14 u15 u16 u17 u18 u20 u21 u22 u23 u24 u25 u27 u28 u29 u30 u31 u32 u33 u34 u35 u36 u37 u38 u39 u40 u41 u42 u43 u44 u45 u46 u47 u48 u49 u50 u51 u52 u53 u54 u55 u56 u57 u58 u59 u60 u61 u62 u63 u64 u65 u66 u67 u68 u69 u70 u71 u72 u73 u74 u75 u76 u77 u78 u79 u80 u81 u82 u83 u84 u85 u86 u87 u88 u89 u90 u91 u92 u93 u94 u95 u96 u97 u98 u99 u100 u101 u102 u103 u104 u105 u106 u107 u108 u109 u110 u111 u112 u113 u114 u115 u116 u117 u118 u119 u120 u121 u122 u123 u124 u125 u126 u127 u128 u129 u130 u131 u132 u133 u134 u135 u136 u137 u138 u139 u140 u141 u142 u143 u144 u145 u146 u147 u148 u149 u150 u151 u152 u153 u154 u155 u156 u157 u158 u159 u160 u161 u162 u163 u164 u165 u166 u167 u168 u169 u170 u171 u172 u173 u174 u175 u176 u177 u178 u179 u180 u181 u182 u183 u184 u185 u186 u187 u188 u189 u190 u191 u192 u193 u194 u195 u196 u197 u198 u199 u200 u201 u202 u203 u204 u205 u206 u207 u208 u209 u210 u211 u212 : Value} {w2 : World} (w : World) (p n c : Nat) (S : Int → Bool) (g : Ag) (hn5 : n ≤ 5) (hc30 : c ≤ 30) (HC : Hid (c = cntTo S 30)) (HN : Hid (AgQs n S 30 0 g)) (HP : Hid (Own w (AgP p g * emp) w2))
    (hK : ∀ (v4 v26 v27 v28 v191 v192 v193 v194 v195 v196 v197 v198 v199 v200 v201 v202 v203 v204 v205 v206 v207 v208 v209 : Value) (wx : World), (Own w (AgP p g * emp) wx) → Q .normal ⟨List.toArray ((.int .i64 (n : Int)) :: u1 :: u2 :: u3 :: v4 :: u5 :: u6 :: u7 :: u8 :: u9 :: u10 :: u11 :: u12 :: (.pointer (some ⟨p, 0, none⟩)) :: u14 :: u15 :: u16 :: u17 :: u18 :: (.int .i64 (c : Int)) :: u20 :: u21 :: u22 :: u23 :: u24 :: u25 :: v26 :: v27 :: v28 :: u29 :: u30 :: u31 :: u32 :: u33 :: u34 :: u35 :: u36 :: u37 :: u38 :: u39 :: u40 :: u41 :: u42 :: u43 :: u44 :: u45 :: u46 :: u47 :: u48 :: u49 :: u50 :: u51 :: u52 :: u53 :: u54 :: u55 :: u56 :: u57 :: u58 :: u59 :: u60 :: u61 :: u62 :: u63 :: u64 :: u65 :: u66 :: u67 :: u68 :: u69 :: u70 :: u71 :: u72 :: u73 :: u74 :: u75 :: u76 :: u77 :: u78 :: u79 :: u80 :: u81 :: u82 :: u83 :: u84 :: u85 :: u86 :: u87 :: u88 :: u89 :: u90 :: u91 :: u92 :: u93 :: u94 :: u95 :: u96 :: u97 :: u98 :: u99 :: u100 :: u101 :: u102 :: u103 :: u104 :: u105 :: u106 :: u107 :: u108 :: u109 :: u110 :: u111 :: u112 :: u113 :: u114 :: u115 :: u116 :: u117 :: u118 :: u119 :: u120 :: u121 :: u122 :: u123 :: u124 :: u125 :: u126 :: u127 :: u128 :: u129 :: u130 :: u131 :: u132 :: u133 :: u134 :: u135 :: u136 :: u137 :: u138 :: u139 :: u140 :: u141 :: u142 :: u143 :: u144 :: u145 :: u146 :: u147 :: u148 :: u149 :: u150 :: u151 :: u152 :: u153 :: u154 :: u155 :: u156 :: u157 :: u158 :: u159 :: u160 :: u161 :: u162 :: u163 :: u164 :: u165 :: u166 :: u167 :: u168 :: u169 :: u170 :: u171 :: u172 :: u173 :: u174 :: u175 :: u176 :: u177 :: u178 :: u179 :: u180 :: u181 :: u182 :: u183 :: u184 :: u185 :: u186 :: u187 :: u188 :: u189 :: u190 :: v191 :: v192 :: v193 :: v194 :: v195 :: v196 :: v197 :: v198 :: v199 :: v200 :: v201 :: v202 :: v203 :: v204 :: v205 :: v206 :: v207 :: v208 :: v209 :: u210 :: u211 :: u212 :: []), []⟩ wx) :
    Code.wp Tryd.prog aoHeard_code Q ⟨List.toArray ((.int .i64 (n : Int)) :: u1 :: u2 :: u3 :: u4 :: u5 :: u6 :: u7 :: u8 :: u9 :: u10 :: u11 :: u12 :: (.pointer (some ⟨p, 0, none⟩)) :: u14 :: u15 :: u16 :: u17 :: u18 :: (.int .i64 (c : Int)) :: u20 :: u21 :: u22 :: u23 :: u24 :: u25 :: (.int .i64 0) :: u27 :: u28 :: u29 :: u30 :: u31 :: u32 :: u33 :: u34 :: u35 :: u36 :: u37 :: u38 :: u39 :: u40 :: u41 :: u42 :: u43 :: u44 :: u45 :: u46 :: u47 :: u48 :: u49 :: u50 :: u51 :: u52 :: u53 :: u54 :: u55 :: u56 :: u57 :: u58 :: u59 :: u60 :: u61 :: u62 :: u63 :: u64 :: u65 :: u66 :: u67 :: u68 :: u69 :: u70 :: u71 :: u72 :: u73 :: u74 :: u75 :: u76 :: u77 :: u78 :: u79 :: u80 :: u81 :: u82 :: u83 :: u84 :: u85 :: u86 :: u87 :: u88 :: u89 :: u90 :: u91 :: u92 :: u93 :: u94 :: u95 :: u96 :: u97 :: u98 :: u99 :: u100 :: u101 :: u102 :: u103 :: u104 :: u105 :: u106 :: u107 :: u108 :: u109 :: u110 :: u111 :: u112 :: u113 :: u114 :: u115 :: u116 :: u117 :: u118 :: u119 :: u120 :: u121 :: u122 :: u123 :: u124 :: u125 :: u126 :: u127 :: u128 :: u129 :: u130 :: u131 :: u132 :: u133 :: u134 :: u135 :: u136 :: u137 :: u138 :: u139 :: u140 :: u141 :: u142 :: u143 :: u144 :: u145 :: u146 :: u147 :: u148 :: u149 :: u150 :: u151 :: u152 :: u153 :: u154 :: u155 :: u156 :: u157 :: u158 :: u159 :: u160 :: u161 :: u162 :: u163 :: u164 :: u165 :: u166 :: u167 :: u168 :: u169 :: u170 :: u171 :: u172 :: u173 :: u174 :: u175 :: u176 :: u177 :: u178 :: u179 :: u180 :: u181 :: u182 :: u183 :: u184 :: u185 :: u186 :: u187 :: u188 :: u189 :: u190 :: u191 :: u192 :: u193 :: u194 :: u195 :: u196 :: u197 :: u198 :: u199 :: u200 :: u201 :: u202 :: u203 :: u204 :: u205 :: u206 :: u207 :: u208 :: u209 :: u210 :: u211 :: u212 :: []), []⟩ w2 := by
  conv => arg 2; whnf
  have HK := Lib.hid hK
  clear hK
  have hfit := HN.out.ag.fit
  have HFIT := Lib.hid hfit
  clear hfit
  go_wp2_with fail
  go_loopw [26] (fun mv wr => ∃ (m : Nat), m ≤ n ∧ mv = .int .i64 m ∧ Hid (Own w (AgP p g * emp) wr)) (fun mv _ => n - (intOf mv).toNat)
  case atStart => exact ⟨0, Nat.zero_le _, rfl, HP⟩
  case round =>
    clear HP
    obtain ⟨m, hm, rfl, HP⟩ := hrel
    by_cases hmn : m < n
    rotate_left
    · have hmn' : m = n := by omega
      subst hmn'
      go_wp2_with fail
      apply HK.out
      exact HP.out
    obtain ⟨a1, a2⟩ := agHeard_at HN.out.ag hmn
    have hl := HN.out.len hmn
    rw [← a2, ← HC.out] at hl
    have t0 : decide ((m : Int) < (n : Int)) = true := decide_eq_true (by omega)
    have tc : ((c : Int) != (c : Int)) = false := by rw [bne_eq_false_iff_eq]
    have A1 := Lib.hid a1; have A2 := Lib.hid a2; have HL := Lib.hid hl
    clear a1 a2 hl
    go_wp2_with fail
    refine (agHeard_any p g m HFIT.out HP.out).mono ?_
    rintro e w4 ⟨v4, rfl, ho4⟩
    rw [A1.out, errV0]
    obtain ⟨ad, cp, hs⟩ := ho4.int_shape
    rw [HL.out] at hs
    subst hs
    have HO4 := Lib.hid ho4.drop
    clear ho4
    go_wp2_with fail
    go_roundw
    case rel => exact ⟨m + 1, by omega, by go_num, HO4⟩
    case measure => simp [intOf]; omega
end Go.Proofs.YtldmdenojpnldaaDoor
