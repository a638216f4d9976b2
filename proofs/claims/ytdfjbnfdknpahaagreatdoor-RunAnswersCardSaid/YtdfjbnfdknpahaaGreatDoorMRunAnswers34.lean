/- The reference's Faces, continued: which pairs are heard in order. -/
import Derived.Test.YtdfjbnfdknpahaaGreatDoorMRunAnswers33
namespace Go.Proofs.YtdfjbnfdknpahaaGreatDoor
set_option linter.unusedVariables false
set_option linter.unusedSimpArgs false
open Go.RowKit
noncomputable def rfJ_code : Code := ((Tryz.f30.body.bind (findBlock 4)).getD .skip)
set_option maxRecDepth 1000000 in
set_option maxHeartbeats 4000000 in
theorem rfJ {Q : Exit → Act → World → Prop} {u1 u2 u4 u8 u9 u10 u11 u12 u13 u14 u15 u16 u17 u18 u19 u20 u21 u22 u23 u24 u25 u26 u27 u28 u29 u30 u31 u32 u33 u34 u35 u36 u37 u38 u39 u40 u41 u42 u43 u44 u45 u46 u47 u48 u49 u50 u51 u52 u53 u54 u55 u56 u57 u58 u59 u60 u61 u62 u63 u64 u65 u66 u67 u68 u69 u70 u71 u72 u73 u74 u75 u76 u77 u78 u79 u80 u81 u82 u83 u84 u85 u86 u87 u88 u89 u90 u91 u92 u93 u94 u95 u96 u97 u98 u99 u100 u101 u102 u103 u104 u105 u106 u107 u108 u109 u110 u111 u112 u113 u114 u115 u116 u117 u118 u119 u120 u121 u122 u123 u124 u125 u126 u127 u128 u129 u130 u131 u132 u133 u134 u135 u136 u137 u138 u139 u140 u141 u142 u143 u144 u145 u146 u147 u148 u149 u150 u151 u152 u153 u154 u155 u156 u157 u158 u159 u160 u161 u162 u163 u164 u165 u166 u167 u168 u169 u170 u171 u172 u173 u174 u175 u176 u177 u178 u179 u180 u181 u182 u183 u184 u185 u186 u187 u188 u189 u190 u191 u192 : Value} {w1 : World} (w : World) (R : HProp) (fb n i k hcap : Nat) (had : Option Addr) (hs : List Ev) (f c t dw : Bool) (hi : i < k) (hk : k < n) (hn : n ≤ 60) (hc1 : n ≤ hcap) (hc2 : hcap ≤ 9223372036854775807) (HLN : Hid (hs.length = n)) (HDW : Hid (dw = decide ((evAt hs i).1 ≠ (evAt hs k).1))) (HV : Hid (ReadsE w R (.slice had n hcap) hs)) (HP : Hid (Own w (FaO fb f c t * R) w1))
    (hK : ∀ (v7 v8 v9 v59 v60 v61 v62 v63 v64 v65 v66 v67 v68 v69 v70 v71 v72 v73 v74 v75 v76 v77 v78 v79 v80 v81 v82 v83 v84 v85 v86 v87 v88 v89 v90 v91 v92 v93 v94 v95 v96 v97 v98 v99 v100 v101 v102 v103 v104 v105 v106 v107 v108 v109 v110 v111 v112 v113 v114 v115 v116 v117 v118 v119 v120 v121 v122 v123 v124 v125 v126 v127 v128 v129 v130 v131 v132 v133 v134 v135 v136 v137 v138 : Value) (wx : World), (Own w (FaO fb (f && (rowJ hs i k n || dw)) (c && rowJ hs i k n) t * R) wx) → Q .normal ⟨List.toArray ((.slice had n hcap) :: u1 :: u2 :: (.pointer (some ⟨fb, 0, none⟩)) :: u4 :: (.int .i64 (i : Int)) :: (.int .i64 (k : Int)) :: v7 :: v8 :: v9 :: u10 :: u11 :: u12 :: u13 :: u14 :: u15 :: u16 :: u17 :: u18 :: u19 :: u20 :: u21 :: u22 :: u23 :: u24 :: u25 :: u26 :: u27 :: u28 :: u29 :: u30 :: u31 :: u32 :: u33 :: u34 :: u35 :: u36 :: u37 :: u38 :: u39 :: u40 :: u41 :: u42 :: u43 :: u44 :: u45 :: u46 :: u47 :: u48 :: u49 :: u50 :: u51 :: u52 :: u53 :: u54 :: u55 :: u56 :: u57 :: u58 :: v59 :: v60 :: v61 :: v62 :: v63 :: v64 :: v65 :: v66 :: v67 :: v68 :: v69 :: v70 :: v71 :: v72 :: v73 :: v74 :: v75 :: v76 :: v77 :: v78 :: v79 :: v80 :: v81 :: v82 :: v83 :: v84 :: v85 :: v86 :: v87 :: v88 :: v89 :: v90 :: v91 :: v92 :: v93 :: v94 :: v95 :: v96 :: v97 :: v98 :: v99 :: v100 :: v101 :: v102 :: v103 :: v104 :: v105 :: v106 :: v107 :: v108 :: v109 :: v110 :: v111 :: v112 :: v113 :: v114 :: v115 :: v116 :: v117 :: v118 :: v119 :: v120 :: v121 :: v122 :: v123 :: v124 :: v125 :: v126 :: v127 :: v128 :: v129 :: v130 :: v131 :: v132 :: v133 :: v134 :: v135 :: v136 :: v137 :: v138 :: u139 :: u140 :: u141 :: u142 :: u143 :: u144 :: u145 :: u146 :: u147 :: u148 :: u149 :: u150 :: u151 :: u152 :: u153 :: u154 :: u155 :: u156 :: u157 :: u158 :: u159 :: u160 :: u161 :: u162 :: u163 :: u164 :: u165 :: u166 :: u167 :: u168 :: u169 :: u170 :: u171 :: u172 :: u173 :: u174 :: u175 :: u176 :: u177 :: u178 :: u179 :: u180 :: u181 :: u182 :: u183 :: u184 :: u185 :: u186 :: u187 :: u188 :: u189 :: u190 :: u191 :: u192 :: []), []⟩ wx) :
    Code.wp Tryz.prog rfJ_code Q ⟨List.toArray ((.slice had n hcap) :: u1 :: u2 :: (.pointer (some ⟨fb, 0, none⟩)) :: u4 :: (.int .i64 (i : Int)) :: (.int .i64 (k : Int)) :: (.int .i64 ((k : Int) + 1)) :: u8 :: u9 :: u10 :: u11 :: u12 :: u13 :: u14 :: u15 :: u16 :: u17 :: u18 :: u19 :: u20 :: u21 :: u22 :: u23 :: u24 :: u25 :: u26 :: u27 :: u28 :: u29 :: u30 :: u31 :: u32 :: u33 :: u34 :: u35 :: u36 :: u37 :: u38 :: u39 :: u40 :: u41 :: u42 :: u43 :: u44 :: u45 :: u46 :: u47 :: u48 :: u49 :: u50 :: u51 :: u52 :: u53 :: u54 :: u55 :: u56 :: u57 :: u58 :: u59 :: u60 :: u61 :: u62 :: u63 :: u64 :: u65 :: u66 :: u67 :: u68 :: u69 :: u70 :: u71 :: u72 :: u73 :: u74 :: u75 :: u76 :: u77 :: u78 :: u79 :: u80 :: u81 :: u82 :: u83 :: u84 :: u85 :: u86 :: u87 :: u88 :: u89 :: u90 :: u91 :: u92 :: u93 :: u94 :: u95 :: u96 :: u97 :: u98 :: u99 :: u100 :: u101 :: u102 :: u103 :: u104 :: u105 :: u106 :: u107 :: u108 :: u109 :: u110 :: u111 :: u112 :: u113 :: u114 :: u115 :: u116 :: u117 :: u118 :: u119 :: u120 :: u121 :: u122 :: u123 :: u124 :: u125 :: u126 :: u127 :: u128 :: u129 :: u130 :: u131 :: u132 :: u133 :: u134 :: u135 :: u136 :: u137 :: u138 :: u139 :: u140 :: u141 :: u142 :: u143 :: u144 :: u145 :: u146 :: u147 :: u148 :: u149 :: u150 :: u151 :: u152 :: u153 :: u154 :: u155 :: u156 :: u157 :: u158 :: u159 :: u160 :: u161 :: u162 :: u163 :: u164 :: u165 :: u166 :: u167 :: u168 :: u169 :: u170 :: u171 :: u172 :: u173 :: u174 :: u175 :: u176 :: u177 :: u178 :: u179 :: u180 :: u181 :: u182 :: u183 :: u184 :: u185 :: u186 :: u187 :: u188 :: u189 :: u190 :: u191 :: u192 :: []), []⟩ w1 := by
  conv => arg 2; whnf
  have HK := Lib.hid hK
  clear hK
  go_wp2_with fail
  go_loopw [7] (fun jv wr => ∃ j : Nat, j ≤ n ∧ k < j ∧ jv = .int .i64 j ∧ Hid (Own w (FaO fb (f && (rowJ hs i k j || dw)) (c && rowJ hs i k j) t * R) wr)) (fun jv _ => n - (intOf jv).toNat)
  case atStart => exact ⟨k + 1, by omega, by omega, by go_num, Lib.hid (by rw [rowJ_low]; simp only [Bool.true_or, Bool.and_true]; exact HP.out)⟩
  case round =>
    clear HP
    obtain ⟨j, hj, hkj, rfl, HO⟩ := hrel
    by_cases hlt : j < n
    rotate_left
    · have hjn : j = n := by omega
      subst hjn
      go_wp2_with fail
      apply HK.out
      exact HO.out
    have hjl : j < hs.length := by rw [HLN.out]; omega
    have hkl : k < hs.length := by rw [HLN.out]; omega
    have hil : i < hs.length := by rw [HLN.out]; omega
    obtain ⟨aa, pb, po, ps, rfl, hea, hcs, _⟩ := HV.out.at HO.out.drop j hjl
    obtain ⟨aa', qb, qo, qs, e1, heb, hcs2, _⟩ := HV.out.at HO.out.drop k hkl
    obtain ⟨aa2, rb, ro, rs, e2, hec, hcs3, _⟩ := HV.out.at HO.out.drop i hil
    injection e1 with e1
    injection e2 with e2
    subst e1 e2
    have hst := rowJ_step hs i k j hkj
    obtain ⟨V, hVq⟩ : ∃ V, V = rowJ hs i k j := ⟨_, rfl⟩
    have ho := HO.out
    rw [← hVq] at ho hst
    have HO_ := Lib.hid ho
    clear ho
    obtain ⟨c0, c1, c2⟩ := hcs _ HO.out.drop
    obtain ⟨d0, d1, d2⟩ := hcs2 _ HO.out.drop
    obtain ⟨y, hy⟩ : ∃ y, y = evAt hs j := ⟨_, rfl⟩
    obtain ⟨z, hz⟩ : ∃ y, y = evAt hs k := ⟨_, rfl⟩
    obtain ⟨x, hx⟩ : ∃ y, y = evAt hs i := ⟨_, rfl⟩
    have hok : okJ hs i k j = (!(hearsB z.2.2 y) || hadB hs x.2.2 y.1 j) := by unfold okJ hadB; rw [hx, hy, hz]
    rw [← hy] at hcs c0 c1 c2
    rw [← hz] at hcs2 d0 d1 d2
    rw [← hx] at hcs3
    have hdw : dw = decide (x.1 ≠ z.1) := by rw [hx, hz]; exact HDW.out
    obtain ⟨x1, x2, x3⟩ := x
    obtain ⟨y1, y2, y3⟩ := y
    obtain ⟨z1, z2, z3⟩ := z
    simp only at c0 c1 c2 d0 d1 d2 hok hdw
    have hhb : hearsB z3 (y1, y2, y3) = (decide (y2 = 3) && decide (y3 = z3)) := rfl
    have i0 : (0 : Int) ≤ (i : Int) := by omega
    have i1 : (i : Int) < (n : Int) := by omega
    have j0 : (0 : Int) ≤ (j : Int) := by omega
    have j1 : (j : Int) < (n : Int) := by omega
    have k0 : (0 : Int) ≤ (k : Int) := by omega
    have k1 : (k : Int) < (n : Int) := by omega
    have HCS := Lib.hid hcs; have HCS2 := Lib.hid hcs2; have HCS3 := Lib.hid hcs3; have HST := Lib.hid hst; have HVQ := Lib.hid hVq; have HY := Lib.hid hy; have HZ := Lib.hid hz; have HX := Lib.hid hx; have HOK := Lib.hid hok; have HDW := Lib.hid hdw; have HHB := Lib.hid hhb
    clear hcs hcs2 hcs3 hst hVq hy hz hx hok hdw hhb
    go_wp2_with fail
    go_upto_region 13 with fail
    go_cut [83] from 65 to 83 (fun c9 wx => c9 = .bool (!hearsB z3 (y1, y2, y3)) ∧ ∃ q, wx = wr.drewN q)
    case first =>
      by_cases a1 : y2 = 3
      rotate_left
      · have t1 : (y2 != 3) = true := by rw [bne_iff_ne]; exact a1
        have hd : hearsB z3 (y1, y2, y3) = false := by rw [HHB.out]; simp [a1]
        have HD := Lib.hid hd; have A1 := Lib.hid a1
        clear hd a1
        go_wp2_with fail
        go_quiet (fail)
        go_wp2_with fail
        go_meet
        exact ⟨by rw [HD.out]; rfl, _, rfl⟩
      by_cases a2 : y3 = z3
      · have t2 : (y3 != z3) = false := by rw [bne_eq_false_iff_eq]; exact a2
        have hd : hearsB z3 (y1, y2, y3) = true := by rw [HHB.out]; simp [a1, a2]
        have t1 : (y2 != 3) = false := by rw [bne_eq_false_iff_eq]; exact a1
        have HD := Lib.hid hd; have A1 := Lib.hid a1; have A2 := Lib.hid a2
        clear hd a1 a2
        go_wp2_with fail
        go_quiet (fail)
        go_wp2_with fail
        go_meet
        exact ⟨by rw [HD.out]; rfl, _, rfl⟩
      · have t2 : (y3 != z3) = true := by rw [bne_iff_ne]; exact a2
        have hd : hearsB z3 (y1, y2, y3) = false := by rw [HHB.out]; simp [a2]
        have t1 : (y2 != 3) = false := by rw [bne_eq_false_iff_eq]; exact a1
        have HD := Lib.hid hd; have A1 := Lib.hid a1; have A2 := Lib.hid a2
        clear hd a1 a2
        go_wp2_with fail
        go_quiet (fail)
        go_wp2_with fail
        go_meet
        exact ⟨by rw [HD.out]; rfl, _, rfl⟩
    case rest =>
    obtain ⟨rfl, q, rfl⟩ := hcut
    have HO2 := Lib.hid (HO_.out.drewN q)
    clear HO HO_ c0 c1 c2 d0 d1 d2
    obtain ⟨S, hS⟩ : ∃ S, S = hearsB z3 (y1, y2, y3) := ⟨_, rfl⟩
    rw [← hS]
    have hok2 : okJ hs i k j = (!S || hadB hs x3 y1 j) := by rw [hS]; exact HOK.out
    have same : ∀ wq, Own w (FaO fb (f && (V || dw)) (c && V) t * R) wq → okJ hs i k j = true → Own w (FaO fb (f && (rowJ hs i k (j + 1) || dw)) (c && rowJ hs i k (j + 1)) t * R) wq := fun wq ho hk1 => by rw [HST.out, hk1, Bool.and_true]; exact ho
    have HS := Lib.hid hS
    clear hS
    cases S
    · have HO3 := Lib.hid (same _ HO2.out (by rw [hok2]; rfl))
      have HOK2 := Lib.hid hok2; have SAME := Lib.hid same
      clear hok2 same
      go_wp2_with fail
      go_roundw
      case rel => exact ⟨j + 1, by omega, by omega, by go_num, HO3⟩
      case measure => simp [intOf]; omega
    obtain ⟨T, hT⟩ : ∃ T, T = hadB hs x3 y1 j := ⟨_, rfl⟩
    have hok3 : okJ hs i k j = T := by rw [hok2, hT]; rfl
    have HTQ : Hid (hadB hs (evAt hs i).2.2 (evAt hs j).1 j = T) := Lib.hid (by rw [hT, ← HX.out, ← HY.out])
    clear hok2
    have HT := Lib.hid hT
    clear hT
    go_upto_block 6 with fail
    go_cut [8] from 9 to 9 (fun b wx => b = .bool T ∧ Own w (FaO fb (f && (V || dw)) (c && V) t * R) wx)
    case first =>
      refine rfHad w _ n i j hcap _ hs (by omega) hlt hn hc1 hc2 HLN (Lib.hid HV.out.more) HO2 ?_
      intros
      go_step
      go_step
      go_meet
      rw [← HTQ.out]
      assumption
    case rest =>
    obtain ⟨rfl, ho⟩ := hcut
    have HO3 := Lib.hid ho
    clear ho HO2
    cases T
    rotate_left
    · have HO4 := Lib.hid (same _ HO3.out hok3)
      have HOK3 := Lib.hid hok3; have SAME := Lib.hid same
      clear hok3 same
      go_wp2_with fail
      go_roundw
      case rel => exact ⟨j + 1, by omega, by omega, by go_num, HO4⟩
      case measure => simp [intOf]; omega
    have hr2 : rowJ hs i k (j + 1) = false := by rw [HST.out, hok3, Bool.and_false]
    obtain ⟨g0, g1, g2, g3⟩ := HO3.out.fa
    have HO4 := Lib.hid (HO3.out.fa1 false)
    obtain ⟨d0, d1, d2⟩ := HCS2.out _ HO4.out.drop
    obtain ⟨f0, f1, f2⟩ := HCS3.out _ HO4.out.drop
    obtain ⟨k0', k1', k2', k3'⟩ := HO4.out.fa
    obtain ⟨w9, hw9⟩ : ∃ x, x = wc.setCell ⟨fb, 1, none⟩ (.bool false) := ⟨_, rfl⟩
    rw [← hw9] at HO4 d0 d1 d2 f0 f1 f2 k0' k1' k2' k3'
    have HOK3 := Lib.hid hok3; have SAME := Lib.hid same; have HR2 := Lib.hid hr2
    clear hok3 same hr2
    try simp only at d0 d1 d2 f0 f1 f2
    go_upto_region 21 with fail
    rw [← hw9]
    clear hw9 g0 g1 g2 g3
    go_cut [137] from 127 to 137 (fun c9 wx => c9 = .bool (!dw) ∧ ∃ q, wx = w9.drewN q)
    case first =>
      by_cases a1 : x1 = z1
      · have hd : dw = false := by rw [HDW.out]; simp [a1]
        subst a1
        have HD := Lib.hid hd
        clear hd
        go_wp2_with fail
        go_quiet (fail)
        go_wp2_with fail
        go_meet
        exact ⟨by rw [HD.out]; rfl, _, rfl⟩
      · have t1 : (x1 == z1) = false := by rw [beq_eq_false_iff_ne]; exact a1
        have hd : dw = true := by rw [HDW.out]; simp [a1]
        have HD := Lib.hid hd; have A1 := Lib.hid a1
        clear hd a1
        go_wp2_with fail
        go_quiet (fail)
        go_wp2_with fail
        go_meet
        exact ⟨by rw [HD.out]; rfl, _, rfl⟩
    case rest =>
    obtain ⟨rfl, q9, rfl⟩ := hcut
    have HO5 := Lib.hid (HO4.out.drewN q9)
    clear d0 d1 d2 f0 f1 f2 k0' k1' k2' k3' HO4
    obtain ⟨k0', k1', k2', k3'⟩ := HO5.out.fa
    cases dw
    · have HO6 : Hid (Own w (FaO fb (f && (rowJ hs i k (j + 1) || false)) (c && rowJ hs i k (j + 1)) t * R) ((w9.drewN q9).setCell ⟨fb, 0, none⟩ (.bool false))) := Lib.hid (by
        rw [HR2.out, Bool.false_or, Bool.and_false, Bool.and_false]; exact HO5.out.fa0 false)
      go_wp2_with fail
      go_roundw
      case rel => exact ⟨j + 1, by omega, by omega, by go_num, HO6⟩
      case measure => simp [intOf]; omega
    · have HO6 : Hid (Own w (FaO fb (f && (rowJ hs i k (j + 1) || true)) (c && rowJ hs i k (j + 1)) t * R) (w9.drewN q9)) := Lib.hid (by
        rw [HR2.out, Bool.or_true, Bool.and_true, Bool.and_false]
        have := HO5.out
        rw [Bool.or_true, Bool.and_true] at this
        exact this)
      go_wp2_with fail
      go_roundw
      case rel => exact ⟨j + 1, by omega, by omega, by go_num, HO6⟩
      case measure => simp [intOf]; omega
end Go.Proofs.YtdfjbnfdknpahaaGreatDoor
/- The reference's Faces, continued: all pairs. -/
namespace Go.Proofs.YtdfjbnfdknpahaaGreatDoor
set_option linter.unusedVariables false
set_option linter.unusedSimpArgs false
open Go.RowKit
def cRow (h : List Ev) (i k : Nat) : Bool := upTo (fun k => decide (k ≤ i) || skipB h k i) k
def fRow (h : List Ev) (i k : Nat) : Bool := upTo (fun k => decide (k ≤ i) || fifoOk h k i) k
theorem cRow_low (h : List Ev) (i : Nat) : cRow h i (i + 1) = true := (upTo_iff _ _).2 fun j hj => by rw [decide_eq_true (by omega)]; rfl
theorem fRow_low (h : List Ev) (i : Nat) : fRow h i (i + 1) = true := (upTo_iff _ _).2 fun j hj => by rw [decide_eq_true (by omega)]; rfl
theorem cRow_step (h : List Ev) {i k : Nat} (hk : i < k) : cRow h i (k + 1) = (cRow h i k && skipB h k i) := by
  unfold cRow; rw [upTo_step, decide_eq_false (show ¬ k ≤ i by omega), Bool.false_or]
theorem fRow_step (h : List Ev) {i k : Nat} (hk : i < k) : fRow h i (k + 1) = (fRow h i k && fifoOk h k i) := by
  unfold fRow; rw [upTo_step, decide_eq_false (show ¬ k ≤ i by omega), Bool.false_or]
noncomputable def rfRow_code : Code := ((Tryz.f30.body.bind (findBlock 2)).getD .skip)
set_option maxRecDepth 1000000 in
set_option maxHeartbeats 4000000 in
theorem rfRow {Q : Exit → Act → World → Prop} {u1 u2 u7 u8 u9 u10 u11 u12 u13 u14 u15 u16 u17 u18 u19 u20 u21 u22 u23 u24 u25 u26 u27 u28 u29 u30 u31 u32 u33 u34 u35 u36 u37 u38 u39 u40 u41 u42 u43 u44 u45 u46 u47 u48 u49 u50 u51 u52 u53 u54 u55 u56 u57 u58 u59 u60 u61 u62 u63 u64 u65 u66 u67 u68 u69 u70 u71 u72 u73 u74 u75 u76 u77 u78 u79 u80 u81 u82 u83 u84 u85 u86 u87 u88 u89 u90 u91 u92 u93 u94 u95 u96 u97 u98 u99 u100 u101 u102 u103 u104 u105 u106 u107 u108 u109 u110 u111 u112 u113 u114 u115 u116 u117 u118 u119 u120 u121 u122 u123 u124 u125 u126 u127 u128 u129 u130 u131 u132 u133 u134 u135 u136 u137 u138 u139 u140 u141 u142 u143 u144 u145 u146 u147 u148 u149 u150 u151 u152 u153 u154 u155 u156 u157 u158 u159 u160 u161 u162 u163 u164 u165 u166 u167 u168 u169 u170 u171 u172 u173 u174 u175 u176 u177 u178 u179 u180 u181 u182 u183 u184 u185 u186 u187 u188 u189 u190 u191 u192 : Value} {w1 : World} (w : World) (R : HProp) (fb bb n i hcap : Nat) (had : Option Addr) (hs : List Ev) (f c t : Bool) (hi : i < n) (hn : n ≤ 60) (hc1 : n ≤ hcap) (hc2 : hcap ≤ 9223372036854775807) (HLN : Hid (hs.length = n)) (HR : Hid (RightH hs)) (HV : Hid (ReadsE w R (.slice had n hcap) hs)) (HP : Hid (Own w (FaO fb f c t * (T60 bb (fun i k => bef hs k i) * R)) w1))
    (hK : ∀ (v6 v7 v8 v9 v29 v30 v31 v32 v33 v34 v35 v36 v37 v38 v39 v40 v41 v42 v43 v44 v45 v46 v47 v48 v49 v50 v51 v52 v53 v54 v55 v56 v57 v58 v59 v60 v61 v62 v63 v64 v65 v66 v67 v68 v69 v70 v71 v72 v73 v74 v75 v76 v77 v78 v79 v80 v81 v82 v83 v84 v85 v86 v87 v88 v89 v90 v91 v92 v93 v94 v95 v96 v97 v98 v99 v100 v101 v102 v103 v104 v105 v106 v107 v108 v109 v110 v111 v112 v113 v114 v115 v116 v117 v118 v119 v120 v121 v122 v123 v124 v125 v126 v127 v128 v129 v130 v131 v132 v133 v134 v135 v136 v137 v138 : Value) (wx : World), (Own w (FaO fb (f && fRow hs i n) (c && cRow hs i n) t * (T60 bb (fun i k => bef hs k i) * R)) wx) → Q .normal ⟨List.toArray ((.slice had n hcap) :: u1 :: u2 :: (.pointer (some ⟨fb, 0, none⟩)) :: (.pointer (some ⟨bb, 0, none⟩)) :: (.int .i64 (i : Int)) :: v6 :: v7 :: v8 :: v9 :: u10 :: u11 :: u12 :: u13 :: u14 :: u15 :: u16 :: u17 :: u18 :: u19 :: u20 :: u21 :: u22 :: u23 :: u24 :: u25 :: u26 :: u27 :: u28 :: v29 :: v30 :: v31 :: v32 :: v33 :: v34 :: v35 :: v36 :: v37 :: v38 :: v39 :: v40 :: v41 :: v42 :: v43 :: v44 :: v45 :: v46 :: v47 :: v48 :: v49 :: v50 :: v51 :: v52 :: v53 :: v54 :: v55 :: v56 :: v57 :: v58 :: v59 :: v60 :: v61 :: v62 :: v63 :: v64 :: v65 :: v66 :: v67 :: v68 :: v69 :: v70 :: v71 :: v72 :: v73 :: v74 :: v75 :: v76 :: v77 :: v78 :: v79 :: v80 :: v81 :: v82 :: v83 :: v84 :: v85 :: v86 :: v87 :: v88 :: v89 :: v90 :: v91 :: v92 :: v93 :: v94 :: v95 :: v96 :: v97 :: v98 :: v99 :: v100 :: v101 :: v102 :: v103 :: v104 :: v105 :: v106 :: v107 :: v108 :: v109 :: v110 :: v111 :: v112 :: v113 :: v114 :: v115 :: v116 :: v117 :: v118 :: v119 :: v120 :: v121 :: v122 :: v123 :: v124 :: v125 :: v126 :: v127 :: v128 :: v129 :: v130 :: v131 :: v132 :: v133 :: v134 :: v135 :: v136 :: v137 :: v138 :: u139 :: u140 :: u141 :: u142 :: u143 :: u144 :: u145 :: u146 :: u147 :: u148 :: u149 :: u150 :: u151 :: u152 :: u153 :: u154 :: u155 :: u156 :: u157 :: u158 :: u159 :: u160 :: u161 :: u162 :: u163 :: u164 :: u165 :: u166 :: u167 :: u168 :: u169 :: u170 :: u171 :: u172 :: u173 :: u174 :: u175 :: u176 :: u177 :: u178 :: u179 :: u180 :: u181 :: u182 :: u183 :: u184 :: u185 :: u186 :: u187 :: u188 :: u189 :: u190 :: u191 :: u192 :: []), []⟩ wx) :
    Code.wp Tryz.prog rfRow_code Q ⟨List.toArray ((.slice had n hcap) :: u1 :: u2 :: (.pointer (some ⟨fb, 0, none⟩)) :: (.pointer (some ⟨bb, 0, none⟩)) :: (.int .i64 (i : Int)) :: (.int .i64 ((i : Int) + 1)) :: u7 :: u8 :: u9 :: u10 :: u11 :: u12 :: u13 :: u14 :: u15 :: u16 :: u17 :: u18 :: u19 :: u20 :: u21 :: u22 :: u23 :: u24 :: u25 :: u26 :: u27 :: u28 :: u29 :: u30 :: u31 :: u32 :: u33 :: u34 :: u35 :: u36 :: u37 :: u38 :: u39 :: u40 :: u41 :: u42 :: u43 :: u44 :: u45 :: u46 :: u47 :: u48 :: u49 :: u50 :: u51 :: u52 :: u53 :: u54 :: u55 :: u56 :: u57 :: u58 :: u59 :: u60 :: u61 :: u62 :: u63 :: u64 :: u65 :: u66 :: u67 :: u68 :: u69 :: u70 :: u71 :: u72 :: u73 :: u74 :: u75 :: u76 :: u77 :: u78 :: u79 :: u80 :: u81 :: u82 :: u83 :: u84 :: u85 :: u86 :: u87 :: u88 :: u89 :: u90 :: u91 :: u92 :: u93 :: u94 :: u95 :: u96 :: u97 :: u98 :: u99 :: u100 :: u101 :: u102 :: u103 :: u104 :: u105 :: u106 :: u107 :: u108 :: u109 :: u110 :: u111 :: u112 :: u113 :: u114 :: u115 :: u116 :: u117 :: u118 :: u119 :: u120 :: u121 :: u122 :: u123 :: u124 :: u125 :: u126 :: u127 :: u128 :: u129 :: u130 :: u131 :: u132 :: u133 :: u134 :: u135 :: u136 :: u137 :: u138 :: u139 :: u140 :: u141 :: u142 :: u143 :: u144 :: u145 :: u146 :: u147 :: u148 :: u149 :: u150 :: u151 :: u152 :: u153 :: u154 :: u155 :: u156 :: u157 :: u158 :: u159 :: u160 :: u161 :: u162 :: u163 :: u164 :: u165 :: u166 :: u167 :: u168 :: u169 :: u170 :: u171 :: u172 :: u173 :: u174 :: u175 :: u176 :: u177 :: u178 :: u179 :: u180 :: u181 :: u182 :: u183 :: u184 :: u185 :: u186 :: u187 :: u188 :: u189 :: u190 :: u191 :: u192 :: []), []⟩ w1 := by
  conv => arg 2; whnf
  have HK := Lib.hid hK
  clear hK
  go_wp2_with fail
  go_loopw [6] (fun kv wr => ∃ k : Nat, k ≤ n ∧ i < k ∧ kv = .int .i64 k ∧ Hid (Own w (FaO fb (f && fRow hs i k) (c && cRow hs i k) t * (T60 bb (fun i k => bef hs k i) * R)) wr)) (fun kv _ => n - (intOf kv).toNat)
  case atStart => exact ⟨i + 1, by omega, by omega, by go_num, Lib.hid (by rw [fRow_low, cRow_low, Bool.and_true, Bool.and_true]; exact HP.out)⟩
  case round =>
    clear HP
    obtain ⟨k, hk, hik, rfl, HO⟩ := hrel
    by_cases hlt : k < n
    rotate_left
    · have hkn : k = n := by omega
      subst hkn
      go_wp2_with fail
      apply HK.out
      exact HO.out
    have hkl : k < hs.length := by rw [HLN.out]; omega
    have hil : i < hs.length := by rw [HLN.out]; omega
    obtain ⟨aa, qb, qo, qs, rfl, heb, hcs2, _⟩ := HV.out.at HO.out.drop.drop k hkl
    obtain ⟨aa2, rb, ro, rs, e2, hec, hcs3, _⟩ := HV.out.at HO.out.drop.drop i hil
    injection e2 with e2
    subst e2
    have hct := cRow_step hs hik
    have hft := fRow_step hs hik
    have hfo : fifoOk hs k i = (skipB hs k i || decide ((evAt hs i).1 ≠ (evAt hs k).1)) := rfl
    have hsk : skipB hs k i = (decide ((evAt hs i).2.1 ≠ 2) || (decide ((evAt hs k).2.1 ≠ 2) || (!bef hs k i || aheadB hs (evAt hs i).2.2 (evAt hs k).2.2))) := rfl
    have hra := fun h1 h2 => rowJ_all HR.out hkl hik h1 h2
    obtain ⟨F, hF⟩ : ∃ F, F = (f && fRow hs i k) := ⟨_, rfl⟩
    obtain ⟨C, hC⟩ : ∃ C, C = (c && cRow hs i k) := ⟨_, rfl⟩
    have hF2 : (f && fRow hs i (k + 1)) = (F && fifoOk hs k i) := by rw [hft, hF, Bool.and_assoc]
    have hC2 : (c && cRow hs i (k + 1)) = (C && skipB hs k i) := by rw [hct, hC, Bool.and_assoc]
    have ho := HO.out
    rw [← hF, ← hC] at ho
    have HO_ := Lib.hid ho
    clear ho
    obtain ⟨d0, d1, d2⟩ := hcs2 _ HO.out.drop.drop
    obtain ⟨f0, f1, f2⟩ := hcs3 _ HO.out.drop.drop
    have b0 := HO.out.drop.t60 (i := i) (k := k) (by omega) (by omega)
    try simp only at b0
    obtain ⟨B, hB⟩ : ∃ B, B = bef hs k i := ⟨_, rfl⟩
    rw [← hB] at b0 hsk
    obtain ⟨x2, hx2⟩ : ∃ x, x = (evAt hs i).2.1 := ⟨_, rfl⟩
    obtain ⟨z2, hz2⟩ : ∃ x, x = (evAt hs k).2.1 := ⟨_, rfl⟩
    rw [← hx2] at f1 hsk hra
    rw [← hz2] at d1 hsk hra
    have i0 : (0 : Int) ≤ (i : Int) := by omega
    have i1 : (i : Int) < (n : Int) := by omega
    have k0 : (0 : Int) ≤ (k : Int) := by omega
    have k1 : (k : Int) < (n : Int) := by omega
    have i6 : (i : Int) < 60 := by omega
    have k6 : (k : Int) < 60 := by omega
    obtain ⟨X, hX⟩ : ∃ X, X = (decide (x2 ≠ 2) || (decide (z2 ≠ 2) || !B)) := ⟨_, rfl⟩
    have hsX : X = true → skipB hs k i = true := fun h => by
      rw [hsk]
      rw [hX] at h
      simp only [Bool.or_eq_true] at h ⊢
      rcases h with h | h | h
      · exact .inl h
      · exact .inr (.inl h)
      · exact .inr (.inr (.inl h))
    have hsN : X = false → x2 = 2 ∧ z2 = 2 ∧ B = true := fun h => by
      rw [hX] at h
      simp only [Bool.or_eq_false_iff, decide_eq_false_iff_not, Decidable.not_not, Bool.not_eq_false'] at h
      exact ⟨h.1, h.2.1, h.2.2⟩
    have HCS2 := Lib.hid hcs2; have HCS3 := Lib.hid hcs3; have HCT := Lib.hid hct; have HFT := Lib.hid hft; have HFO := Lib.hid hfo; have HSK := Lib.hid hsk; have HRA := Lib.hid hra; have HF := Lib.hid hF; have HC := Lib.hid hC; have HF2 := Lib.hid hF2; have HC2 := Lib.hid hC2; have HB := Lib.hid hB; have HX2 := Lib.hid hx2; have HZ2 := Lib.hid hz2; have HX := Lib.hid hX; have HSX := Lib.hid hsX; have HSN := Lib.hid hsN
    clear hcs2 hcs3 hct hft hfo hsk hra hF hC hF2 hC2 hB hx2 hz2 hX hsX hsN
    go_upto_region 9 with fail
    go_cut [56] from 35 to 56 (fun c9 wx => c9 = .bool X ∧ wx = wr)
    case first =>
      by_cases a1 : x2 = 2
      rotate_left
      · have t1 : (x2 != 2) = true := by rw [bne_iff_ne]; exact a1
        have hd : X = true := by rw [HX.out]; simp [a1]
        have HD := Lib.hid hd; have A1 := Lib.hid a1
        clear hd a1
        go_wp2_with fail
        go_meet
        exact ⟨by rw [HD.out], rfl⟩
      have t1 : (x2 != 2) = false := by rw [bne_eq_false_iff_eq]; exact a1
      by_cases a2 : z2 = 2
      rotate_left
      · have t2 : (z2 != 2) = true := by rw [bne_iff_ne]; exact a2
        have hd : X = true := by rw [HX.out]; simp [a2]
        have HD := Lib.hid hd; have A1 := Lib.hid a1; have A2 := Lib.hid a2
        clear hd a1 a2
        go_wp2_with fail
        go_meet
        exact ⟨by rw [HD.out], rfl⟩
      have t2 : (z2 != 2) = false := by rw [bne_eq_false_iff_eq]; exact a2
      cases B
      · have hd : X = true := by rw [HX.out]; simp
        have HD := Lib.hid hd; have A1 := Lib.hid a1; have A2 := Lib.hid a2
        clear hd a1 a2
        go_wp2_with fail
        go_meet
        exact ⟨by rw [HD.out], rfl⟩
      · have hd : X = false := by rw [HX.out]; simp [a1, a2]
        have HD := Lib.hid hd; have A1 := Lib.hid a1; have A2 := Lib.hid a2
        clear hd a1 a2
        go_wp2_with fail
        go_meet
        exact ⟨by rw [HD.out], rfl⟩
    case rest =>
    obtain ⟨rfl, rfl⟩ := hcut
    clear b0 d0 d1 d2 f0 f1 f2
    cases X
    rotate_left
    · have hs1 := HSX.out rfl
      have HO3 : Hid (Own w (FaO fb (f && fRow hs i (k + 1)) (c && cRow hs i (k + 1)) t * (T60 bb (fun i k => bef hs k i) * R)) wc) := Lib.hid (by
        rw [HF2.out, HC2.out, HFO.out, hs1, Bool.true_or, Bool.and_true, Bool.and_true]; exact HO_.out)
      have HS1 := Lib.hid hs1
      clear hs1
      go_wp2_with fail
      go_roundw
      case rel => exact ⟨k + 1, by omega, by omega, by go_num, HO3⟩
      case measure => simp [intOf]; omega
    obtain ⟨g1, g2, g3⟩ := HSN.out rfl
    have hr1 := HRA.out g1 g2
    have hs1 : skipB hs k i = rowJ hs i k hs.length := by rw [HSK.out, g1, g2, g3, hr1]; simp
    rw [HLN.out] at hs1
    have G1 := Lib.hid g1; have G2 := Lib.hid g2; have G3 := Lib.hid g3; have HR1 := Lib.hid hr1; have HS1 := Lib.hid hs1
    clear g1 g2 g3 hr1 hs1
    go_upto_block 4 with fail
    refine rfJ w (T60 bb (fun i k => bef hs k i) * R) fb n i k hcap _ hs F C t (decide ((evAt hs i).1 ≠ (evAt hs k).1)) hik hlt hn hc1 hc2 HLN (Lib.hid rfl) (Lib.hid HV.out.more) HO_ ?_
    intros
    rename_i wq hcut
    have HO3 : Hid (Own w (FaO fb (f && fRow hs i (k + 1)) (c && cRow hs i (k + 1)) t * (T60 bb (fun i k => bef hs k i) * R)) wq) := Lib.hid (by
      rw [HF2.out, HC2.out, HFO.out, HS1.out]; exact hcut)
    clear hcut HO HO_
    go_wp2_with fail
    go_roundw
    case rel => exact ⟨k + 1, by omega, by omega, by go_num, HO3⟩
    case measure => simp [intOf]; omega
end Go.Proofs.YtdfjbnfdknpahaaGreatDoor
