/- ViewTells: the chain, as the reference goes along it. -/
import Derived.Test.YtdeeephdojflpaaDoorRefView
import Derived.Test.YtdeeephdojflpaaDoorTold
import Derived.Test.YtdeeephdojflpaaDoorPiece
import Derived.Test.YtdeeephdojflpaaDoorArgs3
import Derived.Deep.DeepCutAuto
import Derived.Deep.CutBlock
namespace Go.Proofs.YtdeeephdojflpaaDoor
set_option linter.unusedVariables false
set_option linter.unusedSimpArgs false
open Go.RowKit
/-- How far the reference has come along a chain. -/
def vtAt (L : List Vw) (i f at_ : Nat) : Prop := (f = 0 ∧ at_ = 0 ∧ chainGo (chainPrev L i) i (L.drop i) = chainR L ∧ (∀ x, chainPrev L i = some x → viewErr x.1 x.2.2 = 0)) ∨ (f ≠ 0 ∧ chainR L = (at_, f))
theorem prev_next {L : List Vw} {i : Nat} (hi : i < L.length) : chainPrev L (i + 1) = some L[i] := by
  unfold chainPrev; rw [if_neg (by omega), Nat.add_sub_cancel, List.getElem?_eq_getElem hi]
theorem vtAt_fin {L : List Vw} {f a : Nat} (h : vtAt L L.length f a) : chainR L = (a, f) := by
  rcases h with ⟨rfl, rfl, h, _⟩ | ⟨_, h⟩
  · rw [← h, List.drop_of_length_le (Nat.le_refl _)]; unfold chainGo; rfl
  · exact h
noncomputable def vtChain_code : Code := ((Tryd.f9.body.bind (findBlock 0)).getD .skip)
set_option maxRecDepth 1000000 in
set_option maxHeartbeats 4000000 in
theorem vtChain {Q : Exit → Act → World → Prop} {u0 u1 u3 u4 u5 u6 u7 u8 u9 u10 u12 u13 u14 u15 u18 u19 u20 u21 u22 u23 u24 u25 u26 u27 u28 u29 u30 u31 u32 u33 u34 u35 u36 u37 u38 u39 u40 u41 u42 u43 u44 u45 u46 u47 u48 u49 u50 u51 u52 u53 u54 u55 u56 u57 u58 u59 u60 u61 u62 u63 u64 u65 u66 u67 u68 u69 u70 u71 u72 u73 u74 u75 u76 u77 u78 u79 u80 u81 u82 u83 u84 u85 u86 u87 u88 u89 u90 u91 u92 u93 u94 u95 u96 u97 u98 u99 u100 u101 u102 u103 u104 u105 u106 u107 u108 u109 u110 u111 u112 u113 u114 u115 u116 u117 u118 u119 u120 u121 u122 u123 u124 u125 u126 u127 u128 u129 u130 u131 u132 u133 u134 u135 u136 u137 u138 u139 u140 u141 u142 u143 u144 u145 u146 u147 u148 u149 u150 u151 u152 u153 u154 u155 u156 u157 u158 u159 u160 u161 u162 u163 u164 u165 u166 u167 u168 u169 u170 u171 u172 u173 u174 u175 : Value} {w1 : World} (w : World) (R : HProp) (cap f0 : Nat) (lad : Option Addr) (L : List Vw) (hc1 : L.length ≤ cap) (hc2 : cap ≤ 9223372036854775807) (HL : Hid (ReadsV w R (.slice lad L.length cap) L)) (HI : Hid (∀ x ∈ L, I64 x.1)) (HF : Hid (vtAt L 0 f0 0)) (HP : Hid (Own w R w1))
    (hK : ∀ (v11 v16 v17 v59 v60 v61 v62 v63 v64 v65 v66 v67 v68 v69 v70 v71 v72 v73 v74 v75 v76 v77 v78 v79 v80 v81 v82 v83 v84 v85 v86 v87 v88 v89 v90 v91 v92 v93 v94 v95 v96 v97 v98 v99 v100 v101 v102 v103 v104 v105 v106 v107 v108 v109 v110 v111 v112 v113 v114 v115 v116 v117 v118 v119 v120 v121 v122 v123 v124 v125 v126 v127 : Value) (wx : World), (v11 = .int .i64 ((chainR L).2 : Nat) ∧ v16 = .int .i64 ((chainR L).1 : Nat) ∧ Own w R wx) → Q .normal ⟨List.toArray (u0 :: u1 :: (.slice lad L.length cap) :: u3 :: u4 :: u5 :: u6 :: u7 :: u8 :: u9 :: u10 :: v11 :: u12 :: u13 :: u14 :: u15 :: v16 :: v17 :: u18 :: u19 :: u20 :: u21 :: u22 :: u23 :: u24 :: u25 :: u26 :: u27 :: u28 :: u29 :: u30 :: u31 :: u32 :: u33 :: u34 :: u35 :: u36 :: u37 :: u38 :: u39 :: u40 :: u41 :: u42 :: u43 :: u44 :: u45 :: u46 :: u47 :: u48 :: u49 :: u50 :: u51 :: u52 :: u53 :: u54 :: u55 :: u56 :: u57 :: u58 :: v59 :: v60 :: v61 :: v62 :: v63 :: v64 :: v65 :: v66 :: v67 :: v68 :: v69 :: v70 :: v71 :: v72 :: v73 :: v74 :: v75 :: v76 :: v77 :: v78 :: v79 :: v80 :: v81 :: v82 :: v83 :: v84 :: v85 :: v86 :: v87 :: v88 :: v89 :: v90 :: v91 :: v92 :: v93 :: v94 :: v95 :: v96 :: v97 :: v98 :: v99 :: v100 :: v101 :: v102 :: v103 :: v104 :: v105 :: v106 :: v107 :: v108 :: v109 :: v110 :: v111 :: v112 :: v113 :: v114 :: v115 :: v116 :: v117 :: v118 :: v119 :: v120 :: v121 :: v122 :: v123 :: v124 :: v125 :: v126 :: v127 :: u128 :: u129 :: u130 :: u131 :: u132 :: u133 :: u134 :: u135 :: u136 :: u137 :: u138 :: u139 :: u140 :: u141 :: u142 :: u143 :: u144 :: u145 :: u146 :: u147 :: u148 :: u149 :: u150 :: u151 :: u152 :: u153 :: u154 :: u155 :: u156 :: u157 :: u158 :: u159 :: u160 :: u161 :: u162 :: u163 :: u164 :: u165 :: u166 :: u167 :: u168 :: u169 :: u170 :: u171 :: u172 :: u173 :: u174 :: u175 :: []), []⟩ wx) :
    Code.wp Tryd.prog vtChain_code Q ⟨List.toArray (u0 :: u1 :: (.slice lad L.length cap) :: u3 :: u4 :: u5 :: u6 :: u7 :: u8 :: u9 :: u10 :: (.int .i64 (f0 : Int)) :: u12 :: u13 :: u14 :: u15 :: (.int .i64 0) :: (.int .i64 0) :: u18 :: u19 :: u20 :: u21 :: u22 :: u23 :: u24 :: u25 :: u26 :: u27 :: u28 :: u29 :: u30 :: u31 :: u32 :: u33 :: u34 :: u35 :: u36 :: u37 :: u38 :: u39 :: u40 :: u41 :: u42 :: u43 :: u44 :: u45 :: u46 :: u47 :: u48 :: u49 :: u50 :: u51 :: u52 :: u53 :: u54 :: u55 :: u56 :: u57 :: u58 :: u59 :: u60 :: u61 :: u62 :: u63 :: u64 :: u65 :: u66 :: u67 :: u68 :: u69 :: u70 :: u71 :: u72 :: u73 :: u74 :: u75 :: u76 :: u77 :: u78 :: u79 :: u80 :: u81 :: u82 :: u83 :: u84 :: u85 :: u86 :: u87 :: u88 :: u89 :: u90 :: u91 :: u92 :: u93 :: u94 :: u95 :: u96 :: u97 :: u98 :: u99 :: u100 :: u101 :: u102 :: u103 :: u104 :: u105 :: u106 :: u107 :: u108 :: u109 :: u110 :: u111 :: u112 :: u113 :: u114 :: u115 :: u116 :: u117 :: u118 :: u119 :: u120 :: u121 :: u122 :: u123 :: u124 :: u125 :: u126 :: u127 :: u128 :: u129 :: u130 :: u131 :: u132 :: u133 :: u134 :: u135 :: u136 :: u137 :: u138 :: u139 :: u140 :: u141 :: u142 :: u143 :: u144 :: u145 :: u146 :: u147 :: u148 :: u149 :: u150 :: u151 :: u152 :: u153 :: u154 :: u155 :: u156 :: u157 :: u158 :: u159 :: u160 :: u161 :: u162 :: u163 :: u164 :: u165 :: u166 :: u167 :: u168 :: u169 :: u170 :: u171 :: u172 :: u173 :: u174 :: u175 :: []), []⟩ w1 := by
  conv => arg 2; whnf
  have HK := Lib.hid hK
  clear hK
  go_wp2_with fail
  go_loopw [17, 11, 16] (fun iv fv av wr => ∃ i f a : Nat, i ≤ L.length ∧ iv = .int .i64 i ∧ fv = .int .i64 f ∧ av = .int .i64 a ∧ Hid (vtAt L i f a) ∧ Hid (Own w R wr)) (fun iv _ _ _ => L.length - (intOf iv).toNat)
  case atStart => exact ⟨0, f0, 0, Nat.zero_le _, rfl, rfl, rfl, HF, HP⟩
  case round =>
    clear HP HF
    obtain ⟨i, f, a, hi, rfl, rfl, rfl, HT, HO⟩ := hrel
    by_cases hlt : i < L.length
    rotate_left
    · have hil : i = L.length := by omega
      have hfin := vtAt_fin (hil ▸ HT.out)
      have HFIN := Lib.hid hfin
      clear hfin
      go_wp2_with fail
      apply HK.out
      exact ⟨by rw [HFIN.out], by rw [HFIN.out], HO.out⟩
    by_cases hf0 : f = 0
    rotate_left
    · have hfin : chainR L = (a, f) := by
        rcases HT.out with ⟨h, _⟩ | ⟨_, h⟩
        · exact absurd h hf0
        · exact h
      have tf : ((f : Int) == 0) = false := by rw [beq_eq_false_iff_ne]; omega
      have HFIN := Lib.hid hfin; have HF0 := Lib.hid hf0
      clear hfin hf0
      go_wp2_with fail
      apply HK.out
      exact ⟨by rw [HFIN.out], by rw [HFIN.out], HO.out⟩
    subst hf0
    obtain ⟨rfl, hp, hpv⟩ : a = 0 ∧ chainGo (chainPrev L i) i (L.drop i) = chainR L ∧ ∀ x, chainPrev L i = some x → viewErr x.1 x.2.2 = 0 := by
      rcases HT.out with ⟨_, h1, h2, h3⟩ | ⟨h, _⟩
      · exact ⟨h1, h2, h3⟩
      · exact absurd rfl h
    obtain ⟨la, eb, eo, es, rfl, hea, hc, hRk⟩ := HL.out.at2 HO.out i hlt
    obtain ⟨x, hx⟩ : ∃ x, x = L[i] := ⟨_, rfl⟩
    have hd : L.drop i = L[i] :: L.drop (i + 1) := List.drop_eq_getElem_cons hlt
    have hpn := prev_next hlt
    rw [← hx] at hc hRk hd hpn
    have hI := HI.out x (by rw [hx]; exact List.getElem_mem _)
    rw [hd] at hp
    obtain ⟨n, va, A⟩ := x
    obtain ⟨ca, cb⟩ := hc _ HO.out
    simp only at ca cb hRk hI
    obtain ⟨sd, scap, hva, hac3, hac4⟩ := (hRk _ HO.out).shape
    subst hva
    obtain ⟨E, hE⟩ : ∃ E, E = viewErr n A := ⟨_, rfl⟩
    have i0 : (0 : Int) ≤ (i : Int) := by omega
    have i1 : (i : Int) < (L.length : Int) := by omega
    have HRK := Lib.hid hRk
    have HC := Lib.hid hc
    have HPV := Lib.hid hpv
    clear hc hRk hpv
    by_cases hez : E = 0
    rotate_left
    · have hfin : chainR L = (i, E) := by rw [← hp, chainGo_bad _ _ _ _ (by rw [← hE]; exact hez), hE]
      have te : ((E : Int) == 0) = false := by rw [beq_eq_false_iff_ne]; omega
      have te2 : ((E : Int) != 0) = true := by rw [bne_iff_ne]; omega
      have HN2 : Hid (vtAt L (i + 1) E i) := Lib.hid (.inr ⟨hez, hfin⟩)
      have HE := Lib.hid hE; have HEZ := Lib.hid hez; have HFIN := Lib.hid hfin; have HX := Lib.hid hx; have HD := Lib.hid hd; have HPN := Lib.hid hpn; have HP := Lib.hid hp; have HI := Lib.hid hI
      clear hE hez hfin hx hd hpn hp hI
      go_wp2_with fail
      refine (refView_any n _ A HO.out HRK.out).mono ?_
      rintro e w2 ⟨rfl, ho⟩
      rw [← HE.out]
      have HO2 := Lib.hid ho
      clear ho ca cb
      go_wp2_with fail
      go_quiet (fail)
      go_wp2_with fail
      go_quiet (fail)
      go_wp2_with fail
      go_roundw
      case rel => exact ⟨i + 1, E, i, by omega, by go_num, rfl, rfl, HN2, Lib.hid (HO2.out.drewN _)⟩
      case measure => simp [intOf]; omega
    subst hez
    by_cases hi0 : i = 0
    · have hp0 : chainPrev L i = none := by unfold chainPrev; rw [if_pos hi0]
      have hnx : chainGo (some (n, .slice sd A.length scap, A)) (i + 1) (L.drop (i + 1)) = chainR L := by
        rw [← hp, hp0, chainGo_none, if_neg (by rw [← hE]; simp)]
      have HN2 : Hid (vtAt L (i + 1) 0 0) := Lib.hid (.inl ⟨rfl, rfl, by rw [hpn]; exact hnx, fun y hy => by rw [hpn] at hy; cases hy; exact hE.symm⟩)
      have t3 : decide ((0 : Int) < (i : Int)) = false := decide_eq_false (by omega)
      have t3n : decide (0 < i) = false := decide_eq_false (by omega)
      have HE := Lib.hid hE; have HX := Lib.hid hx; have HD := Lib.hid hd; have HPN := Lib.hid hpn; have HP := Lib.hid hp; have HI := Lib.hid hI; have HI0 := Lib.hid hi0; have HP0 := Lib.hid hp0; have HNX := Lib.hid hnx
      clear hE hx hd hpn hp hI hi0 hp0 hnx
      go_wp2_with fail
      refine (refView_any n _ A HO.out HRK.out).mono ?_
      rintro e w2 ⟨rfl, ho⟩
      rw [← HE.out]
      have HO2 := Lib.hid ho
      clear ho ca cb
      go_wp2_with fail
      go_quiet (fail)
      go_wp2_with fail
      go_quiet (fail)
      go_wp2_with fail
      go_roundw
      case rel => exact ⟨i + 1, 0, 0, by omega, by go_num, rfl, rfl, HN2, Lib.hid (HO2.out.drewN _)⟩
      case measure => simp [intOf]; omega
    obtain ⟨j, hj⟩ : ∃ j, i = j + 1 := ⟨i - 1, by omega⟩
    have hjl : j < L.length := by omega
    obtain ⟨la', fb, fo, fs, hla, hfa, hcy, hRy⟩ := HL.out.at2 HO.out j hjl
    cases hla
    obtain ⟨y, hy⟩ : ∃ y, y = L[j] := ⟨_, rfl⟩
    rw [← hy] at hcy hRy
    obtain ⟨m, vb, B⟩ := y
    simp only at hcy hRy
    have hpy : chainPrev L i = some (m, vb, B) := by unfold chainPrev; rw [if_neg hi0, show i - 1 = j by omega, List.getElem?_eq_getElem hjl, ← hy]
    have hv0 : viewErr m B = 0 := HPV.out _ hpy
    have hm1 := (viewErr0 hv0).1.1
    have hm2 := (viewErr0 hv0).1.2
    have hB5 := (memErr_len (viewErr0 hv0).2).2
    rw [hpy, chainGo_some, if_neg (by rw [← hE]; simp)] at hp
    simp only at hp
    obtain ⟨bl, hbl⟩ : ∃ bl, bl = B.length := ⟨_, rfl⟩
    obtain ⟨bd, bcap, hvb, hbc1, hbc2⟩ := (hRy _ HO.out).shape
    rw [← hbl] at hvb hbc1 hB5
    subst hvb
    have HRY := Lib.hid hRy
    have HCY := Lib.hid hcy
    have t3 : decide ((0 : Int) < (i : Int)) = true := decide_eq_true (by omega)
    have t3n : decide (0 < i) = true := decide_eq_true (by omega)
    have tj : (i : Int) - 1 = (j : Int) := by omega
    have j0 : (0 : Int) ≤ (j : Int) := by omega
    have j1 : (j : Int) < (L.length : Int) := by omega
    have HJ := Lib.hid hj
    clear hcy hRy hy
    by_cases hne : n = m + 1
    rotate_left
    · have hfin : chainR L = (i, 3) := by rw [← hp, if_pos hne]
      have t4 : (n != m + 1) = true := by simpa using hne
      have HN2 : Hid (vtAt L (i + 1) 3 i) := Lib.hid (.inr ⟨by simp, hfin⟩)
      have HE := Lib.hid hE; have HX := Lib.hid hx; have HD := Lib.hid hd; have HPN := Lib.hid hpn; have HP := Lib.hid hp; have HI := Lib.hid hI; have HI0 := Lib.hid hi0; have HPY := Lib.hid hpy; have HV0 := Lib.hid hv0; have HNE := Lib.hid hne; have HFIN := Lib.hid hfin; have HBL := Lib.hid hbl
      clear hE hx hd hpn hp hI hi0 hpy hv0 hne hfin hbl
      clear hj hjl
      go_wp2_with fail
      refine (refView_any n _ A HO.out HRK.out).mono ?_
      rintro e w2 ⟨rfl, ho⟩
      rw [← HE.out]
      obtain ⟨ca, cb⟩ := HC.out _ ho
      obtain ⟨f0', f1'⟩ := HCY.out _ ho
      have HO2 := Lib.hid ho
      clear ho
      go_wp2_with fail
      go_quiet (fail)
      go_wp2_with fail
      go_quiet (fail)
      go_wp2_with fail
      go_roundw
      case rel => exact ⟨i + 1, 3, i, by omega, by go_num, rfl, rfl, HN2, Lib.hid (HO2.out.drewN _)⟩
      case measure => simp [intOf]; omega
    have t4 : (n != m + 1) = false := by simpa using hne
    rw [if_neg (by simpa using hne)] at hp
    obtain ⟨kl, hkl⟩ : ∃ kl, kl = (keepB A B).length := ⟨_, rfl⟩
    have hkb : kl ≤ bl := by rw [hkl, hbl]; exact List.length_filter_le _ _
    have hmo : mostB B A = !decide (2 * (kl : Int) ≤ (bl : Int)) := by
      unfold mostB
      rw [← hbl, ← hkl]
      by_cases hh : 2 * (kl : Int) ≤ (bl : Int)
      · rw [decide_eq_true hh, decide_eq_false (by omega)]; rfl
      · rw [decide_eq_false hh, decide_eq_true (by omega)]; rfl
    obtain ⟨D, hD⟩ : ∃ D, D = decide (2 * (kl : Int) ≤ (bl : Int)) := ⟨_, rfl⟩
    have HB5_ : Hid (B.length ≤ 100000) := Lib.hid (by omega)
    have hwr : IntKind.i64.wrap (2 * (kl : Int)) = 2 * (kl : Int) := by rw [IntKind.wrap_i64]; omega
    have HN2 : Hid (vtAt L (i + 1) (if D then 8 else 0) (if D then i else 0)) := Lib.hid (by
      rw [hmo, ← hD] at hp
      cases D
      · rw [if_neg (by simp)] at hp
        exact .inl ⟨rfl, rfl, by rw [hpn]; exact hp, fun y hy => by rw [hpn] at hy; cases hy; exact hE.symm⟩
      · rw [if_pos (by rfl)] at hp
        exact .inr ⟨by simp, hp.symm⟩)
    have HE := Lib.hid hE; have HX := Lib.hid hx; have HD := Lib.hid hd; have HPN := Lib.hid hpn; have HP := Lib.hid hp; have HI := Lib.hid hI; have HI0 := Lib.hid hi0; have HPY := Lib.hid hpy; have HV0 := Lib.hid hv0; have HNE := Lib.hid hne; have HBL := Lib.hid hbl; have HKL := Lib.hid hkl; have HMO := Lib.hid hmo
    clear hE hx hd hpn hp hI hi0 hpy hv0 hne hbl hkl hmo
    clear hj hjl
    go_wp2_with fail
    refine (refView_any n _ A HO.out HRK.out).mono ?_
    rintro e w2 ⟨rfl, ho⟩
    rw [← HE.out]
    obtain ⟨ca, cb⟩ := HC.out _ ho
    obtain ⟨g0, g1⟩ := HCY.out _ ho
    have HO2 := Lib.hid ho
    clear ho
    go_wp2_with fail
    go_quiet (fail)
    have HO3 := Lib.hid (HO2.out.drewN nq)
    obtain ⟨ca, cb⟩ := HC.out _ HO3.out
    obtain ⟨g0, g1⟩ := HCY.out _ HO3.out
    generalize w2.drewN nq = w3 at *
    have hwj : IntKind.i64.wrap (j : Int) = (j : Int) := by rw [IntKind.wrap_i64]; omega
    go_upto_region 21 with fail
    refine wp_region_planH 29 [] [(true, 0), (true, 1), (true, 2), (true, 3), (true, 4), (true, 5), (true, 6), (true, 7), (true, 8), (true, 9), (true, 10), (true, 11), (true, 12), (true, 13), (true, 14), (true, 15), (true, 16), (true, 17), (true, 21), (true, 22), (true, 23), (true, 24), (true, 25), (true, 26), (true, 27), (false, 18), (true, 19), (true, 20), (true, 28)] [29] (fun wS => (wS.cell? ⟨eb, eo + 1, none⟩ = some (.slice sd A.length scap) ∧ wS.cell? ⟨fb, fo + 1, none⟩ = some (.slice bd bl bcap))) (by kernel_rfl) (by kernel_rfl) (⟨cb, g1⟩) ?_
    simp only [pickH, pick, List.getElem?_cons_succ, List.getElem?_cons_zero, Option.toList, Option.map_some, List.cons_append, List.nil_append]
    repeat (refine wpPure_step ?_ rfl ?_ ?_; rotate_left; (focus (intro _; first | with_reducible rfl | (go_simp; done) | (go_simp; with_reducible rfl) | rfl)); go_simp)
    refine wpPure_nil ?_
    repeat (first | (refine wpMix_read ?_ rfl ?_ ?_; rotate_left; (focus (intro _ hS; obtain ⟨s1, s2⟩ := hS; first | with_reducible rfl | (go_simp; done) | (go_simp; with_reducible rfl) | rfl)); go_simp) | (refine wpMix_readW ?_ ?_ ?_ ?_; rotate_left; (focus (first | rfl | (go_simp; done))); (focus (intro _ hS; obtain ⟨s1, s2⟩ := hS; first | with_reducible rfl | (go_simp; done) | (go_simp; with_reducible rfl) | rfl)); go_simp))
    refine wpMix_write (fun K hK => ?_)
    go_simp
    refine (refShared_any _ _ B A HO3.out.drew HRY.out HRK.out HB5_.out).mono ?_
    rintro e w4 ⟨v4, rfl, ho⟩
    obtain ⟨ad4, cap4, hv4, _⟩ := Own.rd ho
    rw [← HKL.out] at hv4
    subst hv4
    obtain ⟨_, y1⟩ := HC.out _ ho.drop
    obtain ⟨_, y2⟩ := HCY.out _ ho.drop
    have HO4 := Lib.hid ho.drop
    clear ho
    refine hK _ _ ⟨⟨y1, y2⟩, ?_⟩
    clear hK K
    go_simp
    repeat (first | (refine wpMix_read ?_ rfl ?_ ?_; rotate_left; (focus (intro _ hS; obtain ⟨s1, s2⟩ := hS; first | with_reducible rfl | (go_simp; done) | (go_simp; with_reducible rfl) | rfl)); go_simp) | (refine wpMix_readW ?_ ?_ ?_ ?_; rotate_left; (focus (first | rfl | (go_simp; done))); (focus (intro _ hS; obtain ⟨s1, s2⟩ := hS; first | with_reducible rfl | (go_simp; done) | (go_simp; with_reducible rfl) | rfl)); go_simp))
    refine wpMix_nil ?_
    by_cases hle : 2 * (kl : Int) ≤ (bl : Int)
    · have td : decide (2 * (kl : Int) ≤ (bl : Int)) = true := decide_eq_true hle
      have hN3 := HN2.out
      rw [hD, td] at hN3
      simp only [if_true] at hN3
      have HLE := Lib.hid hle; have HD := Lib.hid hD; have HN3 := Lib.hid hN3
      clear hle hD hN3
      clear HN2
      go_wp2_with fail
      refine NoPanic.normal ?_
      go_wp2_with fail
      go_roundw
      case rel => exact ⟨i + 1, 8, i, by omega, by go_num, rfl, rfl, HN3, HO4⟩
      case measure => simp [intOf]; omega
    · have td : decide (2 * (kl : Int) ≤ (bl : Int)) = false := decide_eq_false hle
      have hN3 := HN2.out
      rw [hD, td] at hN3
      simp only [Bool.false_eq_true, if_false] at hN3
      have HLE := Lib.hid hle; have HD := Lib.hid hD; have HN3 := Lib.hid hN3
      clear hle hD hN3
      clear HN2
      go_wp2_with fail
      refine NoPanic.normal ?_
      go_wp2_with fail
      go_roundw
      case rel => exact ⟨i + 1, 0, 0, by omega, by go_num, rfl, rfl, HN3, HO4⟩
      case measure => simp [intOf]; omega
end Go.Proofs.YtdeeephdojflpaaDoor
