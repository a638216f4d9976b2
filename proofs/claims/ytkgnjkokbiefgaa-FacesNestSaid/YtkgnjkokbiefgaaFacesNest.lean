/- FacesNest: who hears by cause hears in order. -/
import Derived.Test.YtkgnjkokbiefgaaFacesNestP
import Derived.Test.YtkgnjkokbiefgaaHistoryBefore
namespace Go.Proofs.Ytkgnjkokbiefgaa
set_option linter.unusedVariables false
set_option linter.unusedSimpArgs false
open Go.RowKit
noncomputable def fnAlone_code : Code := ((Try.f9.body.bind (findBlock 0)).getD .skip)
set_option maxRecDepth 1000000 in
set_option maxHeartbeats 4000000 in
theorem fnAlone {Q : Exit → Act → World → Prop} {u1 u2 u3 u4 u5 u6 u7 u10 u11 u12 u13 u14 u15 u16 u17 u18 u19 u20 u21 u22 u23 u24 u25 u26 u27 u28 u29 u30 u31 u32 u33 u34 u35 u36 u37 u38 u39 u40 u41 u42 u43 u44 u45 u46 u47 u48 u49 u50 u51 u52 u53 u54 u55 u56 u57 u58 u59 u60 u61 u62 u63 u64 u65 u66 u67 u68 u69 u70 u71 u72 u73 u74 u75 u76 u77 u78 u79 u80 u81 u82 u83 u84 u85 u86 u87 u88 u89 u90 u91 u92 u93 u94 u95 u96 u97 u98 u99 u100 u101 u102 u103 u104 u105 u106 u107 u108 u109 u110 u111 u112 u113 u114 u115 u116 u117 u118 u119 u120 u121 u122 u123 u124 u125 u126 u127 u128 u129 u130 u131 u132 u133 u134 u135 u136 u137 u138 u139 u140 u141 u142 u143 u144 u145 : Value} {w1 : World} (w : World) (R : HProp) (n hcap : Nat) (had : Option Addr) (hs : List Ev) (hn : n ≤ 60) (hc1 : n ≤ hcap) (hc2 : hcap ≤ 9223372036854775807) (HLN : Hid (hs.length = n)) (HV : Hid (ReadsE w R (.slice had n hcap) hs)) (HP : Hid (Own w R w1))
    (hK : ∀ (v8 v9 v10 v53 v54 v55 v56 v57 v58 v59 v60 v61 v62 v63 v64 v65 v66 v67 v68 v69 v70 v71 v72 v73 v74 v75 v76 v77 v78 v79 v80 v81 v82 v83 v84 v85 v86 v87 v88 v89 v90 : Value) (wx : World), (v8 = .bool (aloneB hs) ∧ Own w R wx) → Q .normal ⟨List.toArray ((.slice had n hcap) :: u1 :: u2 :: u3 :: u4 :: u5 :: u6 :: u7 :: v8 :: v9 :: v10 :: u11 :: u12 :: u13 :: u14 :: u15 :: u16 :: u17 :: u18 :: u19 :: u20 :: u21 :: u22 :: u23 :: u24 :: u25 :: u26 :: u27 :: u28 :: u29 :: u30 :: u31 :: u32 :: u33 :: u34 :: u35 :: u36 :: u37 :: u38 :: u39 :: u40 :: u41 :: u42 :: u43 :: u44 :: u45 :: u46 :: u47 :: u48 :: u49 :: u50 :: u51 :: u52 :: v53 :: v54 :: v55 :: v56 :: v57 :: v58 :: v59 :: v60 :: v61 :: v62 :: v63 :: v64 :: v65 :: v66 :: v67 :: v68 :: v69 :: v70 :: v71 :: v72 :: v73 :: v74 :: v75 :: v76 :: v77 :: v78 :: v79 :: v80 :: v81 :: v82 :: v83 :: v84 :: v85 :: v86 :: v87 :: v88 :: v89 :: v90 :: u91 :: u92 :: u93 :: u94 :: u95 :: u96 :: u97 :: u98 :: u99 :: u100 :: u101 :: u102 :: u103 :: u104 :: u105 :: u106 :: u107 :: u108 :: u109 :: u110 :: u111 :: u112 :: u113 :: u114 :: u115 :: u116 :: u117 :: u118 :: u119 :: u120 :: u121 :: u122 :: u123 :: u124 :: u125 :: u126 :: u127 :: u128 :: u129 :: u130 :: u131 :: u132 :: u133 :: u134 :: u135 :: u136 :: u137 :: u138 :: u139 :: u140 :: u141 :: u142 :: u143 :: u144 :: u145 :: []), []⟩ wx) :
    Code.wp Try.prog fnAlone_code Q ⟨List.toArray ((.slice had n hcap) :: u1 :: u2 :: u3 :: u4 :: u5 :: u6 :: u7 :: (.bool true) :: (.int .i64 0) :: u10 :: u11 :: u12 :: u13 :: u14 :: u15 :: u16 :: u17 :: u18 :: u19 :: u20 :: u21 :: u22 :: u23 :: u24 :: u25 :: u26 :: u27 :: u28 :: u29 :: u30 :: u31 :: u32 :: u33 :: u34 :: u35 :: u36 :: u37 :: u38 :: u39 :: u40 :: u41 :: u42 :: u43 :: u44 :: u45 :: u46 :: u47 :: u48 :: u49 :: u50 :: u51 :: u52 :: u53 :: u54 :: u55 :: u56 :: u57 :: u58 :: u59 :: u60 :: u61 :: u62 :: u63 :: u64 :: u65 :: u66 :: u67 :: u68 :: u69 :: u70 :: u71 :: u72 :: u73 :: u74 :: u75 :: u76 :: u77 :: u78 :: u79 :: u80 :: u81 :: u82 :: u83 :: u84 :: u85 :: u86 :: u87 :: u88 :: u89 :: u90 :: u91 :: u92 :: u93 :: u94 :: u95 :: u96 :: u97 :: u98 :: u99 :: u100 :: u101 :: u102 :: u103 :: u104 :: u105 :: u106 :: u107 :: u108 :: u109 :: u110 :: u111 :: u112 :: u113 :: u114 :: u115 :: u116 :: u117 :: u118 :: u119 :: u120 :: u121 :: u122 :: u123 :: u124 :: u125 :: u126 :: u127 :: u128 :: u129 :: u130 :: u131 :: u132 :: u133 :: u134 :: u135 :: u136 :: u137 :: u138 :: u139 :: u140 :: u141 :: u142 :: u143 :: u144 :: u145 :: []), []⟩ w1 := by
  conv => arg 2; whnf
  have HK := Lib.hid hK
  clear hK
  go_wp2_with fail
  go_loopw [9, 8] (fun iv av wr => ∃ i : Nat, i ≤ n ∧ iv = .int .i64 i ∧ av = .bool (upTo (fun i => upTo (aloneAt hs i) i) i) ∧ Hid (Own w R wr)) (fun iv _ _ => n - (intOf iv).toNat)
  case atStart => exact ⟨0, Nat.zero_le _, rfl, rfl, HP⟩
  case round =>
    clear HP
    obtain ⟨i, hi, rfl, rfl, HO⟩ := hrel
    obtain ⟨A, hA⟩ : ∃ A, A = upTo (fun i => upTo (aloneAt hs i) i) i := ⟨_, rfl⟩
    rw [← hA]
    by_cases hlt : i < n
    rotate_left
    · have hfin : A = aloneB hs := by rw [hA]; unfold aloneB; rw [HLN.out, show i = n by omega]
      have HA := Lib.hid hA; have HFIN := Lib.hid hfin
      clear hA hfin
      go_wp2_with fail
      apply HK.out
      exact ⟨by rw [HFIN.out], HO.out⟩
    have hnx : upTo (fun i => upTo (aloneAt hs i) i) (i + 1) = (A && upTo (aloneAt hs i) i) := by rw [upTo_step, hA]
    have ti : decide ((i : Int) < (n : Int)) = true := decide_eq_true (by omega)
    have HA := Lib.hid hA; have HNX := Lib.hid hnx
    clear hA hnx
    go_wp2_with fail
    go_loopw [10, 8] (fun kv av wr => ∃ k : Nat, k ≤ i ∧ kv = .int .i64 k ∧ av = .bool (A && upTo (aloneAt hs i) k) ∧ Hid (Own w R wr)) (fun kv _ _ => i - (intOf kv).toNat)
    case atStart => exact ⟨0, Nat.zero_le _, rfl, by rw [upTo_zero, Bool.and_true], HO⟩
    case round =>
      clear HO
      obtain ⟨k, hk, rfl, rfl, HO⟩ := hrel
      obtain ⟨B, hB⟩ : ∃ B, B = (A && upTo (aloneAt hs i) k) := ⟨_, rfl⟩
      rw [← hB]
      by_cases hlt2 : k < i
      rotate_left
      · have hki : k = i := by omega
        have hfin : B = upTo (fun i => upTo (aloneAt hs i) i) (i + 1) := by rw [hB, HNX.out, hki]
        have HB := Lib.hid hB; have HFIN := Lib.hid hfin
        clear hB hfin
        go_wp2_with fail
        go_roundw
        case rel => exact ⟨i + 1, by omega, by go_num, by rw [HFIN.out], HO⟩
        case measure => simp [intOf]; omega
      have hn2 : (A && upTo (aloneAt hs i) (k + 1)) = (B && aloneAt hs i k) := by rw [upTo_step, hB, Bool.and_assoc]
      obtain ⟨aa, pb, po, ps, rfl, hea, hcs, _⟩ := HV.out.at HO.out i (by rw [HLN.out]; exact hlt)
      obtain ⟨aa', qb, qo, qs, haa, heb, hds, _⟩ := HV.out.at HO.out k (by rw [HLN.out]; omega)
      cases haa
      obtain ⟨p, hp⟩ : ∃ p, p = evAt hs i := ⟨_, rfl⟩
      obtain ⟨q, hq⟩ : ∃ q, q = evAt hs k := ⟨_, rfl⟩
      rw [← hp] at hcs
      rw [← hq] at hds
      obtain ⟨c0, c1, _⟩ := hcs _ HO.out
      obtain ⟨d0, d1, _⟩ := hds _ HO.out
      have hal : aloneAt hs i k = !(decide (p.2.1 = 2) && (decide (q.2.1 = 2) && decide (p.1 ≠ q.1))) := by rw [hp, hq]; rfl
      obtain ⟨p1, p2, p3⟩ := p
      obtain ⟨q1, q2, q3⟩ := q
      simp only at c0 c1 d0 d1 hal
      obtain ⟨D, hD⟩ : ∃ D, D = aloneAt hs i k := ⟨_, rfl⟩
      rw [← hD] at hal hn2
      have i0 : (0 : Int) ≤ (i : Int) := by omega
      have i1 : (i : Int) < (n : Int) := by omega
      have k0 : (0 : Int) ≤ (k : Int) := by omega
      have k1 : (k : Int) < (n : Int) := by omega
      have k2 : (k : Int) < (i : Int) := by omega
      have HCS := Lib.hid hcs; have HDS := Lib.hid hds; have HP := Lib.hid hp; have HQ := Lib.hid hq; have HAL := Lib.hid hal; have HD := Lib.hid hD; have HB := Lib.hid hB; have HN2 := Lib.hid hn2
      clear hcs hds hp hq hal hD hB hn2
      go_upto_region 17 with fail
      go_cut [90] from 64 to 64 (fun tv wx => tv = .bool (!D) ∧ Own w R wx)
      case first =>
        rcases (show ((p2 == 2) = false ∧ (!D) = false) ∨ ((p2 == 2) = true ∧ (q2 == 2) = false ∧ (!D) = false) ∨ ((p2 == 2) = true ∧ (q2 == 2) = true ∧ (!D) = (p1 != q1)) by
          rw [HAL.out]
          by_cases b1 : p2 = 2 <;> by_cases b2 : q2 = 2 <;> by_cases b3 : p1 = q1 <;> simp [b1, b2, b3]) with ⟨b1, b4⟩ | ⟨b1, b2, b4⟩ | ⟨b1, b2, b4⟩
        all_goals
          have B4 := Lib.hid b4
          clear b4
          go_quiet (fail)
          go_wp2_with fail
          go_meet
          exact ⟨by rw [B4.out], HO.out.drewN _⟩
      case rest =>
      obtain ⟨rfl, ho⟩ := hcut
      have HO2 := Lib.hid ho
      clear ho c0 c1 d0 d1
      cases D
      · go_wp2_with fail
        go_roundw
        case rel => exact ⟨k + 1, by omega, by go_num, by rw [HN2.out, Bool.and_false], HO2⟩
        case measure => simp [intOf]; omega
      · go_wp2_with fail
        go_roundw
        case rel => exact ⟨k + 1, by omega, by go_num, by rw [HN2.out, Bool.and_true], HO2⟩
        case measure => simp [intOf]; omega
def oneN : List Ev := [(0, 2, 1), (1, 3, 1), (1, 2, 2), (2, 3, 2)]
def oneNO : Obj := .cells #[.int .i64 0, .int .i64 2, .int .i64 1, .int .i64 1, .int .i64 3, .int .i64 1, .int .i64 1, .int .i64 2, .int .i64 2, .int .i64 2, .int .i64 3, .int .i64 2] 49 (0, 0)
theorem oneN1 : facesF oneN = true ∧ facesC oneN = false ∧ facesT oneN = true ∧ facesErr oneN = 0 := by decide +kernel
set_option maxRecDepth 100000 in
set_option maxHeartbeats 4000000 in
theorem facesNest_law (w : World) (v : Value) (hs : List Ev) (hv : Evs w v hs) :
    Calls Try.prog 9 #[v] w fun e w' => e = .returned (.bool true) ∧ Below w.heap.size w w' := by
  obtain ⟨had, hcap, rfl, hc1, hc2⟩ := hv.shape
  have hv := hv.reads (R := emp)
  obtain ⟨n, hn⟩ : ∃ n, n = hs.length := ⟨_, rfl⟩
  rw [← hn] at hc1 hv ⊢
  obtain ⟨oo, hoo⟩ : ∃ oo, oo = oneNO := ⟨_, rfl⟩
  obtain ⟨b1, hb_b1⟩ : ∃ zz_, zz_ = (w).heap.size := ⟨_, rfl⟩
  obtain ⟨w1, hw_w1⟩ : ∃ zz_, zz_ = (w).alloc (oo) := ⟨_, rfl⟩
  have h_HO1 := (Own.start w).alloc (oo)
  rw [← hb_b1, ← hw_w1] at h_HO1
  have HO1 := Lib.hid h_HO1
  clear h_HO1
  have HL1 : Hid (ReadsE w (blk b1 oo * emp) (.slice (some ⟨b1, 0, none⟩) 4 4) oneN) := Lib.hid (by rw [hoo]; exact Own.evs_lit _ oneN 4 rfl rfl (by intro e he; simp [oneN] at he; rcases he with rfl | rfl | rfl | rfl <;> (unfold goodEv I64; simp)) (by omega))
  unfold oneNO at hoo
  obtain ⟨r1, r2, r3, r4⟩ := oneN1
  have HV := Lib.hid hv; have HN := Lib.hid hn
  clear hv hn
  go_enter Try.func9, Try.ntmps9
  go_upto_region 2 with fail
  rw [← hoo]
  rw [← hb_b1, ← hw_w1]
  clear hb_b1 hw_w1
  clear hoo
  go_wp2_with fail
  refine (facesOf_any _ oneN HO1.out HL1.out).mono ?_
  rintro e w2 ⟨rfl, ho⟩
  rw [r1, r2, r3, r4, errV0]
  obtain ⟨fb, hb_fb⟩ : ∃ zz_, zz_ = (w2).heap.size := ⟨_, rfl⟩
  obtain ⟨w3, hw_w3⟩ : ∃ zz_, zz_ = (w2).alloc (.cells #[.bool true, .bool false, .bool true] 83 (0, 0)) := ⟨_, rfl⟩
  have h_HO3 := (ho.drop).alloc (.cells #[.bool true, .bool false, .bool true] 83 (0, 0))
  rw [← hb_fb, ← hw_w3] at h_HO3
  have HO3 := Lib.hid h_HO3
  clear h_HO3
  clear ho HO1 HL1
  obtain ⟨g0, g1, g2, _⟩ := (show Own w (FaO fb true false true * emp) w3 from HO3.out).fa
  go_upto_region 3 with fail
  rw [← hb_fb, ← hw_w3]
  clear hb_fb hw_w3
  have HW3 : Hid (Own w emp w3) := Lib.hid HO3.out.drop
  go_wp2_with fail
  refine (facesOf_any _ hs HW3.out HV.out).mono ?_
  rintro e w4 ⟨rfl, ho⟩
  obtain ⟨F, hF⟩ : ∃ F, F = facesF hs := ⟨_, rfl⟩
  obtain ⟨C, hC⟩ : ∃ C, C = facesC hs := ⟨_, rfl⟩
  obtain ⟨T, hT⟩ : ∃ T, T = facesT hs := ⟨_, rfl⟩
  obtain ⟨E, hE⟩ : ∃ E, E = facesErr hs := ⟨_, rfl⟩
  rw [← hF, ← hC, ← hT, ← hE]
  obtain ⟨gb, hb_gb⟩ : ∃ zz_, zz_ = (w4).heap.size := ⟨_, rfl⟩
  obtain ⟨w5, hw_w5⟩ : ∃ zz_, zz_ = (w4).alloc (.cells #[.bool F, .bool C, .bool T] 83 (0, 0)) := ⟨_, rfl⟩
  have h_HO5 := (ho).alloc (.cells #[.bool F, .bool C, .bool T] 83 (0, 0))
  rw [← hb_gb, ← hw_w5] at h_HO5
  have HO5 := Lib.hid h_HO5
  clear h_HO5
  clear ho HO3 g0 g1 g2
  have HF5 : Hid (Own w (FaO gb F C T * emp) w5) := HO5
  clear HO5
  by_cases h0 : E = 0
  rotate_left
  · have hee := errV_ne h0
    rw [hee]
    have HF := Lib.hid hF; have HC := Lib.hid hC; have HT := Lib.hid hT; have HE := Lib.hid hE; have H0 := Lib.hid h0; have HEE := Lib.hid hee
    clear hF hC hT hE h0 hee
    go_upto_region 6 with fail
    rw [← hb_gb, ← hw_w5]
    clear hb_gb hw_w5
    go_wp2
    go_ret
    exact ⟨rfl, HF5.out.below⟩
  rw [h0, errV0]
  have hrh : RightH hs := (histR_ok hs).1 (by show facesErr hs = 0; rw [← hE]; exact h0)
  have hlen := hrh.1
  rw [← HN.out] at hlen
  have hE0 : facesErr hs = 0 := by rw [← hE]; exact h0
  have hF2 : F = fifoB hs := by rw [hF]; unfold facesF; rw [hE0]; simp
  have hC2 : C = causalB hs := by rw [hC]; unfold facesC; rw [hE0]; simp
  have hT2 : T = totalB hs := by rw [hT]; unfold facesT; rw [hE0]; simp
  obtain ⟨g0, g1, g2, _⟩ := HF5.out.fa
  have HNE := Lib.hid HN.out.symm
  have HF := Lib.hid hF; have HC := Lib.hid hC; have HT := Lib.hid hT; have HE := Lib.hid hE; have H0 := Lib.hid h0; have HRH := Lib.hid hrh; have HE0 := Lib.hid hE0; have HF2 := Lib.hid hF2; have HC2 := Lib.hid hC2; have HT2 := Lib.hid hT2
  clear hF hC hT hE h0 hrh hE0 hF2 hC2 hT2
  go_upto_region 6 with fail
  rw [← hb_gb, ← hw_w5]
  clear hb_gb hw_w5
  go_upto_region 8 with fail
  go_cut [52] (fun tv wx => tv = .bool false ∧ wx = w5)
  case first =>
    cases C
    · go_wp2_with fail
      go_meet
      exact ⟨rfl, rfl⟩
    · have hf : F = true := by rw [HF2.out]; exact causal_fifo HC2.out.symm
      subst hf
      go_wp2_with fail
      go_meet
      exact ⟨rfl, rfl⟩
  case rest =>
  obtain ⟨rfl, rfl⟩ := hcut
  go_upto_block 0 with fail
  go_cut [8] (fun av wx => av = .bool (aloneB hs) ∧ Own w (FaO gb F C T * emp) wx)
  case first =>
    refine fnAlone w (FaO gb F C T * emp) n hcap had hs hlen hc1 hc2 HNE (Lib.hid HV.out.more) HF5 ?_
    intros
    go_step
    go_step
    go_meet
    assumption
  case rest =>
  obtain ⟨hav, ho⟩ := hcut
  subst hav
  clear HF5 g0 g1 g2
  have HF6 := Lib.hid ho
  obtain ⟨g0, g1, g2, _⟩ := ho.fa
  clear ho
  obtain ⟨A, hA⟩ : ∃ A, A = aloneB hs := ⟨_, rfl⟩
  rw [← hA]
  have HA := Lib.hid hA
  clear hA
  obtain ⟨wk, hwk⟩ : ∃ wk, wk = wc := ⟨_, rfl⟩
  rw [← hwk] at HF6 g0 g1 g2 ⊢
  clear hwk
  go_upto_region 19 with fail
  go_cut [98] (fun tv wx => tv = .bool false ∧ wx = wk)
  case first =>
    cases A
    · go_wp2_with fail
      go_meet
      exact ⟨rfl, rfl⟩
    · have hfc : F = C := by
        rw [HF2.out, HC2.out]
        cases h1 : causalB hs
        · cases h2 : fifoB hs
          · rfl
          · rw [alone_fifo HA.out.symm h2] at h1; cases h1
        · exact causal_fifo h1
      have HFC := Lib.hid hfc
      clear hfc
      go_wp2_with fail
      go_meet
      exact ⟨by rw [HFC.out]; simp, rfl⟩
  case rest =>
  obtain ⟨rfl, rfl⟩ := hcut
  by_cases hz : n = 0
  · have hnil : hs = [] := List.eq_nil_of_length_eq_zero (by rw [← HN.out]; exact hz)
    have hc : C = true := by rw [HC2.out, hnil]; rfl
    have ht : T = true := by rw [HT2.out, hnil]; decide
    subst hc; subst ht; subst hz
    have HNIL := Lib.hid hnil
    clear hnil
    go_wp2
    go_ret
    exact ⟨rfl, HF6.out.below⟩
  obtain ⟨m, rfl⟩ : ∃ m, n = m + 1 := ⟨n - 1, by omega⟩
  have HRF : Hid (ReadsE w (FaO gb F C T * emp) (.slice had m hcap) (hs.take m)) := Lib.hid (HV.out.front (show m ≤ m + 1 by omega)).more
  have hrm := HRH.out.front m (by rw [← HN.out]; omega)
  have hEm : facesErr (hs.take m) = 0 := (histR_ok _).2 hrm
  have hfm : F = true → facesF (hs.take m) = true := fun h1 => by unfold facesF; rw [hEm, fifo_take (by rw [← HN.out]; omega) (by rw [← HF2.out]; exact h1)]; rfl
  have hcm : C = true → facesC (hs.take m) = true := fun h1 => by unfold facesC; rw [hEm, causal_take (by rw [← HN.out]; omega) (by rw [← HC2.out]; exact h1)]; rfl
  have htm : T = true → facesT (hs.take m) = true := fun h1 => by unfold facesT; rw [hEm, total_take HRH.out (by rw [← HN.out]) (by rw [← HT2.out]; exact h1)]; rfl
  obtain ⟨F', hF'⟩ : ∃ F', F' = facesF (hs.take m) := ⟨_, rfl⟩
  obtain ⟨C', hC'⟩ : ∃ C', C' = facesC (hs.take m) := ⟨_, rfl⟩
  obtain ⟨T', hT'⟩ : ∃ T', T' = facesT (hs.take m) := ⟨_, rfl⟩
  rw [← hF'] at hfm; rw [← hC'] at hcm; rw [← hT'] at htm
  have tz : (((m + 1 : Nat) : Int) == 0) = false := by rw [beq_eq_false_iff_ne]; omega
  have ts : ((m + 1 : Nat) : Int) - 1 = (m : Int) := by omega
  have m0 : (0 : Int) ≤ (m : Int) := by omega
  have mc : (m : Int) ≤ (hcap : Int) := by omega
  have hc0 : hcap ≠ 0 := by omega
  have HFM := Lib.hid hfm; have HCM := Lib.hid hcm; have HTM := Lib.hid htm
  have HF1 := Lib.hid hF'; have HC1 := Lib.hid hC'; have HT1 := Lib.hid hT'
  have HZ := Lib.hid hz; have HRM := Lib.hid hrm; have HEM := Lib.hid hEm
  clear hz hrm hEm
  clear hfm hcm htm hF' hC' hT'
  go_wp2_with fail
  refine (facesOf_any _ (hs.take m) HF6.out HRF.out).mono ?_
  rintro e w7 ⟨rfl, ho⟩
  rw [← HF1.out, ← HC1.out, ← HT1.out, HEM.out, errV0]
  obtain ⟨g0, g1, g2, _⟩ := ho.fa
  obtain ⟨kb, hb_kb⟩ : ∃ zz_, zz_ = (w7).heap.size := ⟨_, rfl⟩
  obtain ⟨w8, hw_w8⟩ : ∃ zz_, zz_ = (w7).alloc (.cells #[.bool F', .bool C', .bool T'] 83 (0, 0)) := ⟨_, rfl⟩
  have h_HO8 := (ho).alloc (.cells #[.bool F', .bool C', .bool T'] 83 (0, 0))
  rw [← hb_kb, ← hw_w8] at h_HO8
  have HO8 := Lib.hid h_HO8
  clear h_HO8
  clear ho
  obtain ⟨k0, k1, k2, _⟩ := (show Own w (FaO kb F' C' T' * (FaO gb F C T * emp)) w8 from HO8.out).fa
  obtain ⟨g0, g1, g2, _⟩ := (show Own w (FaO kb F' C' T' * (FaO gb F C T * emp)) w8 from HO8.out).drop.fa
  go_upto_region 24 with fail
  rw [← hb_kb, ← hw_w8]
  clear hb_kb hw_w8
  cases F
  · cases C
    · cases T
      · go_wp2
        go_ret
        exact ⟨rfl, HO8.out.below⟩
      · obtain rfl := HTM.out rfl
        go_wp2
        go_ret
        exact ⟨rfl, HO8.out.below⟩
    · obtain rfl := HCM.out rfl
      cases T
      · go_wp2
        go_ret
        exact ⟨rfl, HO8.out.below⟩
      · obtain rfl := HTM.out rfl
        go_wp2
        go_ret
        exact ⟨rfl, HO8.out.below⟩
  · obtain rfl := HFM.out rfl
    cases C
    · cases T
      · go_wp2
        go_ret
        exact ⟨rfl, HO8.out.below⟩
      · obtain rfl := HTM.out rfl
        go_wp2
        go_ret
        exact ⟨rfl, HO8.out.below⟩
    · obtain rfl := HCM.out rfl
      cases T
      · go_wp2
        go_ret
        exact ⟨rfl, HO8.out.below⟩
      · obtain rfl := HTM.out rfl
        go_wp2
        go_ret
        exact ⟨rfl, HO8.out.below⟩
end Go.Proofs.Ytkgnjkokbiefgaa
