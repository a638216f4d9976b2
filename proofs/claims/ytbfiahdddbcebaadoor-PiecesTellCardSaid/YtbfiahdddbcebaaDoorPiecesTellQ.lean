/- PiecesTell: a round of pieces that are joined, beside the reference. -/
import Derived.Test.YtbfiahdddbcebaaDoorSplitR
import Derived.Test.YtbfiahdddbcebaaDoorPiecesBack
namespace Go.Proofs.YtbfiahdddbcebaaDoor
open Go.RowKit Go.Maps
set_option linter.unusedVariables false
structure JmOk (N : Nat) (m : List (Int × ByteArray)) : Prop where
  le : N ≤ 60
  small : joSmall m
theorem jm_start : JmOk 0 [] := ⟨Nat.zero_le _, joSmall_nil⟩
theorem JmOk.take {N : Nat} {m : List (Int × ByteArray)} (h : JmOk N m) (x : Pc) : JmOk (joN N m x) (joM N m x) := by
  unfold joN joM
  by_cases he : joErr N m x = 0
  · have hp : pcRight x = true := by
      cases hp : pcRight x with
      | true => rfl
      | false => unfold joErr at he; rw [if_pos hp] at he; cases he
    have hr : x.of ≤ 60 ∧ x.text.size ≤ 12 := by
      unfold pcRight at hp
      simp only [Bool.and_eq_true, decide_eq_true_eq] at hp
      omega
    rw [if_pos he, if_pos he]
    exact ⟨by omega, joSmall_put h.small _ _ hr.2⟩
  · rw [if_neg he, if_neg he]
    exact h
def ptA (F : Bool) (w7 : World) (c : Value) (wx : World) : Prop := c = .bool (!F) ∧ wx = w7
def ptB (w : World) (P : HProp) (G : Nat) (X : ByteArray) (e t : Value) (wx : World) : Prop := e = .int .i64 (G : Nat) ∧ t = .string X ∧ Own w P wx
theorem pcs_later_at {w : World} {ad : Option Addr} {n cap : Nat} {l : List Pc} (h : Pcs w (.slice ad n cap) l) (k : Nat) (hk : k < l.length) :
    ∃ (a : Addr) (eb eo : Nat) (es : Option Nat), ad = some a ∧ a.add (k * 3) = ⟨eb, eo, es⟩ ∧ ∀ (w1 : World) (R : HProp), Own w R w1 → w1.cell? ⟨eb, eo, es⟩ = some (.int .i64 (pcAt l k).at') ∧ w1.cell? ⟨eb, eo + 1, none⟩ = some (.int .i64 (pcAt l k).of) ∧ w1.cell? ⟨eb, eo + 2, none⟩ = some (.string (pcAt l k).text) := by
  obtain ⟨a, eb, eo, es, h1, h2, _, _⟩ := (h.reads (R := emp)).at (Own.start w) k hk
  refine ⟨a, eb, eo, es, h1, h2, fun w1 R ho => ?_⟩
  obtain ⟨a', eb', eo', es', h1', h2', h3', _⟩ := (h.reads (R := R)).at ho k hk
  rw [h1] at h1'
  cases h1'
  rw [h2] at h2'
  cases h2'
  exact h3' w1 ho
noncomputable def ptLoop_code : Code := ((Tryd.f4.body.bind (findBlock 0)).getD .skip)
set_option maxRecDepth 1000000 in
set_option maxHeartbeats 4000000 in
theorem ptLoop {Q : Exit → Act → World → Prop} {u0 u1 u3 u4 u5 u6 u7 u8 u9 u10 u11 u15 u16 u17 u18 u19 u20 u21 u22 u23 u24 u25 u26 u27 u28 u29 u30 u31 u32 u33 u34 u35 u36 u37 u38 u39 u40 u41 u42 u43 u44 u45 u46 u47 u48 u49 u50 u51 u52 u53 u54 u55 u56 u57 u58 u59 u60 u61 u62 u63 u64 u65 u66 u67 u68 u69 u70 u71 u72 u73 u74 u75 u76 u77 u78 u79 u80 u81 u82 u83 u84 u85 u86 u87 u88 u89 u90 u91 u92 u93 u94 u95 u96 u97 u98 u99 u100 u101 u102 u103 u104 u105 u106 u107 u108 u109 u110 u111 u112 u113 u114 u115 u116 u117 u118 u119 u120 u121 u122 u123 u124 u125 u126 u127 u128 u129 u130 u131 : Value} {w1 : World} (w : World) (R : HProp) (p mb q n cap : Nat) (ad : Option Addr) (L : List Pc) (hc1 : n ≤ cap) (hc2 : cap ≤ 9223372036854775807) (HG : Hid (As.Handle w)) (HLN : Hid (n = L.length)) (HPL : Hid (Pcs w (.slice ad n cap) L)) (HP : Hid (Own w (JoP p mb 0 [] * (JrP q 0 [] * R)) w1))
    (hK : ∀ (v6 v14 v15 v16 v17 v18 v19 v20 v21 v22 v23 v55 v56 v57 v58 v59 v60 v61 v62 v63 v64 v65 v66 v67 v68 v69 v70 v71 v72 v73 v74 v75 v76 v77 v78 v79 v80 v81 v82 v83 v84 v85 v86 v87 v88 v89 v90 v91 v92 v93 v94 v95 v96 v97 v98 v99 v100 v101 v102 v103 v104 v105 v106 v107 v108 v109 v110 v111 v112 v113 v114 v115 v116 v117 v118 v119 v120 v121 v122 v123 v124 v125 v126 v127 v128 v129 v130 : Value) (wx : World), (Own w R wx) → Q .normal ⟨List.toArray (u0 :: u1 :: (.slice ad n cap) :: u3 :: u4 :: u5 :: v6 :: u7 :: u8 :: u9 :: u10 :: u11 :: (.pointer (some ⟨p, 0, none⟩)) :: (.pointer (some ⟨q, 0, none⟩)) :: v14 :: v15 :: v16 :: v17 :: v18 :: v19 :: v20 :: v21 :: v22 :: v23 :: u24 :: u25 :: u26 :: u27 :: u28 :: u29 :: u30 :: u31 :: u32 :: u33 :: u34 :: u35 :: u36 :: u37 :: u38 :: u39 :: u40 :: u41 :: u42 :: u43 :: u44 :: u45 :: u46 :: u47 :: u48 :: u49 :: u50 :: u51 :: u52 :: u53 :: u54 :: v55 :: v56 :: v57 :: v58 :: v59 :: v60 :: v61 :: v62 :: v63 :: v64 :: v65 :: v66 :: v67 :: v68 :: v69 :: v70 :: v71 :: v72 :: v73 :: v74 :: v75 :: v76 :: v77 :: v78 :: v79 :: v80 :: v81 :: v82 :: v83 :: v84 :: v85 :: v86 :: v87 :: v88 :: v89 :: v90 :: v91 :: v92 :: v93 :: v94 :: v95 :: v96 :: v97 :: v98 :: v99 :: v100 :: v101 :: v102 :: v103 :: v104 :: v105 :: v106 :: v107 :: v108 :: v109 :: v110 :: v111 :: v112 :: v113 :: v114 :: v115 :: v116 :: v117 :: v118 :: v119 :: v120 :: v121 :: v122 :: v123 :: v124 :: v125 :: v126 :: v127 :: v128 :: v129 :: v130 :: u131 :: []), []⟩ wx) :
    Code.wp Tryd.prog ptLoop_code Q ⟨List.toArray (u0 :: u1 :: (.slice ad n cap) :: u3 :: u4 :: u5 :: u6 :: u7 :: u8 :: u9 :: u10 :: u11 :: (.pointer (some ⟨p, 0, none⟩)) :: (.pointer (some ⟨q, 0, none⟩)) :: (.int .i64 0) :: u15 :: u16 :: u17 :: u18 :: u19 :: u20 :: u21 :: u22 :: u23 :: u24 :: u25 :: u26 :: u27 :: u28 :: u29 :: u30 :: u31 :: u32 :: u33 :: u34 :: u35 :: u36 :: u37 :: u38 :: u39 :: u40 :: u41 :: u42 :: u43 :: u44 :: u45 :: u46 :: u47 :: u48 :: u49 :: u50 :: u51 :: u52 :: u53 :: u54 :: u55 :: u56 :: u57 :: u58 :: u59 :: u60 :: u61 :: u62 :: u63 :: u64 :: u65 :: u66 :: u67 :: u68 :: u69 :: u70 :: u71 :: u72 :: u73 :: u74 :: u75 :: u76 :: u77 :: u78 :: u79 :: u80 :: u81 :: u82 :: u83 :: u84 :: u85 :: u86 :: u87 :: u88 :: u89 :: u90 :: u91 :: u92 :: u93 :: u94 :: u95 :: u96 :: u97 :: u98 :: u99 :: u100 :: u101 :: u102 :: u103 :: u104 :: u105 :: u106 :: u107 :: u108 :: u109 :: u110 :: u111 :: u112 :: u113 :: u114 :: u115 :: u116 :: u117 :: u118 :: u119 :: u120 :: u121 :: u122 :: u123 :: u124 :: u125 :: u126 :: u127 :: u128 :: u129 :: u130 :: u131 :: []), []⟩ w1 := by
  conv => arg 2; whnf
  have HK := Lib.hid hK
  clear hK
  go_wp2_with fail
  go_loopw [14] (fun iv wr => ∃ (i N : Nat) (m : List (Int × ByteArray)), i ≤ n ∧ iv = .int .i64 i ∧ Hid (JmOk N m) ∧ Hid (Own w (JoP p mb N m * (JrP q N m * R)) wr)) (fun iv _ => n - (intOf iv).toNat)
  case atStart => exact ⟨0, 0, [], Nat.zero_le _, rfl, Lib.hid jm_start, HP⟩
  case round =>
    obtain ⟨i, N, m, hi, rfl, HJ, HO⟩ := hrel
    by_cases hin : i < n
    rotate_left
    · have HF : Hid (Own w R wr) := Lib.hid HO.out.drop.drop
      go_wp2_with fail
      apply HK.out
      exact HF.out
    by_cases h60 : i < 60
    rotate_left
    · have HF : Hid (Own w R wr) := Lib.hid HO.out.drop.drop
      go_wp2_with fail
      apply HK.out
      exact HF.out
    obtain ⟨a, eb, eo, es, rfl, e1, hce⟩ := pcs_later_at HPL.out i (by rw [← HLN.out]; exact hin)
    obtain ⟨x, hx⟩ : ∃ x, x = pcAt L i := ⟨_, rfl⟩
    rw [← hx] at hce
    obtain ⟨c0, c1, c2⟩ := hce _ _ HO.out
    obtain ⟨E, hE⟩ : ∃ E, E = joErr N m x := ⟨_, rfl⟩
    obtain ⟨N', hN'⟩ : ∃ E, E = joN N m x := ⟨_, rfl⟩
    obtain ⟨m', hm'⟩ : ∃ E, E = joM N m x := ⟨_, rfl⟩
    obtain ⟨B, hB⟩ : ∃ E, E = (decide (joErr N m x = 0) && (mget m x.at').isNone) := ⟨_, rfl⟩
    have hj2 := HJ.out.take x
    rw [← hN', ← hm'] at hj2
    have hbb : (B == B) = true := by simp
    have hN6 := hj2.le
    have hmS := hj2.small
    have HX := Lib.hid hx; have HE := Lib.hid hE; have HN' := Lib.hid hN'; have HM' := Lib.hid hm'; have HB := Lib.hid hB; have HJ2 := Lib.hid hj2; have HCE := Lib.hid hce; have HMS := Lib.hid hmS
    clear hx hE hN' hm' hB hj2 hce hmS
    go_wp2_with fail
    refine (jrTake_any q N HJ.out.le m x (HO.out.perm (show _ = JrP q N m * (JoP p mb N m * R) by ac_rfl))).mono ?_
    rintro e w2 ⟨rfl, ho⟩
    rw [← HB.out, ← HE.out]
    rw [← HN'.out, ← HM'.out] at ho
    have HO2 := Lib.hid ho
    clear ho c0 c1 c2
    obtain ⟨c0, c1, c2⟩ := HCE.out _ _ HO2.out
    go_wp2_with fail
    refine (joTake_any p mb N HJ.out.le m x (HO2.out.perm (show _ = JoP p mb N m * (JrP q N' m' * R) by ac_rfl))).mono ?_
    rintro e w3 ⟨rfl, ho⟩
    rw [← HB.out, ← HE.out]
    rw [← HN'.out, ← HM'.out] at ho
    have HO3 := Lib.hid ho
    clear ho c0 c1 c2 HO2
    go_wp2_with fail
    refine (sameErr_any HG.out E E HO3.out).mono ?_
    rintro e w4 ⟨rfl, ho⟩
    rw [show ((E : Int) == (E : Int)) = true by simp]
    have HO4 := Lib.hid ho
    clear ho HO3
    go_wp2_with fail
    refine (jrLacks_any q N' hN6 m' (HO4.out.perm (show _ = JrP q N' m' * (JoP p mb N' m' * R) by ac_rfl))).mono ?_
    rintro e w5 ⟨kv, rfl, ho⟩
    obtain ⟨kad, kcap, rfl, hk1, hk2, _, _⟩ := ho.rd
    obtain ⟨K, hK⟩ : ∃ K, K = joLacks N' m' := ⟨_, rfl⟩
    obtain ⟨kn, hkn⟩ : ∃ k, k = K.length := ⟨_, rfl⟩
    rw [← hK] at ho
    rw [← hK, ← hkn]
    rw [← hK, ← hkn] at hk1
    rw [← hkn] at ho
    have HO5 := Lib.hid ho
    obtain ⟨F, hF⟩ : ∃ F, F = joFull N' m' := ⟨_, rfl⟩
    obtain ⟨X, hX⟩ : ∃ X, X = joText N' m' := ⟨_, rfl⟩
    obtain ⟨G, hGG⟩ : ∃ G : Nat, G = if F = true then 0 else 5 := ⟨_, rfl⟩
    have hFK : F = (decide (N' ≠ 0) && decide (kn = 0)) := by
      rw [hF, hkn]; unfold joFull; rw [← hK]
      cases K <;> simp
    have hki : ∀ x ∈ K, I64 x := by
      intro x hx
      rw [hK] at hx
      unfold joLacks memJ at hx
      obtain ⟨h1, _⟩ := List.mem_filter.1 hx
      obtain ⟨j, hj, rfl⟩ := List.mem_map.1 h1
      have := List.mem_range.1 hj
      unfold I64; omega
    have hXF : X = if F = true then ⟨(joCat m' N').toArray⟩ else ⟨#[]⟩ := by rw [hX, hF]; rfl
    clear HO4
    obtain ⟨c0, _, _, _⟩ := (ho.perm (star_left_comm _ _ _)).jr_facts
    clear ho
    have HK := Lib.hid hK; have HKN := Lib.hid hkn; have HF := Lib.hid hF; have HX := Lib.hid hX; have HGG := Lib.hid hGG; have HFK := Lib.hid hFK; have HXF := Lib.hid hXF; have HKI := Lib.hid hki
    clear hK hkn hF hX hGG hFK hXF hki
    go_upto_region 22 with fail
    go_cut [102] from 93 to 102 (fun c wx => ptA F w5 c wx)
    case first =>
      by_cases h0 : N' = 0
      · have hfe : F = false := by rw [HFK.out]; simp [h0]
        have t0 : ((N' : Int) == 0) = true := by rw [beq_iff_eq]; omega
        have HF2 := Lib.hid hfe
        clear hfe
        have H0 := Lib.hid h0
        clear h0
        go_wp2_with fail
        go_meet
        exact ⟨by rw [HF2.out]; rfl, rfl⟩
      have t0 : ((N' : Int) == 0) = false := by rw [beq_eq_false_iff_ne]; omega
      have hfk := HFK.out
      rw [decide_eq_true h0, Bool.true_and] at hfk
      have HX5 := Lib.hid HO5.out
      clear HO5 HFK HKN
      have H0 := Lib.hid h0
      clear h0
      cases kn with
      | zero =>
        have hfe : F = true := by rw [hfk]; rfl
        have HFE := Lib.hid hfe; have HFK := Lib.hid hfk
        clear hfe hfk
        go_wp2_with fail
        go_meet
        exact ⟨by rw [HFE.out]; rfl, rfl⟩
      | succ kn =>
        have hfe : F = false := by rw [hfk]; simp
        have HFE := Lib.hid hfe; have HFK := Lib.hid hfk
        clear hfe hfk
        go_wp2_with fail
        go_meet
        exact ⟨by rw [HFE.out]; rfl, rfl⟩
    case rest =>
    obtain ⟨rfl, rfl⟩ := hcut
    clear c0
    go_upto_if 102 with fail
    go_cut [16, 21] from 103 to 104 (fun e t wx => ptB w (IntSl (.slice kad kn kcap) K * (JrP q N' m' * (JoP p mb N' m' * R))) G X e t wx)
    case first =>
      cases F
      · have hge : G = 5 := by rw [HGG.out]; rfl
        have hxe : X = ⟨#[]⟩ := by rw [HXF.out]; rfl
        have HGE := Lib.hid hge; have HXE := Lib.hid hxe
        clear hge hxe
        go_wp2_with fail
        go_meet
        exact ⟨by rw [HGE.out]; rfl, by rw [HXE.out], HO5.out⟩
      · have hge : G = 0 := by rw [HGG.out]; rfl
        have hxe : X = ⟨(joCat m' N').toArray⟩ := by rw [HXF.out]; rfl
        have HGE := Lib.hid hge; have HXE := Lib.hid hxe
        clear hge hxe
        go_wp2_with fail
        refine (jrText_any q N' hN6 m' HMS.out (HO5.out.perm (star_left_comm _ _ _))).mono ?_
        rintro e w6 ⟨rfl, ho⟩
        have HO6 := Lib.hid (ho.perm (star_left_comm _ _ _))
        clear ho
        go_wp2_with fail
        go_meet
        exact ⟨by rw [HGE.out]; rfl, by rw [HXE.out], HO6.out⟩
    case rest =>
    obtain ⟨rfl, rfl, ho⟩ := hcut
    have HO6 := Lib.hid ho
    clear ho HO5
    have xx := str_same' X
    have XX := Lib.hid xx
    clear xx
    go_wp2_with fail
    refine (joText_any p mb N' hN6 m' HMS.out (HO6.out.perm (show _ = JoP p mb N' m' * (IntSl (.slice kad kn kcap) K * (JrP q N' m' * R)) by ac_rfl))).mono ?_
    rintro e w7 ⟨rfl, ho⟩
    rw [← HX.out, ← HF.out, ← HGG.out]
    have HO7 := Lib.hid ho
    clear ho HO6
    go_wp2_with fail
    refine (sameErr_any HG.out G G HO7.out).mono ?_
    rintro e w8 ⟨rfl, ho⟩
    rw [show ((G : Int) == (G : Int)) = true by simp]
    have HO8 := Lib.hid ho
    have xx := XX.out
    clear ho HO7
    go_wp2_with fail
    refine (joLacks_any p mb N' hN6 m' HO8.out).mono ?_
    rintro e w9 ⟨v9, rfl, ho⟩
    rw [← HK.out] at ho
    have HO9 := Lib.hid ho
    clear ho HO8
    go_wp2_with fail
    refine (sameInts_any v9 (.slice kad kn kcap) K K _ (IntSl_reads HKI.out _ HO9.out) (IntSl_reads HKI.out _ (HO9.out.perm (show _ = IntSl (.slice kad kn kcap) K * (IntSl v9 K * (JoP p mb N' m' * (JrP q N' m' * R))) by ac_rfl)))).mono ?_
    rintro e w10 ⟨rfl, nd, rfl⟩
    rw [show (K == K) = true by simp]
    have HOA : Hid (Own w (JoP p mb N' m' * (JrP q N' m' * R)) (w9.drewN nd)) := Lib.hid ((HO9.out.drewN _).drop.perm (show _ = IntSl (.slice kad kn kcap) K * (JoP p mb N' m' * (JrP q N' m' * R)) by ac_rfl)).drop
    clear HO9
    go_wp2_with fail
    go_roundw
    case rel => exact ⟨i + 1, N', m', by omega, by go_num, HJ2, HOA⟩
    case measure => simp [intOf]; omega
end Go.Proofs.YtbfiahdddbcebaaDoor
