/- ViewTells: what is wrong with any view, the next one, any chain, and who is in both. -/
import Derived.Test.YtdeeephdojflpaaDoorViewTellsR
import Derived.Test.YtdeeephdojflpaaDoorViewOneP
namespace Go.Proofs.YtdeeephdojflpaaDoor
set_option linter.unusedVariables false
set_option linter.unusedSimpArgs false
open Go.RowKit
def vtWant (n : Int) (A H : List Int) (vh : Value) : Value := if nextErr n A H = 0 then vh else .slice none 0 0
theorem vtWant_reads {w : World} {R : HProp} {n : Int} {A H : List Int} {vh : Value} (h : Reads w R vh H) : Reads w R (vtWant n A H vh) (nextHas n A H) := by
  unfold vtWant nextHas
  split
  · exact h
  · exact (Ints_nil w).reads
theorem refNext_or {n : Int} {A H : List Int} {E F : Nat} (hE : E = viewErr n A) (hF : F = nextErr n A H) : F = if E = 0 then refNextErr n A H else E := by
  split
  · rename_i h; rw [hF, nextErr_ref (by omega)]
  · rename_i h; rw [hF]; unfold nextErr; rw [if_pos (by omega), hE]
set_option maxRecDepth 100000 in
set_option maxHeartbeats 4000000 in
theorem viewTells_law (w : World) (hg : As.Handle w) (v : Value) (x : Int × Value × List Int) (hx : v = .agg #[.int .i64 x.1, x.2.1] ∧ I64 x.1 ∧ Ints w x.2.1 x.2.2) (vh : Value) (H : List Int) (hh : Ints w vh H) (vl : Value) (L : List (Int × Value × List Int)) (hl : Rd w vl L.length (L.flatMap vwCells3) ∧ ∀ y ∈ L, I64 y.1 ∧ Ints w y.2.1 y.2.2) (vw : Value) (z : Int × Value × List Int) (hz : vw = .agg #[.int .i64 z.1, z.2.1] ∧ I64 z.1 ∧ Ints w z.2.1 z.2.2) :
    Calls Tryd.prog 9 #[v, vh, vl, vw] w fun e w' => e = .returned (.bool true) ∧ Below w.heap.size w w' := by
  obtain ⟨n, va, A⟩ := x
  obtain ⟨m, vb, B⟩ := z
  obtain ⟨rfl, _, hA⟩ := hx
  obtain ⟨rfl, _, hB⟩ := hz
  simp only at hA hB ⊢
  obtain ⟨ad, acap, rfl, hac1, hac2⟩ := hA.shape
  obtain ⟨bd, bcap, rfl, hbc1, hbc2⟩ := hB.shape
  obtain ⟨hd, hcap, rfl, hhc1, hhc2⟩ := hh.shape
  have hLR : ∀ R, ReadsV w R vl L := fun R => ⟨fun w' ho => hl.1.later ho, fun y hy => (hl.2 y hy).2.reads⟩
  have hLI : ∀ y ∈ L, I64 y.1 := fun y hy => (hl.2 y hy).1
  obtain ⟨ld, lcap, rfl, hlc1, hlc2⟩ := (hLR emp).shape (Own.start w)
  obtain ⟨o1, ho1⟩ : ∃ o, o = Obj.cells #[.int .i64 n, .slice ad A.length acap] 68 (0, 0) := ⟨_, rfl⟩
  obtain ⟨o2, ho2⟩ : ∃ o, o = Obj.cells #[.int .i64 m, .slice bd B.length bcap] 68 (0, 0) := ⟨_, rfl⟩
  obtain ⟨b1, hb1⟩ : ∃ c, c = w.heap.size := ⟨_, rfl⟩
  obtain ⟨b2, hb2⟩ : ∃ c, c = (w.alloc o1).heap.size := ⟨_, rfl⟩
  obtain ⟨w2, hw2⟩ : ∃ c, c = (w.alloc o1).alloc o2 := ⟨_, rfl⟩
  have hb2' : w.heap.size + 1 = b2 := by rw [hb2]; simp
  have h2 := ((Own.start w).alloc o1).alloc o2
  rw [← hb1, ← hb2, ← hw2, ho1, ho2] at h2
  obtain ⟨RR, hRR⟩ : ∃ RR, RR = VwO b1 n (.slice ad A.length acap) * (VwO b2 m (.slice bd B.length bcap) * emp) := ⟨_, rfl⟩
  have HV2 : Hid (Own w RR w2) := Lib.hid (by rw [hRR]; exact h2.perm (star_left_comm _ _ _))
  have HC : Hid (∀ (R : HProp) w', Own w (R * RR) w' → w'.cell? ⟨b1, 0, none⟩ = some (.int .i64 n) ∧ w'.cell? ⟨b1, 1, none⟩ = some (.slice ad A.length acap) ∧ w'.cell? ⟨b2, 0, none⟩ = some (.int .i64 m) ∧ w'.cell? ⟨b2, 1, none⟩ = some (.slice bd B.length bcap)) := Lib.hid (fun R w' ho => by
    have h1 := ho.drop
    rw [hRR] at h1
    obtain ⟨a1, a2, _⟩ := h1.vw
    obtain ⟨a3, a4, _⟩ := (h1.drop).vw
    exact ⟨a1, a2, a3, a4⟩)
  obtain ⟨c0, c1, c2, c3⟩ := HC.out emp w2 (by rw [emp_star]; exact HV2.out)
  have HAR : Hid (∀ R, Reads w R (.slice ad A.length acap) A) := Lib.hid (fun R => hA.reads)
  have HBR : Hid (∀ R, Reads w R (.slice bd B.length bcap) B) := Lib.hid (fun R => hB.reads)
  have HHR : Hid (∀ R, Reads w R (.slice hd H.length hcap) H) := Lib.hid (fun R => hh.reads)
  have HLR := Lib.hid hLR; have HLI := Lib.hid hLI; have HG := Lib.hid hg
  clear h2 hRR hA hB hh hl hLR hLI hb2 hg
  obtain ⟨E, hE⟩ : ∃ E, E = viewErr n A := ⟨_, rfl⟩
  obtain ⟨F, hF⟩ : ∃ F, F = nextErr n A H := ⟨_, rfl⟩
  have hFE := refNext_or hE hF
  have HE := Lib.hid hE; have HF := Lib.hid hF; have HFE := Lib.hid hFE
  clear hE hF hFE
  go_enter Tryd.func9, Tryd.ntmps9
  go_upto_region 1 with fail
  rw [← hb1, ← ho1, ← ho2, ← hw2]
  clear hb2' hb1 ho1 ho2 hw2
  go_wp2_with fail
  refine (refView_any n _ A HV2.out (HAR.out _)).mono ?_
  rintro e w3 ⟨rfl, ho⟩
  rw [← HE.out]
  obtain ⟨c0, c1, c2, c3⟩ := HC.out emp w3 (by rw [emp_star]; exact ho)
  have HO3 := Lib.hid ho
  clear ho
  go_wp2_with fail
  refine (viewCheck_any n _ A HO3.out (HAR.out _)).mono ?_
  rintro e w4 ⟨rfl, ho⟩
  rw [← HE.out]
  have HO4 := Lib.hid ho
  clear ho
  go_wp2_with fail
  refine (sameErr_any HG.out E (E : Int) HO4.out).mono ?_
  rintro e w5 ⟨rfl, ho⟩
  rw [show ((E : Int) == (E : Int)) = true by simp]
  obtain ⟨c0, c1, c2, c3⟩ := HC.out emp w5 (by rw [emp_star]; exact ho)
  have HO5 := Lib.hid ho
  clear ho
  go_upto_if 31 with fail
  go_cut [11] (fun fv wx => fv = .int .i64 (F : Int) ∧ Own w RR wx)
  case first =>
    by_cases h0 : E = 0
    · have t0 : ((E : Int) == 0) = true := by rw [beq_iff_eq]; omega
      have hv0 := viewErr0 (show viewErr n A = 0 by rw [← HE.out]; exact h0)
      have hA5 := (memErr_len hv0.2).2
      have hfe_ := HFE.out
      rw [if_pos h0] at hfe_
      have H0 := Lib.hid h0; have HV0 := Lib.hid hv0; have HFE_ := Lib.hid hfe_
      clear h0 hv0 hfe_
      go_wp2_with fail
      refine (refNext_any n _ _ A H HO5.out (HAR.out _) (HHR.out _) (by omega)).mono ?_
      rintro e w6 ⟨rfl, ho⟩
      rw [← HFE_.out]
      have HO6 := Lib.hid ho
      clear ho
      go_wp2_with fail
      go_meet
      exact ⟨rfl, HO6.out⟩
    · have t0 : ((E : Int) == 0) = false := by rw [beq_eq_false_iff_ne]; omega
      have hfe_ := HFE.out
      rw [if_neg h0] at hfe_
      have H0 := Lib.hid h0; have HFE_ := Lib.hid hfe_
      clear h0 hfe_
      go_wp2_with fail
      go_meet
      exact ⟨by rw [HFE_.out], HO5.out⟩
  case rest =>
  obtain ⟨rfl, ho⟩ := hcut
  obtain ⟨b3, hb_b3⟩ : ∃ zz_, zz_ = (wc).heap.size := ⟨_, rfl⟩
  obtain ⟨w7, hw_w7⟩ : ∃ zz_, zz_ = (wc).alloc (.cells #[.int .i64 0, .slice none 0 0] 68 (0, 0)) := ⟨_, rfl⟩
  have h_HO7 := (ho).alloc (.cells #[.int .i64 0, .slice none 0 0] 68 (0, 0))
  rw [← hb_b3, ← hw_w7] at h_HO7
  have HO7 := Lib.hid h_HO7
  clear h_HO7
  have HW7 : Hid (Own w (VwO b3 0 (.slice none 0 0) * RR) w7) := HO7
  clear ho HO7 c0 c1 c2 c3 HO5
  go_upto_region 7 with fail
  rw [← hb_b3, ← hw_w7]
  clear hb_b3 hw_w7
  obtain ⟨c0, c1, c2, c3⟩ := HC.out _ w7 HW7.out
  obtain ⟨d0, d1, d4⟩ := HW7.out.vw
  go_upto_if 36 with fail
  go_cut [37] (fun fv wx => Own w (VwO b3 (nextN n A H) (vtWant n A H (.slice hd H.length hcap)) * RR) wx)
  case first =>
    by_cases h0 : F = 0
    · have hx0 : nextErr n A H = 0 := by rw [← HF.out]; exact h0
      have hN : nextN n A H = n + 1 := by unfold nextN; rw [if_pos hx0]
      have hW : vtWant n A H (.slice hd H.length hcap) = .slice hd H.length hcap := by unfold vtWant; rw [if_pos hx0]
      have hnb := (viewErr0 (nextErr0 hx0).1).1
      have hn1 := hnb.1
      have hn2 := hnb.2
      have t0 : ((F : Int) == 0) = true := by rw [beq_iff_eq]; omega
      have d40 := d4 0 none
      have d41 := d4 1 none
      have hput := HW7.out.vw_put (n + 1) (.slice hd H.length hcap)
      have HPUT := Lib.hid hput
      have HX0 := Lib.hid hx0; have HNB := Lib.hid hnb; have H0 := Lib.hid h0; have HN := Lib.hid hN; have HW := Lib.hid hW
      clear hx0 hnb h0 hN hW
      clear d4 hput
      go_wp2_with fail
      go_meet
      rw [HN.out, HW.out]
      exact HPUT.out
    · have hx0 : nextErr n A H ≠ 0 := by rw [← HF.out]; exact h0
      have hN : nextN n A H = 0 := by unfold nextN; rw [if_neg hx0]
      have hW : vtWant n A H (.slice hd H.length hcap) = .slice none 0 0 := by unfold vtWant; rw [if_neg hx0]
      have t0 : ((F : Int) == 0) = false := by rw [beq_eq_false_iff_ne]; omega
      have HX0 := Lib.hid hx0; have H0 := Lib.hid h0; have HN := Lib.hid hN; have HW := Lib.hid hW
      clear hx0 h0 hN hW
      clear d4
      go_wp2_with fail
      go_meet
      rw [HN.out, HW.out]
      exact HW7.out
  case rest =>
  clear HW7 d0 d1 d4 c0 c1 c2 c3
  have hNXR := vtWant_reads (R := emp) (n := n) (A := A) (HHR.out emp)
  obtain ⟨N, hN⟩ : ∃ N, N = nextN n A H := ⟨_, rfl⟩
  obtain ⟨Hs, hHs⟩ : ∃ Hs, Hs = nextHas n A H := ⟨_, rfl⟩
  have hHsI : ∀ y ∈ Hs, I64 y := by
    rw [hHs]; unfold nextHas
    split
    · exact (HHR.out emp w (Own.start w)).2
    · intro y hy; cases hy
  have hWR : ∀ R, Reads w R (vtWant n A H (.slice hd H.length hcap)) Hs := fun R => by rw [hHs]; exact vtWant_reads (HHR.out R)
  obtain ⟨V, hV⟩ : ∃ V, V = vtWant n A H (.slice hd H.length hcap) := ⟨_, rfl⟩
  rw [← hN, ← hV] at hcut
  rw [← hV] at hWR
  have HW8 := Lib.hid hcut
  have HWR := Lib.hid hWR
  have HHSI := Lib.hid hHsI
  obtain ⟨c0, c1, c2, c3⟩ := HC.out _ _ hcut
  have HN := Lib.hid hN; have HHS := Lib.hid hHs; have HV := Lib.hid hV
  clear hN hHs hV
  clear hcut hNXR hWR hHsI
  go_wp2_with fail
  refine (viewNext_any n _ _ A H (HAR.out _) (HHR.out _) HW8.out).mono ?_
  rintro e w9 ⟨v9, rfl, ho⟩
  rw [← HN.out, ← HF.out]
  rw [← HHS.out] at ho
  obtain ⟨ad9, cap9, hv9, _⟩ := Own.rd ho
  subst hv9
  obtain ⟨b4, hb_b4⟩ : ∃ zz_, zz_ = (w9).heap.size := ⟨_, rfl⟩
  obtain ⟨w10, hw_w10⟩ : ∃ zz_, zz_ = (w9).alloc (.cells #[.int .i64 N, .slice ad9 Hs.length cap9] 68 (0, 0)) := ⟨_, rfl⟩
  have h_HO10 := (ho).alloc (.cells #[.int .i64 N, .slice ad9 Hs.length cap9] 68 (0, 0))
  rw [← hb_b4, ← hw_w10] at h_HO10
  have HO10 := Lib.hid h_HO10
  clear h_HO10
  clear ho c0 c1 c2 c3
  have HX : Hid (Own w (VwO b4 N (.slice ad9 Hs.length cap9) * (IntSl (.slice ad9 Hs.length cap9) Hs * (VwO b3 N V * RR))) w10) := HO10
  clear HO10
  go_upto_region 10 with fail
  rw [← hb_b4, ← hw_w10]
  clear hb_b4 hw_w10
  go_wp2_with fail
  refine (sameErr_any HG.out F (F : Int) HX.out).mono ?_
  rintro e w11 ⟨rfl, ho⟩
  rw [show ((F : Int) == (F : Int)) = true by simp]
  obtain ⟨g0, g1, _⟩ := ho.vw
  obtain ⟨k0, k1, _⟩ := (ho.perm (show _ = VwO b3 N V * (VwO b4 N (.slice ad9 Hs.length cap9) * (IntSl (.slice ad9 Hs.length cap9) Hs * RR)) by ac_rfl)).vw
  have HX11 := Lib.hid ho
  have hr9 : Reads w (VwO b4 N (.slice ad9 Hs.length cap9) * (IntSl (.slice ad9 Hs.length cap9) Hs * (VwO b3 N V * RR))) (.slice ad9 Hs.length cap9) Hs := (IntSl_reads HHSI.out).more
  have HR9 := Lib.hid hr9
  clear hr9
  clear ho HX
  go_wp2_with fail
  refine (sameView_any N N _ V Hs Hs HX11.out HR9.out (HWR.out _)).mono ?_
  rintro e w12 ⟨rfl, ho⟩
  rw [show (decide (N = N) && (Hs == Hs)) = true by simp]
  have HO12 : Hid (Own w RR w12) := Lib.hid ho.drop.drop.drop
  clear ho g0 g1 k0 k1 HX11
  obtain ⟨f0, hf0⟩ : ∃ f0 : Nat, f0 = if 60 < L.length then 4 else 0 := ⟨_, rfl⟩
  have hvt : vtAt L 0 f0 0 := by
    by_cases h6 : 60 < L.length
    · rw [if_pos h6] at hf0; subst hf0
      exact .inr ⟨by simp, by unfold chainR; rw [if_pos h6]⟩
    · rw [if_neg h6] at hf0; subst hf0
      exact .inl ⟨rfl, rfl, by unfold chainR; rw [if_neg h6]; rfl, fun y hy => by cases hy⟩
  have HF0 := Lib.hid hf0; have HVT := Lib.hid hvt
  clear hf0 hvt
  obtain ⟨D6, hD6⟩ : ∃ D6, decide ((60 : Int) < (L.length : Int)) = D6 := ⟨_, rfl⟩
  go_upto_if 58 with fail
  go_cut [11] (fun fv wx => fv = .int .i64 (f0 : Int) ∧ wx = w12)
  case first =>
    cases D6
    · have hf := HF0.out
      rw [if_neg (by have := of_decide_eq_false hD6; omega)] at hf
      subst hf
      have HD6 := Lib.hid hD6
      clear hD6
      go_wp2_with fail
      go_meet
      exact ⟨rfl, rfl⟩
    · have hf := HF0.out
      rw [if_pos (by have := of_decide_eq_true hD6; omega)] at hf
      subst hf
      have HD6 := Lib.hid hD6
      clear hD6
      go_wp2_with fail
      go_meet
      exact ⟨rfl, rfl⟩
  case rest =>
  obtain ⟨rfl, rfl⟩ := hcut
  clear hD6
  go_upto_block 0 with fail
  go_cut [11, 16] (fun fv av wx => fv = .int .i64 ((chainR L).2 : Nat) ∧ av = .int .i64 ((chainR L).1 : Nat) ∧ Own w RR wx)
  case first =>
    refine vtChain w RR lcap f0 ld L hlc1 hlc2 (Lib.hid (HLR.out _)) HLI HVT HO12 ?_
    intros
    go_step
    go_step
    go_meet
    assumption
  case rest =>
  obtain ⟨rfl, rfl, ho⟩ := hcut
  have HO13 := Lib.hid ho
  clear ho HO12
  obtain ⟨cf, hcf⟩ : ∃ cf, cf = (chainR L).2 := ⟨_, rfl⟩
  obtain ⟨ca, hca⟩ : ∃ ca, ca = (chainR L).1 := ⟨_, rfl⟩
  rw [← hcf, ← hca]
  have HCF := Lib.hid hcf; have HCA := Lib.hid hca
  clear hcf hca
  go_wp2_with fail
  refine (viewChain_any _ L (HLR.out _) HO13.out).mono ?_
  rintro e w14 ⟨rfl, ho⟩
  rw [← HCF.out, ← HCA.out]
  have HO14 := Lib.hid ho
  clear ho HO13
  go_wp2_with fail
  refine (sameErr_any HG.out cf (cf : Int) HO14.out).mono ?_
  rintro e w15 ⟨rfl, ho⟩
  rw [show ((cf : Int) == (cf : Int)) = true by simp]
  have HO15 := Lib.hid ho
  obtain ⟨c0, c1, c2, c3⟩ := HC.out emp w15 (by rw [emp_star]; exact ho)
  clear ho HO14
  obtain ⟨G, hG⟩ : ∃ G, G = vbothErr n A m B := ⟨_, rfl⟩
  have hGE : G = if E ≠ 0 then E else viewErr m B := by rw [hG, HE.out]; rfl
  have HGG := Lib.hid hG; have HGE := Lib.hid hGE
  clear hG hGE
  go_upto_if 142 with fail
  go_cut [9] (fun ev wx => ev = .int .i64 (G : Int) ∧ Own w RR wx)
  case first =>
    by_cases h0 : E = 0
    · have t0 : ((E : Int) == 0) = true := by rw [beq_iff_eq]; omega
      have hgv : G = viewErr m B := by rw [HGE.out, if_neg (by simpa using h0)]
      have H0 := Lib.hid h0; have HGV := Lib.hid hgv
      clear h0 hgv
      go_wp2_with fail
      refine (refView_any m _ B HO15.out (HBR.out _)).mono ?_
      rintro e w16 ⟨rfl, ho⟩
      rw [← HGV.out]
      have HO16 := Lib.hid ho
      clear ho
      go_wp2_with fail
      go_meet
      exact ⟨rfl, HO16.out⟩
    · have t0 : ((E : Int) == 0) = false := by rw [beq_eq_false_iff_ne]; omega
      have hgv : G = E := by rw [HGE.out, if_pos h0]
      have H0 := Lib.hid h0; have HGV := Lib.hid hgv
      clear h0 hgv
      go_wp2_with fail
      go_meet
      exact ⟨by rw [HGV.out], HO15.out⟩
  case rest =>
  obtain ⟨rfl, ho⟩ := hcut
  clear c0 c1 c2 c3 HO15
  obtain ⟨c0, c1, c2, c3⟩ := HC.out emp wc (by rw [emp_star]; exact ho)
  have HO16 := Lib.hid ho
  clear ho
  go_upto_if 146 with fail
  go_cut [20] (fun bv wx => Own w (IntSl bv (vbothHas n A m B) * RR) wx)
  case first =>
    by_cases h0 : G = 0
    · have t0 : ((G : Int) == 0) = true := by rw [beq_iff_eq]; omega
      have hb0 : vbothErr n A m B = 0 := by rw [← HGG.out]; exact h0
      have hbh : vbothHas n A m B = keepB B A := by unfold vbothHas; rw [if_pos hb0]
      have hA0 : viewErr n A = 0 := by
        by_cases h9 : viewErr n A = 0
        · exact h9
        · unfold vbothErr at hb0; rw [if_pos h9] at hb0; exact absurd hb0 h9
      have hA5 := (memErr_len (viewErr0 hA0).2).2
      have H0 := Lib.hid h0; have HB0 := Lib.hid hb0; have HBH := Lib.hid hbh; have HA0 := Lib.hid hA0
      clear h0 hb0 hbh hA0
      go_wp2_with fail
      refine (refShared_any _ _ A B HO16.out (HAR.out _) (HBR.out _) (by omega)).mono ?_
      rintro e w17 ⟨v17, rfl, ho⟩
      have HO17 := Lib.hid ho
      clear ho
      go_wp2_with fail
      go_meet
      rw [HBH.out]
      exact HO17.out
    · have t0 : ((G : Int) == 0) = false := by rw [beq_eq_false_iff_ne]; omega
      have hbh : vbothHas n A m B = [] := by unfold vbothHas; rw [if_neg (by rw [← HGG.out]; exact h0)]
      have H0 := Lib.hid h0; have HBH := Lib.hid hbh
      clear h0 hbh
      go_wp2_with fail
      go_meet
      rw [HBH.out]
      exact HO16.out.sl_nil _ _
  case rest =>
  clear c0 c1 c2 c3 HO16
  obtain ⟨c0, c1, c2, c3⟩ := HC.out _ wc hcut
  have HO17 := Lib.hid hcut
  clear hcut
  go_wp2_with fail
  refine (viewBoth_any n m _ _ A B (HAR.out _) (HBR.out _) HO17.out).mono ?_
  rintro e w18 ⟨v18, rfl, ho⟩
  rw [← HGG.out]
  have HO18 := Lib.hid ho
  clear ho
  go_wp2_with fail
  refine (sameErr_any HG.out G (G : Int) HO18.out).mono ?_
  rintro e w19 ⟨rfl, ho⟩
  rw [show ((G : Int) == (G : Int)) = true by simp]
  have hbI : ∀ y ∈ vbothHas n A m B, I64 y := by
    intro y hy
    unfold vbothHas at hy
    split at hy
    · exact (HAR.out emp w (Own.start w)).2 y (List.mem_filter.1 hy).1
    · cases hy
  have h1 := IntSl_reads (w0 := w) hbI _ ho
  have h2 := IntSl_reads (w0 := w) hbI _ ho.drop
  have HO19 := Lib.hid ho
  have H1 := Lib.hid h1; have H2 := Lib.hid h2; have HBI := Lib.hid hbI
  clear h1 h2 hbI
  clear ho
  go_wp2_with fail
  refine (sameInts_any _ _ _ _ _ H1.out H2.out).mono ?_
  rintro e w20 ⟨rfl, nq, rfl⟩
  rw [show (vbothHas n A m B == vbothHas n A m B) = true by simp]
  go_wp2
  go_ret
  exact ⟨rfl, (HO19.out.drewN _).below⟩
end Go.Proofs.YtdeeephdojflpaaDoor
