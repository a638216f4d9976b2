/- CauseWaits: an answer waits for its question. -/
import Derived.Test.YtldmdenojpnldaaDoorCause8
import Derived.Test.YtldmdenojpnldaaDoorCauseWaitsP
import Derived.Test.YtldmdenojpnldaaDoorTold
import Derived.Test.YtldmdenojpnldaaDoorLaid
namespace Go.Proofs.YtldmdenojpnldaaDoor
set_option linter.unusedVariables false
set_option linter.unusedSimpArgs false
open Go.RowKit
set_option maxRecDepth 100000 in
set_option maxHeartbeats 4000000 in
theorem causeWaits_early1 (w : World) (hg : As.Handle w) (a b c ww v : Int) (hbad : (isMember a && isMember b && isMember c) = false) :
    Calls Tryd.prog 6 #[.int .i64 a, .int .i64 b, .int .i64 c, .int .i64 ww, .int .i64 v] w fun e w' => e = .returned (.bool true) ∧ Below w.heap.size w w' := by
  have HW0 := Lib.hid (Own.start w)
  have h5 : isMember 5 = false := by decide
  cases hma : isMember a <;> cases hmb : isMember b <;> cases hmc : isMember c
  rotate_right
  · rw [hma, hmb, hmc] at hbad; cases hbad
  all_goals
    have H5 := Lib.hid h5; have HG := Lib.hid hg; have HBAD := Lib.hid hbad; have HMA := Lib.hid hma; have HMB := Lib.hid hmb; have HMC := Lib.hid hmc
    clear h5 hg hbad hma hmb hmc
    go_enter Tryd.func6, Tryd.ntmps6
    go_wp2_with fail
    first | refine (cwNew_w1 a HMA.out HW0.out).mono ?_ | refine (cwNew_w0 a HMA.out HW0.out).mono ?_
    rintro e w1 ⟨va, rfl, ho⟩
    have HO := Lib.hid ho
    clear ho
    go_wp2_with fail
    first | refine (cwNew_w1 b HMB.out HO.out).mono ?_ | refine (cwNew_w0 b HMB.out HO.out).mono ?_
    rintro e w2 ⟨vb, rfl, ho⟩
    have HO2 := Lib.hid ho
    clear ho
    go_wp2_with fail
    first | refine (cwNew_w1 c HMC.out HO2.out).mono ?_ | refine (cwNew_w0 c HMC.out HO2.out).mono ?_
    rintro e w3 ⟨vc, rfl, ho⟩
    have HO3 := Lib.hid ho
    clear ho
    go_wp2_with fail
    refine (cwNew_w0 5 H5.out HO3.out).mono ?_
    rintro e w4 ⟨vd, rfl, ho⟩
    have HO4 := Lib.hid ho
    clear ho
    go_wp2_with fail
    refine (sameErr_any HG.out 1 1 HO4.out).mono ?_
    rintro e w5 ⟨rfl, ho⟩
    have HO5 := Lib.hid ho
    clear ho
    go_wp2
    go_ret
    exact ⟨rfl, HO5.out.below⟩
set_option maxRecDepth 100000 in
set_option maxHeartbeats 4000000 in
theorem causeWaits_early2 (w : World) (hg : As.Handle w) (a b c ww v : Int) (hma : isMember a = true) (hmb : isMember b = true) (hmc : isMember c = true) (hbad : a = b ∨ b = c ∨ a = c) :
    Calls Tryd.prog 6 #[.int .i64 a, .int .i64 b, .int .i64 c, .int .i64 ww, .int .i64 v] w fun e w' => e = .returned (.bool true) ∧ Below w.heap.size w w' := by
  have HW0 := Lib.hid (Own.start w)
  have h5 : isMember 5 = false := by decide
  have hcs : (a == b) = true ∨ ((a == b) = false ∧ (b == c) = true) ∨ ((a == b) = false ∧ (b == c) = false ∧ (a == c) = true) := by
    by_cases h1 : a = b
    · exact .inl (by simpa using h1)
    by_cases h2 : b = c
    · exact .inr (.inl ⟨by simpa using h1, by simpa using h2⟩)
    · exact .inr (.inr ⟨by simpa using h1, by simpa using h2, by simpa using (hbad.resolve_left h1).resolve_left h2⟩)
  have H5 := Lib.hid h5; have HG := Lib.hid hg; have HBAD := Lib.hid hbad; have HMA := Lib.hid hma; have HMB := Lib.hid hmb; have HMC := Lib.hid hmc
  clear h5 hg hbad hma hmb hmc
  rcases hcs with t1 | ⟨t1, t2⟩ | ⟨t1, t2, t3⟩
  all_goals
    go_enter Tryd.func6, Tryd.ntmps6
    go_wp2_with fail
    refine (cwNew_w1 a HMA.out HW0.out).mono ?_
    rintro e w1 ⟨va, rfl, ho⟩
    have HO := Lib.hid ho
    clear ho
    go_wp2_with fail
    refine (cwNew_w1 b HMB.out HO.out).mono ?_
    rintro e w2 ⟨vb, rfl, ho⟩
    have HO2 := Lib.hid ho
    clear ho
    go_wp2_with fail
    refine (cwNew_w1 c HMC.out HO2.out).mono ?_
    rintro e w3 ⟨vc, rfl, ho⟩
    have HO3 := Lib.hid ho
    clear ho
    go_wp2_with fail
    refine (cwNew_w0 5 H5.out HO3.out).mono ?_
    rintro e w4 ⟨vd, rfl, ho⟩
    have HO4 := Lib.hid ho
    clear ho
    go_wp2_with fail
    refine (sameErr_any HG.out 1 1 HO4.out).mono ?_
    rintro e w5 ⟨rfl, ho⟩
    have HO5 := Lib.hid ho
    clear ho
    go_wp2
    go_ret
    exact ⟨rfl, HO5.out.below⟩
set_option maxRecDepth 100000 in
set_option maxHeartbeats 4000000 in
theorem causeWaits_good (w : World) (hg : As.Handle w) (a b c ww v : Int) (hma : isMember a = true) (hmb : isMember b = true) (hmc : isMember c = true) (hab : a ≠ b) (hbc : b ≠ c) (hac : a ≠ c) :
    Calls Tryd.prog 6 #[.int .i64 a, .int .i64 b, .int .i64 c, .int .i64 ww, .int .i64 v] w fun e w' => e = .returned (.bool true) ∧ Below w.heap.size w w' := by
  have t1 : (a == b) = false := by simpa using hab
  have t2 : (b == c) = false := by simpa using hbc
  have t3 : (a == c) = false := by simpa using hac
  have HW0 := Lib.hid (Own.start w)
  have HIA := Lib.hid (CaI.new hma)
  have HIB := Lib.hid (CaI.new hmb)
  have HIC := Lib.hid (CaI.new hmc)
  have HG := Lib.hid hg; have HMA := Lib.hid hma; have HMB := Lib.hid hmb; have HMC := Lib.hid hmc; have HAB := Lib.hid hab; have HBC := Lib.hid hbc; have HAC := Lib.hid hac
  clear hg hma hmb hmc hab hbc hac
  go_enter Tryd.func6, Tryd.ntmps6
  go_wp2_with fail
  refine (cwNew_yes a HMA.out HW0.out).mono ?_
  rintro e w1 ⟨px, rfl, ho⟩
  rw [errV0]
  have HO := Lib.hid ho
  clear ho
  go_wp2_with fail
  refine (cwNew_yes b HMB.out HO.out).mono ?_
  rintro e w2 ⟨py, rfl, ho⟩
  rw [errV0]
  have HO2 := Lib.hid ho
  clear ho HO
  go_wp2_with fail
  refine (cwNew_yes c HMC.out HO2.out).mono ?_
  rintro e w3 ⟨pz, rfl, ho⟩
  rw [errV0]
  have HO3 : Hid (Own w (CwP px (caNew a) * (CwP py (caNew b) * (CwP pz (caNew c) * emp))) w3) := Lib.hid (ho.perm (by ac_rfl))
  clear ho HO2
  go_wp2_with fail
  refine (cwSay_any px (caNew a) ww HIA.out HO3.out).mono ?_
  rintro e w4 ⟨v1, rfl, ho⟩
  cases hw : isWord ww
  · have hE : caSayErr (caNew a) ww = 1 := by unfold caSayErr; rw [if_pos hw]
    have hx : ww < 1 ∨ (¬ ww < 1 ∧ 30 < ww) := by simp [isWord] at hw; omega
    rw [hE, show errV 1 = .iface 129 (.int .i64 1) from rfl]
    obtain ⟨ad, cp, rfl⟩ := Own.int_shape ho
    have HO4 := Lib.hid ho
    have HW := Lib.hid hw; have HE := Lib.hid hE
    clear hw hE
    clear ho
    rcases hx with hx | ⟨hx, hy⟩
    all_goals
      go_wp2
      go_ret
      exact ⟨rfl, (HO4.out.alloc' _).below⟩
  have hEw : caSayErr (caNew a) ww = 0 := (cwaits_plain (v := 1) HMA.out HMB.out HMC.out hw (by decide) HAB.out HBC.out HAC.out).1
  have hSok := caSaid_ok HIA.out hEw
  rw [hEw, errV0]
  obtain ⟨S, hS⟩ : ∃ S, S = caSaid (caNew a) ww := ⟨_, rfl⟩
  rw [← hS] at ho hSok ⊢
  have hSI := vecErr_I64 (sdErr0 hSok).2.2
  obtain ⟨ad1, cp1, rfl⟩ := Own.int_shape ho
  obtain ⟨V1, hV1⟩ : ∃ V, V = Value.slice ad1 S.clk.length cp1 := ⟨_, rfl⟩
  have hone : (Value.slice ad1 S.clk.length cp1) = V1 := hV1.symm
  obtain ⟨b1, hb_b1⟩ : ∃ zz_, zz_ = (w4).heap.size := ⟨_, rfl⟩
  obtain ⟨w5, hw_w5⟩ : ∃ zz_, zz_ = (w4).alloc (.cells #[.int .i64 S.who, .int .i64 S.word, .slice ad1 S.clk.length cp1] 56 (0, 0)) := ⟨_, rfl⟩
  have h_HB5 := (ho).alloc (.cells #[.int .i64 S.who, .int .i64 S.word, .slice ad1 S.clk.length cp1] 56 (0, 0))
  rw [← hb_b1, ← hw_w5] at h_HB5
  have HB5 := Lib.hid h_HB5
  clear h_HB5
  obtain ⟨x0, x1, x2, _⟩ := (show Own w (SdO b1 S.who S.word (.slice ad1 S.clk.length cp1) * _) w5 from HB5.out).sd
  have HO5 : Hid (Own w (CwP py (caNew b) * (IntSl (.slice ad1 S.clk.length cp1) S.clk * (SdO b1 S.who S.word (.slice ad1 S.clk.length cp1) * (CwP pz (caNew c) * emp)))) w5) := Lib.hid ((HB5.out.perm (show _ = CwP px (caSay (caNew a) ww) * (CwP py (caNew b) * (IntSl (.slice ad1 S.clk.length cp1) S.clk * (SdO b1 S.who S.word (.slice ad1 S.clk.length cp1) * (CwP pz (caNew c) * emp)))) by unfold SdO; ac_rfl)).drop)
  clear ho HB5 HO3 hone hV1 V1
  have HW := Lib.hid hw
  have HEW := Lib.hid hEw
  have HS := Lib.hid hS
  have HSI := Lib.hid hSI
  have HSOK := Lib.hid hSok
  clear hw hEw hS hSI hSok
  go_upto_region 8 with fail
  rw [← hb_b1, ← hw_w5]
  clear hb_b1 hw_w5
  go_wp2_with fail
  refine (cwTake_any py (caNew b) S _ HIB.out (fun w' h' => IntSl_reads HSI.out _ h') HO5.out).mono ?_
  rintro e w6 ⟨v2, rfl, ho⟩
  have HIY := Lib.hid (HIB.out.take S)
  obtain ⟨Y1, hY1⟩ : ∃ Y, Y = caTake (caNew b) S := ⟨_, rfl⟩
  obtain ⟨O1, hO1⟩ : ∃ Y, Y = caOut (caNew b) S := ⟨_, rfl⟩
  obtain ⟨E2, hE2⟩ : ∃ Y, Y = caErr (caNew b) S := ⟨_, rfl⟩
  rw [← hY1] at HIY
  rw [← hY1, ← hO1] at ho
  rw [← hE2]
  obtain ⟨x0', x1', x2', _⟩ := (ho.perm (show _ = SdO b1 S.who S.word (.slice ad1 S.clk.length cp1) * (IntSl v2 O1 * (CwP py Y1 * (IntSl (.slice ad1 S.clk.length cp1) S.clk * (CwP pz (caNew c) * emp)))) by ac_rfl)).sd
  have HO6 : Hid (Own w (CwP py Y1 * (IntSl v2 O1 * (IntSl (.slice ad1 S.clk.length cp1) S.clk * (SdO b1 S.who S.word (.slice ad1 S.clk.length cp1) * (CwP pz (caNew c) * emp))))) w6) := Lib.hid (ho.perm (by ac_rfl))
  clear ho HO5 x0 x1 x2
  have HY1 := Lib.hid hY1; have HO1 := Lib.hid hO1; have HE2 := Lib.hid hE2
  clear hY1 hO1 hE2
  go_wp2_with fail
  refine (cwSay_any py Y1 v HIY.out HO6.out).mono ?_
  rintro e w7 ⟨v3, rfl, ho⟩
  cases hv : isWord v
  · have hE : caSayErr Y1 v = 1 := by unfold caSayErr; rw [if_pos hv]
    have hx : v < 1 ∨ (¬ v < 1 ∧ 30 < v) := by simp [isWord] at hv; omega
    rw [hE, show errV 1 = .iface 129 (.int .i64 1) from rfl]
    obtain ⟨ad, cp, rfl⟩ := Own.int_shape ho
    have HO4 := Lib.hid ho
    have HV := Lib.hid hv; have HE := Lib.hid hE
    clear hv hE
    clear ho
    rcases hx with hx | ⟨hx, hy⟩
    all_goals
      go_wp2
      go_ret
      exact ⟨rfl, (HO4.out.alloc' _).below⟩
  have P := cwaits_plain (v := v) HMA.out HMB.out HMC.out HW.out hv HAB.out HBC.out HAC.out
  rw [← HS.out, ← HY1.out, ← HO1.out, ← HE2.out] at P
  obtain ⟨_, p2, p3, p4, p5, p6, p7, p8, p9, p10, p11, p12, p13⟩ := P
  have hTok := caSaid_ok HIY.out p4
  rw [p4, errV0]
  obtain ⟨T, hT⟩ : ∃ S, S = caSaid Y1 v := ⟨_, rfl⟩
  rw [← hT] at ho hTok p5 p6 p7 p8 p9 p10 p11 p12 p13 ⊢
  have hTI := vecErr_I64 (sdErr0 hTok).2.2
  obtain ⟨ad3, cp3, rfl⟩ := Own.int_shape ho
  obtain ⟨b2, hb_b2⟩ : ∃ zz_, zz_ = (w7).heap.size := ⟨_, rfl⟩
  obtain ⟨w8, hw_w8⟩ : ∃ zz_, zz_ = (w7).alloc (.cells #[.int .i64 T.who, .int .i64 T.word, .slice ad3 T.clk.length cp3] 56 (0, 0)) := ⟨_, rfl⟩
  have h_HB8 := (ho).alloc (.cells #[.int .i64 T.who, .int .i64 T.word, .slice ad3 T.clk.length cp3] 56 (0, 0))
  rw [← hb_b2, ← hw_w8] at h_HB8
  have HB8 := Lib.hid h_HB8
  clear h_HB8
  obtain ⟨y0, y1, y2, _⟩ := (show Own w (SdO b2 T.who T.word (.slice ad3 T.clk.length cp3) * _) w8 from HB8.out).sd
  have HO8 : Hid (Own w (CwP pz (caNew c) * (IntSl v2 O1 * (IntSl (.slice ad1 S.clk.length cp1) S.clk * (IntSl (.slice ad3 T.clk.length cp3) T.clk * (SdO b1 S.who S.word (.slice ad1 S.clk.length cp1) * (SdO b2 T.who T.word (.slice ad3 T.clk.length cp3) * emp)))))) w8) := Lib.hid ((HB8.out.perm (show _ = CwP py (caSay Y1 v) * (CwP pz (caNew c) * (IntSl v2 O1 * (IntSl (.slice ad1 S.clk.length cp1) S.clk * (IntSl (.slice ad3 T.clk.length cp3) T.clk * (SdO b1 S.who S.word (.slice ad1 S.clk.length cp1) * (SdO b2 T.who T.word (.slice ad3 T.clk.length cp3) * emp)))))) by unfold SdO; ac_rfl)).drop)
  clear ho HB8 HO6 x0' x1' x2'
  have HV := Lib.hid hv
  clear hv
  have HTT := Lib.hid hT
  clear hT
  have HTI := Lib.hid hTI; have HTOK := Lib.hid hTok; have P2 := Lib.hid p2; have P3 := Lib.hid p3; have P4 := Lib.hid p4; have P5 := Lib.hid p5; have P6 := Lib.hid p6; have P7 := Lib.hid p7; have P8 := Lib.hid p8; have P9 := Lib.hid p9; have P10 := Lib.hid p10; have P11 := Lib.hid p11; have P12 := Lib.hid p12; have P13 := Lib.hid p13
  clear hTI hTok p2 p3 p4 p5 p6 p7 p8 p9 p10 p11 p12 p13
  go_upto_region 12 with fail
  rw [← hb_b2, ← hw_w8]
  clear hb_b2 hw_w8
  go_wp2_with fail
  refine (cwTake_any pz (caNew c) T _ HIC.out (fun w' h' => IntSl_reads HTI.out _ h'.drop.drop) HO8.out).mono ?_
  rintro e w9 ⟨v4, rfl, ho⟩
  have HIZ := Lib.hid (HIC.out.take T)
  rw [P5.out, errV0]
  rw [P6.out] at ho
  obtain ⟨Z1, hZ1⟩ : ∃ Y, Y = caTake (caNew c) T := ⟨_, rfl⟩
  rw [← hZ1] at HIZ ho P7 P8 P9 P10 P11 P12
  obtain ⟨ad4, cp4, rfl⟩ := Own.int_shape ho
  have HO9 : Hid (Own w (CwP pz Z1 * (IntSl v2 O1 * (IntSl (.slice ad1 S.clk.length cp1) S.clk * (IntSl (.slice ad3 T.clk.length cp3) T.clk * (SdO b1 S.who S.word (.slice ad1 S.clk.length cp1) * (SdO b2 T.who T.word (.slice ad3 T.clk.length cp3) * emp)))))) w9) := Lib.hid ho.drop
  obtain ⟨x0, x1, x2, _⟩ := (HO9.out.fifth).sd
  clear ho HO8 y0 y1 y2
  have HZ1 := Lib.hid hZ1
  clear hZ1
  go_wp2_with fail
  refine (cwWaits_any pz Z1 HIZ.out HO9.out).mono ?_
  rintro e w' ⟨rfl, rfl⟩
  rw [P7.out]
  go_wp2_with fail
  refine (cwTake_any pz Z1 S _ HIZ.out (fun w' h' => IntSl_reads HSI.out _ h'.drop) HO9.out).mono ?_
  rintro e w10 ⟨v5, rfl, ho⟩
  have HIZ2 := Lib.hid (HIZ.out.take S)
  rw [P8.out, errV0]
  rw [P9.out] at ho
  obtain ⟨Z2, hZ2⟩ : ∃ Y, Y = caTake Z1 S := ⟨_, rfl⟩
  rw [← hZ2] at HIZ2 ho P10 P11 P12
  have HO10 : Hid (Own w (CwP pz Z2 * (IntSl v2 O1 * (IntSl (.slice ad1 S.clk.length cp1) S.clk * (IntSl (.slice ad3 T.clk.length cp3) T.clk * (SdO b1 S.who S.word (.slice ad1 S.clk.length cp1) * (SdO b2 T.who T.word (.slice ad3 T.clk.length cp3) * (IntSl v5 [ww, v] * emp))))))) w10) := Lib.hid (ho.perm (by ac_rfl))
  obtain ⟨x0, x1, x2, _⟩ := (HO10.out.fifth).sd
  clear ho HO9
  have HZ2 := Lib.hid hZ2
  clear hZ2
  go_wp2_with fail
  refine (cwTake_any pz Z2 S _ HIZ2.out (fun w' h' => IntSl_reads HSI.out _ h'.drop) HO10.out).mono ?_
  rintro e w11 ⟨v6, rfl, ho⟩
  rw [P10.out]
  rw [show caTake Z2 S = Z2 by unfold caTake; rw [if_neg (by rw [P10.out]; simp)]] at ho
  have HO11 := Lib.hid ho.drop
  obtain ⟨x0, x1, x2, _⟩ := (HO11.out.sixth).sd
  clear ho HO10
  go_wp2_with fail
  refine (cwTake_any pz Z2 T _ HIZ2.out (fun w' h' => IntSl_reads HTI.out _ h'.drop.drop) HO11.out).mono ?_
  rintro e w12 ⟨v7, rfl, ho⟩
  rw [P11.out]
  rw [show caTake Z2 T = Z2 by unfold caTake; rw [if_neg (by rw [P11.out]; simp)]] at ho
  have HO12 := Lib.hid ho.drop
  obtain ⟨x0, x1, x2, _⟩ := (HO12.out.fifth).sd
  obtain ⟨y0, y1, y2, _⟩ := (HO12.out.sixth).sd
  have h7 := HO12.out.seventh
  obtain ⟨b5, o5, c5, e5, _, _, hcell5, _, _, _, _⟩ := h7.ints_at (by simp)
  subst e5
  have m0 := hcell5 0 (by simp)
  have m1 := hcell5 1 (by simp)
  rw [Nat.add_zero] at m0
  simp only [List.getElem_cons_zero, List.getElem_cons_succ] at m0 m1
  have h2 := HO12.out.second
  rw [P3.out] at h2
  obtain ⟨ad2, cp2, e2⟩ := Own.int_shape h2
  subst e2
  clear ho HO11 h7 h2 hcell5
  rw [P2.out, errV0]
  have hi1 := IntSl_reads HSI.out _ HO12.out.third
  have hi3 := IntSl_reads HTI.out _ HO12.out.fourth
  have HI1 := Lib.hid hi1
  have HI3 := Lib.hid hi3
  clear hi1 hi3
  go_wp2_with fail
  refine (leq_any _ _ S.clk T.clk _ HI1.out HI3.out).mono ?_
  rintro e w' ⟨rfl, rfl⟩
  have hbe : bothErr S.clk T.clk = 0 := by unfold bothErr; rw [if_pos (sdErr0 HSOK.out).2.2]; exact (sdErr0 HTOK.out).2.2
  rw [hbe, P13.out, errV0]
  have HO13 := Lib.hid HO12.out
  clear hbe x0 x1 x2 y0 y1 y2 m0 m1
  go_wp2_with fail
  refine (sameErr_any HG.out 7 7 HO13.out).mono ?_
  rintro e w13 ⟨rfl, ho⟩
  have HO14 := Lib.hid ho
  clear ho
  go_wp2_with fail
  refine (sameErr_any HG.out 7 7 HO14.out).mono ?_
  rintro e w14 ⟨rfl, ho⟩
  have HO15 := Lib.hid ho
  clear ho
  go_wp2_with fail
  refine (cwWaits_any pz Z2 HIZ2.out HO15.out).mono ?_
  rintro e w' ⟨rfl, rfl⟩
  rw [P12.out]
  go_wp2
  go_ret
  exact ⟨rfl, HO15.out.below⟩
set_option maxRecDepth 100000 in
set_option maxHeartbeats 4000000 in
theorem causeWaits_law (w : World) (hg : As.Handle w) (a : Int) (_ha : I64 a) (b : Int) (_hb : I64 b) (c : Int) (_hc : I64 c) (ww : Int) (_hw : I64 ww) (v : Int) (_hv : I64 v) :
    Calls Tryd.prog 6 #[.int .i64 a, .int .i64 b, .int .i64 c, .int .i64 ww, .int .i64 v] w fun e w' => e = .returned (.bool true) ∧ Below w.heap.size w w' := by
  cases hb : (isMember a && isMember b && isMember c)
  · exact causeWaits_early1 w hg a b c ww v hb
  simp only [Bool.and_eq_true] at hb
  obtain ⟨⟨hma, hmb⟩, hmc⟩ := hb
  by_cases h1 : a = b
  · exact causeWaits_early2 w hg a b c ww v hma hmb hmc (.inl h1)
  by_cases h2 : b = c
  · exact causeWaits_early2 w hg a b c ww v hma hmb hmc (.inr (.inl h2))
  by_cases h3 : a = c
  · exact causeWaits_early2 w hg a b c ww v hma hmb hmc (.inr (.inr h3))
  exact causeWaits_good w hg a b c ww v hma hmb hmc h1 h2 h3
end Go.Proofs.YtldmdenojpnldaaDoor
