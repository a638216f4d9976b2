/- Contracts of package cause, continued: what comes in order is heard at once. -/
import Derived.Test.YtldmdenojpnldaaDoorCause
namespace Go.Proofs.YtldmdenojpnldaaDoor
set_option linter.unusedVariables false
set_option linter.unusedSimpArgs false
open Go.RowKit
set_option maxRecDepth 100000 in
set_option maxHeartbeats 4000000 in
theorem saidIx_none (f : Value) (w : World) :
    Calls Tryd.prog 66 #[.slice none 0 0, f] w fun e w' => e = .returned (.int .i64 (-1)) ∧ w = w' := by
  go_enter Tryd.func66, Tryd.ntmps66
  go_wp2_with fail
  go_loop [8] (fun iv => iv = .int .i64 0) (fun _ => 0)
  case atStart => rfl
  case round =>
    subst hrel
    go_wp2
    go_ret
    exact ⟨rfl, rfl⟩
set_option maxRecDepth 100000 in
set_option maxHeartbeats 4000000 in
theorem saidHas_none (f : Value) (w : World) :
    Calls Tryd.prog 90 #[.slice none 0 0, f] w fun e w' => e = .returned (.bool false) ∧ w = w' := by
  go_enter Tryd.func90, Tryd.ntmps90
  go_wp2_with fail
  refine (saidIx_none f w).mono ?_
  rintro e w' ⟨rfl, rfl⟩
  go_wp2
  go_ret
  exact ⟨rfl, rfl⟩
set_option maxRecDepth 100000 in
set_option maxHeartbeats 4000000 in
theorem causeReady_yes {w0 w : World} {R : HProp} (p mb q : Nat) (hq : q < 5) (me : Int) (clk : List Int) (h5 : clk.length = 5) (word : Int) (vv : Value) (V : List Int) (V5 : V.length = 5) (hh : ∀ i, i < 5 → if i = q then V.getD i 0 = clk.getD i 0 + 1 else V.getD i 0 ≤ clk.getD i 0) (hb : ∀ i, i < 5 → 0 ≤ clk.getD i 0 ∧ clk.getD i 0 < 1000000) (hv : Reads w0 R vv V) (h : Own w0 (CaP p mb me clk * R) w) :
    Calls Tryd.prog 65 #[.pointer (some ⟨p, 0, none⟩), .agg #[.int .i64 q, .int .i64 word, vv]] w fun e w' => e = .returned (.bool true) ∧ Own w0 (CaP p mb me clk * R) w' := by
  obtain ⟨vad, vcap, rfl, hvc1, hvc2⟩ := (hv _ h.drop).shape
  rw [V5] at hvc1 hv ⊢
  obtain ⟨b1, hb_b1⟩ : ∃ zz_, zz_ = (w).heap.size := ⟨_, rfl⟩
  obtain ⟨w1, hw_w1⟩ : ∃ zz_, zz_ = (w).alloc (.cells #[.int .i64 q, .int .i64 word, .slice vad 5 vcap] 56 (0, 0)) := ⟨_, rfl⟩
  have h_HO := (h).alloc (.cells #[.int .i64 q, .int .i64 word, .slice vad 5 vcap] 56 (0, 0))
  rw [← hb_b1, ← hw_w1] at h_HO
  have HO := Lib.hid h_HO
  clear h_HO
  obtain ⟨x0, x1, x2, _⟩ := (show Own w0 (SdO b1 q word (.slice vad 5 vcap) * (CaP p mb me clk * R)) w1 from HO.out).sd
  have HO1 : Hid (Own w0 (CaP p mb me clk * (SdO b1 q word (.slice vad 5 vcap) * R)) w1) := Lib.hid (HO.out.perm (star_left_comm _ _ _))
  obtain ⟨c0, c1, c2, hc, _, _⟩ := HO1.out.ca h5
  have HVV := Lib.hid (hv _ HO1.out.drop.drop)
  clear HO
  have V5H := Lib.hid V5
  clear V5
  have H := Lib.hid h; have HV := Lib.hid hv; have H5 := Lib.hid h5; have HH := Lib.hid hh; have HB := Lib.hid hb; have HC := Lib.hid hc
  clear h hv h5 hh hb hc
  go_enter Tryd.func65, Tryd.ntmps65
  go_upto_region 1 with fail
  rw [← hb_b1, ← hw_w1]
  clear hb_b1 hw_w1
  go_wp2_with fail
  go_loop [10] (fun iv => ∃ i : Nat, i ≤ 5 ∧ iv = .int .i64 i) (fun iv => 5 - (intOf iv).toNat)
  case atStart => exact ⟨0, Nat.zero_le _, rfl⟩
  case round =>
    obtain ⟨i, hi, rfl⟩ := hrel
    by_cases hlt : i < 5
    rotate_left
    · go_wp2
      go_ret
      exact ⟨rfl, (HO1.out.perm (star_left_comm _ _ _)).drop⟩
    obtain ⟨aa, rfl, hca⟩ := HVV.out.at i (by rw [V5H.out]; exact hlt)
    obtain ⟨z, hz⟩ : ∃ z, z = V[i]'(by rw [V5H.out]; exact hlt) := ⟨_, rfl⟩
    rw [← hz] at hca
    have hzg : V.getD i 0 = z := by rw [hz, List.getD_eq_getElem?_getD, List.getElem?_eq_getElem (by rw [V5H.out]; exact hlt)]; rfl
    have d := HC.out i hlt
    have hhi := HH.out i hlt
    obtain ⟨y0, y1⟩ := HB.out i hlt
    rw [hzg] at hhi
    obtain ⟨y, hy⟩ : ∃ y, y = clk.getD i 0 := ⟨_, rfl⟩
    rw [← hy] at d hhi y0 y1
    have i0 : (0 : Int) ≤ (i : Int) := Int.natCast_nonneg i
    have i5 : (i : Int) < 5 := by omega
    by_cases hiq : i = q
    · rw [if_pos hiq] at hhi
      subst hhi
      subst hiq
      have HZ := Lib.hid hz; have HZG := Lib.hid hzg; have HY := Lib.hid hy
      clear hz hzg hy
      go_wp2
      go_round
      case rel => exact ⟨i + 1, by omega, by go_num⟩
      case measure => simp [intOf]; omega
    · rw [if_neg hiq] at hhi
      have t1 : ((i : Int) == (q : Int)) = false := by rw [beq_eq_false_iff_ne]; omega
      have t2 : ((i : Int) != (q : Int)) = true := by rw [bne_iff_ne]; omega
      have t3 : decide (y < z) = false := by simp; omega
      have HZ := Lib.hid hz; have HZG := Lib.hid hzg; have HY := Lib.hid hy; have HIQ := Lib.hid hiq; have HHI := Lib.hid hhi
      clear hz hzg hy hiq hhi
      go_wp2
      go_round
      case rel => exact ⟨i + 1, by omega, by go_num⟩
      case measure => simp [intOf]; omega
set_option maxRecDepth 100000 in
set_option maxHeartbeats 4000000 in
theorem causeCheck_ok {w0 w : World} {R : HProp} (p mb q : Nat) (hq : q < 5) (me : Int) (hme : (q : Int) ≠ me) (clk : List Int) (h5 : clk.length = 5) (word : Int) (hw : isWord word = true) (vv : Value) (V : List Int) (hV : vecErr V = 0) (hlt : clk.getD q 0 < V.getD q 0) (hpos : 0 ≤ clk.getD q 0) (hv : Reads w0 R vv V) (h : Own w0 (CaP p mb me clk * R) w) :
    Calls Tryd.prog 64 #[.pointer (some ⟨p, 0, none⟩), .agg #[.int .i64 q, .int .i64 word, vv]] w fun e w' => e = .returned (errV 0) ∧ Own w0 (CaP p mb me clk * R) w' := by
  have V5 := (vecErr0 hV).1
  obtain ⟨vad, vcap, rfl, hvc1, hvc2⟩ := (hv _ h.drop).shape
  rw [V5] at hvc1 hv ⊢
  obtain ⟨b1, hb_b1⟩ : ∃ zz_, zz_ = (w).heap.size := ⟨_, rfl⟩
  obtain ⟨w1, hw_w1⟩ : ∃ zz_, zz_ = (w).alloc (.cells #[.int .i64 q, .int .i64 word, .slice vad 5 vcap] 56 (0, 0)) := ⟨_, rfl⟩
  have h_HO := (h).alloc (.cells #[.int .i64 q, .int .i64 word, .slice vad 5 vcap] 56 (0, 0))
  rw [← hb_b1, ← hw_w1] at h_HO
  have HO := Lib.hid h_HO
  clear h_HO
  obtain ⟨x0, x1, x2, _⟩ := (show Own w0 (SdO b1 q word (.slice vad 5 vcap) * (CaP p mb me clk * R)) w1 from HO.out).sd
  have HVV := Lib.hid (hv _ HO.out.drop.drop)
  obtain ⟨aa, e1, hca⟩ := HVV.out.at q (by rw [V5]; exact hq)
  obtain ⟨z, hz⟩ : ∃ z, z = V[q]'(by rw [V5]; exact hq) := ⟨_, rfl⟩
  rw [← hz] at hca
  have hzg : V.getD q 0 = z := by rw [hz, List.getD_eq_getElem?_getD, List.getElem?_eq_getElem (by rw [V5]; exact hq)]; rfl
  subst e1
  rw [hzg] at hlt
  obtain ⟨b2, hb_b2⟩ : ∃ zz_, zz_ = (w1).heap.size := ⟨_, rfl⟩
  obtain ⟨w2, hw_w2⟩ : ∃ zz_, zz_ = (w1).alloc (.cells #[.int .i64 z] 3 (0, 0)) := ⟨_, rfl⟩
  have h_HO2 := (HO.out).alloc (.cells #[.int .i64 z] 3 (0, 0))
  rw [← hb_b2, ← hw_w2] at h_HO2
  have HO2 := Lib.hid h_HO2
  clear h_HO2
  have HO3 : Hid (Own w0 (blk b2 (.cells #[.int .i64 z] 3 (0, 0)) * (SdO b1 q word (.slice (some aa) 5 vcap) * (CaP p mb me clk * R))) w2) := HO2
  have n0 : w2.cell? ⟨b2, 0, none⟩ = some (.int .i64 z) := (HO3.out.cell 0).trans rfl
  obtain ⟨a0, a1, a2, _⟩ := HO3.out.drop.sd
  obtain ⟨c0, c1, c2, hc, _, _⟩ := (HO3.out.perm (show _ = CaP p mb me clk * (SdO b1 q word (.slice (some aa) 5 vcap) * (blk b2 (.cells #[.int .i64 z] 3 (0, 0)) * R)) by ac_rfl)).ca h5
  have cq := hc q hq
  clear hc
  have hm : isMember (q : Int) = true := by simp [isMember]; omega
  have q0 : (0 : Int) ≤ (q : Int) := Int.natCast_nonneg q
  have q5 : (q : Int) < 5 := by omega
  obtain ⟨y, hy⟩ : ∃ y, y = clk.getD q 0 := ⟨_, rfl⟩
  rw [← hy] at hlt hpos cq
  have t0 : (z == 0) = false := by rw [beq_eq_false_iff_ne]; omega
  have t1 : ((q : Int) == me) = false := by rw [beq_eq_false_iff_ne]; exact hme
  have t2 : decide (z ≤ y) = false := by simp; omega
  clear HO2
  have V5H := Lib.hid V5; have HVZ := Lib.hid hV
  clear hV HO
  have H := Lib.hid h; have HV := Lib.hid hv; have H5 := Lib.hid h5; have HW := Lib.hid hw; have HZ := Lib.hid hz; have HZG := Lib.hid hzg; have HM := Lib.hid hm; have HY := Lib.hid hy; have HME := Lib.hid hme
  clear h hv h5 hw hz hzg hm hy hme
  go_enter Tryd.func64, Tryd.ntmps64
  go_upto_region 1 with fail
  rw [← hb_b1, ← hw_w1]
  clear hb_b1 hw_w1
  go_wp2_with fail
  refine (member_any _ _).mono ?_
  rintro e w' ⟨rfl, rfl⟩
  rw [HM.out]
  go_wp2_with fail
  refine (word_any _ _).mono ?_
  rintro e w' ⟨rfl, rfl⟩
  rw [HW.out]
  go_wp2_with fail
  refine (vcheck_any _ V _ HVV.out).mono ?_
  rintro e w' ⟨rfl, rfl⟩
  rw [HVZ.out, errV0]
  go_upto_region 7 with fail
  rw [← hb_b2, ← hw_w2]
  clear hb_b2 hw_w2
  clear x0 x1 x2 hca
  refine wp_region_tail 7 (by kernel_rfl) (by kernel_rfl) ?_
  simp only [List.take_succ_cons, List.take_zero, List.drop_succ_cons, List.drop_zero]
  repeat still_step
  refine wpStill_nil ?_
  go_upto_region 11 with fail
  refine wp_region_tail 10 (by kernel_rfl) (by kernel_rfl) ?_
  simp only [List.take_succ_cons, List.take_zero, List.drop_succ_cons, List.drop_zero]
  repeat still_step
  refine wpStill_nil ?_
  go_wp2_with fail
  refine (saidHas_none _ _).mono ?_
  rintro e w' ⟨rfl, rfl⟩
  have HO4 := Lib.hid HO3.out.drop.drop.drew.drew
  go_wp2
  go_ret
  exact ⟨rfl, HO4.out⟩
theorem Own.lit1 {w0 w : World} {b : Nat} {x : Int} {R : HProp} (h : Own w0 (blk b (.cells #[.int .i64 x] 3 (0, 0)) * R) w) : Own w0 (IntSl (.slice (some ⟨b, 0, none⟩) 1 1) [x] * R) w := by
  unfold IntSl
  exact Own.sl_mk (Nat.le_refl _) (by unfold maxLen; omega) (by simp) (by simp) (fun i hi => by simp) h
set_option maxRecDepth 100000 in
set_option maxHeartbeats 4000000 in
theorem causeTake_alone {w0 w : World} {R : HProp} (p mb q : Nat) (hq : q < 5) (me : Int) (hme : (q : Int) ≠ me) (clk : List Int) (h5 : clk.length = 5) (word : Int) (hw : isWord word = true) (vv : Value) (V : List Int) (hV : vecErr V = 0) (hh : ∀ i, i < 5 → if i = q then V.getD i 0 = clk.getD i 0 + 1 else V.getD i 0 ≤ clk.getD i 0) (hb : ∀ i, i < 5 → 0 ≤ clk.getD i 0 ∧ clk.getD i 0 < 1000000) (hv : Reads w0 R vv V) (h : Own w0 (CaP p mb me clk * R) w) :
    Calls Tryd.prog 27 #[.pointer (some ⟨p, 0, none⟩), .agg #[.int .i64 q, .int .i64 word, vv]] w fun e w' => ∃ b, e = .returned (.tuple #[.slice (some ⟨b, 0, none⟩) 1 1, errV 0]) ∧ Own w0 (IntSl (.slice (some ⟨b, 0, none⟩) 1 1) [word] * (CaP p mb me (clk.set q (clk.getD q 0 + 1)) * R)) w' := by
  have V5 := (vecErr0 hV).1
  obtain ⟨vad, vcap, rfl, hvc1, hvc2⟩ := (hv _ h.drop).shape
  rw [V5] at hvc1 hv ⊢
  obtain ⟨y, hy⟩ : ∃ y, y = clk.getD q 0 := ⟨_, rfl⟩
  rw [← hy]
  obtain ⟨D, hD⟩ : ∃ D, D = clk.set q (y + 1) := ⟨_, rfl⟩
  rw [← hD]
  have hD5 : D.length = 5 := by rw [hD]; simp [h5]
  have HY := Lib.hid hy; have HD := Lib.hid hD; have HD5 := Lib.hid hD5
  clear hy hD hD5
  obtain ⟨b1, hb_b1⟩ : ∃ zz_, zz_ = (w).heap.size := ⟨_, rfl⟩
  obtain ⟨w1, hw_w1⟩ : ∃ zz_, zz_ = (w).alloc (.cells #[.int .i64 q, .int .i64 word, .slice vad 5 vcap] 56 (0, 0)) := ⟨_, rfl⟩
  have h_HO := (h).alloc (.cells #[.int .i64 q, .int .i64 word, .slice vad 5 vcap] 56 (0, 0))
  rw [← hb_b1, ← hw_w1] at h_HO
  have HO := Lib.hid h_HO
  clear h_HO
  have HO1 : Hid (Own w0 (CaP p mb me clk * (SdO b1 q word (.slice vad 5 vcap) * R)) w1) := Lib.hid (HO.out.perm (star_left_comm _ _ _))
  obtain ⟨x0, x1, x2, _⟩ := (show Own w0 (SdO b1 q word (.slice vad 5 vcap) * (CaP p mb me clk * R)) w1 from HO.out).sd
  clear HO
  have HVZ := Lib.hid hV
  clear hV
  have H := Lib.hid h; have HV := Lib.hid hv; have H5 := Lib.hid h5; have HW := Lib.hid hw; have HH := Lib.hid hh; have HB := Lib.hid hb
  clear h hv h5 hw hh hb
  go_enter Tryd.func27, Tryd.ntmps27
  go_upto_region 1 with fail
  rw [← hb_b1, ← hw_w1]
  clear hb_b1 hw_w1
  go_wp2_with fail
  have hhq := HH.out q hq
  rw [if_pos rfl] at hhq
  refine (causeCheck_ok p mb q hq me hme clk H5.out word HW.out _ V HVZ.out (by omega) (HB.out q hq).1 HV.out.more HO1.out).mono ?_
  rintro e w2 ⟨rfl, ho⟩
  rw [errV0]
  have HO2 := Lib.hid ho
  obtain ⟨y0, y1, y2, yf⟩ := (ho.perm (star_left_comm _ _ _)).sd
  clear ho x0 x1 x2 hhq HO1
  go_wp2_with fail
  refine (cloneInts_any HO2.out _ V (HV.out _ HO2.out.drop.drop) (by omega)).mono ?_
  rintro e w3 ⟨v3, rfl, ho⟩
  obtain ⟨ad3, cap3, hv3, _⟩ := Own.rd ho
  subst hv3
  have ho1 := (ho.perm (show _ = SdO b1 q word (.slice vad 5 vcap) * (CaP p mb me clk * (IntSl (.slice ad3 V.length cap3) V * R)) by ac_rfl))
  obtain ⟨_, _, z2, z3⟩ := ho1.sd
  have z32 := z3 2 none
  have ho2 := ho1.sd_put2 (.slice ad3 V.length cap3)
  rw [V5] at ho2
  obtain ⟨w4, hw4⟩ : ∃ w4, w4 = w3.setCell ⟨b1, 2, none⟩ (.slice ad3 5 cap3) := ⟨_, rfl⟩
  rw [← hw4] at ho2
  obtain ⟨x0, x1, x2, _⟩ := ho2.sd
  have HO3 := Lib.hid (ho2.perm (star_left_comm _ _ _))
  rw [V5]
  clear ho ho1 ho2 y0 y1 y2 yf z3 HO2
  go_upto_region 5 with fail
  rw [← hw4]
  clear hw4 z2 z32
  go_wp2_with fail
  refine (causeReady_yes p mb q hq me clk H5.out word _ V V5 HH.out HB.out (IntSl_reads (vecErr_I64 HVZ.out)).more HO3.out).mono ?_
  rintro e w5 ⟨rfl, ho⟩
  obtain ⟨c0, c1, c2, hc, hf, hs⟩ := ho.ca H5.out
  have d0 := hc q hq
  have f0 := hf q none
  have s0 := hs q (clk.getD q 0 + 1) hq
  obtain ⟨b0, b0'⟩ := HB.out q hq
  rw [← HY.out] at d0 s0 b0 b0'
  rw [← HD.out] at s0
  obtain ⟨w6, hw6⟩ : ∃ w6, w6 = w5.setCell ⟨mb, q, none⟩ (.int .i64 (y + 1)) := ⟨_, rfl⟩
  rw [← hw6] at s0
  have HO6 := Lib.hid s0
  obtain ⟨z0, z1, z2, _⟩ := (ho.perm (star_left_comm _ _ _)).sd
  have q0 : (0 : Int) ≤ (q : Int) := Int.natCast_nonneg q
  have q5 : (q : Int) < 5 := by omega
  clear ho hc hf hs s0 x0 x1 x2 HO3
  go_upto_region 8 with fail
  refine wp_region_tail 9 (by kernel_rfl) (by kernel_rfl) ?_
  simp only [List.take_succ_cons, List.take_zero, List.drop_succ_cons, List.drop_zero]
  repeat still_step
  refine wpStill_nil ?_
  obtain ⟨x0, x1, x2, _⟩ := (HO6.out.perm (star_left_comm _ _ _)).sd
  obtain ⟨b7, hb_b7⟩ : ∃ zz_, zz_ = (w6).heap.size := ⟨_, rfl⟩
  obtain ⟨w7, hw_w7⟩ : ∃ zz_, zz_ = (w6).alloc (.cells #[.int .i64 word] 3 (0, 0)) := ⟨_, rfl⟩
  have h_HO7 := (HO6.out).alloc (.cells #[.int .i64 word] 3 (0, 0))
  rw [← hb_b7, ← hw_w7] at h_HO7
  have HO7 := Lib.hid h_HO7
  clear h_HO7
  obtain ⟨g0, g1, g2, _, _, _⟩ := HO7.out.perm (star_left_comm _ _ _) |>.ca HD5.out
  go_upto_region 9 with fail
  rw [← hw6]
  clear hw6 d0 f0 c0 c1 c2 z0 z1 z2
  go_upto_block 0 with fail
  rw [← hb_b7, ← hw_w7]
  clear hb_b7 hw_w7
  go_wp2_with fail
  go_loopw [7] (fun ov wr => ov = .slice (some ⟨b7, 0, none⟩) 1 1 ∧ wr = w7.drew) (fun _ _ => 0)
  case atStart => exact ⟨rfl, rfl⟩
  case round =>
    obtain ⟨rfl, rfl⟩ := hrel
    go_wp2_with fail
    refine (saidIx_none _ _).mono ?_
    rintro e w' ⟨rfl, rfl⟩
    go_wp2
    go_ret2
    exact ⟨b7, rfl, (HO7.out.drew.lit1.perm (show _ = SdO b1 q word (.slice ad3 5 cap3) * (IntSl (.slice ad3 5 cap3) V * (IntSl (.slice (some ⟨b7, 0, none⟩) 1 1) [word] * (CaP p mb me D * R))) by ac_rfl)).drop.drop⟩
end Go.Proofs.YtldmdenojpnldaaDoor
