/- Contracts of the reference: bytes as a word. -/
import Derived.Test.YtbfiahdddbcebaaDoorWireRef
import Derived.Test.YtbfiahdddbcebaaDoorRef1
namespace Go.Proofs.YtbfiahdddbcebaaDoor
set_option linter.unusedVariables false
set_option linter.unusedSimpArgs false
open Go.RowKit
theorem read_zero {B : List UInt8} (h : unpackErr B ≠ 0) : unpackWho B = 0 ∧ unpackWord B = 0 ∧ unpackClock B = [] ∧ decide (unpackErr B = 0) = false := by
  refine ⟨?_, ?_, ?_, decide_eq_false h⟩
  · unfold unpackWho; rw [if_neg h]
  · unfold unpackWord; rw [if_neg h]
  · unfold unpackClock; rw [if_neg h]
theorem read_good {t : ByteArray} {B : List UInt8} (hB : B = t.data.toList) (h : saidErr (bn B 0) (bn B 1) (clkN B 5) = 0) (hp : packS (bn B 0) (bn B 1) (clkN B 5) = t) : unpackErr B = 0 := by
  have h1 : packB (bn B 0) (bn B 1) (clkN B 5) = B := by rw [← (packS_size h).2, hp, hB]
  have h2 := (unpack_pack h).1
  rw [h1] at h2
  exact h2
theorem read_bad {t : ByteArray} {B : List UInt8} (hB : B = t.data.toList) (h : saidErr (bn B 0) (bn B 1) (clkN B 5) ≠ 0 ∨ packS (bn B 0) (bn B 1) (clkN B 5) ≠ t) : unpackErr B ≠ 0 := by
  intro he
  obtain ⟨h1, h2⟩ := pack_unpack he
  rcases h with h | h
  · exact h h1
  · apply h
    apply bytes_ext
    rw [(packS_size h1).2, h2]; exact hB
set_option maxRecDepth 100000 in
set_option maxHeartbeats 4000000 in
theorem readBytes_any {w0 w : World} {R : HProp} (t : ByteArray) (h : Own w0 R w) :
    Calls Tryd.prog 24 #[.string t] w fun e w' => ∃ v', e = .returned (.tuple #[.agg #[.int .i64 (unpackWho t.data.toList), .int .i64 (unpackWord t.data.toList), v'], .bool (decide (unpackErr t.data.toList = 0))]) ∧ Own w0 (IntSl v' (unpackClock t.data.toList) * R) w' := by
  obtain ⟨B, hB⟩ : ∃ B, B = t.data.toList := ⟨_, rfl⟩
  have hsz : t.size = B.length := by rw [hB, Array.length_toList]; rfl
  rw [← hB]
  obtain ⟨b1, hb_b1⟩ : ∃ zz_, zz_ = (w).heap.size := ⟨_, rfl⟩
  obtain ⟨w1, hw_w1⟩ : ∃ zz_, zz_ = (w).alloc (.cells #[.int .i64 0, .int .i64 0, .slice none 0 0] 24 (0, 0)) := ⟨_, rfl⟩
  have h_HO1 := (h).alloc (.cells #[.int .i64 0, .int .i64 0, .slice none 0 0] 24 (0, 0))
  rw [← hb_b1, ← hw_w1] at h_HO1
  have HO1 := Lib.hid h_HO1
  clear h_HO1
  have HZ := Lib.hid (show Own w0 (SdB b1 0 0 (.slice none 0 0) * R) w1 from HO1.out)
  clear h
  by_cases h18 : t.size = 18
  rotate_left
  · have hE : unpackErr B ≠ 0 := by rw [unpack_short (by rw [← hsz]; exact h18)]; decide
    obtain ⟨e1, e2, e3, e4⟩ := read_zero hE
    have hne : ((t.size : Int) != 18) = true := by rw [bne_iff_ne]; omega
    rw [e1, e2, e3, e4]
    obtain ⟨z0, z1, z2, f0, f1, f2⟩ := HZ.out.sdB
    have HF := Lib.hid (HZ.out.sdB_put 0 0 (.slice none 0 0))
    obtain ⟨r0, r1, r2, _⟩ := HF.out.sdB
    have HE := Lib.hid hE; have H18 := Lib.hid h18; have HSZ := Lib.hid hsz; have E1 := Lib.hid e1; have E2 := Lib.hid e2; have E3 := Lib.hid e3; have E4 := Lib.hid e4; have HB := Lib.hid hB
    clear hE h18 hsz e1 e2 e3 e4 hB
    go_enter Tryd.func24, Tryd.ntmps24
    go_upto_region 1 with fail
    rw [← hb_b1, ← hw_w1]
    clear hb_b1 hw_w1
    go_wp2_with fail
    exact bodyPost_ret (v := .tuple #[.agg #[.int .i64 0, .int .i64 0, .slice none 0 0], .bool false]) (by simp [results, Tryd.results24, go_sem, r0, r1, r2]) rfl ⟨_, rfl, HF.out.drop.sl_nil _ _⟩
  have hb18 : B.length = 18 := by rw [← hsz]; exact h18
  have HTK : Hid (∀ k (hk : k < t.size), ((t[k]'hk).toNat : Int) = bn B k) := Lib.hid (fun k hk => by
    unfold bn
    rw [List.getD_eq_getElem?_getD, hB, Array.getElem?_toList]
    have : t.data[k]? = some (t[k]'hk) := Array.getElem?_eq_getElem hk
    rw [this]; rfl)
  have g0 : 0 < t.size := by rw [h18]; decide
  have g1 : 1 < t.size := by rw [h18]; decide
  obtain ⟨x0, hx0⟩ : ∃ x : Nat, (t[0]'g0).toNat = x := ⟨_, rfl⟩
  obtain ⟨x1, hx1⟩ : ∃ x : Nat, (t[1]'g1).toNat = x := ⟨_, rfl⟩
  have hX0 : bn B 0 = x0 := by rw [← hx0]; exact (HTK.out 0 (by omega)).symm
  have hX1 : bn B 1 = x1 := by rw [← hx1]; exact (HTK.out 1 (by omega)).symm
  have hx0b := bn_byte B 0
  have hx1b := bn_byte B 1
  rw [hX0] at hx0b
  rw [hX1] at hx1b
  have hwx0 : IntKind.i64.wrap (x0 : Int) = x0 := by rw [IntKind.wrap_i64]; omega
  have hwx1 : IntKind.i64.wrap (x1 : Int) = x1 := by rw [IntKind.wrap_i64]; omega
  have hne : ((t.size : Int) != 18) = false := by rw [bne_eq_false_iff_eq]; omega
  have HX0 := Lib.hid hX0; have HX1 := Lib.hid hX1; have HB := Lib.hid hB; have HSZ := Lib.hid hsz; have HB18 := Lib.hid hb18
  clear hX0 hX1 hB hsz hb18
  go_enter Tryd.func24, Tryd.ntmps24
  go_upto_region 1 with fail
  rw [← hb_b1, ← hw_w1]
  clear hb_b1 hw_w1
  go_upto_region 3 with fail
  refine wp_region_planH 8 [] [(true, 0), (true, 1), (true, 2), (true, 3), (true, 4), (true, 5), (true, 6), (false, 7)] [8] (fun wS => True) (by kernel_rfl) (by kernel_rfl) (trivial) ?_
  simp only [pickH, pick, List.getElem?_cons_succ, List.getElem?_cons_zero, Option.toList, Option.map_some, List.cons_append, List.nil_append]
  repeat (refine wpPure_step ?_ rfl ?_ ?_; rotate_left; (focus (intro _; first | with_reducible rfl | (go_simp; done) | (go_simp; with_reducible rfl) | rfl)); go_simp)
  refine wpPure_nil ?_
  repeat (refine wpMix_read ?_ rfl ?_ ?_; rotate_left; (focus (intro _ hS; obtain _ := hS; first | with_reducible rfl | (go_simp; done) | (go_simp; with_reducible rfl) | rfl)); go_simp)
  refine wpMix_write (fun K hK => ?_)
  go_simp
  obtain ⟨b5, hb_b5⟩ : ∃ zz_, zz_ = (w1).heap.size := ⟨_, rfl⟩
  obtain ⟨w5, hw_w5⟩ : ∃ zz_, zz_ = (w1).alloc (.cells #[.int .i64 0, .int .i64 0, .slice none 0 0] 24 (0, 0)) := ⟨_, rfl⟩
  have h_HO5 := (HZ.out).alloc (.cells #[.int .i64 0, .int .i64 0, .slice none 0 0] 24 (0, 0))
  rw [← hb_b5, ← hw_w5] at h_HO5
  have HO5 := Lib.hid h_HO5
  clear h_HO5
  rw [← hb_b5, ← hw_w5]
  clear hb_b5 hw_w5
  have HZ5 : Hid (Own w0 (SdB b5 0 0 (.slice none 0 0) * (SdB b1 0 0 (.slice none 0 0) * R)) w5) := Lib.hid HO5.out
  obtain ⟨z0, z1, z2, f0, f1, f2⟩ := HZ5.out.sdB
  refine hK _ _ ⟨trivial, ?_⟩
  clear hK K
  go_simp
  refine wpMix_nil ?_
  go_wp2_with fail
  refine NoPanic.normal ?_
  obtain ⟨X, hX⟩ : ∃ X, X = SdB b1 0 0 (.slice none 0 0) * R := ⟨_, rfl⟩
  have HZ6 : Hid (Own w0 (SdB b5 x0 x1 (.slice none 0 0) * X) _) := Lib.hid (by rw [hX]; exact (HZ5.out.sdB_put x0 x1 (.slice none 0 0)).drew)
  clear z0 z1 z2 f0 f1 f2
  have HX := Lib.hid hX
  clear hX
  go_upto_block 0 with fail
  go_wp2_with fail
  go_loopw [5] (fun iv wr => ∃ k i : Nat, k ≤ 5 ∧ i = 2 + 3 * k ∧ iv = .int .i64 i ∧ Hid (∃ cv, Own w0 (IntSl cv (clkN B k) * (SdB b5 x0 x1 cv * X)) wr)) (fun iv _ => 20 - (intOf iv).toNat)
  case atStart => exact ⟨0, 2, Nat.zero_le _, rfl, rfl, Lib.hid ⟨_, HZ6.out.sl_nil _ _⟩⟩
  case round =>
    obtain ⟨k, i, hk, hi, rfl, HO⟩ := hrel
    obtain ⟨cv, ho⟩ := HO.out
    obtain ⟨ad, cp, hs⟩ := ho.int_shape
    rw [clkN_len] at hs
    subst hs
    clear HO
    obtain ⟨z0, z1, z2, f0, f1, f2⟩ := ho.second.sdB
    by_cases hlt : k < 5
    · have i0 : (0 : Int) ≤ (i : Int) := by omega
      obtain ⟨j1, hj1⟩ : ∃ j, j = i + 1 := ⟨_, rfl⟩
      obtain ⟨j2, hj2⟩ : ∃ j, j = i + 2 := ⟨_, rfl⟩
      have i1 : (i : Int) < 18 := by omega
      have i6 : decide ((i : Int) < 17) = true := decide_eq_true (by omega)
      have i2 : (j1 : Int) < 18 := by omega
      have i3 : (j2 : Int) < 18 := by omega
      have i4 : (0 : Int) ≤ (j1 : Int) := by omega
      have i5 : (0 : Int) ≤ (j2 : Int) := by omega
      have n1 : i < 18 := by omega
      have n2 : j1 < 18 := by omega
      have n3 : j2 < 18 := by omega
      have hwj1 : IntKind.i64.wrap ((i : Int) + 1) = j1 := by rw [IntKind.wrap_i64]; omega
      have hwj2 : IntKind.i64.wrap ((i : Int) + 2) = j2 := by rw [IntKind.wrap_i64]; omega
      have m1 : i < t.size := by rw [h18]; exact n1
      have m2 : j1 < t.size := by rw [h18]; exact n2
      have m3 : j2 < t.size := by rw [h18]; exact n3
      obtain ⟨y0, hy0⟩ : ∃ x : Nat, (t[i]'m1).toNat = x := ⟨_, rfl⟩
      obtain ⟨y1, hy1⟩ : ∃ x : Nat, (t[j1]'m2).toNat = x := ⟨_, rfl⟩
      obtain ⟨y2, hy2⟩ : ∃ x : Nat, (t[j2]'m3).toNat = x := ⟨_, rfl⟩
      have hY0 : bn B i = y0 := by rw [← hy0]; exact (HTK.out i (by omega)).symm
      have hY1 : bn B (i + 1) = y1 := by rw [← hy1, ← hj1]; exact (HTK.out j1 (by omega)).symm
      have hY2 : bn B (i + 2) = y2 := by rw [← hy2, ← hj2]; exact (HTK.out j2 (by omega)).symm
      have hb0 := bn_byte B i
      have hb1 := bn_byte B (i + 1)
      have hb2 := bn_byte B (i + 2)
      rw [hY0] at hb0
      rw [hY1] at hb1
      rw [hY2] at hb2
      obtain ⟨v1, hv1⟩ : ∃ v : Int, v = (y0 : Int) * 65536 := ⟨_, rfl⟩
      obtain ⟨v2, hv2⟩ : ∃ v : Int, v = (y1 : Int) * 256 := ⟨_, rfl⟩
      obtain ⟨v3, hv3⟩ : ∃ v : Int, v = v1 + v2 := ⟨_, rfl⟩
      obtain ⟨v4, hv4⟩ : ∃ v : Int, v = v3 + y2 := ⟨_, rfl⟩
      have hnum : num3 B i = v4 := by unfold num3; rw [hY0, hY1, hY2, hv4, hv3, hv2, hv1]; omega
      have hwy0 : IntKind.i64.wrap (y0 : Int) = y0 := by rw [IntKind.wrap_i64]; omega
      have hwy1 : IntKind.i64.wrap (y1 : Int) = y1 := by rw [IntKind.wrap_i64]; omega
      have hwy2 : IntKind.i64.wrap (y2 : Int) = y2 := by rw [IntKind.wrap_i64]; omega
      have hwv1 : IntKind.i64.wrap ((y0 : Int) * 65536) = v1 := by rw [IntKind.wrap_i64]; omega
      have hwv2 : IntKind.i64.wrap ((y1 : Int) * 256) = v2 := by rw [IntKind.wrap_i64]; omega
      have hwv3 : IntKind.i64.wrap (v1 + v2) = v3 := by rw [IntKind.wrap_i64]; omega
      have hwv4 : IntKind.i64.wrap (v3 + (y2 : Int)) = v4 := by rw [IntKind.wrap_i64]; omega
      have hnews : (clkN B k).length = k := clkN_len B k
      have HO := Lib.hid ho; have HY0 := Lib.hid hY0; have HY1 := Lib.hid hY1; have HY2 := Lib.hid hY2; have HNUM := Lib.hid hnum; have HI := Lib.hid hi; have HJ1 := Lib.hid hj1; have HJ2 := Lib.hid hj2; have HV1 := Lib.hid hv1; have HV2 := Lib.hid hv2; have HV3 := Lib.hid hv3; have HV4 := Lib.hid hv4; have HNEWS := Lib.hid hnews
      clear ho hY0 hY1 hY2 hnum hi hj1 hj2 hv1 hv2 hv3 hv4 hnews
      go_upto_region 7 with fail
      refine wp_region_planH 23 [] [(true, 0), (true, 1), (true, 2), (true, 3), (true, 4), (true, 5), (true, 6), (true, 7), (true, 8), (true, 9), (true, 10), (true, 11), (true, 12), (true, 13), (true, 14), (true, 15), (true, 16), (true, 17), (true, 18), (true, 19), (false, 20), (false, 21), (true, 22)] [23] (fun wS => wS.cell? ⟨b5, 2, none⟩ = some (.slice ad k cp)) (by kernel_rfl) (by kernel_rfl) (z2) ?_
      simp only [pickH, pick, List.getElem?_cons_succ, List.getElem?_cons_zero, Option.toList, Option.map_some, List.cons_append, List.nil_append]
      repeat (refine wpPure_step ?_ rfl ?_ ?_; rotate_left; (focus (intro _; first | with_reducible rfl | (go_simp; done) | (go_simp; with_reducible rfl) | rfl)); go_simp)
      refine wpPure_nil ?_
      repeat (refine wpMix_read ?_ rfl ?_ ?_; rotate_left; (focus (intro _ hS; obtain s3 := hS; first | with_reducible rfl | (go_simp; done) | (go_simp; with_reducible rfl) | rfl)); go_simp)
      refine wpMix_write (fun K hK => ?_)
      go_simp
      clear z0 z1 z2 f0 f1 f2 HZ6 HZ5
      obtain ⟨b6, hb_b6⟩ : ∃ zz_, zz_ = (wr).heap.size := ⟨_, rfl⟩
      obtain ⟨w6, hw_w6⟩ : ∃ zz_, zz_ = (wr).alloc (.cells #[.int .i64 v4] 3 (0, 0)) := ⟨_, rfl⟩
      have h_HO6 := (HO.out).alloc (.cells #[.int .i64 v4] 3 (0, 0))
      rw [← hb_b6, ← hw_w6] at h_HO6
      have HO6 := Lib.hid h_HO6
      clear h_HO6
      rw [← hb_b6, ← hw_w6]
      clear hb_b6 hw_w6
      have HO6' : Hid (Own w0 (Sl 3 1 (.slice ad k cp) k ((clkN B k).map (Value.int .i64)) * (IntSl (.slice (some ⟨b6, 0, none⟩) 1 1) [v4] * (SdB b5 x0 x1 (.slice ad k cp) * X))) w6.drew) := Lib.hid (by
        have h1 := (Own.litI [v4] 1 rfl (by omega) HO6.out).drew.second
        exact h1.perm (show IntSl _ _ * _ = _ by unfold IntSl; rw [HNEWS.out]))
      have e3 : w6.drew.cell? ⟨b5, 2, none⟩ = some (.slice ad k cp) := HO6'.out.drop.drop.sdB.2.2.1
      refine hK _ _ ⟨e3, ?_⟩
      clear hK K
      go_simp
      clear e3
      repeat (refine wpMix_read ?_ rfl ?_ ?_; rotate_left; (focus (intro _ hS; obtain s3 := hS; first | with_reducible rfl | (go_simp; done) | (go_simp; with_reducible rfl) | rfl)); go_simp)
      refine wpMix_write (fun K hK => ?_)
      refine step_app rfl _ _ 22 rfl 3 1 8 _ info_int Tryd.underlying22 rfl (by decide) (by rfl) HO6'.out (by rfl) (by rfl) (Own.rd HO6'.out.drop) (int_one _) (by unfold maxLen; rw [List.length_singleton]; omega) (by rw [List.length_singleton]; omega) ?_
      intro v7 w7 ho7
      obtain ⟨a7, c7, hv7, _⟩ := Own.rd ho7
      subst hv7
      have HO7 : Hid (Own w0 (SdB b5 x0 x1 (.slice ad k cp) * (IntSl (.slice a7 (k + 1) c7) (clkN B (k + 1)) * X)) w7) := Lib.hid (by
        have h7 : Own w0 (IntSl (.slice a7 (k + 1) c7) (clkN B (k + 1)) * _) w7 := ho7.perm (show _ = IntSl (.slice a7 (k + 1) c7) (clkN B (k + 1)) * _ by unfold IntSl; rw [clkN_succ, ← HI.out, HNUM.out, List.length_append, List.map_append, HNEWS.out]; rfl)
        exact h7.second.drop.second)
      clear ho7
      obtain ⟨_, _, e3, _, _, f2⟩ := HO7.out.sdB
      refine hK _ _ ⟨e3, ?_⟩
      clear hK K
      go_simp
      repeat (refine wpMix_read ?_ rfl ?_ ?_; rotate_left; (focus (intro _ hS; obtain s3 := hS; first | with_reducible rfl | (go_simp; done) | (go_simp; with_reducible rfl) | rfl)); go_simp)
      refine wpMix_nil ?_
      have HO8 := Lib.hid (HO7.out.setCell (i := 2) (v := .slice a7 (k + 1) c7))
      go_wp2_with fail
      refine NoPanic.normal ?_
      go_wp2_with fail
      go_roundw
      case rel => exact ⟨k + 1, i + 3, by omega, by rw [HI.out]; omega, by go_num, Lib.hid ⟨.slice a7 (k + 1) c7, HO8.out.second⟩⟩
      case measure => simp [intOf]; omega
    · have hk5 : k = 5 := by omega
      subst hk5
      have hi17 : i = 17 := hi
      subst hi17
      clear hi z0 z1 z2 f0 f1 f2
      have HO9 : Hid (Own w0 (SdB b1 0 0 (.slice none 0 0) * (SdB b5 x0 x1 (.slice ad 5 cp) * (IntSl (.slice ad 5 cp) (clkN B 5) * R))) wr) := Lib.hid (ho.perm (by rw [HX.out]; ac_rfl))
      obtain ⟨z0, z1, z2, f0, f1, f2⟩ := HO9.out.sdB
      obtain ⟨y0, y1, y2, _⟩ := HO9.out.drop.sdB
      have hRI : Ints wr (.slice ad 5 cp) (clkN B 5) := IntSl_reads (clkN_I64 B 5) _ ho
      have HO := Lib.hid ho; have HRI := Lib.hid hRI
      clear ho hRI
      by_cases q1 : 4 < (x0 : Int)
      · have hs : saidErr x0 x1 (clkN B 5) ≠ 0 := by unfold saidErr; rw [if_pos (by simp [isMember]; omega)]; decide
        have t1 : decide (4 < (x0 : Int)) = true := decide_eq_true q1
        have tn1 : decide (4 < x0) = true := decide_eq_true (by omega)
        clear q1
        have hE : unpackErr B ≠ 0 := read_bad HB.out (by rw [HX0.out, HX1.out]; exact .inl hs)
        obtain ⟨e1, e2, e3, e4⟩ := read_zero hE
        have HF := Lib.hid (HO9.out.sdB_put 0 0 (.slice none 0 0))
        obtain ⟨r0, r1, r2, _⟩ := HF.out.sdB
        have HE := Lib.hid hE; have E1 := Lib.hid e1; have E2 := Lib.hid e2; have E3 := Lib.hid e3; have E4 := Lib.hid e4
        clear hE e1 e2 e3 e4
        go_wp2_with fail
        exact bodyPost_ret (v := .tuple #[.agg #[.int .i64 0, .int .i64 0, .slice none 0 0], .bool false]) (by simp [results, Tryd.results24, go_sem, r0, r1, r2]) rfl ⟨_, by rw [E1.out, E2.out, E4.out], by rw [E3.out]; exact HF.out.drop.drop.drop.sl_nil _ _⟩
      have t1 : decide (4 < (x0 : Int)) = false := decide_eq_false q1
      have tn1 : decide (4 < x0) = false := decide_eq_false (by omega)
      have hm : isMember x0 = true := by simp [isMember]; omega
      by_cases q2 : (x1 : Int) < 1
      · have hs : saidErr x0 x1 (clkN B 5) ≠ 0 := by unfold saidErr; rw [if_neg (by rw [hm]; simp), if_pos (by simp [isWord]; omega)]; decide
        have t2 : decide ((x1 : Int) < 1) = true := decide_eq_true q2
        clear q1 q2
        have hE : unpackErr B ≠ 0 := read_bad HB.out (by rw [HX0.out, HX1.out]; exact .inl hs)
        obtain ⟨e1, e2, e3, e4⟩ := read_zero hE
        have HF := Lib.hid (HO9.out.sdB_put 0 0 (.slice none 0 0))
        obtain ⟨r0, r1, r2, _⟩ := HF.out.sdB
        have HE := Lib.hid hE; have E1 := Lib.hid e1; have E2 := Lib.hid e2; have E3 := Lib.hid e3; have E4 := Lib.hid e4
        clear hE e1 e2 e3 e4
        go_wp2_with fail
        exact bodyPost_ret (v := .tuple #[.agg #[.int .i64 0, .int .i64 0, .slice none 0 0], .bool false]) (by simp [results, Tryd.results24, go_sem, r0, r1, r2]) rfl ⟨_, by rw [E1.out, E2.out, E4.out], by rw [E3.out]; exact HF.out.drop.drop.drop.sl_nil _ _⟩
      have t2 : decide ((x1 : Int) < 1) = false := decide_eq_false q2
      by_cases q3 : 30 < (x1 : Int)
      · have hs : saidErr x0 x1 (clkN B 5) ≠ 0 := by unfold saidErr; rw [if_neg (by rw [hm]; simp), if_pos (by simp [isWord]; omega)]; decide
        have t3 : decide (30 < (x1 : Int)) = true := decide_eq_true q3
        have tn3 : decide (30 < x1) = true := decide_eq_true (by omega)
        clear q1 q2 q3
        have hE : unpackErr B ≠ 0 := read_bad HB.out (by rw [HX0.out, HX1.out]; exact .inl hs)
        obtain ⟨e1, e2, e3, e4⟩ := read_zero hE
        have HF := Lib.hid (HO9.out.sdB_put 0 0 (.slice none 0 0))
        obtain ⟨r0, r1, r2, _⟩ := HF.out.sdB
        have HE := Lib.hid hE; have E1 := Lib.hid e1; have E2 := Lib.hid e2; have E3 := Lib.hid e3; have E4 := Lib.hid e4
        clear hE e1 e2 e3 e4
        go_wp2_with fail
        exact bodyPost_ret (v := .tuple #[.agg #[.int .i64 0, .int .i64 0, .slice none 0 0], .bool false]) (by simp [results, Tryd.results24, go_sem, r0, r1, r2]) rfl ⟨_, by rw [E1.out, E2.out, E4.out], by rw [E3.out]; exact HF.out.drop.drop.drop.sl_nil _ _⟩
      have t3 : decide (30 < (x1 : Int)) = false := decide_eq_false q3
      have tn3 : decide (30 < x1) = false := decide_eq_false (by omega)
      have hw : isWord x1 = true := by simp [isWord]; omega
      have hsv : saidErr x0 x1 (clkN B 5) = vecErr (clkN B 5) := by unfold saidErr; rw [if_neg (by rw [hm]; simp), if_neg (by rw [hw]; simp)]
      obtain ⟨V, hV⟩ : ∃ V, V = vecErr (clkN B 5) := ⟨_, rfl⟩
      rw [← hV] at hsv
      clear q1 q2 q3
      have HM := Lib.hid hm; have HW := Lib.hid hw; have HV := Lib.hid hV
      clear hm hw hV
      by_cases q4 : V = 0
      rotate_left
      · have tV : ((V : Int) != 0) = true := by rw [bne_iff_ne]; omega
        have hs : saidErr x0 x1 (clkN B 5) ≠ 0 := by rw [hsv]; exact q4
        have HSV := Lib.hid hsv; have Q4 := Lib.hid q4
        clear hsv q4
        go_wp2_with fail
        refine (refVector_any _ (clkN B 5) _ HRI.out).mono ?_
        rintro e w' ⟨rfl, rfl⟩
        rw [← HV.out]
        have hE : unpackErr B ≠ 0 := read_bad HB.out (by rw [HX0.out, HX1.out]; exact .inl hs)
        obtain ⟨e1, e2, e3, e4⟩ := read_zero hE
        have HF := Lib.hid (HO9.out.sdB_put 0 0 (.slice none 0 0))
        obtain ⟨r0, r1, r2, _⟩ := HF.out.sdB
        have HE := Lib.hid hE; have E1 := Lib.hid e1; have E2 := Lib.hid e2; have E3 := Lib.hid e3; have E4 := Lib.hid e4
        clear hE e1 e2 e3 e4
        go_wp2_with fail
        exact bodyPost_ret (v := .tuple #[.agg #[.int .i64 0, .int .i64 0, .slice none 0 0], .bool false]) (by simp [results, Tryd.results24, go_sem, r0, r1, r2]) rfl ⟨_, by rw [E1.out, E2.out, E4.out], by rw [E3.out]; exact HF.out.drop.drop.drop.sl_nil _ _⟩
      rw [q4] at hsv
      subst q4
      have HSV := Lib.hid hsv
      clear hsv
      go_wp2_with fail
      refine (refVector_any _ (clkN B 5) _ HRI.out).mono ?_
      rintro e w' ⟨rfl, rfl⟩
      rw [← HV.out]
      go_wp2_with fail
      refine (refBytes_any x0 x1 _ (clkN B 5) HSV.out HO9.out (Reads.more (Reads.more (IntSl_reads (clkN_I64 B 5))))).mono ?_
      rintro e w9 ⟨rfl, ho9⟩
      obtain ⟨P, hP⟩ : ∃ P, P = packS x0 x1 (clkN B 5) := ⟨_, rfl⟩
      rw [← hP]
      have HOA := Lib.hid ho9
      clear ho9 z0 z1 z2 f0 f1 f2 y0 y1 y2
      obtain ⟨z0, z1, z2, f0, f1, f2⟩ := HOA.out.sdB
      obtain ⟨y0, y1, y2, _⟩ := HOA.out.drop.sdB
      by_cases hpt : P = t
      rotate_left
      · have hs : packS x0 x1 (clkN B 5) ≠ t := by rw [← hP]; exact hpt
        have tS : (P.toList == t.toList) = false := by
          rw [beq_eq_false_iff_ne]
          intro e
          exact hpt (bytes_ext (by rw [← ByteArray.toList_eq, ← ByteArray.toList_eq]; exact e))
        have HPT := Lib.hid hpt; have HP := Lib.hid hP
        clear hpt hP
        have hE : unpackErr B ≠ 0 := read_bad HB.out (by rw [HX0.out, HX1.out]; exact .inr hs)
        obtain ⟨e1, e2, e3, e4⟩ := read_zero hE
        have HF := Lib.hid (HOA.out.sdB_put 0 0 (.slice none 0 0))
        obtain ⟨r0, r1, r2, _⟩ := HF.out.sdB
        have HE := Lib.hid hE; have E1 := Lib.hid e1; have E2 := Lib.hid e2; have E3 := Lib.hid e3; have E4 := Lib.hid e4
        clear hE e1 e2 e3 e4
        go_wp2_with fail
        exact bodyPost_ret (v := .tuple #[.agg #[.int .i64 0, .int .i64 0, .slice none 0 0], .bool false]) (by simp [results, Tryd.results24, go_sem, r0, r1, r2]) rfl ⟨_, by rw [E1.out, E2.out, E4.out], by rw [E3.out]; exact HF.out.drop.drop.drop.sl_nil _ _⟩
      subst hpt
      have hE : unpackErr B = 0 := read_good HB.out (by rw [HX0.out, HX1.out]; exact HSV.out) (by rw [HX0.out, HX1.out]; exact hP.symm)
      have e1 : unpackWho B = x0 := by unfold unpackWho; rw [if_pos hE, HX0.out]
      have e2 : unpackWord B = x1 := by unfold unpackWord; rw [if_pos hE, HX1.out]
      have e3 : unpackClock B = clkN B 5 := by unfold unpackClock; rw [if_pos hE]
      have e4 : decide (unpackErr B = 0) = true := decide_eq_true hE
      have HF := Lib.hid (HOA.out.sdB_put x0 x1 (.slice ad 5 cp))
      obtain ⟨r0, r1, r2, _⟩ := HF.out.sdB
      have HE := Lib.hid hE; have E1 := Lib.hid e1; have E2 := Lib.hid e2; have E3 := Lib.hid e3; have E4 := Lib.hid e4; have HP := Lib.hid hP
      clear hE e1 e2 e3 e4 hP
      go_wp2_with fail
      exact bodyPost_ret (v := .tuple #[.agg #[.int .i64 x0, .int .i64 x1, .slice ad 5 cp], .bool true]) (by simp [results, Tryd.results24, go_sem, r0, r1, r2]) rfl ⟨_, by rw [E1.out, E2.out, E4.out], by rw [E3.out]; exact HF.out.drop.drop⟩
end Go.Proofs.YtbfiahdddbcebaaDoor
