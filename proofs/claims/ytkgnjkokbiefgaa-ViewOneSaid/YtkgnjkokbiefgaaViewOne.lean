/- ViewOne: the next of a view meets and chains with it; two nexts of one view meet. -/
import Derived.Test.YtkgnjkokbiefgaaViewOneP
import Derived.Deep.DeepCutAuto
import Derived.Deep.CutBlock
namespace Go.Proofs.Ytkgnjkokbiefgaa
set_option linter.unusedVariables false
set_option linter.unusedSimpArgs false
open Go.RowKit
theorem vo_fact : nextErr 3 [0, 1, 2] [1, 2, 4] = 0 := by decide
theorem vo_n : nextN 3 [0, 1, 2] [1, 2, 4] = 4 := by decide
theorem vo_has : nextHas 3 [0, 1, 2] [1, 2, 4] = [1, 2, 4] := by decide
set_option maxRecDepth 100000 in
set_option maxHeartbeats 4000000 in
theorem viewOne_any {w : World} (n : Int) (v va vb : Value) (V A B : List Int) (hV : Ints w v V) (hA : Ints w va A) (hB : Ints w vb B) :
    Calls Try.prog 4 #[.agg #[.int .i64 n, v], va, vb] w fun e w' => e = .returned (.bool true) ∧ Own w emp w' := by
  obtain ⟨sd, scap, hs, hac, hac2⟩ := hV.shape
  subst hs
  obtain ⟨o1, ho1⟩ : ∃ o, o = Obj.cells #[.int .i64 n, .slice sd V.length scap] 39 (0, 0) := ⟨_, rfl⟩
  obtain ⟨o2, ho2⟩ : ∃ o, o = Obj.cells #[.int .i64 0, .int .i64 1, .int .i64 2] 3 (0, 0) := ⟨_, rfl⟩
  obtain ⟨o3, ho3⟩ : ∃ o, o = Obj.cells #[.int .i64 1, .int .i64 2, .int .i64 4] 3 (0, 0) := ⟨_, rfl⟩
  obtain ⟨b1, hb1⟩ : ∃ c, c = w.heap.size := ⟨_, rfl⟩
  obtain ⟨b2, hb2⟩ : ∃ c, c = (w.alloc o1).heap.size := ⟨_, rfl⟩
  obtain ⟨b3, hb3⟩ : ∃ c, c = ((w.alloc o1).alloc o2).heap.size := ⟨_, rfl⟩
  obtain ⟨w3, hw3⟩ : ∃ c, c = ((w.alloc o1).alloc o2).alloc o3 := ⟨_, rfl⟩
  have hb2' : w.heap.size + 1 = b2 := by rw [hb2]; simp
  have hb3' : b2 + 1 = b3 := by rw [hb3, hb2]; simp
  have h1 := (Own.start w).alloc o1
  have h2 := h1.alloc o2
  rw [← hb1, ← hb2, ho2] at h2
  have h2' := h2.lits [0, 1, 2] 3 rfl (by omega)
  rw [← ho2] at h2'
  have h3 := h2'.alloc o3
  rw [← hb3, ho3] at h3
  have h3' := h3.lits [1, 2, 4] 3 rfl (by omega)
  rw [← ho3, ← hw3, ho1] at h3'
  have HO : Hid (Own w (IntSl (.slice (some ⟨b3, 0, none⟩) 3 3) [1, 2, 4] * (IntSl (.slice (some ⟨b2, 0, none⟩) 3 3) [0, 1, 2] * (VwO b1 n (.slice sd V.length scap) * emp))) w3) := Lib.hid h3'
  clear h1 h2 h2' h3 h3' hb2 hb3
  have HV := Lib.hid hV; have HA := Lib.hid hA; have HB := Lib.hid hB
  clear hV hA hB
  go_enter Try.func4, Try.ntmps4
  go_wp2_with fail
  rw [← hb1, ← ho1, ← ho2, ← ho3, ← hw3]
  clear hb3' hb2' hb1 ho1 ho2 ho3 hw3
  refine (viewNext_any 3 _ _ [0, 1, 2] [1, 2, 4] (IntSl_reads (by intro x hx; simp at hx; unfold I64; omega)).more (IntSl_reads (by intro x hx; simp at hx; unfold I64; omega)) HO.out).mono ?_
  rintro e w4 ⟨v4, rfl, ho⟩
  rw [vo_has] at ho
  rw [vo_fact, vo_n, errV0]
  obtain ⟨vb4, off4, cap4, hv4, hc4, _, hcell, _⟩ := ho.ints_at (by simp)
  subst hv4
  have HO4 := Lib.hid (ho.perm (show _ = VwO b1 n (.slice sd V.length scap) * (IntSl (.slice (some ⟨vb4, off4, none⟩) 3 cap4) [1, 2, 4] * (IntSl (.slice (some ⟨b3, 0, none⟩) 3 3) [1, 2, 4] * (IntSl (.slice (some ⟨b2, 0, none⟩) 3 3) [0, 1, 2] * emp))) by ac_rfl))
  obtain ⟨c10, c11, _⟩ := HO4.out.vw
  have x2 := hcell 2 (by simp)
  have x2' : w4.cell? ⟨vb4, off4 + 2, none⟩ = some (.int .i64 4) := x2
  obtain ⟨o5, ho5⟩ : ∃ o, o = Obj.cells #[.int .i64 4, .slice (some ⟨vb4, off4, none⟩) 3 cap4] 39 (0, 0) := ⟨_, rfl⟩
  obtain ⟨b5, hb5⟩ : ∃ c, c = w4.heap.size := ⟨_, rfl⟩
  obtain ⟨w5, hw5⟩ : ∃ c, c = w4.alloc o5 := ⟨_, rfl⟩
  have h5 := HO4.out.alloc o5
  rw [← hb5, ← hw5, ho5] at h5
  clear ho hcell x2
  obtain ⟨c50, c51, _⟩ := (show Own w (VwO b5 4 (.slice (some ⟨vb4, off4, none⟩) 3 cap4) * _) w5 from h5).vw
  have x5 : w5.cell? ⟨vb4, off4 + 2, none⟩ = some (.int .i64 4) := by
    obtain ⟨vb4', off4', cap4', hv4, _, _, hcell, _⟩ := (h5.drop.perm (star_left_comm _ _ _)).ints_at (by simp)
    cases hv4
    exact hcell 2 (by simp)
  have HO5 : Hid (Own w (VwO b1 n (.slice sd V.length scap) * emp) w5) := Lib.hid ((h5.drop.perm (show _ = IntSl (.slice (some ⟨vb4, off4, none⟩) 3 cap4) [1, 2, 4] * (IntSl (.slice (some ⟨b3, 0, none⟩) 3 3) [1, 2, 4] * (IntSl (.slice (some ⟨b2, 0, none⟩) 3 3) [0, 1, 2] * (VwO b1 n (.slice sd V.length scap) * emp))) by ac_rfl)).drop.drop.drop)
  obtain ⟨e10, e11, _⟩ := HO5.out.vw
  clear h5 c10 c11 x2'
  go_upto_region 2 with fail
  rw [← hb5]
  try rw [show ([1, 2, 4] : List Int).length = 3 from rfl]
  rw [← ho5, ← hw5]
  clear hb5 ho5 hw5
  have HVR : Hid (Reads w (VwO b1 n (.slice sd V.length scap) * emp) (.slice sd V.length scap) V) := Lib.hid HV.out.reads
  have HAR : Hid (Reads w (VwO b1 n (.slice sd V.length scap) * emp) va A) := Lib.hid HA.out.reads
  have HBR : Hid (Reads w (VwO b1 n (.slice sd V.length scap) * emp) vb B) := Lib.hid HB.out.reads
  go_wp2_with fail
  refine (viewNext_any n _ va V A HVR.out HAR.out HO5.out).mono ?_
  rintro e w6 ⟨v6, rfl, ho⟩
  obtain ⟨xn, hxn⟩ : ∃ c, c = nextN n V A := ⟨_, rfl⟩
  obtain ⟨xh, hxh⟩ : ∃ c, c = nextHas n V A := ⟨_, rfl⟩
  rw [← hxh] at ho
  rw [← hxn]
  have HXN := Lib.hid hxn; have HXH := Lib.hid hxh
  clear hxn hxh
  obtain ⟨xad, xcap, hv6, _, _⟩ := Own.rd ho
  subst hv6
  obtain ⟨o7, ho7⟩ : ∃ o, o = Obj.cells #[.int .i64 xn, .slice xad xh.length xcap] 39 (0, 0) := ⟨_, rfl⟩
  obtain ⟨b7, hb7⟩ : ∃ c, c = w6.heap.size := ⟨_, rfl⟩
  obtain ⟨w7, hw7⟩ : ∃ c, c = w6.alloc o7 := ⟨_, rfl⟩
  have h7 := ho.alloc o7
  rw [← hb7, ← hw7, ho7] at h7
  have HO7 : Hid (Own w (VwO b1 n (.slice sd V.length scap) * (VwO b7 xn (.slice xad xh.length xcap) * (IntSl (.slice xad xh.length xcap) xh * emp))) w7) := Lib.hid (h7.perm (show _ = VwO b7 xn (.slice xad xh.length xcap) * (IntSl (.slice xad xh.length xcap) xh * (VwO b1 n (.slice sd V.length scap) * emp)) from rfl) |>.perm (by ac_rfl))
  obtain ⟨f10, f11, _⟩ := HO7.out.vw
  clear ho h7 x5 c50 c51 e10 e11
  go_upto_region 5 with fail
  rw [← hb7, ← ho7, ← hw7]
  clear hb7 ho7 hw7
  go_wp2_with fail
  refine (viewNext_any n _ vb V B HV.out.reads HB.out.reads HO7.out).mono ?_
  rintro e w8 ⟨v8, rfl, ho⟩
  obtain ⟨yn, hyn⟩ : ∃ c, c = nextN n V B := ⟨_, rfl⟩
  obtain ⟨yh, hyh⟩ : ∃ c, c = nextHas n V B := ⟨_, rfl⟩
  rw [← hyh] at ho
  rw [← hyn]
  have HYN := Lib.hid hyn; have HYH := Lib.hid hyh
  clear hyn hyh
  obtain ⟨yad, ycap, hv8, _, _⟩ := Own.rd ho
  subst hv8
  obtain ⟨o9, ho9⟩ : ∃ o, o = Obj.cells #[.int .i64 yn, .slice yad yh.length ycap] 39 (0, 0) := ⟨_, rfl⟩
  obtain ⟨b9, hb9⟩ : ∃ c, c = w8.heap.size := ⟨_, rfl⟩
  obtain ⟨w9, hw9⟩ : ∃ c, c = w8.alloc o9 := ⟨_, rfl⟩
  have h9 := ho.alloc o9
  rw [← hb9, ← hw9, ho9] at h9
  have HO9 : Hid (Own w (VwO b1 n (.slice sd V.length scap) * (VwO b7 xn (.slice xad xh.length xcap) * (VwO b9 yn (.slice yad yh.length ycap) * (IntSl (.slice xad xh.length xcap) xh * (IntSl (.slice yad yh.length ycap) yh * emp))))) w9) := Lib.hid (h9.perm (show _ = VwO b9 yn (.slice yad yh.length ycap) * (IntSl (.slice yad yh.length ycap) yh * (VwO b1 n (.slice sd V.length scap) * (VwO b7 xn (.slice xad xh.length xcap) * (IntSl (.slice xad xh.length xcap) xh * emp)))) from rfl) |>.perm (by ac_rfl))
  obtain ⟨g10, g11, _⟩ := HO9.out.vw
  obtain ⟨g70, g71, _⟩ := (HO9.out.perm (star_left_comm _ _ _)).vw
  clear ho h9 f10 f11
  go_upto_region 6 with fail
  rw [← hb9, ← ho9, ← hw9]
  clear hb9 ho9 hw9
  by_cases he1 : nextErr n V A = 0
  rotate_left
  · have hee := errV_pos he1
    rw [hee]
    have HEE := Lib.hid hee; have HE1 := Lib.hid he1
    clear hee he1
    go_wp2
    go_ret
    exact ⟨rfl, HO9.out.drop.drop.drop.drop.drop⟩
  obtain ⟨hv0, hx0, hmo⟩ := nextErr0 he1
  have hxn1 : xn = n + 1 := by rw [HXN.out]; unfold nextN; rw [if_pos he1]
  have hxh1 : xh = A := by rw [HXH.out]; unfold nextHas; rw [if_pos he1]
  subst hxh1
  have hn1 := (viewErr0 hv0).1.1
  have hn2 := (viewErr0 hx0).1.2
  have hA5 := (memErr_len (viewErr0 hx0).2).2
  have hbe : vbothErr n V (n + 1) xh = 0 := by unfold vbothErr; rw [if_neg (by simp [hv0])]; exact hx0
  have hbh : vbothHas n V (n + 1) xh = keepB xh V := by unfold vbothHas; rw [if_pos hbe]
  have hbn : keepB xh V ≠ [] := keepB_most hmo
  have HI : ∀ z ∈ xh, I64 z := HA.out.2
  rw [show errV (nextErr n V xh) = .nilIface by rw [he1]; rfl]
  subst hxn1
  have HE1 := Lib.hid he1; have HV0 := Lib.hid hv0; have HX0 := Lib.hid hx0; have HMO := Lib.hid hmo; have HBE := Lib.hid hbe; have HBH := Lib.hid hbh; have HBN := Lib.hid hbn
  clear he1 hv0 hx0 hmo hbe hbh hbn
  go_wp2_with fail
  refine (viewBoth_any n (n + 1) _ _ V xh HV.out.reads (IntSl_reads HI).more.more.more HO9.out).mono ?_
  rintro e w10 ⟨v10, rfl, ho⟩
  rw [HBH.out] at ho
  rw [HBE.out, errV0]
  obtain ⟨kad, kcap, hv10, _, _⟩ := Own.rd ho
  subst hv10
  obtain ⟨kl, hkl⟩ : ∃ c, c = (keepB xh V).length := ⟨_, rfl⟩
  have hkl0 : 0 < kl := by rw [hkl]; exact List.length_pos_iff.mpr HBN.out
  rw [← hkl]
  have hk1 : ((kl : Int) == 0) = false := by rw [beq_eq_false_iff_ne]; omega
  have HKL := Lib.hid hkl
  clear hkl
  have HO10 := Lib.hid ho.drop
  clear ho
  obtain ⟨g10, g11, _⟩ := HO10.out.vw
  obtain ⟨g70, g71, _⟩ := (HO10.out.perm (star_left_comm _ _ _)).vw
  have HVR2 : Hid (Reads w (VwO b1 n (.slice sd V.length scap) * (VwO b7 (n + 1) (.slice xad xh.length xcap) * (VwO b9 yn (.slice yad yh.length ycap) * (IntSl (.slice xad xh.length xcap) xh * (IntSl (.slice yad yh.length ycap) yh * emp))))) (.slice sd V.length scap) V) := Lib.hid HV.out.reads
  have HXR2 : Hid (Reads w (VwO b1 n (.slice sd V.length scap) * (VwO b7 (n + 1) (.slice xad xh.length xcap) * (VwO b9 yn (.slice yad yh.length ycap) * (IntSl (.slice xad xh.length xcap) xh * (IntSl (.slice yad yh.length ycap) yh * emp))))) (.slice xad xh.length xcap) xh) := Lib.hid (IntSl_reads HI).more.more.more
  obtain ⟨o11, ho11⟩ : ∃ o, o = Obj.cells #[.int .i64 n, .slice sd V.length scap, .int .i64 (n + 1), .slice xad xh.length xcap] 39 (0, 0) := ⟨_, rfl⟩
  obtain ⟨b11, hb11⟩ : ∃ c, c = w10.heap.size := ⟨_, rfl⟩
  obtain ⟨w11, hw11⟩ : ∃ c, c = w10.alloc o11 := ⟨_, rfl⟩
  have h11 := HO10.out.alloc o11
  rw [← hb11, ← hw11, ho11] at h11
  have HO11 := Lib.hid h11
  have HRV := Lib.hid (HO10.out.two_views (b := b11) (n := n) (m := n + 1) HVR2.out HXR2.out)
  clear h11
  go_upto_region 9 with fail
  go_wp2_with fail
  rw [← hb11, ← ho11, ← hw11]
  clear hb11 ho11 hw11
  refine (viewChain_any _ _ HRV.out HO11.out).mono ?_
  rintro e w12 ⟨rfl, ho⟩
  rw [show chainR [(n, .slice sd V.length scap, V), (n + 1, .slice xad xh.length xcap, xh)] = (0, 0) from chain_two HE1.out]
  simp only [errV0]
  have HO12 := Lib.hid ho.drop
  clear ho g10 g11 g70 g71
  obtain ⟨g10, g11, _⟩ := HO12.out.vw
  obtain ⟨g70, g71, _⟩ := (HO12.out.perm (star_left_comm _ _ _)).vw
  by_cases he2 : nextErr n V B = 0
  rotate_left
  · have hee := errV_pos he2
    rw [hee]
    have HEE := Lib.hid hee; have HE2 := Lib.hid he2
    clear hee he2
    go_wp2
    go_ret
    exact ⟨rfl, HO12.out.drop.drop.drop.drop.drop⟩
  obtain ⟨_, hy0, hmoy⟩ := nextErr0 he2
  have hyn1 : yn = n + 1 := by rw [HYN.out]; unfold nextN; rw [if_pos he2]
  have hyh1 : yh = B := by rw [HYH.out]; unfold nextHas; rw [if_pos he2]
  subst hyh1
  subst hyn1
  have hB5 := (memErr_len (viewErr0 hy0).2).2
  have hbe2 : vbothErr (n + 1) xh (n + 1) yh = 0 := by unfold vbothErr; rw [if_neg (by simp [HX0.out])]; exact hy0
  have hbh2 : vbothHas (n + 1) xh (n + 1) yh = keepB yh xh := by unfold vbothHas; rw [if_pos hbe2]
  have hbn2 : keepB yh xh ≠ [] := keepB_meet HMO.out hmoy
  have HJ : ∀ z ∈ yh, I64 z := HB.out.2
  rw [show errV (nextErr n V yh) = .nilIface by rw [he2]; rfl]
  have HE2 := Lib.hid he2; have HY0 := Lib.hid hy0; have HMOY := Lib.hid hmoy; have HBE2 := Lib.hid hbe2; have HBH2 := Lib.hid hbh2; have HBN2 := Lib.hid hbn2
  clear he2 hy0 hmoy hbe2 hbh2 hbn2
  obtain ⟨g90, g91, _⟩ := (HO12.out.perm (show _ = VwO b9 (n + 1) (.slice yad yh.length ycap) * (VwO b1 n (.slice sd V.length scap) * (VwO b7 (n + 1) (.slice xad xh.length xcap) * (IntSl (.slice xad xh.length xcap) xh * (IntSl (.slice yad yh.length ycap) yh * emp)))) by ac_rfl)).vw
  go_wp2_with fail
  refine (viewBoth_any (n + 1) (n + 1) _ _ xh yh (IntSl_reads HI).more.more.more (IntSl_reads HJ).more.more.more.more HO12.out).mono ?_
  rintro e w13 ⟨v13, rfl, ho⟩
  rw [HBH2.out] at ho
  rw [HBE2.out]
  simp only [errV0]
  obtain ⟨qad, qcap, hv13, _, _⟩ := Own.rd ho
  subst hv13
  obtain ⟨ql, hql⟩ : ∃ c, c = (keepB yh xh).length := ⟨_, rfl⟩
  have hql0 : 0 < ql := by rw [hql]; exact List.length_pos_iff.mpr HBN2.out
  rw [← hql]
  have hq1 : decide ((0 : Int) < (ql : Int)) = true := by simp; omega
  have HQL := Lib.hid hql
  clear hql
  have HO13 := Lib.hid ho.drop
  clear ho
  go_wp2
  go_ret
  exact ⟨rfl, HO13.out.drop.drop.drop.drop.drop⟩
set_option maxRecDepth 100000 in
set_option maxHeartbeats 4000000 in
theorem viewOne_law (w : World) (v : Value) (x : Int × Value × List Int) (hx : v = .agg #[.int .i64 x.1, x.2.1] ∧ I64 x.1 ∧ Ints w x.2.1 x.2.2) (va : Value) (A : List Int) (hA : Ints w va A) (vb : Value) (B : List Int) (hB : Ints w vb B) :
    Calls Try.prog 4 #[v, va, vb] w fun e w' => e = .returned (.bool true) ∧ Below w.heap.size w w' := by
  obtain ⟨rfl, _, hV⟩ := hx
  exact (viewOne_any x.1 x.2.1 va vb x.2.2 A B hV hA hB).mono fun e w' ⟨h1, h2⟩ => ⟨h1, h2.below⟩
end Go.Proofs.Ytkgnjkokbiefgaa
