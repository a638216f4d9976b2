/- The reference's net, continued: Give. -/
import Derived.Test.YtldmdenojpnldaaDoorNetR2
namespace Go.Proofs.YtldmdenojpnldaaDoor
set_option linter.unusedVariables false
set_option linter.unusedSimpArgs false
open Go.RowKit Go.Maps
set_option maxRecDepth 100000 in
set_option maxHeartbeats 4000000 in
theorem rnGive_any {w0 w : World} {R : HProp} (p : Nat) (s : Nt) (i : Int) (hI : NtI s) (h : Own w0 (RnP p s * R) w) :
    Calls Tryd.prog 22 #[.pointer (some ⟨p, 0, none⟩), .int .i64 i] w fun e w' => e = .returned (.tuple #[evV (ntGiven s i), .int .i64 (ntGiveErr s i)]) ∧ Own w0 (RnP p (ntGive s i) * R) w' := by
  obtain ⟨b1, hb_b1⟩ : ∃ zz_, zz_ = (w).heap.size := ⟨_, rfl⟩
  obtain ⟨w1, hw_w1⟩ : ∃ zz_, zz_ = (w).alloc (.cells #[.int .i64 0, .int .i64 0, .int .i64 0] 23 (0, 0)) := ⟨_, rfl⟩
  have h_HO := (h).alloc (.cells #[.int .i64 0, .int .i64 0, .int .i64 0] 23 (0, 0))
  rw [← hb_b1, ← hw_w1] at h_HO
  have HO := Lib.hid h_HO
  clear h_HO
  have HO1 : Hid (Own w0 (RnP p s * (PkO b1 (0, 0, 0) * R)) w1) := Lib.hid HO.out.second
  obtain ⟨x0, x1, x2⟩ := HO1.out.second.pk
  have xf0 := HO1.out.second.pk_free 0 none
  have xf1 := HO1.out.second.pk_free 1 none
  have xf2 := HO1.out.second.pk_free 2 none
  simp only at x0 x1 x2
  clear HO h
  obtain ⟨ad, cap0, B, hB, h3, h4, ho⟩ := HO1.out.rn_open
  obtain ⟨c0, cf, cb⟩ := ho.rn_facts
  cases hh : ntHas s i
  · have hE : ntGiveErr s i = 1 := by unfold ntGiveErr; rw [hh]; rfl
    have hS : ntGive s i = s := by unfold ntGive; rw [hE]; rfl
    have hG : ntGiven s i = (0, 0, 0) := by unfold ntGiven; rw [hE]; rfl
    rw [hE, hS, hG]
    have HPUT := Lib.hid (HO1.out.second.pk_put (0, 0, 0))
    obtain ⟨q0, q1, q2⟩ := HPUT.out.pk
    simp only at q0 q1 q2
    obtain ⟨L, hL⟩ : ∃ L, L = s.all.length := ⟨_, rfl⟩
    have hno : i < 0 ∨ (L : Int) ≤ i := by
      have := mt (ntHas_iff (s := s) (i := i)).2 (by rw [hh]; simp)
      omega
    rw [← hL] at c0 h3
    by_cases hi0 : i < 0
    · have t1 : decide (i < 0) = true := by simpa using hi0
      have HE := Lib.hid hE; have HS := Lib.hid hS; have HG := Lib.hid hG; have HI := Lib.hid hI; have HB := Lib.hid hB; have CF := Lib.hid cf; have CB := Lib.hid cb; have HO := Lib.hid ho; have HH := Lib.hid hh; have HL := Lib.hid hL; have HNO := Lib.hid hno; have HI0 := Lib.hid hi0
      clear hE hS hG hI hB cf cb ho hh hL hno hi0
      go_enter Tryd.func22, Tryd.ntmps22
      go_upto_region 1 with fail
      rw [← hb_b1, ← hw_w1]
      clear hb_b1 hw_w1
      go_wp2_with fail
      exact bodyPost_ret (v := .tuple #[evV (0, 0, 0), .int .i64 1]) (by simp [results, Tryd.results22, go_sem, q0, q1, q2, evV]) rfl ⟨rfl, HPUT.out.drop⟩
    · have t1 : decide (i < 0) = false := by simpa using hi0
      have t2 : decide ((L : Int) ≤ i) = true := decide_eq_true (by omega)
      have HE := Lib.hid hE; have HS := Lib.hid hS; have HG := Lib.hid hG; have HI := Lib.hid hI; have HB := Lib.hid hB; have CF := Lib.hid cf; have CB := Lib.hid cb; have HO := Lib.hid ho; have HH := Lib.hid hh; have HL := Lib.hid hL; have HNO := Lib.hid hno; have HI0 := Lib.hid hi0
      clear hE hS hG hI hB cf cb ho hh hL hno hi0
      go_enter Tryd.func22, Tryd.ntmps22
      go_upto_region 1 with fail
      rw [← hb_b1, ← hw_w1]
      clear hb_b1 hw_w1
      go_wp2_with fail
      exact bodyPost_ret (v := .tuple #[evV (0, 0, 0), .int .i64 1]) (by simp [results, Tryd.results22, go_sem, q0, q1, q2, evV]) rfl ⟨rfl, HPUT.out.drop⟩
  obtain ⟨hi0, hi1⟩ := ntHas_iff.1 hh
  obtain ⟨k, rfl⟩ : ∃ k : Nat, i = (k : Int) := ⟨i.toNat, by omega⟩
  have hk : k < s.all.length := by omega
  have hlen := hI.len
  obtain ⟨pe1, pe2, _, pe3⟩ := pkErr0 (hI.ok _ (ntAt_mem hh))
  obtain ⟨D, hD⟩ : ∃ D, D = ntCutAt s k := ⟨_, rfl⟩
  have hE : ntGiveErr s k = if D = true then 6 else 0 := by unfold ntGiveErr; rw [hh, ← hD]; rfl
  obtain ⟨b, off, cap0', hv, h5, h6, d0, d1, d2⟩ := ho.rn_at hk
  unfold ntCutAt at hD
  have hG0 : ntGiven s k = if D = true then (0, 0, 0) else ntAt s k := by unfold ntGiven; rw [hE]; cases D <;> rfl
  have hS0 : ntGive s k = if D = true then s else ntOut s k := by unfold ntGive; rw [hE]; cases D <;> rfl
  injection hv with ev1 _ ev3
  subst ev1; subst ev3
  have HOut := fun w' (h' : Own w0 (RnP p s * (PkO b1 (0, 0, 0) * R)) w') => True
  obtain ⟨L, hL⟩ : ∃ L, L = s.all.length := ⟨_, rfl⟩
  have hkl := hk
  rw [← hL] at hk hlen h3 h5 c0 ho
  rw [hE, hG0, hS0]
  obtain ⟨X, hX⟩ : ∃ x, x = ntAt s k := ⟨_, rfl⟩
  rw [← hX] at d0 d1 d2 hD pe1 pe2 pe3 ⊢
  clear hE hG0 hS0 HOut
  obtain ⟨xa, xb, xd⟩ := X
  simp only at d0 d1 d2 hD pe1 pe2 pe3
  simp only [isMember, Bool.and_eq_true, decide_eq_true_eq] at pe1 pe2
  obtain ⟨A1, rfl⟩ : ∃ a : Nat, xa = (a : Int) := ⟨xa.toNat, by omega⟩
  obtain ⟨B1, rfl⟩ : ∃ a : Nat, xb = (a : Int) := ⟨xb.toNat, by omega⟩
  have hA5 : A1 < 5 := by omega
  have hB5 : B1 < 5 := by omega
  have iA0 : (0 : Int) ≤ (A1 : Int) := by omega
  have iB0 : (0 : Int) ≤ (B1 : Int) := by omega
  have iA5 : (A1 : Int) < 5 := by omega
  have iB5 : (B1 : Int) < 5 := by omega
  have hbc := hB.2 A1 B1 hA5 hB5 (by omega)
  rw [← hD] at hbc
  obtain ⟨b2, hb_b2⟩ : ∃ zz_, zz_ = (w1).heap.size := ⟨_, rfl⟩
  obtain ⟨w2, hw_w2⟩ : ∃ zz_, zz_ = (w1).alloc (.cells #[.int .i64 A1, .int .i64 B1, .int .i64 xd] 23 (0, 0)) := ⟨_, rfl⟩
  have h_HB2 := (ho).alloc (.cells #[.int .i64 A1, .int .i64 B1, .int .i64 xd] 23 (0, 0))
  rw [← hb_b2, ← hw_w2] at h_HB2
  have HB2 := Lib.hid h_HB2
  clear h_HB2
  have HO2 : Hid (Own w0 (RnO p (.slice (some ⟨b, off, none⟩) L cap0) B s * (PkO b2 ((A1 : Int), (B1 : Int), xd) * (PkO b1 (0, 0, 0) * R))) w2) := Lib.hid HB2.out.second
  clear HB2
  obtain ⟨e0, _, eb⟩ := HO2.out.rn_facts
  have eb1 := eb _ _ hbc
  obtain ⟨y0, y1, y2⟩ := HO2.out.second.pk
  obtain ⟨z0, z1, z2⟩ := HO2.out.third.pk
  have zf0 := HO2.out.third.pk_free 0 none
  have zf1 := HO2.out.third.pk_free 1 none
  have zf2 := HO2.out.third.pk_free 2 none
  simp only at y0 y1 y2 z0 z1 z2
  rw [show 1 + (5 * A1 + B1) = 1 + A1 * 5 + B1 by omega] at eb1
  clear eb
  have HI := Lib.hid hI; have HO := Lib.hid ho; have CF := Lib.hid cf; have CB := Lib.hid cb; have HL := Lib.hid hL; have HX := Lib.hid hX; have HD := Lib.hid hD; have HB := Lib.hid hB; have HBC := Lib.hid hbc; have PE3 := Lib.hid pe3; have HKL := Lib.hid hkl
  clear hI ho cf cb hL hX hD hB hbc pe3 hkl
  go_enter Tryd.func22, Tryd.ntmps22
  go_upto_region 1 with fail
  rw [← hb_b1, ← hw_w1]
  clear hb_b1 hw_w1
  go_upto_region 4 with fail
  rw [← hb_b2, ← hw_w2]
  clear hb_b2 hw_w2
  clear c0 d0 d1 d2 x0 x1 x2 xf0 xf1 xf2
  go_wp2_with fail
  go_quiet (fail)
  have HO3 := Lib.hid (HO2.out.drewN nq)
  cases D
  · have hout := rnOut_any p s k HKL.out HI.out ((HO2.out.drewN nq).rn_close HB.out)
    clear e0 eb1 y0 y1 y2 z0 z1 z2 zf0 zf1 zf2
    go_wp2_with fail
    refine hout.mono ?_
    rintro e w4 ⟨rfl, ho4⟩
    obtain ⟨y0, y1, y2⟩ := ho4.second.pk
    obtain ⟨z0, z1, z2⟩ := ho4.third.pk
    have zf0 := ho4.third.pk_free 0 none
    have zf1 := ho4.third.pk_free 1 none
    have zf2 := ho4.third.pk_free 2 none
    have HPUT := Lib.hid (ho4.third.pk_put ((A1 : Int), (B1 : Int), xd))
    obtain ⟨q0, q1, q2⟩ := HPUT.out.pk
    simp only at y0 y1 y2 z0 z1 z2 q0 q1 q2
    clear ho4 hout
    go_wp2_with fail
    exact bodyPost_ret (v := .tuple #[evV ((A1 : Int), (B1 : Int), xd), .int .i64 0]) (by simp [results, Tryd.results22, go_sem, q0, q1, q2, evV]) rfl ⟨rfl, HPUT.out.drop.second.drop⟩
  · have HPUT := Lib.hid (HO3.out.third.pk_put (0, 0, 0))
    obtain ⟨q0, q1, q2⟩ := HPUT.out.pk
    simp only at q0 q1 q2
    go_wp2_with fail
    exact bodyPost_ret (v := .tuple #[evV (0, 0, 0), .int .i64 6]) (by simp [results, Tryd.results22, go_sem, q0, q1, q2, evV]) rfl ⟨rfl, (HPUT.out.drop.rn_close HB.out).second.drop⟩
end Go.Proofs.YtldmdenojpnldaaDoor
