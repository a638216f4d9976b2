/- FlushLost: a word of one who goes, that nobody else heard, is heard by none; one that one heard is heard by all who stay. -/
import Derived.Test.YtdeeephdojflpaaDoorFlushLostP
import Derived.Test.YtdeeephdojflpaaDoorFlush3
import Derived.Test.YtdeeephdojflpaaDoorTold
import Derived.Deep.DeepCutAuto
import Derived.Deep.CutBlock
namespace Go.Proofs.YtdeeephdojflpaaDoor
set_option linter.unusedVariables false
set_option linter.unusedSimpArgs false
open Go.RowKit
set_option maxRecDepth 100000 in
set_option maxHeartbeats 4000000 in
theorem flushLost_law (w : World) (hg : As.Handle w) (a : Int) (_ha : I64 a) (b : Int) (_hb : I64 b) :
    Calls Tryd.prog 10 #[.int .i64 a, .int .i64 b] w fun e w' => e = .returned (.bool true) ∧ Below w.heap.size w w' := by
  have HG := Lib.hid hg
  clear hg
  rcases (show a < 1 ∨ (¬ a < 1 ∧ 30 < a) ∨ (¬ a < 1 ∧ ¬ 30 < a ∧ b < 1) ∨ (¬ a < 1 ∧ ¬ 30 < a ∧ ¬ b < 1 ∧ 30 < b) ∨ (¬ a < 1 ∧ ¬ 30 < a ∧ ¬ b < 1 ∧ ¬ 30 < b ∧ a = b) ∨ (¬ a < 1 ∧ ¬ 30 < a ∧ ¬ b < 1 ∧ ¬ 30 < b ∧ a ≠ b) by omega) with h1 | ⟨h1, h2⟩ | ⟨h1, h2, h3⟩ | ⟨h1, h2, h3, h4⟩ | ⟨h1, h2, h3, h4, h5⟩ | ⟨h1, h2, h3, h4, h5⟩
  iterate 5
    focus
      try subst h5
      go_enter Tryd.func10, Tryd.ntmps10
      go_wp2_with fail
      refine (flNew_yes 4 (by rfl) (Own.start w)).mono ?_
      rintro e w1 ⟨p, rfl, ho1⟩
      rw [errV0]
      have HO1 := Lib.hid ho1
      clear ho1
      go_wp2
      go_ret
      exact ⟨rfl, HO1.out.below⟩
  have ha : isWord a = true := by simp [isWord]; omega
  have hb : isWord b = true := by simp [isWord]; omega
  have hne : (a == b) = false := by rw [beq_eq_false_iff_ne]; exact h5
  have f1 := fl_e1 ha; have g1 := fl_s1 ha
  have f2 := fl_e2 ha hb h5; have g2 := fl_s2 ha hb h5
  have f3 := fl_e3 ha hb h5; have g3 := fl_s3 ha hb h5
  have f4 := fl_e4 (a := a) (b := b); have g4 := fl_s4 h5
  have i0 := flInv_new 4 (by omega)
  have i1 := flInv_say i0 3 a
  rw [g1] at i1
  have i2 := flInv_say i1 3 b
  rw [g2] at i2
  have i3 := flInv_give i2 1 b
  rw [g3] at i3
  have i4 := flInv_change i3 [0, 1, 2]
  rw [g4] at i4
  have F1 := Lib.hid f1; have F2 := Lib.hid f2; have F3 := Lib.hid f3; have F4 := Lib.hid f4; have G1 := Lib.hid g1; have G2 := Lib.hid g2; have G3 := Lib.hid g3; have G4 := Lib.hid g4; have I0 := Lib.hid i0; have I1 := Lib.hid i1; have I2 := Lib.hid i2; have I3 := Lib.hid i3; have I4 := Lib.hid i4; have HA := Lib.hid ha; have HB := Lib.hid hb; have H5 := Lib.hid h5
  clear f1 f2 f3 f4 g1 g2 g3 g4 i0 i1 i2 i3 i4 ha hb h5
  go_enter Tryd.func10, Tryd.ntmps10
  go_wp2_with fail
  refine (flNew_yes 4 (by rfl) (Own.start w)).mono ?_
  rintro e w1 ⟨p, rfl, ho1⟩
  rw [errV0]
  have HO1 := Lib.hid ho1
  clear ho1
  go_wp2_with fail
  refine (flSay_any p _ 3 a I0.out.1.ok I0.out.1.few HO1.out).mono ?_
  rintro e w2 ⟨rfl, ho2⟩
  rw [F1.out, errV0]
  rw [G1.out] at ho2
  have HO2 := Lib.hid ho2
  clear ho2 HO1
  go_wp2_with fail
  refine (flSay_any p _ 3 b I1.out.1.ok I1.out.1.few HO2.out).mono ?_
  rintro e w3 ⟨rfl, ho3⟩
  rw [F2.out, errV0]
  rw [G2.out] at ho3
  have HO3 := Lib.hid ho3
  clear ho3 HO2
  go_wp2_with fail
  refine (flGive_any p _ 1 b I2.out.1.ok HO3.out).mono ?_
  rintro e w4 ⟨rfl, ho4⟩
  rw [F3.out, errV0]
  rw [G3.out] at ho4
  obtain ⟨bl, hb_bl⟩ : ∃ zz_, zz_ = (w4).heap.size := ⟨_, rfl⟩
  obtain ⟨wl, hw_wl⟩ : ∃ zz_, zz_ = (w4).alloc (.cells #[.int .i64 0, .int .i64 1, .int .i64 2] 3 (0, 0)) := ⟨_, rfl⟩
  have h_HO4 := (ho4).alloc (.cells #[.int .i64 0, .int .i64 1, .int .i64 2] 3 (0, 0))
  rw [← hb_bl, ← hw_wl] at h_HO4
  have HO4 := Lib.hid h_HO4
  clear h_HO4
  have HO5 : Hid (Own w (FlP p (fl3 a b) * (IntSl (.slice (some ⟨bl, 0, none⟩) 3 3) [0, 1, 2] * emp)) wl) := Lib.hid (Own.litI [0, 1, 2] 3 rfl (by omega) HO4.out).second
  clear ho4 HO4 HO3
  go_wp2_with fail
  rw [← hb_bl, ← hw_wl]
  clear hb_bl hw_wl
  refine (flChange_yes p _ _ [0, 1, 2] I3.out.1 F4.out (IntSl_reads (by intro x hx; simp at hx; unfold I64; omega)) HO5.out).mono ?_
  rintro e w6 ⟨v6, rfl, ho6⟩
  rw [G4.out] at ho6
  obtain ⟨a6, c6, hv6⟩ := ho6.int_shape
  rw [show ([0, 1, 2] : List Int).length = 3 from rfl] at hv6
  subst hv6
  rw [errV0, show (fl3 a b).n + 1 = 1 from rfl]
  obtain ⟨bz, hb_bz⟩ : ∃ zz_, zz_ = (w6).heap.size := ⟨_, rfl⟩
  obtain ⟨wz, hw_wz⟩ : ∃ zz_, zz_ = (w6).alloc (.cells #[.int .i64 1, .slice a6 3 c6] 68 (0, 0)) := ⟨_, rfl⟩
  have h_HO7 := (ho6).alloc (.cells #[.int .i64 1, .slice a6 3 c6] 68 (0, 0))
  rw [← hb_bz, ← hw_wz] at h_HO7
  have HO7 := Lib.hid h_HO7
  clear h_HO7
  have z0 : wz.cell? ⟨bz, 0, none⟩ = some (.int .i64 1) := (HO7.out.cell 0).trans rfl
  have HO8 := Lib.hid HO7.out.drop.drop
  clear ho6 HO7 HO5
  go_upto_region 7 with fail
  rw [← hb_bz, ← hw_wz]
  clear hb_bz hw_wz
  go_wp2_with fail
  refine (flSay_any p _ 3 1 I4.out.1.ok I4.out.1.few HO8.out).mono ?_
  rintro e w9 ⟨rfl, ho9⟩
  have hs9 : flSay (fl4 a b) 3 1 = fl4 a b := by unfold flSay; rw [if_neg (by rw [fl_e5]; decide)]
  rw [fl_e5]
  rw [hs9] at ho9
  have HO9 := Lib.hid ho9
  clear ho9 hs9 HO8 z0
  go_wp2_with fail
  refine (sameErr_any HG.out 8 8 HO9.out).mono ?_
  rintro e w10 ⟨rfl, ho10⟩
  have HO10 := Lib.hid ho10.only
  clear ho10 HO9
  go_wp2_with fail
  go_loopw [8] (fun mv wr => ∃ m : Nat, m ≤ 3 ∧ mv = .int .i64 m ∧ Hid (Own w (FlP p (fl4 a b) * emp) wr)) (fun mv _ => 3 - (intOf mv).toNat)
  case atStart => exact ⟨0, Nat.zero_le _, rfl, HO10⟩
  case round =>
    clear HO10
    obtain ⟨m, hm, rfl, HP⟩ := hrel
    by_cases hm3 : m < 3
    rotate_left
    · go_wp2_with fail
      refine (flHeard_any p _ 3 0 I4.out.1.ok (by unfold I64; omega) HP.out).mono ?_
      rintro e w11 ⟨v11, rfl, ho11⟩
      rw [fl_he 3 (by omega), errV0]
      rw [fl_h4] at ho11
      obtain ⟨a11, c11, hv11⟩ := ho11.int_shape
      rw [show ([a, b] : List Int).length = 2 from rfl] at hv11
      subst hv11
      have HO11 := Lib.hid ho11
      clear ho11
      go_wp2
      go_ret
      exact ⟨rfl, HO11.out.below⟩
    have e1 := fl_he (a := a) (b := b) (m : Int) (by omega)
    have e2 := fl_h3 (a := a) (b := b) (m : Int) (by omega)
    have E1 := Lib.hid e1; have E2 := Lib.hid e2
    clear e1 e2
    go_wp2_with fail
    refine (flHeard_any p _ m 0 I4.out.1.ok (by unfold I64; omega) HP.out).mono ?_
    rintro e w11 ⟨v11, rfl, ho11⟩
    rw [E1.out, errV0]
    rw [E2.out] at ho11
    obtain ⟨b7, off7, cap7, hv7, _, _, hc7, _⟩ := ho11.ints_at (by simp)
    rw [show ([b] : List Int).length = 1 from rfl] at hv7
    subst hv7
    have x0 : w11.cell? ⟨b7, off7, none⟩ = some (.int .i64 b) := by have := hc7 0 (by simp); simpa using this
    have HO11 := Lib.hid ho11.drop
    clear ho11 hc7
    go_wp2_with fail
    go_roundw
    case rel => exact ⟨m + 1, by omega, by go_num, HO11⟩
    case measure => simp [intOf]; omega
end Go.Proofs.YtdeeephdojflpaaDoor
