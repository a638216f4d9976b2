/- mootlaw2.alike: of any two members of a group the one has heard what the other has, or begins so. -/
import Derived.Test.YtldmdenojpnldaaDoorAgreeTwoE
namespace Go.Proofs.YtldmdenojpnldaaDoor
set_option linter.unusedVariables false
set_option linter.unusedSimpArgs false
open Go.RowKit Go.Maps
set_option maxRecDepth 100000 in
set_option maxHeartbeats 4000000 in
theorem alike_any {w0 w : World} {R : HProp} (p n : Nat) (g : Ag) (hg : AgN n g) (hn : n ≤ 5) (h : Own w0 (AgP p g * R) w) :
    Calls Tryd.prog 52 #[.pointer (some ⟨p, 0, none⟩), .int .i64 n] w fun e w' => e = .returned (.bool true) ∧ Own w0 (AgP p g * R) w' := by
  have hfit := hg.fit
  have HP := Lib.hid h
  clear h
  have HG := Lib.hid hg; have HFIT := Lib.hid hfit
  clear hg hfit
  go_enter Tryd.func52, Tryd.ntmps52
  go_wp2_with fail
  go_loopw [5] (fun iv wr => ∃ m : Nat, 1 ≤ m ∧ m ≤ n + 1 ∧ iv = .int .i64 m ∧ Hid (Own w0 (AgP p g * R) wr)) (fun iv _ => n + 1 - (intOf iv).toNat)
  case atStart => exact ⟨1, Nat.le_refl _, by omega, rfl, HP⟩
  case round =>
    clear HP
    obtain ⟨m, hm1, hm2, rfl, HP⟩ := hrel
    by_cases hlt : m < n
    rotate_left
    · have t1 : decide ((m : Int) < (n : Int)) = false := decide_eq_false (by omega)
      go_wp2
      go_ret
      exact ⟨rfl, HP.out⟩
    have t1 : decide ((m : Int) < (n : Int)) = true := decide_eq_true (by omega)
    go_wp2_with fail
    go_loopw [6] (fun iv wr => ∃ k : Nat, k ≤ m ∧ iv = .int .i64 k ∧ Hid (Own w0 (AgP p g * R) wr)) (fun iv _ => m - (intOf iv).toNat)
    case atStart => exact ⟨0, Nat.zero_le _, rfl, HP⟩
    case round =>
      clear HP
      obtain ⟨k, hk, rfl, HP⟩ := hrel
      by_cases hkm : k < m
      rotate_left
      · have hkm' : k = m := by omega
        subst hkm'
        go_wp2
        go_roundw
        case rel => exact ⟨k + 1, by omega, by omega, by go_num, HP⟩
        case measure => simp [intOf]; omega
      obtain ⟨a1, a2⟩ := agHeard_at HG.out hlt
      obtain ⟨b1, b2⟩ := agHeard_at HG.out (show k < n by omega)
      obtain ⟨X, hX⟩ : ∃ X, X = (agGet g m).heard := ⟨_, rfl⟩
      obtain ⟨Y, hY⟩ : ∃ Y, Y = (agGet g k).heard := ⟨_, rfl⟩
      have hXI : ∀ x ∈ X, I64 x := by rw [hX]; exact (HFIT.out m (by rw [HG.out.len]; omega)).2
      have hYI : ∀ x ∈ Y, I64 x := by rw [hY]; exact (HFIT.out k (by rw [HG.out.len]; omega)).2
      have hal := HG.out.alike hlt (show k < n by omega)
      rw [← hX, ← hY] at hal
      rw [← hX] at a2
      rw [← hY] at b2
      obtain ⟨C1, hC1⟩ : ∃ B, B = begins X Y := ⟨_, rfl⟩
      obtain ⟨C2, hC2⟩ : ∃ B, B = begins Y X := ⟨_, rfl⟩
      have hor : C1 = true ∨ C2 = true := by
        rcases hal with h | h
        · exact .inl (by rw [hC1]; exact begins_of h)
        · exact .inr (by rw [hC2]; exact begins_of h)
      have t2 : decide ((k : Int) < (m : Int)) = true := decide_eq_true (by omega)
      have A1 := Lib.hid a1; have A2 := Lib.hid a2; have B1 := Lib.hid b1; have B2 := Lib.hid b2; have HX := Lib.hid hX; have HY := Lib.hid hY; have HXI := Lib.hid hXI; have HYI := Lib.hid hYI; have HAL := Lib.hid hal; have HC1 := Lib.hid hC1; have HC2 := Lib.hid hC2; have HOR := Lib.hid hor
      clear a1 a2 b1 b2 hX hY hXI hYI hal hC1 hC2 hor
      go_wp2_with fail
      refine (agHeard_any p g m HFIT.out HP.out).mono ?_
      rintro e w1 ⟨v1, rfl, ho1⟩
      rw [A2.out] at ho1
      rw [A1.out, errV0]
      have HP1 : Hid (Own w0 (AgP p g * (IntSl v1 X * R)) w1) := Lib.hid (ho1.perm (by ac_rfl))
      clear ho1
      go_wp2_with fail
      refine (agHeard_any p g k HFIT.out HP1.out).mono ?_
      rintro e w2 ⟨v2, rfl, ho2⟩
      rw [B2.out] at ho2
      rw [B1.out, errV0]
      have HO2 := Lib.hid ho2
      clear ho2
      have HR1 := Lib.hid (fun q => IntSl_reads HXI.out _ (HO2.out.drewN q).third)
      have HR2 := Lib.hid (fun q => IntSl_reads HYI.out _ (HO2.out.drewN q))
      go_wp2_with fail
      refine (begins_any _ _ X Y _ (HR1.out 0) (HR2.out 0)).mono ?_
      rintro e w3 ⟨rfl, q1, rfl⟩
      rw [← HC1.out]
      go_wp2_with fail
      refine (begins_any _ _ Y X _ (HR2.out q1) (HR1.out q1)).mono ?_
      rintro e w4 ⟨rfl, q2, rfl⟩
      rw [← HC2.out]
      have HO4 : Hid (Own w0 (AgP p g * R) (w2.drewN (q1 + q2))) := Lib.hid (((HO2.out.drewN (q1 + q2)).perm (show _ = IntSl v2 Y * (IntSl v1 X * (AgP p g * R)) by ac_rfl)).drop.drop)
      have hor := HOR.out
      clear HO2 HR1 HR2 HP1 HP
      cases C1
      · have e2 : C2 = true := by rcases hor with h | h; cases h; exact h
        subst e2
        clear hor
        go_wp2
        go_roundw
        case rel => exact ⟨k + 1, by omega, by go_num, HO4⟩
        case measure => simp [intOf]; omega
      · clear hor
        go_wp2
        go_roundw
        case rel => exact ⟨k + 1, by omega, by go_num, HO4⟩
        case measure => simp [intOf]; omega
end Go.Proofs.YtldmdenojpnldaaDoor
