/- CauseAlone: words of one, in order, are heard at once. -/
import Derived.Test.YtkgnjkokbiefgaaCause2
namespace Go.Proofs.Ytkgnjkokbiefgaa
set_option linter.unusedVariables false
set_option linter.unusedSimpArgs false
open Go.RowKit
def cl (A : Nat) (k : Nat) : List Int := zero5.set A (k : Int)
theorem cl_len (A k : Nat) : (cl A k).length = 5 := by simp [cl, zero5]
theorem cl_zero (A : Nat) : cl A 0 = zero5 := by
  unfold cl
  match A with
  | 0 | 1 | 2 | 3 | 4 => rfl
  | n + 5 => rfl
theorem cl_get {A : Nat} (hA : A < 5) (k i : Nat) (hi : i < 5) : (cl A k).getD i 0 = if i = A then (k : Int) else 0 := by
  unfold cl
  rw [List.getD_eq_getElem?_getD, List.getElem?_set]
  by_cases h : A = i
  · rw [if_pos h, if_pos h.symm, if_pos (by simp [zero5]; exact hA)]; rfl
  · rw [if_neg h, if_neg (fun e => h e.symm)]
    match i, hi with
    | 0, _ | 1, _ | 2, _ | 3, _ | 4, _ => rfl
theorem cl_next {A : Nat} (hA : A < 5) (k : Nat) : (cl A k).set A ((cl A k).getD A 0 + 1) = cl A (k + 1) := by
  rw [cl_get hA k A hA, if_pos rfl]
  unfold cl
  rw [List.set_set]; rfl
theorem cl_mem {A : Nat} (hA : A < 5) (k : Nat) : ∀ x ∈ cl A k, 0 ≤ x ∧ x ≤ (k : Int) := by
  intro x hx
  obtain ⟨i, hi, rfl⟩ := List.getElem_of_mem hx
  rw [cl_len] at hi
  have h := cl_get hA k i hi
  rw [List.getD_eq_getElem?_getD, List.getElem?_eq_getElem (by rw [cl_len]; exact hi)] at h
  have h2 : (cl A k)[i]'(by rw [cl_len]; exact hi) = if i = A then (k : Int) else 0 := h
  rw [h2]; split <;> omega
theorem cl_I64 {A : Nat} (hA : A < 5) {k : Nat} (hk : k ≤ 100) : ∀ x ∈ cl A k, I64 x := fun x hx => by have := cl_mem hA k x hx; unfold I64; omega
theorem cl_ok {A : Nat} (hA : A < 5) {k : Nat} (hk : k ≤ 100) : vecErr (cl A k) = 0 := by
  unfold vecErr
  rw [if_neg (by rw [cl_len]; simp), if_neg]
  intro h
  obtain ⟨x, hx, hb⟩ := List.any_eq_true.1 h
  have := cl_mem hA k x hx
  simp [isCount] at hb
  omega
set_option maxRecDepth 100000 in
set_option maxHeartbeats 4000000 in
theorem causeAlone_law (w : World) (a : Int) (_ha : I64 a) (b : Int) (_hb : I64 b) (n : Int) (_hn : I64 n) :
    Calls Try.prog 3 #[.int .i64 a, .int .i64 b, .int .i64 n] w fun e w' => e = .returned (.bool true) ∧ Below w.heap.size w w' := by
  have HW0 := Lib.hid (Own.start w)
  cases hma : isMember a
  · cases hmb : isMember b
    · have HMA := Lib.hid hma; have HMB := Lib.hid hmb
      clear hma hmb
      go_enter Try.func3, Try.ntmps3
      go_wp2_with fail
      refine (causeNew_no _ _ HMA.out).mono ?_
      rintro e w' ⟨rfl, rfl⟩
      rw [show errV 1 = .iface 117 (.int .i64 1) from rfl]
      go_wp2_with fail
      refine (causeNew_no _ _ HMB.out).mono ?_
      rintro e w' ⟨rfl, rfl⟩
      rw [show errV 1 = .iface 117 (.int .i64 1) from rfl]
      go_wp2
      go_ret
      exact ⟨rfl, HW0.out.below⟩
    · have HMA := Lib.hid hma; have HMB := Lib.hid hmb
      clear hma hmb
      go_enter Try.func3, Try.ntmps3
      go_wp2_with fail
      refine (causeNew_no _ _ HMA.out).mono ?_
      rintro e w' ⟨rfl, rfl⟩
      rw [show errV 1 = .iface 117 (.int .i64 1) from rfl]
      go_wp2_with fail
      refine (causeNew_yes _ HMB.out HW0.out).mono ?_
      rintro e w' ⟨p2, mb2, rfl, ho⟩
      rw [errV0]
      have HO := Lib.hid ho
      clear ho
      go_wp2
      go_ret
      exact ⟨rfl, HO.out.below⟩
  cases hmb : isMember b
  · have HMA := Lib.hid hma; have HMB := Lib.hid hmb
    clear hma hmb
    go_enter Try.func3, Try.ntmps3
    go_wp2_with fail
    refine (causeNew_yes _ HMA.out HW0.out).mono ?_
    rintro e w' ⟨p, mb, rfl, ho⟩
    rw [errV0]
    have HO := Lib.hid ho
    clear ho
    go_wp2_with fail
    refine (causeNew_no _ _ HMB.out).mono ?_
    rintro e w' ⟨rfl, rfl⟩
    rw [show errV 1 = .iface 117 (.int .i64 1) from rfl]
    go_wp2
    go_ret
    exact ⟨rfl, HO.out.below⟩
  have hba : 0 ≤ a ∧ a < 5 := by simpa [isMember] using hma
  have hbb : 0 ≤ b ∧ b < 5 := by simpa [isMember] using hmb
  obtain ⟨A, rfl⟩ : ∃ A : Nat, a = (A : Int) := ⟨a.toNat, by omega⟩
  have hA : A < 5 := by omega
  have HMA := Lib.hid hma; have HMB := Lib.hid hmb
  clear hma hmb
  go_enter Try.func3, Try.ntmps3
  go_wp2_with fail
  refine (causeNew_yes _ HMA.out HW0.out).mono ?_
  rintro e w' ⟨p, mb, rfl, ho⟩
  rw [errV0]
  have HO := Lib.hid ho
  clear ho
  go_wp2_with fail
  refine (causeNew_yes _ HMB.out HO.out).mono ?_
  rintro e w' ⟨p2, mb2, rfl, ho⟩
  rw [errV0]
  have HO2 : Hid (Own w (CaP p mb A (cl A 0) * (CaP p2 mb2 b (cl A 0) * emp)) w') := Lib.hid (by rw [cl_zero]; exact ho.perm (star_left_comm _ _ _))
  clear ho HO
  by_cases hab : (A : Int) = b
  · have t1 : ((A : Int) == b) = true := by simpa using hab
    have HAB := Lib.hid hab; have HBA := Lib.hid hba; have HBB := Lib.hid hbb
    clear hab hba hbb
    go_wp2
    go_ret
    exact ⟨rfl, HO2.out.below⟩
  have t1 : ((A : Int) == b) = false := by simpa using hab
  by_cases hn0 : n < 0
  · have t2 : decide (n < 0) = true := by simpa using hn0
    have HAB := Lib.hid hab; have HBA := Lib.hid hba; have HBB := Lib.hid hbb; have HN0 := Lib.hid hn0
    clear hab hba hbb hn0
    go_wp2
    go_ret
    exact ⟨rfl, HO2.out.below⟩
  have t2 : decide (n < 0) = false := by simpa using hn0
  by_cases hn3 : 30 < n
  · have t3 : decide (30 < n) = true := by simpa using hn3
    have HAB := Lib.hid hab; have HBA := Lib.hid hba; have HBB := Lib.hid hbb; have HN0 := Lib.hid hn0; have HN3 := Lib.hid hn3
    clear hab hba hbb hn0 hn3
    go_wp2
    go_ret
    exact ⟨rfl, HO2.out.below⟩
  have t3 : decide (30 < n) = false := by simpa using hn3
  obtain ⟨N, rfl⟩ : ∃ N : Nat, n = (N : Int) := ⟨n.toNat, by omega⟩
  have hN : N ≤ 30 := by omega
  have HAB := Lib.hid hab; have HBA := Lib.hid hba; have HBB := Lib.hid hbb; have HN0 := Lib.hid hn0; have HN3 := Lib.hid hn3
  clear hab hba hbb hn0 hn3
  go_wp2_with fail
  go_loopw [11] (fun iv wr => ∃ k : Nat, k ≤ N ∧ iv = .int .i64 ((k : Int) + 1) ∧ Hid (Own w (CaP p mb A (cl A k) * (CaP p2 mb2 b (cl A k) * emp)) wr)) (fun iv _ => N + 1 - (intOf iv).toNat)
  case atStart => exact ⟨0, Nat.zero_le _, rfl, HO2⟩
  case round =>
    clear HO2
    obtain ⟨k, hk, rfl, HO⟩ := hrel
    have HI := Lib.hid (cl_I64 hA (show k ≤ 100 by omega))
    have HL := Lib.hid (cl_len A k)
    by_cases hlt : k < N
    rotate_left
    · have hkn : k = N := by omega
      subst hkn
      have HG := Lib.hid ((cl_get hA k A hA).trans (if_pos rfl))
      have td : decide ((k : Int) + 1 ≤ (k : Int)) = false := decide_eq_false (by omega)
      go_wp2_with fail
      refine (causeClock_any p mb _ _ HL.out HI.out HO.out).mono ?_
      rintro e w' ⟨v1, rfl, ho⟩
      have HO3 := Lib.hid (ho.perm (show _ = CaP p2 mb2 b (cl A k) * (IntSl v1 (cl A k) * (CaP p mb A (cl A k) * emp)) by ac_rfl))
      clear ho HO
      go_wp2_with fail
      refine (causeClock_any p2 mb2 _ _ HL.out HI.out HO3.out).mono ?_
      rintro e w' ⟨v2, rfl, ho⟩
      have HO4 := Lib.hid ho
      clear ho HO3
      go_wp2_with fail
      refine (sameInts_any v1 v2 _ _ _ ((IntSl_reads HI.out).more.more _ HO4.out) (IntSl_reads HI.out _ HO4.out)).mono ?_
      rintro e w' ⟨rfl, n10, rfl⟩
      rw [show (cl A k == cl A k) = true from beq_iff_eq.2 rfl]
      have HO5 := Lib.hid (HO4.out.drewN n10)
      have h5 := HO5.out.perm (show _ = IntSl v1 (cl A k) * (CaP p2 mb2 b (cl A k) * (IntSl v2 (cl A k) * (CaP p mb A (cl A k) * emp))) by ac_rfl)
      obtain ⟨vb, vo, vc, e1, hvc1, hvc2, hcell, _⟩ := h5.ints_at (by rw [HL.out]; omega)
      have hcA := hcell A (by rw [HL.out]; exact hA)
      have hge : (cl A k)[A]'(by rw [HL.out]; exact hA) = (k : Int) := by
        have h6 := HG.out
        rw [List.getD_eq_getElem?_getD, List.getElem?_eq_getElem (by rw [HL.out]; exact hA)] at h6
        exact h6
      rw [hge] at hcA
      rw [HL.out] at e1 hvc1
      subst e1
      have HO6 := Lib.hid h5.drop
      have a0 : (0 : Int) ≤ (A : Int) := Int.natCast_nonneg A
      have a5 : (A : Int) < 5 := by omega
      have HGE := Lib.hid hge
      clear hge
      clear h5 hcell HO5 HO4
      go_wp2_with fail
      refine (causeWaits_any p2 mb2 _ _ HL.out HO6.out).mono ?_
      rintro e w8 ⟨rfl, rfl⟩
      go_wp2
      go_ret
      exact ⟨rfl, HO6.out.below⟩
    have HK1 := Lib.hid (cl_I64 hA (show k + 1 ≤ 100 by omega))
    have HNX := Lib.hid (cl_next hA k)
    have HG := Lib.hid (cl_get hA k)
    have HG1 := Lib.hid (cl_get hA (k + 1))
    have HVO := Lib.hid (cl_ok hA (show k + 1 ≤ 100 by omega))
    have hwd := Lib.hid (show isWord ((k : Int) + 1) = true by simp [isWord]; omega)
    go_wp2_with fail
    refine (causeSay_any p mb A hA _ HL.out ((k : Int) + 1) hwd.out (by rw [HNX.out]; exact HK1.out) (by rw [HG.out A hA, if_pos rfl]; omega) HO.out).mono ?_
    rintro e w2 ⟨v2, rfl, ho⟩
    rw [HNX.out] at ho
    rw [errV0]
    obtain ⟨ad2, cap2, hv2, _⟩ := Own.rd ho
    rw [cl_len] at hv2
    subst hv2
    obtain ⟨bs, hb_bs⟩ : ∃ zz_, zz_ = (w2).heap.size := ⟨_, rfl⟩
    obtain ⟨ws, hw_ws⟩ : ∃ zz_, zz_ = (w2).alloc (.cells #[.int .i64 A, .int .i64 ((k : Int) + 1), .slice ad2 5 cap2] 29 (0, 0)) := ⟨_, rfl⟩
    have h_HS := (ho).alloc (.cells #[.int .i64 A, .int .i64 ((k : Int) + 1), .slice ad2 5 cap2] 29 (0, 0))
    rw [← hb_bs, ← hw_ws] at h_HS
    have HS := Lib.hid h_HS
    clear h_HS
    have HS1 : Hid (Own w (SdO bs A ((k : Int) + 1) (.slice ad2 5 cap2) * (IntSl (.slice ad2 5 cap2) (cl A (k + 1)) * (CaP p mb A (cl A (k + 1)) * (CaP p2 mb2 b (cl A k) * emp)))) ws) := HS
    obtain ⟨x0, x1, x2, _⟩ := HS1.out.sd
    have HS2 : Hid (Own w (CaP p2 mb2 b (cl A k) * (SdO bs A ((k : Int) + 1) (.slice ad2 5 cap2) * (IntSl (.slice ad2 5 cap2) (cl A (k + 1)) * (CaP p mb A (cl A (k + 1)) * emp)))) ws) := Lib.hid (HS1.out.perm (by ac_rfl))
    have HH := Lib.hid (show ∀ i, i < 5 → if i = A then (cl A (k + 1)).getD i 0 = (cl A k).getD i 0 + 1 else (cl A (k + 1)).getD i 0 ≤ (cl A k).getD i 0 from fun i hi => by
      rw [HG.out i hi, HG1.out i hi]
      by_cases h : i = A
      · rw [if_pos h, if_pos h, if_pos h]; omega
      · rw [if_neg h, if_neg h, if_neg h]; omega)
    have HB := Lib.hid (show ∀ i, i < 5 → 0 ≤ (cl A k).getD i 0 ∧ (cl A k).getD i 0 < 1000000 from fun i hi => by
      rw [HG.out i hi]; split <;> omega)
    clear ho HO HS
    go_upto_region 9 with fail
    rw [← hb_bs, ← hw_ws]
    clear hb_bs hw_ws
    go_wp2_with fail
    refine (causeTake_alone p2 mb2 A hA b HAB.out _ HL.out _ hwd.out _ _ HVO.out HH.out HB.out (IntSl_reads HK1.out).more HS2.out).mono ?_
    rintro e w3 ⟨br, rfl, ho⟩
    rw [HNX.out] at ho
    rw [errV0]
    obtain ⟨b', off', cap', e1, _, _, hcell, _⟩ := ho.ints_at (by simp)
    injection e1 with e1 e5 e3
    injection e1 with e1
    injection e1 with e1 e2 e4
    subst e1; subst e2; subst e3
    clear e5 e4
    have hc0 : w3.cell? ⟨br, 0, none⟩ = some (.int .i64 ((k : Int) + 1)) := hcell 0 (by simp)
    have HO4 : Hid (Own w (CaP p mb A (cl A (k + 1)) * (CaP p2 mb2 b (cl A (k + 1)) * emp)) w3) := Lib.hid ((ho.perm (show _ = IntSl (.slice (some ⟨br, 0, none⟩) 1 1) [(k : Int) + 1] * (SdO bs A ((k : Int) + 1) (.slice ad2 5 cap2) * (IntSl (.slice ad2 5 cap2) (cl A (k + 1)) * (CaP p mb A (cl A (k + 1)) * (CaP p2 mb2 b (cl A (k + 1)) * emp)))) by ac_rfl)).drop.drop.drop)
    clear ho hcell x0 x1 x2 HS1 HS2
    go_wp2_with fail
    go_roundw
    case rel => exact ⟨k + 1, by omega, by go_num, HO4⟩
    case measure => change N + 1 - ((k : Int) + 1 + 1).toNat < N + 1 - ((k : Int) + 1).toNat; omega
end Go.Proofs.Ytkgnjkokbiefgaa
