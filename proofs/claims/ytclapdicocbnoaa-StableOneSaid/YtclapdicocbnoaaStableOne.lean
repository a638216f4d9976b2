/- StableOne: one who heard nothing holds all back. -/
import Derived.Test.YtclapdicocbnoaaStablePlain
namespace Go.Proofs.Ytclapdicocbnoaa
open Go.RowKit
def rowsAt (n m q : Nat) (v : List Int) : List (List Int) := (List.range n).map fun i => if i < m ∧ i ≠ q then v else zero5
theorem rowsAt_len (n m q : Nat) (v : List Int) : (rowsAt n m q v).length = n := by simp [rowsAt]
theorem rowsAt_get (n m q : Nat) (v : List Int) (i : Nat) (h : i < (rowsAt n m q v).length) : (rowsAt n m q v)[i] = if i < m ∧ i ≠ q then v else zero5 := by simp [rowsAt]
theorem rowsAt_ok (n m q : Nat) (v : List Int) (hv : vecErr v = 0) : rowsOk (rowsAt n m q v) := fun r hr => by
  obtain ⟨i, hi, rfl⟩ := List.getElem_of_mem hr
  rw [rowsAt_get]
  split
  · exact hv
  · exact vecErr_zero5
theorem rowsAt_zero (n q : Nat) (v : List Int) : rowsAt n 0 q v = List.replicate n zero5 := by
  refine List.ext_getElem (by simp [rowsAt]) fun i h1 h2 => ?_
  rw [rowsAt_get]; simp
theorem rowsAt_skip (n q : Nat) (v : List Int) : rowsAt n (q + 1) q v = rowsAt n q q v := by
  refine List.ext_getElem (by simp [rowsAt]) fun i h1 h2 => ?_
  rw [rowsAt_get, rowsAt_get]
  by_cases h : i < q ∧ i ≠ q
  · rw [if_pos h, if_pos (by omega)]
  · rw [if_neg h, if_neg (by omega)]
theorem told_step (n m q : Nat) (v : List Int) (hv : vecErr v = 0) (hm : m < n) (hq : m ≠ q) : toldErr n (m : Int) v = 0 ∧ toldRows (rowsAt n m q v) (m : Int) v = rowsAt n (m + 1) q v := by
  have he : toldErr n (m : Int) v = 0 := by simp [toldErr, inR, hv]; omega
  refine ⟨he, ?_⟩
  unfold toldRows
  rw [if_pos (by rw [rowsAt_len]; exact he)]
  have hz : (rowsAt n m q v).getD m [] = zero5 := by
    rw [show (rowsAt n m q v).getD m [] = (rowsAt n m q v)[m]'(by rw [rowsAt_len]; exact hm) from by simp [rowsAt_len, hm], rowsAt_get, if_neg (by omega)]
  rw [Int.toNat_natCast, hz, zipMax_zero hv]
  refine List.ext_getElem (by simp [rowsAt_len]) fun i h1 h2 => ?_
  rw [List.getElem_set, rowsAt_get, rowsAt_get]
  by_cases h : m = i
  · rw [if_pos h, if_pos (by omega)]
  · rw [if_neg h]
    by_cases h' : i < m ∧ i ≠ q
    · rw [if_pos h', if_pos (by omega)]
    · rw [if_neg h', if_neg (by omega)]
theorem told_last (n q : Nat) (v : List Int) (hv : vecErr v = 0) (hq : q < n) : toldErr n (q : Int) v = 0 ∧ toldRows (rowsAt n n q v) (q : Int) v = List.replicate n v := by
  have he : toldErr n (q : Int) v = 0 := by simp [toldErr, inR, hv]; omega
  refine ⟨he, ?_⟩
  unfold toldRows
  rw [if_pos (by rw [rowsAt_len]; exact he)]
  have hz : (rowsAt n n q v).getD q [] = zero5 := by
    rw [show (rowsAt n n q v).getD q [] = (rowsAt n n q v)[q]'(by rw [rowsAt_len]; exact hq) from by simp [rowsAt_len, hq], rowsAt_get, if_neg (by omega)]
  rw [Int.toNat_natCast, hz, zipMax_zero hv]
  refine List.ext_getElem (by simp [rowsAt_len]) fun i h1 h2 => ?_
  rw [List.getElem_set, rowsAt_get, List.getElem_replicate]
  simp at h2
  by_cases h : q = i
  · rw [if_pos h]
  · rw [if_neg h, if_pos (by omega)]
theorem least_rowsAt (n q : Nat) (v : List Int) (hv : vecErr v = 0) (hq : q < n) : leastOf (rowsAt n n q v) = zero5 := by
  have hok := rowsAt_ok n n q v hv
  have hne : 0 < (rowsAt n n q v).length := by rw [rowsAt_len]; omega
  have h5 := leastOf_len hok hne
  have hz : ∀ x ∈ zero5, x = 0 := by decide
  refine List.ext_getElem (by rw [h5]; rfl) fun k h1 h2 => ?_
  have hk : zero5[k] = 0 := hz _ (List.getElem_mem h2)
  have hmem : zero5 ∈ rowsAt n n q v := by
    have := List.getElem_mem (l := rowsAt n n q v) (n := q) (by rw [rowsAt_len]; exact hq)
    rwa [rowsAt_get, if_neg (by omega)] at this
  have hle := leastOf_le hok zero5 hmem k h1 h2
  obtain ⟨r, hr, hk', e⟩ := leastOf_is hok hne k h1
  have := vecErr_at (hok r hr) k hk'
  rw [hk] at hle ⊢
  omega
theorem least_rep (n : Nat) (v : List Int) (hv : vecErr v = 0) (hn : 0 < n) : leastOf (List.replicate n v) = v := by
  have hok : rowsOk (List.replicate n v) := fun r hr => by rw [List.eq_of_mem_replicate hr]; exact hv
  have h5 := leastOf_len hok (by simpa using hn)
  have hv5 := (vecErr0 hv).1
  refine List.ext_getElem (by omega) fun k h1 h2 => ?_
  obtain ⟨r, hr, hk', e⟩ := leastOf_is hok (by simpa using hn) k h1
  rw [e]
  have := List.eq_of_mem_replicate hr
  subst this; rfl
theorem errV1 : errV 1 = .iface 31 (.int .i64 1) := rfl
set_option maxRecDepth 100000 in
set_option maxHeartbeats 4000000 in
theorem stableOne_law (w : World) (n : Int) (_hn : I64 n) (vv : Value) (v : List Int) (hv : Ints w vv v) (who : Int) (_hw : I64 who) :
    Calls Try.prog 10 #[.int .i64 n, vv, .int .i64 who] w fun e w' => e = .returned (.bool true) ∧ Below w.heap.size w w' := by
  have HV := Lib.hid hv
  clear hv
  cases hg : isGroup n
  · have hb : n < 2 ∨ 5 < n := by simp [isGroup] at hg; omega
    have HG := Lib.hid hg
    clear hg
    rcases hb with hb | hb
    · go_enter Try.func10, Try.ntmps10
      go_wp2_with fail
      refine (stableNew_no _ HG.out).mono ?_
      rintro e w' ⟨rfl, rfl⟩
      rw [errV1]
      go_wp2
      go_ret
      exact ⟨rfl, Below.refl _ _⟩
    · have hb2 : ¬ n < 2 := by omega
      go_enter Try.func10, Try.ntmps10
      go_wp2_with fail
      refine (stableNew_no _ HG.out).mono ?_
      rintro e w' ⟨rfl, rfl⟩
      rw [errV1]
      go_wp2
      go_ret
      exact ⟨rfl, Below.refl _ _⟩
  · have hb : 2 ≤ n ∧ n ≤ 5 := by simp [isGroup] at hg; omega
    obtain ⟨n, rfl⟩ := Int.eq_ofNat_of_zero_le (show 0 ≤ n by omega)
    have hb1 : 2 ≤ n := by omega
    have hb2 : n ≤ 5 := by omega
    have HG := Lib.hid hg
    clear hg hb
    by_cases h0 : vecErr v = 0
    · by_cases hlo : who < 0
      · have he : errV (vecErr v) = .nilIface := by rw [h0]; rfl
        have HE := Lib.hid he
        clear h0 he
        go_enter Try.func10, Try.ntmps10
        go_wp2_with fail
        refine (stableNew_yes n HG.out (Own.start w)).mono ?_
        rintro e w1 ⟨p, rfl, ho⟩
        rw [errV0]
        have H1 := Lib.hid ho
        clear ho
        go_wp2_with fail
        refine (vcheck_any _ v _ (HV.out.later H1.out)).mono ?_
        rintro e w' ⟨rfl, rfl⟩
        rw [HE.out]
        go_wp2
        go_ret
        exact ⟨rfl, H1.out.below⟩
      · obtain ⟨q, rfl⟩ := Int.eq_ofNat_of_zero_le (show 0 ≤ who by omega)
        clear hlo
        by_cases hq : q < n
        · have H0 := Lib.hid h0
          have he : errV (vecErr v) = .nilIface := by rw [h0]; rfl
          have HE := Lib.hid he
          have hd1 : decide ((q : Int) < 0) = false := by simp
          have hd2 : decide (n ≤ q) = false := by simp; omega
          clear h0 he
          go_enter Try.func10, Try.ntmps10
          go_wp2_with fail
          refine (stableNew_yes n HG.out (Own.start w)).mono ?_
          rintro e w1 ⟨p, rfl, ho⟩
          rw [errV0]
          have H1 := Lib.hid ho
          clear ho
          go_wp2_with fail
          refine (vcheck_any _ v _ (HV.out.later H1.out)).mono ?_
          rintro e w' ⟨rfl, rfl⟩
          rw [HE.out]
          go_wp2_with fail
          go_loopw [9] (fun i wr => ∃ m : Nat, m ≤ n ∧ i = .int .i64 m ∧ Hid (Own w (StableP p (rowsAt n m q v) * emp) wr)) (fun i _ => n - (intOf i).toNat)
          case atStart => exact ⟨0, Nat.zero_le _, rfl, by rw [rowsAt_zero]; exact H1.out⟩
          case round =>
            obtain ⟨m, hm, rfl, hp⟩ := hrel
            by_cases hmn : m < n
            · by_cases hmq : m = q
              · subst hmq
                have hne : ((m : Int) != (m : Int)) = false := by simp
                go_wp2
                go_roundw
                case rel => exact ⟨m + 1, by omega, by go_num, (by rw [rowsAt_skip]; exact hp.out)⟩
                case measure => simp [intOf]; omega
              · have hne : ((m : Int) != (q : Int)) = true := by rw [bne_iff_ne]; omega
                have hst := told_step n m q v H0.out hmn hmq
                have HST := Lib.hid hst
                clear hst
                go_wp2_with fail
                refine (told_any p (rowsAt n m q v) m vv v (rowsAt_ok _ _ _ _ H0.out) (by rw [rowsAt_len]; omega) hp.out (HV.out.reads)).mono ?_
                rintro e w2 ⟨rfl, ho⟩
                rw [rowsAt_len, HST.out.1, errV0]
                rw [HST.out.2] at ho
                have HO := Lib.hid ho
                clear ho hp
                go_wp2
                go_roundw
                case rel => exact ⟨m + 1, by omega, by go_num, HO.out⟩
                case measure => simp [intOf]; omega
            · have hmn' : m = n := by omega
              subst hmn'
              have HP := Lib.hid hp.out
              clear hp
              go_wp2_with fail
              refine (least_any p _ (rowsAt_ok _ _ _ _ H0.out) (by rw [rowsAt_len]; omega) HP.out).mono ?_
              rintro e w2 ⟨vl, rfl, ho⟩
              rw [least_rowsAt m q v H0.out hq] at ho
              obtain ⟨ad, cap, hvl, _, _, _, hcl⟩ := Own.rd ho
              have HO := Lib.hid ho; have HVL := Lib.hid hvl; have HCL := Lib.hid hcl
              clear ho hvl hcl
              go_wp2_with fail
              have hz5 : zero5.length = 5 := rfl
              go_loop [11] (fun i => ∃ k : Nat, k ≤ 5 ∧ i = .int .i64 k) (fun i => 5 - (intOf i).toNat)
              case atStart => exact ⟨0, Nat.zero_le _, rfl⟩
              case round =>
                obtain ⟨k, hk, rfl⟩ := hrel
                have hv := HVL.out
                subst hv
                by_cases hk5 : k < 5
                · obtain ⟨ab, hab, hcb⟩ := HCL.out k (.int .i64 0) (by
                    match k, hk5 with
                    | 0, _ => rfl
                    | 1, _ => rfl
                    | 2, _ => rfl
                    | 3, _ => rfl
                    | 4, _ => rfl)
                  subst hab
                  go_wp2
                  go_round
                  case rel => exact ⟨k + 1, by omega, by go_num⟩
                  case measure => simp [intOf]; omega
                · have hk' : k = 5 := by omega
                  subst hk'
                  have hst := told_last m q v H0.out hq
                  have HST := Lib.hid hst
                  clear hst
                  go_wp2_with fail
                  refine (told_any p (rowsAt m m q v) q vv v (rowsAt_ok _ _ _ _ H0.out) (by rw [rowsAt_len]; omega) HO.out.drop (HV.out.reads)).mono ?_
                  rintro e w3 ⟨rfl, ho⟩
                  rw [rowsAt_len, HST.out.1, errV0]
                  rw [HST.out.2] at ho
                  have H3 := Lib.hid ho
                  clear ho
                  go_wp2_with fail
                  refine (least_any p (List.replicate m v) (fun r hr => by rw [List.eq_of_mem_replicate hr]; exact H0.out) (by rw [List.length_replicate]; omega) H3.out).mono ?_
                  rintro e w4 ⟨vm, rfl, ho⟩
                  rw [least_rep m v H0.out (by omega)] at ho
                  have H4 := Lib.hid ho
                  clear ho
                  go_wp2_with fail
                  refine (sameInts_any vm vv v v _ (IntSl_reads (vecErr_I64 H0.out) _ H4.out) (HV.out.later H4.out)).mono ?_
                  rintro e w5 ⟨rfl, n5, rfl⟩
                  rw [show (v == v) = true from beq_iff_eq.2 rfl]
                  go_wp2
                  go_ret
                  exact ⟨rfl, Below_drewN H4.out.below _⟩
        · have hq' : n ≤ q := by omega
          have H0 := Lib.hid h0
          have he : errV (vecErr v) = .nilIface := by rw [h0]; rfl
          have HE := Lib.hid he
          clear h0 he hq
          go_enter Try.func10, Try.ntmps10
          go_wp2_with fail
          refine (stableNew_yes n HG.out (Own.start w)).mono ?_
          rintro e w1 ⟨p, rfl, ho⟩
          rw [errV0]
          have H1 := Lib.hid ho
          clear ho
          go_wp2_with fail
          refine (vcheck_any _ v _ (HV.out.later H1.out)).mono ?_
          rintro e w' ⟨rfl, rfl⟩
          rw [HE.out]
          go_wp2
          go_ret
          exact ⟨rfl, H1.out.below⟩
    · obtain ⟨m, he⟩ := errV_some h0
      have HE := Lib.hid he
      clear he h0
      go_enter Try.func10, Try.ntmps10
      go_wp2_with fail
      refine (stableNew_yes n HG.out (Own.start w)).mono ?_
      rintro e w1 ⟨p, rfl, ho⟩
      rw [errV0]
      have H1 := Lib.hid ho
      clear ho
      go_wp2_with fail
      refine (vcheck_any _ v _ (HV.out.later H1.out)).mono ?_
      rintro e w' ⟨rfl, rfl⟩
      rw [HE.out]
      go_wp2
      go_ret
      exact ⟨rfl, H1.out.below⟩
end Go.Proofs.Ytclapdicocbnoaa
