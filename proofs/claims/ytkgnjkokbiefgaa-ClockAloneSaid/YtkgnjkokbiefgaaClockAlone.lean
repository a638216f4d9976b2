/- ClockAlone: of a member that thinks so often numbers and vectors count. -/
import Derived.Test.YtkgnjkokbiefgaaClock3
import Derived.Test.YtkgnjkokbiefgaaClockAloneP
import Derived.Test.YtkgnjkokbiefgaaEvSl
namespace Go.Proofs.Ytkgnjkokbiefgaa
set_option linter.unusedVariables false
set_option linter.unusedSimpArgs false
open Go.RowKit
theorem thinks_good {q n : Nat} (hq : q < 5) : ∀ e ∈ thinks q n, goodEv e := by
  intro e he
  rw [List.eq_of_mem_replicate he]
  unfold goodEv I64; simp; omega
set_option maxRecDepth 100000 in
set_option maxHeartbeats 4000000 in
theorem clockAlone_law (w : World) (who : Int) (_hw : I64 who) (n : Int) (_hn : I64 n) :
    Calls Try.prog 5 #[.int .i64 who, .int .i64 n] w fun e w' => e = .returned (.bool true) ∧ Below w.heap.size w w' := by
  have HW0 := Lib.hid (Own.start w)
  by_cases a1 : who < 0
  · have t1 : decide (who < 0) = true := by simpa using a1
    have A1 := Lib.hid a1
    clear a1
    go_enter Try.func5, Try.ntmps5
    go_wp2
    go_ret
    exact ⟨rfl, HW0.out.below⟩
  have t1 : decide (who < 0) = false := by simpa using a1
  by_cases a2 : 4 < who
  · have t2 : decide (4 < who) = true := by simpa using a2
    have A1 := Lib.hid a1; have A2 := Lib.hid a2
    clear a1 a2
    go_enter Try.func5, Try.ntmps5
    go_wp2
    go_ret
    exact ⟨rfl, HW0.out.below⟩
  have t2 : decide (4 < who) = false := by simpa using a2
  by_cases a3 : n < 1
  · have t3 : decide (n < 1) = true := by simpa using a3
    have A1 := Lib.hid a1; have A2 := Lib.hid a2; have A3 := Lib.hid a3
    clear a1 a2 a3
    go_enter Try.func5, Try.ntmps5
    go_wp2
    go_ret
    exact ⟨rfl, HW0.out.below⟩
  have t3 : decide (n < 1) = false := by simpa using a3
  by_cases a4 : 60 < n
  · have t4 : decide (60 < n) = true := by simpa using a4
    have A1 := Lib.hid a1; have A2 := Lib.hid a2; have A3 := Lib.hid a3; have A4 := Lib.hid a4
    clear a1 a2 a3 a4
    go_enter Try.func5, Try.ntmps5
    go_wp2
    go_ret
    exact ⟨rfl, HW0.out.below⟩
  have t4 : decide (60 < n) = false := by simpa using a4
  obtain ⟨q, rfl⟩ : ∃ q : Nat, who = (q : Int) := ⟨who.toNat, by omega⟩
  obtain ⟨m, rfl⟩ : ∃ m : Nat, n = (m : Int) := ⟨n.toNat, by omega⟩
  have hq5 : q < 5 := by omega
  have hm1 : 1 ≤ m := by omega
  have hm60 : m ≤ 60 := by omega
  have hrh := thinks_right hq5 hm60
  have hE := (histR_ok _).2 hrh
  obtain ⟨hv, _⟩ := thinks_vecs (n := m) hq5 m (Nat.le_refl _)
  obtain ⟨hn, _⟩ := thinks_nums (n := m) hq5 m (Nat.le_refl _)
  have hlen : (thinks q m).length = m := by simp [thinks]
  have A1 := Lib.hid a1; have A2 := Lib.hid a2; have A3 := Lib.hid a3; have A4 := Lib.hid a4; have HRH := Lib.hid hrh; have HE := Lib.hid hE; have HV := Lib.hid hv; have HN := Lib.hid hn; have HLEN := Lib.hid hlen
  clear a1 a2 a3 a4 hrh hE hv hn hlen
  go_enter Try.func5, Try.ntmps5
  go_wp2_with fail
  go_loopw [6, 5] (fun iv hv wr => ∃ k : Nat, k ≤ m ∧ iv = .int .i64 k ∧ Hid (Own w (EvSl hv (thinks q k) * emp) wr)) (fun iv _ _ => m - (intOf iv).toNat)
  case atStart => exact ⟨0, Nat.zero_le _, rfl, Lib.hid HW0.out.evs_nil⟩
  case round =>
    obtain ⟨k, hk, rfl, HO⟩ := hrel
    by_cases hlt : k < m
    · have HA : Hid (Own w (Sl 49 3 u5 k ((thinks q k).flatMap evCells) * emp) wr) := Lib.hid (HO.out.perm (by unfold EvSl; rw [show (thinks q k).length = k by simp [thinks]]))
      have hnx : thinks q (k + 1) = thinks q k ++ [((q : Int), 1, 0)] := by unfold thinks; rw [List.replicate_succ']
      have HNX := Lib.hid hnx
      clear hnx
      go_wp2_with (at_builtin; refine wpList_app rfl _ _ 47 rfl 49 3 24 _ info_ev Try.underlying47 rfl (by decide) rfl (HA.out.alloc' _) rfl (by rfl) (Rd_lit (by simp) (by unfold maxLen; omega)) (by intro u hu; simp at hu; rcases hu with rfl | rfl | rfl <;> rfl) (by unfold maxLen; omega) (by omega) ?_; intro v' w7 hown; have HO7 : Hid (Own w (EvSl v' (thinks q (k + 1)) * emp) w7) := Lib.hid (by rw [HNX.out]; exact Own.evs_snoc (l2 := [((q : Int), 1, 0)]) (hown.perm (by rw [show (thinks q k).length = k by simp [thinks]]; rfl))); clear hown)
      go_roundw
      case rel => exact ⟨k + 1, by omega, by go_num, HO7⟩
      case measure => simp [intOf]; omega
    have hkm : k = m := by omega
    subst hkm
    have HRE := Lib.hid (EvSl_reads (w0 := w) (R := emp) (v := u5) (thinks_good (n := k) hq5))
    go_wp2_with fail
    refine (vectors_any _ _ HO.out HRE.out).mono ?_
    rintro e w2 ⟨v2, rs, rfl, hm, ho⟩
    rw [HE.out, errV0]
    have hve : vecsE (thinks q k) = (vecState (thinks q k) k).1 := by unfold vecsE vecsR; rw [if_pos HE.out, HLEN.out]
    have hne : numsE (thinks q k) = (numState (thinks q k) k).1 := by unfold numsE numsR; rw [if_pos HE.out, HLEN.out]
    rw [hve] at hm
    have hrl : rs.length = k := by rw [← List.length_map (f := (·.2)), hm, (vecState_len _ _).1]
    have hvk := vecState_in HRH.out k (by rw [HLEN.out]; exact Nat.le_refl _)
    have HRW : Hid (∀ i, i < k → ∃ rv V, rs[i]? = some (rv, V) ∧ V.length = 5 ∧ V.getD q 0 = (i : Int) + 1 ∧ ∀ x ∈ V, I64 x) := Lib.hid (fun i hi => by
      obtain ⟨V, h1, h2, h3⟩ := HV.out i hi
      obtain ⟨rv, hrv⟩ := map_at hm h1
      exact ⟨rv, V, hrv, h2, h3, vecIn_I64 (hvk.1 V (List.mem_of_getElem? h1)) (by omega)⟩)
    have HO2 := Lib.hid (ho.perm (show _ = EvSl u5 (thinks q k) * (LSl v2 rs * emp) by ac_rfl))
    have hsh : ∃ b off cap, v2 = .slice (some ⟨b, off, none⟩) k cap ∧ k ≤ cap ∧ cap ≤ 9223372036854775807 := by
      obtain ⟨rv, V, h1, _, _, h4⟩ := HRW.out 0 (by omega)
      obtain ⟨b, off, cap, e1, e2, e3, _⟩ := ho.ls_row h1 h4
      rw [hrl] at e1 e2
      exact ⟨b, off, cap, e1, e2, e3⟩
    obtain ⟨vb, voff, vcap, rfl, hvc1, hvc2⟩ := hsh
    have HRE2 := Lib.hid (EvSl_reads (w0 := w) (R := LSl (.slice (some ⟨vb, voff, none⟩) k vcap) rs * emp) (v := u5) (thinks_good (n := k) hq5))
    have HNE := Lib.hid hne
    have HM := Lib.hid hm; have HRL := Lib.hid hrl
    clear hm hrl
    clear ho hve hne hvk
    go_wp2_with fail
    refine (nums_any _ _ HO2.out HRE2.out).mono ?_
    rintro e w3 ⟨v3, rfl, ho⟩
    rw [HE.out, errV0]
    rw [HNE.out] at ho
    have hnl := (numState_len (thinks q k) k).1
    obtain ⟨nb, noff, ncap, rfl, hnc1, hnc2, hnc, _⟩ := ho.ints_at (by rw [hnl]; omega)
    rw [hnl] at hnc1 ⊢
    unfold maxLen at hnc2
    have HNC : Hid (∀ i, i < k → w3.cell? ⟨nb, noff + i, none⟩ = some (.int .i64 ((i : Int) + 1))) := Lib.hid (fun i hi => by
      have h1 := hnc i (by rw [hnl]; exact hi)
      have h2 := HN.out i hi
      rw [List.getElem?_eq_getElem (by rw [hnl]; exact hi)] at h2
      rw [Option.some.inj h2] at h1
      exact h1)
    have HO3 := Lib.hid (ho.perm (show _ = LSl (.slice (some ⟨vb, voff, none⟩) k vcap) rs * (IntSl _ (numState (thinks q k) k).1 * (EvSl u5 (thinks q k) * emp)) by ac_rfl))
    have HNL := Lib.hid hnl
    clear hnl
    clear ho hnc
    have hkk : ((k : Int) != (k : Int)) = false := by simp
    go_wp2_with fail
    go_loop [11] (fun iv => ∃ i : Nat, i ≤ k ∧ iv = .int .i64 i) (fun iv => k - (intOf iv).toNat)
    case atStart => exact ⟨0, Nat.zero_le _, rfl⟩
    case round =>
      obtain ⟨i, hi, rfl⟩ := hrel
      by_cases hlt2 : i < k
      rotate_left
      · go_wp2
        go_ret
        exact ⟨rfl, HO3.out.below⟩
      obtain ⟨rv, V, h1, h2, h3, h4⟩ := HRW.out i hlt2
      obtain ⟨b', off', cap', e1, _, _, c1, hint⟩ := HO3.out.ls_row h1 h4
      injection e1 with e1 _ _
      injection e1 with e1
      injection e1 with e1 e4 _
      subst e1; subst e4
      obtain ⟨rad, rcap, hrv, hrc1, hrc2⟩ := hint.shape
      subst hrv
      obtain ⟨ra, hra, hrc⟩ := hint.cell_at q (by omega)
      rw [h3] at hrc
      subst hra
      rw [h2] at c1 hrc1
      have d1 := HNC.out i hlt2
      have i0 : (0 : Int) ≤ (i : Int) := by omega
      have i1 : (i : Int) < (k : Int) := by omega
      have q0 : (0 : Int) ≤ (q : Int) := by omega
      have q5 : (q : Int) < 5 := by omega
      have ii : ((i : Int) + 1 != (i : Int) + 1) = false := by simp
      have H1 := Lib.hid h1; have H2 := Lib.hid h2; have H3 := Lib.hid h3; have H4 := Lib.hid h4; have HINT := Lib.hid hint
      clear h1 h2 h3 h4 hint
      go_wp2
      go_round
      case rel => exact ⟨i + 1, by omega, by go_num⟩
      case measure => simp [intOf]; omega
end Go.Proofs.Ytkgnjkokbiefgaa
