/- AgreeOne: whatever is said, proposed, settled: any two members have heard alike; at the end all have heard all that was said. -/
import Derived.Test.YtldmdenojpnldaaDoorAgreeOneR
import Derived.Test.YtldmdenojpnldaaDoorLaid
namespace Go.Proofs.YtldmdenojpnldaaDoor
set_option linter.unusedVariables false
set_option linter.unusedSimpArgs false
open Go.RowKit Go.Maps
theorem ao1 : agSayErr (agNew 2) 4 = 0 := by decide
theorem ao2 : agPropErr (agSay (agNew 2) 4) 0 4 = 0 := by decide
theorem ao3 : agPropErr (agProp (agSay (agNew 2) 4) 0 4) 1 4 = 0 := by decide
theorem ao4 : agPropSt (agProp (agSay (agNew 2) 4) 0 4) 1 4 = (1, 1) := by decide
theorem ao5 : agSetErr (agProp (agProp (agSay (agNew 2) 4) 0 4) 1 4) 0 4 = 0 := by decide
theorem ao6 : agSetOut (agProp (agProp (agSay (agNew 2) 4) 0 4) 1 4) 0 4 = [4] := by decide
set_option maxRecDepth 100000 in
set_option maxHeartbeats 4000000 in
theorem agreeOne_law (w : World) (hg : As.Handle w) (n : Int) (hn : I64 n) (vs : Value) (steps : List (List Int)) (hvs : Rows2 w vs steps) :
    Calls Tryd.prog 11 #[.int .i64 n, vs] w fun e w' => e = .returned (.bool true) ∧ Below w.heap.size w w' := by
  obtain ⟨sad, scap, rfl, hsc1, hsc2⟩ := hvs.shape
  have HW0 := Lib.hid (Own.start w)
  obtain ⟨G1, hG1⟩ : ∃ G, G = agSay (agNew 2) 4 := ⟨_, rfl⟩
  obtain ⟨G2, hG2⟩ : ∃ G, G = agProp G1 0 4 := ⟨_, rfl⟩
  obtain ⟨G3, hG3⟩ : ∃ G, G = agProp G2 1 4 := ⟨_, rfl⟩
  have k1 := ao1
  have k2 := ao2
  have k3 := ao3
  have k4 := ao4
  have k5 := ao5
  have k6 := ao6
  rw [← hG1] at k2 k3 k4 k5 k6
  rw [← hG2] at k3 k4 k5 k6
  rw [← hG3] at k5 k6
  have n1 : AgN 2 G1 := by rw [hG1]; exact (AgN.new 2).say 4
  have n2 : AgN 2 G2 := by rw [hG2]; exact n1.prop 0 4
  have n3 : AgN 2 G3 := by rw [hG3]; exact n2.prop 1 4
  have lb1 : AgLe G1 0 := by
    have h := AgLe.new 2 4 4
    rw [hG1]
    intro k hk
    have h2 := h k (by rw [agSay_mem]; exact hk)
    unfold agGet at h2 ⊢
    rw [agSay_mem] at h2
    exact h2
  have lb2 : AgLe G2 1 := by rw [hG2]; exact (lb1.prop 0 4)
  have sm1 := lb1.sm n1.inv (by omega)
  have sm2 := lb2.sm n2.inv (by omega)
  have f1 : G1.mem.length ≤ 5 := by rw [n1.len]; omega
  have f2 : G2.mem.length ≤ 5 := by rw [n2.len]; omega
  have f3 : G3.mem.length ≤ 5 := by rw [n3.len]; omega
  have i1 := n1.inv
  have i2 := n2.inv
  have i3 := n3.inv
  have HVS := Lib.hid hvs; have HG := Lib.hid hg; have HN := Lib.hid hn; have HG1 := Lib.hid hG1; have HG2 := Lib.hid hG2; have HG3 := Lib.hid hG3; have K1 := Lib.hid k1; have K2 := Lib.hid k2; have K3 := Lib.hid k3; have K4 := Lib.hid k4; have K5 := Lib.hid k5; have K6 := Lib.hid k6; have N1 := Lib.hid n1; have N2 := Lib.hid n2; have N3 := Lib.hid n3; have LB1 := Lib.hid lb1; have LB2 := Lib.hid lb2; have SM1 := Lib.hid sm1; have SM2 := Lib.hid sm2; have F1 := Lib.hid f1; have F2 := Lib.hid f2; have F3 := Lib.hid f3; have I1 := Lib.hid i1; have I2 := Lib.hid i2; have I3 := Lib.hid i3
  clear hvs hg hn hG1 hG2 hG3 k1 k2 k3 k4 k5 k6 n1 n2 n3 lb1 lb2 sm1 sm2 f1 f2 f3 i1 i2 i3
  go_enter Tryd.func11, Tryd.ntmps11
  go_wp2_with fail
  refine (agNew_yes 2 (by decide) HW0.out).mono ?_
  rintro e w1 ⟨q, rfl, ho⟩
  have HO1 := Lib.hid ho
  clear ho
  rw [errV0]
  go_wp2_with fail
  refine (agSay_any q _ 4 HO1.out).mono ?_
  rintro e w2 ⟨rfl, ho⟩
  rw [← HG1.out] at ho
  have HO2 := Lib.hid ho
  clear ho
  rw [K1.out, errV0]
  go_wp2_with fail
  refine (agPropose_any q G1 0 4 I1.out SM1.out F1.out HO2.out).mono ?_
  rintro e w3 ⟨rfl, ho⟩
  rw [← HG2.out] at ho
  have HO3 := Lib.hid ho
  clear ho
  unfold stTup
  rw [K2.out, errV0]
  go_wp2_with fail
  refine (agPropose_any q G2 1 4 I2.out SM2.out F2.out (HO3.out.alloc' _)).mono ?_
  rintro e w4 ⟨rfl, ho⟩
  rw [← HG3.out] at ho
  unfold stTup
  rw [K4.out, K3.out, errV0]
  dsimp only
  obtain ⟨b9, hb_b9⟩ : ∃ zz_, zz_ = (w4).heap.size := ⟨_, rfl⟩
  obtain ⟨w5, hw_w5⟩ : ∃ zz_, zz_ = (w4).alloc (.cells #[.int .i64 1, .int .i64 1] 108 (0, 0)) := ⟨_, rfl⟩
  have h_HB := (ho).alloc (.cells #[.int .i64 1, .int .i64 1] 108 (0, 0))
  rw [← hb_b9, ← hw_w5] at h_HB
  have HB := Lib.hid h_HB
  clear h_HB
  clear ho
  have HO5 : Hid (Own w (AgP q G3 * (StO b9 (1, 1) * emp)) w5) := Lib.hid (HB.out.perm (by unfold StO; ac_rfl))
  clear HB
  go_upto_region 6 with fail
  rw [← hb_b9, ← hw_w5]
  clear hb_b9 hw_w5
  go_wp2_with fail
  refine (agSettle_any q G3 0 4 I3.out F3.out HO5.out).mono ?_
  rintro e w6 ⟨v6, rfl, ho⟩
  rw [K6.out] at ho
  rw [K5.out, errV0]
  obtain ⟨fb, fo, fc, hv6, hf1, hf2, hf3, _⟩ := ho.ints_at (by simp)
  have f0 := hf3 0 (by simp)
  subst hv6
  obtain ⟨s0, s1, _⟩ := ho.third.sto
  have HO6 : Hid (Own w emp w6) := Lib.hid ho.drop.drop.drop
  clear ho hf3
  simp only [List.length_singleton, List.getElem_cons_zero, Nat.add_zero] at f0 hf1
  go_wp2_with fail
  clear f0 s0 s1 hf1 hf2
  cases hgr : isGroup n
  · refine (agNew_no n w6 hgr).mono ?_
    rintro e w7 ⟨rfl, rfl⟩
    rw [errA1]
    have HGR := Lib.hid hgr
    clear hgr
    go_wp2_with fail
    go_ret
    exact ⟨rfl, HO6.out.below⟩
  have hg5 : 2 ≤ n ∧ n ≤ 5 := by simp [isGroup] at hgr; omega
  obtain ⟨N, rfl⟩ : ∃ N : Nat, n = N := ⟨n.toNat, by omega⟩
  have hn1 : 2 ≤ N := by omega
  have hn5 : N ≤ 5 := by omega
  clear hg5
  refine (agNew_yes N hgr HO6.out).mono ?_
  rintro e w7 ⟨p, rfl, ho⟩
  have HP0 := Lib.hid ho
  clear ho
  rw [errV0]
  have hle0 : AgLe (agNew N) 0 := by
    have h := AgLe.new N 4 4
    intro k hk
    have h2 := h k (by rw [agSay_mem, agSay_mem]; exact hk)
    unfold agGet at h2 ⊢
    rw [agSay_mem, agSay_mem] at h2
    exact h2
  have hag0 := AgN.new N
  have HGR := Lib.hid hgr; have HLE0 := Lib.hid hle0; have HAG0 := Lib.hid hag0
  clear hgr hle0 hag0
  go_wp2_with fail
  go_loopw [15] (fun iv wr => ∃ (k : Nat) (g : Ag), k ≤ steps.length ∧ k ≤ 150 ∧ iv = .int .i64 k ∧ Hid (AgN N g ∧ AgLe g (k : Int)) ∧ Hid (Own w (AgP p g * emp) wr)) (fun iv _ => steps.length - (intOf iv).toNat)
  case atStart => exact ⟨0, agNew N, Nat.zero_le _, Nat.zero_le _, rfl, Lib.hid ⟨HAG0.out, HLE0.out⟩, HP0⟩
  case round =>
    clear HP0
    obtain ⟨k, g, hk, hk2, rfl, HA, HP⟩ := hrel
    by_cases h1 : k < steps.length
    rotate_left
    · have t1 : decide (k < steps.length) = false := decide_eq_false h1
      have hs0 : AgPs N (agSaid g) 0 0 g := ⟨HA.out.1, fun v => rfl, fun v hv => by omega, fun _ k hk => by omega⟩
      have hl0 : AgLe g 150 := HA.out.2.mono (by omega)
      obtain ⟨S, hS⟩ : ∃ S, S = agSaid g := ⟨_, rfl⟩
      rw [← hS] at hs0
      have HS0 := Lib.hid hs0; have HL0 := Lib.hid hl0; have HS := Lib.hid hS
      clear hs0 hl0 hS
      go_upto_block 5 with fail
      go_cut [19] (fun sv wx => sv = .int .i64 (cntTo S 30 : Nat) ∧ ∃ g2, AgPs N S 30 0 g2 ∧ Own w (AgP p g2 * emp) wx)
      case first =>
        refine aoStamp w p N S g hn1 hn5 HG HS0 HL0 HP ?_
        intros
        go_step
        go_step
        go_meet
        assumption
      case rest =>
      obtain ⟨rfl, g2, h2, ho2⟩ := hcut
      obtain ⟨c, hc⟩ : ∃ c, c = cntTo S 30 := ⟨_, rfl⟩
      have hc30 : c ≤ 30 := by rw [hc]; exact cntTo_le S 30
      rw [← hc]
      have HP2 := Lib.hid ho2
      have HQ2 := Lib.hid h2.done
      clear ho2 h2 HP HA HS0 HL0
      have HC := Lib.hid hc
      clear hc
      go_upto_block 9 with fail
      go_cut [] (fun wx => ∃ g3, AgQs N S 30 0 g3 ∧ Own w (AgP p g3 * emp) wx)
      case first =>
        refine aoSettle w p N S g2 hn5 HQ2 HP2 ?_
        intros
        go_step
        go_step
        go_meet
        assumption
      case rest =>
      obtain ⟨g3, h3, ho3⟩ := hcut
      have HP3 := Lib.hid ho3
      have HQ3 := Lib.hid h3
      clear ho3 h3 HP2 HQ2
      go_upto_block 13 with fail
      go_cut [] (fun wx => Own w (AgP p g3 * emp) wx)
      case first =>
        refine aoHeard w p N c S g3 hn5 hc30 HC HQ3 HP3 ?_
        intros
        go_step
        go_step
        go_meet
        assumption
      case rest =>
      have HP4 := Lib.hid hcut
      clear hcut HP3
      go_wp2_with fail
      refine (alike_any p N g3 HQ3.out.ag hn5 HP4.out).mono ?_
      rintro e w9 ⟨rfl, ho9⟩
      have HP9 := Lib.hid ho9
      clear ho9
      go_wp2
      go_ret
      exact ⟨rfl, HP9.out.below⟩
    by_cases h2 : k < 150
    rotate_left
    · have t1 : decide (k < steps.length) = true := decide_eq_true h1
      have t2 : decide ((k : Int) < 150) = false := decide_eq_false (by omega)
      have hs0 : AgPs N (agSaid g) 0 0 g := ⟨HA.out.1, fun v => rfl, fun v hv => by omega, fun _ k hk => by omega⟩
      have hl0 : AgLe g 150 := HA.out.2.mono (by omega)
      obtain ⟨S, hS⟩ : ∃ S, S = agSaid g := ⟨_, rfl⟩
      rw [← hS] at hs0
      have HS0 := Lib.hid hs0; have HL0 := Lib.hid hl0; have HS := Lib.hid hS
      clear hs0 hl0 hS
      go_upto_block 5 with fail
      go_cut [19] (fun sv wx => sv = .int .i64 (cntTo S 30 : Nat) ∧ ∃ g2, AgPs N S 30 0 g2 ∧ Own w (AgP p g2 * emp) wx)
      case first =>
        refine aoStamp w p N S g hn1 hn5 HG HS0 HL0 HP ?_
        intros
        go_step
        go_step
        go_meet
        assumption
      case rest =>
      obtain ⟨rfl, g2, h2, ho2⟩ := hcut
      obtain ⟨c, hc⟩ : ∃ c, c = cntTo S 30 := ⟨_, rfl⟩
      have hc30 : c ≤ 30 := by rw [hc]; exact cntTo_le S 30
      rw [← hc]
      have HP2 := Lib.hid ho2
      have HQ2 := Lib.hid h2.done
      clear ho2 h2 HP HA HS0 HL0
      have HC := Lib.hid hc
      clear hc
      go_upto_block 9 with fail
      go_cut [] (fun wx => ∃ g3, AgQs N S 30 0 g3 ∧ Own w (AgP p g3 * emp) wx)
      case first =>
        refine aoSettle w p N S g2 hn5 HQ2 HP2 ?_
        intros
        go_step
        go_step
        go_meet
        assumption
      case rest =>
      obtain ⟨g3, h3, ho3⟩ := hcut
      have HP3 := Lib.hid ho3
      have HQ3 := Lib.hid h3
      clear ho3 h3 HP2 HQ2
      go_upto_block 13 with fail
      go_cut [] (fun wx => Own w (AgP p g3 * emp) wx)
      case first =>
        refine aoHeard w p N c S g3 hn5 hc30 HC HQ3 HP3 ?_
        intros
        go_step
        go_step
        go_meet
        assumption
      case rest =>
      have HP4 := Lib.hid hcut
      clear hcut HP3
      go_wp2_with fail
      refine (alike_any p N g3 HQ3.out.ag hn5 HP4.out).mono ?_
      rintro e w9 ⟨rfl, ho9⟩
      have HP9 := Lib.hid ho9
      clear ho9
      go_wp2
      go_ret
      exact ⟨rfl, HP9.out.below⟩
    go_upto_block 1 with fail
    go_cut [] (fun wx => ∃ g2, AgN N g2 ∧ AgLe g2 ((k : Int) + 1) ∧ Own w (AgP p g2 * emp) wx)
    case first =>
      refine aoRound w p N k g steps sad scap h1 h2 hsc1 hsc2 hn5 HVS (Lib.hid HA.out.1) (Lib.hid HA.out.2) HP ?_
      intros
      go_step
      go_step
      go_meet
      assumption
    case rest =>
    obtain ⟨g2, hn2, hl2, ho2⟩ := hcut
    have HA2 := Lib.hid (show AgN N g2 ∧ AgLe g2 ((k + 1 : Nat) : Int) from ⟨hn2, by rw [Int.natCast_add]; exact hl2⟩)
    have HP2 := Lib.hid ho2
    clear hn2 hl2 ho2 HP HA
    go_wp2_with fail
    go_roundw
    case rel => exact ⟨k + 1, g2, by omega, by omega, by go_num, HA2, HP2⟩
    case measure => simp [intOf]; omega
end Go.Proofs.YtldmdenojpnldaaDoor
