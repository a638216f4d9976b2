/- AgreeTwo: two words, to which all members give stamps in unlike orders: when all settle both, all have heard the two, in one order. -/
import Derived.Test.YtkgnjkokbiefgaaAgreeTwoE
namespace Go.Proofs.Ytkgnjkokbiefgaa
set_option linter.unusedVariables false
set_option linter.unusedSimpArgs false
open Go.RowKit Go.Maps
set_option maxRecDepth 100000 in
set_option maxHeartbeats 4000000 in
theorem agreeTwo_good (w : World) (N : Nat) (hg : isGroup N = true) (a b : Int) (hwa : isWord a = true) (hwb : isWord b = true) (hab : ¬ a = b) :
    Calls Try.prog 8 #[.int .i64 N, .int .i64 a, .int .i64 b] w fun e w' => e = .returned (.bool true) ∧ Below w.heap.size w w' := by
  have HW0 := Lib.hid (Own.start w)
  have hg5 : 2 ≤ (N : Int) ∧ (N : Int) ≤ 5 := by simp [isGroup] at hg; omega
  obtain ⟨ya1, ya2⟩ := wordYes hwa
  have t1 : decide (a < 1) = false := decide_eq_false ya1
  have t2 : decide (30 < a) = false := decide_eq_false ya2
  have hE1 : agSayErr (agNew N) a = 0 := agSayErr_ok hwa (agNew_said N a)
  obtain ⟨yb1, yb2⟩ := wordYes hwb
  have t3 : decide (b < 1) = false := decide_eq_false yb1
  have t4 : decide (30 < b) = false := decide_eq_false yb2
  obtain ⟨_, hE2, hP⟩ := TwP.start (n := N) hwa hwb hab
  have hLE := AgLe.new N a b
  have hg1 : 2 ≤ N := by omega
  have hg6 : N ≤ 5 := by omega
  have HG := Lib.hid hg; have HWA := Lib.hid hwa; have HWB := Lib.hid hwb; have HE1 := Lib.hid hE1; have HE2 := Lib.hid hE2; have HAB := Lib.hid hab; have HP := Lib.hid hP; have HLE := Lib.hid hLE
  clear hg hwa hwb hE1 hE2 hab hP hLE
  go_enter Try.func8, Try.ntmps8
  go_wp2_with fail
  refine (agNew_yes N HG.out HW0.out).mono ?_
  rintro e w1 ⟨p, rfl, ho⟩
  have HO1 := Lib.hid ho
  clear ho
  rw [errV0]
  go_wp2_with fail
  refine (agSay_any p _ a HO1.out).mono ?_
  rintro e w2 ⟨rfl, ho⟩
  have HO2 := Lib.hid ho
  clear ho
  rw [HE1.out, errV0]
  go_wp2_with fail
  refine (agSay_any p _ b HO2.out).mono ?_
  rintro e w3 ⟨rfl, ho⟩
  have HO3 := Lib.hid ho
  clear ho
  rw [HE2.out, errV0]
  clear t1 t2 t3 t4
  go_wp2_with fail
  go_loopw [9] (fun iv wr => ∃ m : Nat, m ≤ N ∧ iv = .int .i64 m ∧ Hid (∃ g, (TwP N a b m g ∧ AgLe g (2 * (m : Int))) ∧ Own w (AgP p g * emp) wr)) (fun iv _ => N - (intOf iv).toNat)
  case atStart => exact ⟨0, Nat.zero_le _, rfl, Lib.hid ⟨_, ⟨HP.out, HLE.out⟩, HO3.out⟩⟩
  case round =>
    clear HO1 HO2 HO3 HP HLE
    obtain ⟨m, hm, rfl, HGG⟩ := hrel
    obtain ⟨g, ⟨hT, hLe⟩, ho⟩ := HGG.out
    clear HGG
    by_cases hlt : m < N
    rotate_left
    · have hmn : m = N := by omega
      subst hmn
      have hTS := hT.done
      have HTS := Lib.hid hTS
      have HOG := Lib.hid ho
      clear hTS hT hLe ho
      go_wp2_with fail
      go_loopw [16] (fun iv wr => ∃ j : Nat, j ≤ m ∧ iv = .int .i64 j ∧ Hid (∃ g, TwS m a b j g ∧ Own w (AgP p g * emp) wr)) (fun iv _ => m - (intOf iv).toNat)
      case atStart => exact ⟨0, Nat.zero_le _, rfl, Lib.hid ⟨_, HTS.out, HOG.out⟩⟩
      case round =>
        clear HTS HOG g
        obtain ⟨j, hj, rfl, HGG⟩ := hrel
        obtain ⟨g, hT, ho⟩ := HGG.out
        clear HGG
        have i1 := hT.ag.inv
        have l1 : g.mem.length ≤ 5 := by rw [hT.ag.len]; exact hg6
        by_cases hlj : j < m
        rotate_left
        · have hjm : j = m := by omega
          subst hjm
          have hfit := hT.ag.fit
          have hh0 := agHeard_at hT.ag (show 0 < j by omega)
          obtain ⟨hq1, hq2⟩ := hh0
          have hlen := hT.heard HAB.out (show 0 < j by omega)
          obtain ⟨F, hF⟩ : ∃ F, F = (agGet g ((0 : Nat) : Int)).heard := ⟨_, rfl⟩
          have hFI : ∀ x ∈ F, I64 x := by rw [hF]; exact (hfit 0 (by rw [hT.ag.len]; omega)).2
          rw [← hF] at hq2 hlen
          have hsm : ∀ k : Nat, k < j → agHeardErr g k = 0 ∧ agHeard g k = F := fun k hk => by
            obtain ⟨h1, h2⟩ := agHeard_at hT.ag hk
            exact ⟨h1, by rw [h2, hF]; exact hT.same HAB.out hk (by omega)⟩
          have HOG := Lib.hid ho
          clear ho
          have I1 := Lib.hid i1; have L1 := Lib.hid l1; have HT := Lib.hid hT; have HFIT := Lib.hid hfit; have HQ1 := Lib.hid hq1; have HQ2 := Lib.hid hq2; have HF := Lib.hid hF; have HFI := Lib.hid hFI; have HSM := Lib.hid hsm
          clear i1 l1 hT hfit hq1 hq2 hF hFI hsm
          go_wp2_with fail
          refine (agHeard_any p g 0 HFIT.out HOG.out).mono ?_
          rintro e w5 ⟨v5, rfl, ho5⟩
          have hq := HQ1.out
          have hqq := HQ2.out
          rw [Int.natCast_zero] at hq hqq
          rw [hqq] at ho5
          rw [hq, errV0]
          obtain ⟨ad, cp, hs⟩ := ho5.int_shape
          rw [hlen] at hs
          subst hs
          have HO5 := Lib.hid ho5
          clear ho5 hq hqq HOG
          go_wp2_with fail
          go_loopw [22] (fun iv wr => ∃ k : Nat, 1 ≤ k ∧ k ≤ j ∧ iv = .int .i64 k ∧ Hid (Own w (IntSl (.slice ad 2 cp) F * (AgP p g * emp)) wr)) (fun iv _ => j - (intOf iv).toNat)
          case atStart => exact ⟨1, Nat.le_refl _, by omega, rfl, HO5⟩
          case round =>
            clear HO5
            obtain ⟨k, hk1, hk2, rfl, HOK⟩ := hrel
            by_cases hlk : k < j
            rotate_left
            · have hkj : k = j := by omega
              subst hkj
              go_wp2
              go_ret
              exact ⟨rfl, HOK.out.below⟩
            obtain ⟨hz1, hz2⟩ := HSM.out k hlk
            have HOP : Hid (Own w (AgP p g * (IntSl (.slice ad 2 cp) F * emp)) wr) := Lib.hid (HOK.out.perm (by ac_rfl))
            have iklt : (k : Int) < (j : Int) := by omega
            clear HOK
            have HZ1 := Lib.hid hz1; have HZ2 := Lib.hid hz2
            clear hz1 hz2
            go_wp2_with fail
            refine (agHeard_any p g k HFIT.out HOP.out).mono ?_
            rintro e w6 ⟨v6, rfl, ho6⟩
            rw [HZ2.out] at ho6
            rw [HZ1.out, errV0]
            have HR1 := Lib.hid (IntSl_reads HFI.out _ ho6)
            have HR2 := Lib.hid (IntSl_reads HFI.out _ ho6.third)
            have HO6 : Hid (Own w (IntSl (.slice ad 2 cp) F * (AgP p g * emp)) w6) := Lib.hid (ho6.drop.perm (by ac_rfl))
            clear ho6 HOP
            go_wp2_with fail
            refine (sameInts_any _ _ F F _ HR1.out HR2.out).mono ?_
            rintro e w7 ⟨rfl, q, rfl⟩
            rw [show (F == F) = true by simp]
            go_wp2_with fail
            go_roundw
            case rel => exact ⟨k + 1, by omega, by omega, by go_num, Lib.hid (HO6.out.drewN _)⟩
            case measure => simp [intOf]; omega
        obtain ⟨e1, e2, hT2⟩ := hT.step hlj HWA.out HWB.out HAB.out
        have i2 := (hT.ag.set j b).inv
        have l2 : (agSet g j b).mem.length ≤ 5 := by rw [agSet_len]; exact l1
        have ijm : (j : Int) < (m : Int) := by omega
        have HOG := Lib.hid ho
        clear ho
        have HT := Lib.hid hT; have I1 := Lib.hid i1; have L1 := Lib.hid l1; have E1 := Lib.hid e1; have E2 := Lib.hid e2; have HT2 := Lib.hid hT2; have I2 := Lib.hid i2; have L2 := Lib.hid l2
        clear hT i1 l1 e1 e2 hT2 i2 l2
        go_wp2_with fail
        refine (agSettle_any p g j b I1.out L1.out HOG.out).mono ?_
        rintro e w4 ⟨v4, rfl, ho4⟩
        rw [E1.out, errV0]
        have HO4 := Lib.hid ho4.drop
        clear ho4
        go_wp2_with fail
        refine (agSettle_any p _ j a I2.out L2.out HO4.out).mono ?_
        rintro e w5 ⟨v5, rfl, ho5⟩
        rw [E2.out, errV0]
        have HO5 := Lib.hid ho5.drop
        clear ho5
        go_wp2_with fail
        go_roundw
        case rel => exact ⟨j + 1, by omega, by go_num, Lib.hid ⟨_, HT2.out, HO5.out⟩⟩
        case measure => simp [intOf]; omega
    have i1 := hT.ag.inv
    have l1 : g.mem.length ≤ 5 := by rw [hT.ag.len]; exact hg6
    have sm1 := hLe.sm i1 (by omega)
    have ilt : (m : Int) < (N : Int) := by omega
    by_cases hp : m % 2 = 1
    · have tp : ((m : Int) % 2 == 1) = true := by rw [beq_iff_eq]; omega
      obtain ⟨e1, e2, hT2⟩ := hT.step (x := b) (y := a) hlt HWA.out HWB.out HAB.out (.inr ⟨rfl, rfl⟩)
      have i2 := (hT.ag.prop m b).inv
      have l2 : (agProp g m b).mem.length ≤ 5 := by rw [agProp_len]; exact l1
      have sm2 := (hLe.prop m b).sm i2 (by omega)
      have hLL : AgLe (agProp (agProp g m b) m a) (2 * ((m + 1 : Nat) : Int)) := by
        have h := (hLe.prop m b).prop m a
        rw [show (2 * ((m + 1 : Nat) : Int)) = 2 * (m : Int) + 1 + 1 by omega]
        exact h
      have HOG := Lib.hid ho
      clear ho
      have HT := Lib.hid hT; have HLE := Lib.hid hLe; have I1 := Lib.hid i1; have L1 := Lib.hid l1; have SM1 := Lib.hid sm1; have E1 := Lib.hid e1; have E2 := Lib.hid e2; have HT2 := Lib.hid hT2; have I2 := Lib.hid i2; have L2 := Lib.hid l2; have SM2 := Lib.hid sm2; have HLL := Lib.hid hLL; have HP := Lib.hid hp
      clear hT hLe i1 l1 sm1 e1 e2 hT2 i2 l2 sm2 hLL hp
      go_wp2_with fail
      refine (agPropose_any p g m b I1.out SM1.out L1.out HOG.out).mono ?_
      rintro e w4 ⟨rfl, ho4⟩
      unfold stTup
      rw [E1.out, errV0]
      have HO4 := Lib.hid ho4
      clear ho4
      go_wp2_with fail
      refine (agPropose_any p _ m a I2.out SM2.out L2.out (HO4.out.alloc' _)).mono ?_
      rintro e w5 ⟨rfl, ho5⟩
      unfold stTup
      rw [E2.out, errV0]
      have HO5 := Lib.hid ho5
      clear ho5
      go_wp2_with fail
      go_roundw
      case rel => exact ⟨m + 1, by omega, by go_num, Lib.hid ⟨_, ⟨HT2.out, HLL.out⟩, HO5.out.alloc' _⟩⟩
      case measure => simp [intOf]; omega
    · have tp : ((m : Int) % 2 == 1) = false := by rw [beq_eq_false_iff_ne]; omega
      obtain ⟨e1, e2, hT2⟩ := hT.step (x := a) (y := b) hlt HWA.out HWB.out HAB.out (.inl ⟨rfl, rfl⟩)
      have i2 := (hT.ag.prop m a).inv
      have l2 : (agProp g m a).mem.length ≤ 5 := by rw [agProp_len]; exact l1
      have sm2 := (hLe.prop m a).sm i2 (by omega)
      have hLL : AgLe (agProp (agProp g m a) m b) (2 * ((m + 1 : Nat) : Int)) := by
        have h := (hLe.prop m a).prop m b
        rw [show (2 * ((m + 1 : Nat) : Int)) = 2 * (m : Int) + 1 + 1 by omega]
        exact h
      have HOG := Lib.hid ho
      clear ho
      have HT := Lib.hid hT; have HLE := Lib.hid hLe; have I1 := Lib.hid i1; have L1 := Lib.hid l1; have SM1 := Lib.hid sm1; have E1 := Lib.hid e1; have E2 := Lib.hid e2; have HT2 := Lib.hid hT2; have I2 := Lib.hid i2; have L2 := Lib.hid l2; have SM2 := Lib.hid sm2; have HLL := Lib.hid hLL; have HP := Lib.hid hp
      clear hT hLe i1 l1 sm1 e1 e2 hT2 i2 l2 sm2 hLL hp
      go_wp2_with fail
      refine (agPropose_any p g m a I1.out SM1.out L1.out HOG.out).mono ?_
      rintro e w4 ⟨rfl, ho4⟩
      unfold stTup
      rw [E1.out, errV0]
      have HO4 := Lib.hid ho4
      clear ho4
      go_wp2_with fail
      refine (agPropose_any p _ m b I2.out SM2.out L2.out (HO4.out.alloc' _)).mono ?_
      rintro e w5 ⟨rfl, ho5⟩
      unfold stTup
      rw [E2.out, errV0]
      have HO5 := Lib.hid ho5
      clear ho5
      go_wp2_with fail
      go_roundw
      case rel => exact ⟨m + 1, by omega, by go_num, Lib.hid ⟨_, ⟨HT2.out, HLL.out⟩, HO5.out.alloc' _⟩⟩
      case measure => simp [intOf]; omega
set_option maxRecDepth 100000 in
set_option maxHeartbeats 4000000 in
theorem agreeTwo_law (w : World) (n : Int) (hn : I64 n) (a : Int) (ha : I64 a) (b : Int) (hb : I64 b) :
    Calls Try.prog 8 #[.int .i64 n, .int .i64 a, .int .i64 b] w fun e w' => e = .returned (.bool true) ∧ Below w.heap.size w w' := by
  by_cases hg : isGroup n = true
  rotate_left
  · exact agreeTwo_none w n (by simpa using hg) a b
  have hg5 : 2 ≤ n ∧ n ≤ 5 := by simp [isGroup] at hg; omega
  obtain ⟨N, rfl⟩ : ∃ N : Nat, n = N := ⟨n.toNat, by omega⟩
  by_cases hwa : isWord a = true
  rotate_left
  · exact agreeTwo_badA w N hg a b (by simpa using hwa)
  by_cases hwb : isWord b = true
  rotate_left
  · exact agreeTwo_badB w N hg a b hwa (by simpa using hwb)
  by_cases hab : a = b
  · exact agreeTwo_same w N hg a b hwa hwb hab
  · exact agreeTwo_good w N hg a b hwa hwb hab
end Go.Proofs.Ytkgnjkokbiefgaa
