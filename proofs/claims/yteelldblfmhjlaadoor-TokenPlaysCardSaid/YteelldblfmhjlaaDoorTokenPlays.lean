/- TokenPlays: anything that members say, and that the token passes: what is refused, what gets a place, who has it, what waits. -/
import Derived.Test.YteelldblfmhjlaaDoorTokenPlaysP
import Derived.Test.YteelldblfmhjlaaDoorHeld
import Derived.Deep.RegionLaw
import Derived.Deep.DeepCutAuto
import Derived.Deep.CutBlock
namespace Go.Proofs.YteelldblfmhjlaaDoor
set_option linter.unusedVariables false
set_option linter.unusedSimpArgs false
open Go.RowKit
set_option maxRecDepth 100000 in
set_option maxHeartbeats 4000000 in
theorem tokenPlays_law (w : World) (hg : As.Handle w) (n : Int) (hn : I64 n) (most : Int) (hmost : I64 most) (vs : Value) (steps : List (List Int)) (hvs : Rows2 w vs steps) :
    Calls Tryd.prog 9 #[.int .i64 n, .int .i64 most, vs] w fun e w' => e = .returned (.bool true) ∧ Below w.heap.size w w' := by
  obtain ⟨sad, scap, rfl, hsc1, hsc2⟩ := hvs.shape
  have HVS := Lib.hid hvs; have HG := Lib.hid hg; have HN := Lib.hid hn; have HMOST := Lib.hid hmost
  clear hvs hg hn hmost
  cases hb : tokBad n most
  rotate_left
  · have ex : n < 2 ∨ (¬ n < 2 ∧ 5 < n) ∨ (¬ n < 2 ∧ ¬ 5 < n ∧ most < 1) ∨ (¬ n < 2 ∧ ¬ 5 < n ∧ ¬ most < 1 ∧ 10 < most) := by simp [tokBad, isGroup] at hb; omega
    have HB := Lib.hid hb
    clear hb
    rcases ex with h1 | ⟨h1, h2⟩ | ⟨h1, h2, h3⟩ | ⟨h1, h2, h3, h4⟩
    all_goals
      go_enter Tryd.func9, Tryd.ntmps9
      go_wp2_with fail
      refine (tokNew_no _ _ _ HB.out).mono ?_
      rintro e w' ⟨rfl, rfl⟩
      go_wp2_with fail
      refine (sameErr_any HG.out 1 1 (Own.start w)).mono ?_
      rintro e w5 ⟨rfl, ho⟩
      rw [show (((1 : Nat) : Int) == 1) = true from rfl]
      go_wp2
      go_ret
      exact ⟨rfl, ho.below⟩
  have hgr : 2 ≤ n ∧ n ≤ 5 ∧ 1 ≤ most ∧ most ≤ 10 := by simp [tokBad, isGroup] at hb; omega
  obtain ⟨N, rfl⟩ := Int.eq_ofNat_of_zero_le (show 0 ≤ n by omega)
  obtain ⟨M, rfl⟩ := Int.eq_ofNat_of_zero_le (show 0 ≤ most by omega)
  have hN : 2 ≤ N ∧ N ≤ 5 := by omega
  have hM : 1 ≤ M ∧ M ≤ 10 := by omega
  obtain ⟨hN1, hN2⟩ := hN
  obtain ⟨hM1, hM2⟩ := hM
  have s1 : ¬ (N : Int) < 2 := by omega
  have s2 : ¬ (5 : Int) < (N : Int) := by omega
  have s3 : ¬ (M : Int) < 1 := by omega
  have s4 : ¬ (10 : Int) < (M : Int) := by omega
  clear hgr
  have HB := Lib.hid hb
  clear hb
  go_enter Tryd.func9, Tryd.ntmps9
  go_wp2_with fail
  refine (tokNew_yes N M HB.out (Own.start w)).mono ?_
  rintro e w' ⟨p, rfl, ho⟩
  go_wp2_with fail
  refine (sameErr_any HG.out 0 0 ho).mono ?_
  rintro e w5 ⟨rfl, ho⟩
  rw [show (((0 : Nat) : Int) == 0) = true from rfl]
  obtain ⟨q, hq⟩ : ∃ q, q = w5.heap.size := ⟨_, rfl⟩
  have ho1 := ho.alloc (.cells #[.int .i64 N, .int .i64 M, .int .i64 0, .int .i64 0, .slice none 0 0, .slice none 0 0, .slice none 0 0, .slice none 0 0, .slice none 0 0, .bool false, .bool false, .bool false, .bool false, .bool false, .bool false, .bool false, .bool false, .bool false, .bool false, .bool false, .bool false, .bool false, .bool false, .bool false, .bool false, .bool false, .bool false, .bool false, .bool false, .bool false, .bool false, .bool false, .bool false, .bool false, .bool false, .bool false, .bool false, .bool false, .bool false, .bool false] 79)
  rw [← hq] at ho1
  have HO := Lib.hid ((rtNew hN2 rfl ho1).perm (show _ = TokP p (tokNew N M) * (RtP q (tokNew N M) * emp) by ac_rfl))
  have HI0 := Lib.hid (tpi_new (n := N) (most := M) ⟨hN1, hN2⟩ ⟨hM1, hM2⟩)
  clear ho ho1
  go_wp2_with fail
  rw [← hq]
  clear hq
  go_loopw [12] (fun i wr => ∃ (k : Nat) (t : Tok), k ≤ steps.length ∧ k ≤ 120 ∧ i = .int .i64 k ∧ Hid (TpI N M k t) ∧ Hid (Own w (TokP p t * (RtP q t * emp)) wr)) (fun i _ => steps.length - (intOf i).toNat)
  case atStart => exact ⟨0, _, Nat.zero_le _, Nat.zero_le _, rfl, HI0, HO⟩
  case round =>
    clear HO HI0
    obtain ⟨k, t, hk, hk2, rfl, HI, HP⟩ := hrel
    by_cases h1 : k < steps.length
    rotate_left
    · go_wp2
      go_ret
      exact ⟨rfl, HP.out.below⟩
    by_cases h2 : k < 120
    rotate_left
    · go_wp2
      go_ret
      exact ⟨rfl, HP.out.below⟩
    obtain ⟨a2, rad, rcap, e2, hr, hc⟩ := HVS.out.at_later k h1
    obtain ⟨row, hrow⟩ : ∃ row, row = steps[k] := ⟨_, rfl⟩
    rw [← hrow] at hr hc
    subst e2
    obtain ⟨vb, hvb⟩ : ∃ b, b = wr.heap.size := ⟨_, rfl⟩
    have ht := HP.out.alloc (.cells #[.int .i64 0, .int .i64 0, .int .i64 0] 55)
    rw [← hvb] at ht
    have HT : Hid (Own w (Tri vb [0, 0, 0] * (TokP p t * (RtP q t * emp))) (wr.alloc (.cells #[.int .i64 0, .int .i64 0, .int .i64 0] 55))) := Lib.hid ht
    have HR := Lib.hid hr; have HC := Lib.hid hc; have HROW := Lib.hid hrow
    clear hr hc hrow
    clear ht
    go_upto_block 2 with fail
    rw [← hvb]
    clear hvb
    go_cut [14] (fun jv wx => FpV w vb (TokP p t * (RtP q t * emp)) wx)
    case first =>
      go_wp2_with fail
      go_loopw [14] (fun jv w2 => ∃ (j : Nat) (l : List Int), j ≤ 3 ∧ jv = .int .i64 j ∧ Hid (l.length = 3) ∧ Hid (Own w (Tri vb l * (TokP p t * (RtP q t * emp))) w2)) (fun jv _ => 3 - (intOf jv).toNat)
      case atStart => exact ⟨0, [0, 0, 0], Nat.zero_le _, rfl, Lib.hid rfl, HT⟩
      case round =>
        obtain ⟨j, l, hj, rfl, hl, hpw⟩ := hrel
        have c1 := HC.out _ _ hpw.out
        have fin : FpV w vb (TokP p t * (RtP q t * emp)) wr := by
          obtain ⟨x, y, z, rfl⟩ : ∃ x y z, l = [x, y, z] := by
            have h3 := hl.out
            match l, h3 with
            | [x, y, z], _ => exact ⟨x, y, z, rfl⟩
          exact ⟨x, y, z, hpw.out⟩
        have FIN := Lib.hid fin
        clear fin
        by_cases h3 : j < row.length
        rotate_left
        · go_wp2_with fail
          go_meet
          exact FIN.out
        by_cases h4 : j < 3
        rotate_left
        · go_wp2_with fail
          go_meet
          exact FIN.out
        obtain ⟨b3, rfl, hcb⟩ := HR.out.at_later j h3
        have c2 := hcb _ _ hpw.out
        have hjl : j < l.length := by rw [hl.out]; exact h4
        have c3 := hpw.out.tri_cell j hjl
        have c4 := hpw.out.tri_free j
        have HS := Lib.hid (hpw.out.tri_set j row[j])
        have i0 : (0 : Int) ≤ (j : Int) := by omega
        have i3 : (j : Int) < 3 := by omega
        clear hcb
        go_wp2_with fail
        go_roundw
        case rel => exact ⟨j + 1, l.set j row[j], by omega, by go_num, Lib.hid (by rw [List.length_set]; exact hl.out), HS⟩
        case measure => simp [intOf]; omega
    case rest =>
    obtain ⟨x, y, z, hT⟩ := hcut
    clear HT HP
    have HT := Lib.hid hT
    clear hT
    have d0 : wc.cell? ⟨vb, 0, none⟩ = some (.int .i64 x) := HT.out.tri_cell 0 (by simp)
    have d1 : wc.cell? ⟨vb, 1, none⟩ = some (.int .i64 y) := HT.out.tri_cell 1 (by simp)
    have d2 : wc.cell? ⟨vb, 2, none⟩ = some (.int .i64 z) := HT.out.tri_cell 2 (by simp)
    have HFT := Lib.hid (HI.out.fit (by omega))
    have HW : Hid (t.waits.length = N) := Lib.hid HI.out.2.2.1
    go_upto_region 18 with fail
    go_cut [15] (fun inn wx => TpB (inR y N) wc inn wx)
    case first =>
      rcases (show (inR y N = false ∧ y < 0) ∨ (inR y N = false ∧ 0 ≤ y ∧ (N : Int) ≤ y) ∨ (inR y N = true ∧ 0 ≤ y ∧ y < (N : Int)) by unfold inR; by_cases h0 : 0 ≤ y <;> by_cases h9 : y < (N : Int) <;> simp [h0, h9] <;> omega) with ⟨hin, y1⟩ | ⟨hin, y1, y2⟩ | ⟨hin, y1, y2⟩
      all_goals
        first | have t9 : decide (y < (N : Int)) = true := (by simpa using y2) | have t9 : decide (y < (N : Int)) = false := (by simp; omega) | skip
        have HIN := Lib.hid hin
        clear hin
        go_wp2_with fail
        go_meet
        exact ⟨by rw [HIN.out], rfl⟩
    case rest =>
    obtain ⟨rfl, rfl⟩ := hcut
    obtain ⟨inn, hinn⟩ : ∃ b, b = inR y N := ⟨_, rfl⟩
    rw [← hinn]
    obtain ⟨B, hB⟩ : ∃ B, decide (x < 3) = B := ⟨_, rfl⟩
    go_upto_if 97 with fail
    have HB3 := Lib.hid hB
    clear hB
    go_cut [10] (fun told wx => TpC w N M p q vb k x y z told wx)
    case first =>
      cases B
      · skip
        have HINN := Lib.hid hinn
        clear hinn
        all_goals
          go_wp2_with fail
          refine (tokPass_any p t HFT.out (HT.out.perm (show _ = TokP p t * (RtP q t * (Tri vb [x, y, z] * emp)) by ac_rfl))).mono ?_
          rintro e w6 ⟨v1, rfl, ho⟩
          have HO6 := Lib.hid ho
          clear ho
          go_wp2_with fail
          refine (refPass_any q t HFT.out (HO6.out.perm (show _ = RtP q t * (PlSl v1 (passOut t) * (TokP p (tokPass t) * (Tri vb [x, y, z] * emp))) by ac_rfl))).mono ?_
          rintro e w7 ⟨v2, rfl, ho⟩
          have HO7 := Lib.hid (ho.perm (show _ = PlSl v1 (passOut t) * (PlSl v2 (passOut t) * (TokP p (tokPass t) * (RtP q (tokPass t) * (Tri vb [x, y, z] * emp)))) by ac_rfl))
          clear ho
          go_wp2_with fail
          refine (samePlaced_any v1 v2 _ HO7.out).mono ?_
          rintro e w' ⟨rfl, n6, rfl⟩
          go_wp2_with fail
          go_meet
          exact ⟨rfl, _, tpi_pass HI.out, HO7.out.drop.drop.drewN n6⟩
      rcases (show (inR y N = false ∧ y < 0) ∨ (inR y N = false ∧ 0 ≤ y ∧ (N : Int) ≤ y) ∨ (inR y N = true ∧ 0 ≤ y ∧ y < (N : Int)) by unfold inR; by_cases h0 : 0 ≤ y <;> by_cases h9 : y < (N : Int) <;> simp [h0, h9] <;> omega) with ⟨hin, y1⟩ | ⟨hin, y1, y2⟩ | ⟨hin, y1, y2⟩
      · skip
        have he : tokErr t y z = 1 := by unfold tokErr; rw [HW.out, if_pos hin]
        have hi2 : inn = false := by rw [hinn]; exact hin
        have HIN := Lib.hid hin; have HE := Lib.hid he; have HINN := Lib.hid hinn
        clear hin he hinn
        subst hi2
        go_wp2_with fail
        refine (tokSay_any p t y z HFT.out (HT.out.perm (show _ = TokP p t * (RtP q t * (Tri vb [x, y, z] * emp)) by ac_rfl))).mono ?_
        rintro e w6 ⟨rfl, ho⟩
        rw [HE.out]
        have hts : tokSay t y z = t := by unfold tokSay; rw [if_neg (by rw [HE.out]; simp)]
        rw [hts] at ho
        have HO6 := Lib.hid ho
        clear ho hts
        go_wp2_with fail
        refine (sameErr_any HG.out 1 1 HO6.out).mono ?_
        rintro e w7 ⟨rfl, ho⟩
        rw [show (((1 : Nat) : Int) == 1) = true from rfl]
        have HO7 := Lib.hid ho
        clear ho HO6
        go_wp2_with fail
        go_meet
        exact ⟨rfl, t, HI.out.later, HO7.out⟩
      · skip
        have he : tokErr t y z = 1 := by unfold tokErr; rw [HW.out, if_pos hin]
        have hi2 : inn = false := by rw [hinn]; exact hin
        have HIN := Lib.hid hin; have HE := Lib.hid he; have HINN := Lib.hid hinn
        clear hin he hinn
        subst hi2
        go_wp2_with fail
        refine (tokSay_any p t y z HFT.out (HT.out.perm (show _ = TokP p t * (RtP q t * (Tri vb [x, y, z] * emp)) by ac_rfl))).mono ?_
        rintro e w6 ⟨rfl, ho⟩
        rw [HE.out]
        have hts : tokSay t y z = t := by unfold tokSay; rw [if_neg (by rw [HE.out]; simp)]
        rw [hts] at ho
        have HO6 := Lib.hid ho
        clear ho hts
        go_wp2_with fail
        refine (sameErr_any HG.out 1 1 HO6.out).mono ?_
        rintro e w7 ⟨rfl, ho⟩
        rw [show (((1 : Nat) : Int) == 1) = true from rfl]
        have HO7 := Lib.hid ho
        clear ho HO6
        go_wp2_with fail
        go_meet
        exact ⟨rfl, t, HI.out.later, HO7.out⟩
      obtain ⟨r, rfl⟩ := Int.eq_ofNat_of_zero_le y1
      have hi2 : inn = true := by rw [hinn]; exact hin
      clear hinn
      subst hi2
      have hr5 : r < N := by omega
      rcases (show z < 1 ∨ (¬ z < 1 ∧ 30 < z) ∨ (¬ z < 1 ∧ ¬ 30 < z) by omega) with z1 | ⟨z1, z2⟩ | ⟨z1, z2⟩
      · skip
        have he : tokErr t r z = 1 := by unfold tokErr; rw [HW.out, if_neg (by rw [hin]; simp), if_pos (by simp [isWord]; omega)]
        have HIN := Lib.hid hin; have HE := Lib.hid he
        clear hin he
        go_wp2_with fail
        refine (tokSay_any p t r z HFT.out (HT.out.perm (show _ = TokP p t * (RtP q t * (Tri vb [x, (r : Int), z] * emp)) by ac_rfl))).mono ?_
        rintro e w6 ⟨rfl, ho⟩
        rw [HE.out]
        have hts : tokSay t r z = t := by unfold tokSay; rw [if_neg (by rw [HE.out]; simp)]
        rw [hts] at ho
        have HO6 := Lib.hid ho
        clear ho hts
        go_wp2_with fail
        refine (sameErr_any HG.out 1 1 HO6.out).mono ?_
        rintro e w7 ⟨rfl, ho⟩
        rw [show (((1 : Nat) : Int) == 1) = true from rfl]
        have HO7 := Lib.hid ho
        clear ho HO6
        go_wp2_with fail
        go_meet
        exact ⟨rfl, t, HI.out.later, HO7.out⟩
      · skip
        have he : tokErr t r z = 1 := by unfold tokErr; rw [HW.out, if_neg (by rw [hin]; simp), if_pos (by simp [isWord]; omega)]
        have HIN := Lib.hid hin; have HE := Lib.hid he
        clear hin he
        go_wp2_with fail
        refine (tokSay_any p t r z HFT.out (HT.out.perm (show _ = TokP p t * (RtP q t * (Tri vb [x, (r : Int), z] * emp)) by ac_rfl))).mono ?_
        rintro e w6 ⟨rfl, ho⟩
        rw [HE.out]
        have hts : tokSay t r z = t := by unfold tokSay; rw [if_neg (by rw [HE.out]; simp)]
        rw [hts] at ho
        have HO6 := Lib.hid ho
        clear ho hts
        go_wp2_with fail
        refine (sameErr_any HG.out 1 1 HO6.out).mono ?_
        rintro e w7 ⟨rfl, ho⟩
        rw [show (((1 : Nat) : Int) == 1) = true from rfl]
        have HO7 := Lib.hid ho
        clear ho HO6
        go_wp2_with fail
        go_meet
        exact ⟨rfl, t, HI.out.later, HO7.out⟩
      obtain ⟨c, rfl⟩ := Int.eq_ofNat_of_zero_le (show 0 ≤ z by omega)
      have hc31 : c < 31 := by omega
      have i1 : (0 : Int) ≤ (c : Int) := by omega
      have i2 : (c : Int) < 31 := by omega
      have i3 : (r : Int) < 5 := by omega
      obtain ⟨rs, hre, hot⟩ := (HT.out.perm (show _ = RtP q t * (TokP p t * (Tri vb [x, (r : Int), (c : Int)] * emp)) by ac_rfl)).rt_open
      have h5 := rt_len (by rw [HW.out]; exact hN2) hre
      have hkr : r < rs.length := by omega
      obtain ⟨_, _, _, _, c4, c5, c6⟩ := hot.rt_facts h5
      have c5c := c5 c hc31
      have c6c := c6 (9 + c) none
      have HOT := Lib.hid hot
      by_cases hs : (c : Int) ∈ t.said
      · skip
        rw [decide_eq_true hs] at c5c
        have he : tokErr t r c = 7 := by unfold tokErr; rw [HW.out, if_neg (by rw [hin]; simp), if_neg (by simp [isWord]; omega), if_pos hs]
        have HIN := Lib.hid hin; have HE := Lib.hid he; have HS := Lib.hid hs; have HRE := Lib.hid hre; have H5 := Lib.hid h5
        clear hin he hs hre h5
        clear c4 c5 c6 hot
        go_wp2_with fail
        go_quiet (fail)
        go_wp2_with fail
        refine (tokSay_any p t r c HFT.out ((HT.out.drewN _).perm (show _ = TokP p t * (RtP q t * (Tri vb [x, (r : Int), (c : Int)] * emp)) by ac_rfl))).mono ?_
        rintro e w6 ⟨rfl, ho⟩
        rw [HE.out]
        have hts : tokSay t r c = t := by unfold tokSay; rw [if_neg (by rw [HE.out]; simp)]
        rw [hts] at ho
        have HO6 := Lib.hid ho
        clear ho hts
        go_wp2_with fail
        refine (sameErr_any HG.out 7 7 HO6.out).mono ?_
        rintro e w7 ⟨rfl, ho⟩
        rw [show (((7 : Nat) : Int) == 7) = true from rfl]
        have HO7 := Lib.hid ho
        clear ho HO6
        go_wp2_with fail
        go_meet
        exact ⟨rfl, t, HI.out.later, HO7.out⟩
      rw [decide_eq_false hs] at c5c
      have he : tokErr t r c = 0 := by unfold tokErr; rw [HW.out, if_neg (by rw [hin]; simp), if_neg (by simp [isWord]; omega), if_neg hs]
      have HIN := Lib.hid hin; have HE := Lib.hid he; have HS := Lib.hid hs; have HRE := Lib.hid hre; have H5 := Lib.hid h5
      clear hin he hs hre h5
      clear c4 c5 c6 hot
      go_wp2_with fail
      go_quiet (fail)
      go_wp2_with fail
      refine wp_region_tail 6 (by kernel_rfl) (by kernel_rfl) ?_
      simp only [List.take_succ_cons, List.take_zero, List.drop_succ_cons, List.drop_zero]
      repeat still_step
      refine wpStill_nil ?_
      go_wp2_with fail
      obtain ⟨w1, hw1⟩ : ∃ w1, w1 = ((wc.drewN (nq + 1)).setCell ⟨q, 9 + c, none⟩ (Value.bool true)) := ⟨_, rfl⟩
      rw [← hw1]
      have ho1 := (HOT.out.drewN (nq + 1)).rt_setsaid H5.out hc31
      rw [← hw1] at ho1
      obtain ⟨t', ht'⟩ : ∃ t', t' = { t with said := t.said ++ [(c : Int)] } := ⟨_, rfl⟩
      rw [← ht'] at ho1
      have hff : ∀ w' Q, Own w (Q * (blk q (.cells (rtCells t' rs).toArray 79 (0, 0)) * (starL rowP (rs.eraseIdx r) * (TokP p t * (Tri vb [x, (r : Int), (c : Int)] * emp))))) w' → w'.cell? ⟨q, 4 + r, none⟩ = some rs[r].1 ∧ w'.cell? ⟨vb, 1, none⟩ = some (.int .i64 r) ∧ w'.cell? ⟨vb, 2, none⟩ = some (.int .i64 c) ∧ w'.frozen? ⟨q, 4 + r, none⟩ = false := fun w' Q h => by
        have h1 := rt_cells H5.out (h.perm (star_left_comm _ _ _))
        have h2 := h.perm (show _ = Tri vb [x, (r : Int), (c : Int)] * (Q * (blk q (.cells (rtCells t' rs).toArray 79 (0, 0)) * (starL rowP (rs.eraseIdx r) * (TokP p t * emp)))) by ac_rfl)
        exact ⟨h1.2.2.2.2.1 r hkr, h2.tri_cell 1 (by simp), h2.tri_cell 2 (by simp), h1.2.2.2.2.2.2 _ _⟩
      have hrw := ho1.rt_row hkr
      have hb1 := (hrw.alloc' (.cells #[.int .i64 (c : Int)] 3)).drew
      obtain ⟨ad, cp, hshape, _⟩ := Own.rd hb1
      obtain ⟨g1, g2, g3, _⟩ := hff _ _ hrw
      have hrl : rs[r].2.length ≤ k ∧ ∀ x ∈ rs[r].2, 1 ≤ x ∧ x ≤ 30 := by
        have e := rt_rowof HRE.out hkr (by rw [HW.out]; exact hr5)
        have hm : t.waits.getD r [] ∈ t.waits := by simp [show r < t.waits.length from by rw [HW.out]; exact hr5]
        rw [e]
        exact HI.out.2.2.2.2.2.1 _ hm
      obtain ⟨m, hm⟩ : ∃ m, m = rs[r].2.length := ⟨_, rfl⟩
      have hm2 : m ≤ 120 := by omega
      unfold IntSl at hb1
      rw [hshape, ← hm] at hb1
      rw [hshape, ← hm] at g1
      have e1 := fun o => (hff _ _ (hrw.alloc' o)).1
      have e2 := fun o => (hff _ _ (hrw.alloc' o)).2.1
      have e3 := fun o => (hff _ _ (hrw.alloc' o)).2.2.1
      simp only [hshape, ← hm] at e1
      have HL2 := Lib.hid (show m + 1 ≤ maxLen by unfold maxLen; omega)
      have HL3 := Lib.hid (show (m + 1) * 8 ≤ 140737488355328 by omega)
      have HO1 := Lib.hid hb1
      have HRE2 : Hid (rs.map (·.2) = rtRows t') := Lib.hid (by rw [ht']; exact HRE.out)
      have HFF := Lib.hid hff; have HRL := Lib.hid hrl; have HM := Lib.hid hm; have HSHAPE := Lib.hid hshape; have HT' := Lib.hid ht'; have HW1 := Lib.hid hw1
      clear hff hrl hm hshape ht' hw1
      clear ho1 hb1 hrw d0 d1 d2 c5c c6c
      refine wp_region_planH 17 [] [(true, 0), (true, 1), (true, 2), (true, 3), (true, 4), (true, 5), (true, 6), (true, 7), (true, 8), (true, 9), (true, 10), (true, 11), (true, 14), (true, 15), (false, 12), (false, 13), (true, 16)] [17] (fun wS => wS.cell? ⟨q, 4 + r, none⟩ = some (.slice ad m cp) ∧ wS.cell? ⟨vb, 1, none⟩ = some (.int .i64 r) ∧ wS.cell? ⟨vb, 2, none⟩ = some (.int .i64 c)) (by kernel_rfl) (by kernel_rfl) (⟨g1, g2, g3⟩) ?_
      simp only [pickH, pick, List.getElem?_cons_succ, List.getElem?_cons_zero, Option.toList, Option.map_some, List.cons_append, List.nil_append]
      repeat (refine wpPure_step ?_ rfl ?_ ?_; rotate_left; (focus (intro _; first | with_reducible rfl | (go_simp; done) | (go_simp; with_reducible rfl) | rfl)); go_simp)
      refine wpPure_nil ?_
      repeat (refine wpMix_read ?_ rfl ?_ ?_; rotate_left; (focus (intro _ hS; obtain ⟨s1, s2, s3⟩ := hS; first | with_reducible rfl | (go_simp; done) | (go_simp; with_reducible rfl) | rfl)); go_simp)
      refine wpMix_write (fun K hK => ?_)
      go_simp
      refine hK _ _ ⟨⟨e1 _, e2 _, e3 _⟩, ?_⟩
      clear hK K
      go_simp
      refine wpMix_write (fun K hK => ?_)
      refine step_app rfl _ _ 22 rfl 3 1 8 _ int_info Tryd.underlying22 rfl (by decide) (by rfl) HO1.out (by rfl) (by rfl) (Rd_lit (by simp) (by unfold maxLen; omega)) (by intro u hu; simp at hu; subst hu; rfl) HL2.out HL3.out ?_
      intro v' w2 hown'
      obtain ⟨ad', cp', hv', _⟩ := Own.rd hown'
      obtain ⟨k1, k2, k3, k4⟩ := HFF.out _ _ hown'
      rw [HSHAPE.out, ← HM.out] at k1
      have HW2 := Lib.hid hown'
      subst hv'
      clear hown'
      refine hK _ _ ⟨⟨k1, k2, k3⟩, ?_⟩
      clear hK K
      go_simp
      repeat (refine wpMix_read ?_ rfl ?_ ?_; rotate_left; (focus (intro _ hS; obtain ⟨s1, s2, s3⟩ := hS; first | with_reducible rfl | (go_simp; done) | (go_simp; with_reducible rfl) | rfl)); go_simp)
      refine wpMix_nil ?_
      go_wp2_with fail
      refine NoPanic.normal ?_
      go_wp2_with fail
      have hput := Own.rt_putrow (t := t') (l := rs[r].2 ++ [(c : Int)]) hkr H5.out (by rw [HT'.out]; show r < t.waits.length; rw [HW.out]; exact hr5) HRE2.out (show Own w (IntSl (.slice ad' (m + 1) cp') (rs[r].2 ++ [(c : Int)]) * _) w2 by
        unfold IntSl
        rw [List.length_append, List.length_singleton, List.map_append, ← HM.out]
        exact HW2.out)
      have hts : { t' with waits := t'.waits.set r (rs[r].2 ++ [(c : Int)]) } = tokSay t r c := by
        unfold tokSay
        rw [if_pos HE.out, HT'.out, Int.toNat_natCast, rt_rowof HRE.out hkr (by rw [HW.out]; exact hr5)]
      rw [hts] at hput
      have HP2 := Lib.hid hput
      clear hput hts
      refine (tokSay_any p t r c HFT.out (HP2.out.perm (show _ = TokP p t * (RtP q (tokSay t r c) * (Tri vb [x, (r : Int), (c : Int)] * emp)) by ac_rfl))).mono ?_
      rintro e w6 ⟨rfl, ho⟩
      rw [HE.out]
      have HO6 := Lib.hid ho
      clear ho
      go_wp2_with fail
      refine (sameErr_any HG.out 0 0 HO6.out).mono ?_
      rintro e w7 ⟨rfl, ho⟩
      rw [show (((0 : Nat) : Int) == 0) = true from rfl]
      have HO7 := Lib.hid ho
      clear ho HO6
      go_wp2_with fail
      go_meet
      exact ⟨rfl, _, tpi_say HI.out r c, HO7.out⟩
    case rest =>
    obtain ⟨rfl, t2, hI2, hT2⟩ := hcut
    clear HT HI HFT HW d0 d1 d2
    have HT := Lib.hid hT2
    have HI := Lib.hid hI2
    have HFT := Lib.hid (hI2.fit (by omega))
    have hW := hI2.2.2.1
    have d1 : wc.cell? ⟨vb, 1, none⟩ = some (.int .i64 y) := (hT2.perm (show _ = Tri vb [x, y, z] * (TokP p t2 * (RtP q t2 * emp)) by ac_rfl)).tri_cell 1 (by simp)
    clear hT2 hI2
    obtain ⟨rs, hre, hot⟩ := (HT.out.perm (show _ = RtP q t2 * (TokP p t2 * (Tri vb [x, y, z] * emp)) by ac_rfl)).rt_open
    have h5 := rt_len (by rw [hW]; exact hN2) hre
    obtain ⟨_, _, c2, _, c4, _, _⟩ := hot.rt_facts h5
    obtain ⟨th, hth⟩ : ∃ th, th = t2.holder := ⟨_, rfl⟩
    rw [← hth] at c2
    obtain ⟨rb, off, cap, mb, rs2, _, htk⟩ := HT.out.tok_open
    have c2' := htk.tok_facts.2.1
    rw [← hth] at c2'
    clear htk
    cases inn
    · have he : inErr y t2.waits.length = 1 := by unfold inErr; rw [hW, ← hinn]; rfl
      have hro : rowOf t2.waits y = [] := by unfold rowOf; rw [hW, ← hinn]; rfl
      have HE := Lib.hid he; have HRO := Lib.hid hro; have HINN := Lib.hid hinn; have HW := Lib.hid hW; have HRE := Lib.hid hre; have HTH := Lib.hid hth; have H5 := Lib.hid h5; have HOT := Lib.hid hot
      clear he hro hinn hW hre hth h5 hot
      clear c4 c2 c2'
      go_wp2_with fail
      refine (tokWaits_any p t2 y HFT.out HT.out).mono ?_
      rintro e w4 ⟨v1, rfl, ho⟩
      rw [HE.out]
      rw [HRO.out] at ho
      have HO4 := Lib.hid ho
      clear ho
      go_wp2_with fail
      refine (sameErr_any HG.out 1 1 HO4.out).mono ?_
      rintro e w5 ⟨rfl, ho⟩
      rw [show (((1 : Nat) : Int) == 1) = true from rfl]
      have HO5 := Lib.hid ho
      clear ho HO4
      go_wp2_with fail
      refine (sameInts_any v1 (.slice none 0 0) [] [] _ (IntSl_reads (fun x hx => by cases hx) _ HO5.out) (Ints_nil _)).mono ?_
      rintro e w' ⟨rfl, n6, rfl⟩
      rw [show (([] : List Int) == []) = true from beq_iff_eq.2 rfl]
      have hp6 := (HO5.out.drop.drewN n6).perm (show _ = TokP p t2 * (RtP q t2 * (Tri vb [x, y, z] * emp)) by ac_rfl)
      obtain ⟨rb, off, cap, mb, rs2, _, htk⟩ := hp6.tok_open
      obtain ⟨rs3, hre3, hot3⟩ := (hp6.perm (show _ = RtP q t2 * (TokP p t2 * (Tri vb [x, y, z] * emp)) by ac_rfl)).rt_open
      have f1 := htk.tok_facts.2.1
      have f2 := (hot3.rt_facts (rt_len (by rw [HW.out]; exact hN2) hre3)).2.2.1
      rw [← HTH.out] at f1 f2
      have hfin := hp6.perm (show _ = Tri vb [x, y, z] * (TokP p t2 * (RtP q t2 * emp)) by ac_rfl)
      have HFIN := Lib.hid hfin.drop
      obtain ⟨w6, hw6⟩ : ∃ w6, w6 = w5.drewN n6 := ⟨_, rfl⟩
      rw [← hw6] at f1 f2 HFIN ⊢
      have f1' := fun n => (show (w6.drewN n).cell? ⟨p, 1, none⟩ = some (.int .i64 th) from f1)
      clear hp6 htk hot3 hfin hw6 hre3 HO5
      go_wp2_with fail
      go_quiet ((go_at_call 43; exact quiet_same (tokHolder_any p th _ (f1' _))))
      go_wp2_with fail
      go_roundw
      case rel => exact ⟨k + 1, t2, by omega, by omega, by go_num, HI, Lib.hid (HFIN.out.drewN _)⟩
      case measure => simp [intOf]; omega
    · have he : inErr y t2.waits.length = 0 := by unfold inErr; rw [hW, ← hinn]; rfl
      have hy := (show 0 ≤ y ∧ y < (N : Int) by simpa [inR] using hinn.symm)
      obtain ⟨r, rfl⟩ := Int.eq_ofNat_of_zero_le hy.1
      have hr5 : r < N := by omega
      have hkr : r < rs.length := by omega
      have i0 : (0 : Int) ≤ (r : Int) := by omega
      have i3 : (r : Int) < 5 := by omega
      have hrw := rt_rowof hre hkr (by rw [hW]; exact hr5)
      have hro : rowOf t2.waits r = rs[r].2 := by unfold rowOf; rw [hW, ← hinn, hrw]; simp
      have c4r := c4 r hkr
      have hrl : ∀ x ∈ rs[r].2, I64 x := by
        have hm : t2.waits.getD r [] ∈ t2.waits := by simp [show r < t2.waits.length from by rw [hW]; exact hr5]
        rw [← hrw] at hm
        intro x hx
        have := (HI.out.2.2.2.2.2.1 _ hm).2 x hx
        unfold I64; omega
      have HE := Lib.hid he; have HRO := Lib.hid hro; have HINN := Lib.hid hinn; have HW := Lib.hid hW; have HRE := Lib.hid hre; have HTH := Lib.hid hth; have H5 := Lib.hid h5; have HOT := Lib.hid hot; have HRW := Lib.hid hrw; have HRL := Lib.hid hrl
      clear he hro hinn hW hre hth h5 hot hrw hrl
      clear c4 c2 c2' hy
      go_wp2_with fail
      go_quiet (fail)
      go_wp2_with fail
      refine (tokWaits_any p t2 r HFT.out ((HOT.out.drewN _).perm (show _ = TokP p t2 * (RtO q t2 rs * (Tri vb [x, (r : Int), z] * emp)) by ac_rfl))).mono ?_
      rintro e w4 ⟨v1, rfl, ho⟩
      rw [HE.out]
      rw [HRO.out] at ho
      have HO4 := Lib.hid ho
      clear ho
      go_wp2_with fail
      refine (sameErr_any HG.out 0 0 HO4.out).mono ?_
      rintro e w5 ⟨rfl, ho⟩
      rw [show (((0 : Nat) : Int) == 0) = true from rfl]
      have HO5 := Lib.hid ho
      clear ho HO4
      go_wp2_with fail
      refine (sameInts_any v1 rs[r].1 rs[r].2 rs[r].2 _ (IntSl_reads HRL.out _ HO5.out) (IntSl_reads HRL.out _ ((HO5.out.perm (show _ = RtO q t2 rs * (IntSl v1 rs[r].2 * (TokP p t2 * (Tri vb [x, (r : Int), z] * emp))) by ac_rfl)).rt_row hkr))).mono ?_
      rintro e w' ⟨rfl, n6, rfl⟩
      rw [show (rs[r].2 == rs[r].2) = true from beq_iff_eq.2 rfl]
      have hp6 := (HO5.out.drop.drewN n6).perm (show _ = TokP p t2 * (RtO q t2 rs * (Tri vb [x, (r : Int), z] * emp)) by ac_rfl)
      obtain ⟨rb, off, cap, mb, rs2, _, htk⟩ := hp6.tok_open
      have f1 := htk.tok_facts.2.1
      have f2 := ((hp6.perm (show _ = RtO q t2 rs * (TokP p t2 * (Tri vb [x, (r : Int), z] * emp)) by ac_rfl)).rt_facts H5.out).2.2.1
      rw [← HTH.out] at f1 f2
      have hfin := (Own.rt_close HRE.out (hp6.perm (show _ = RtO q t2 rs * (TokP p t2 * (Tri vb [x, (r : Int), z] * emp)) by ac_rfl))).perm (show _ = Tri vb [x, (r : Int), z] * (TokP p t2 * (RtP q t2 * emp)) by ac_rfl)
      have HFIN := Lib.hid hfin.drop
      obtain ⟨w6, hw6⟩ : ∃ w6, w6 = w5.drewN n6 := ⟨_, rfl⟩
      rw [← hw6] at f1 f2 HFIN ⊢
      have f1' := fun n => (show (w6.drewN n).cell? ⟨p, 1, none⟩ = some (.int .i64 th) from f1)
      clear hp6 htk hfin hw6 HO5
      go_wp2_with fail
      go_quiet ((go_at_call 43; exact quiet_same (tokHolder_any p th _ (f1' _))))
      go_wp2_with fail
      go_roundw
      case rel => exact ⟨k + 1, t2, by omega, by omega, by go_num, HI, Lib.hid (HFIN.out.drewN _)⟩
      case measure => simp [intOf]; omega
end Go.Proofs.YteelldblfmhjlaaDoor
