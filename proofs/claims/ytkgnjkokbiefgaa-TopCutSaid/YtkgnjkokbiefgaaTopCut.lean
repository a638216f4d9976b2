/- TopCut: what a cut takes could have been just if the greatest of what its members count is not more than the cut. -/
import Derived.Test.YtkgnjkokbiefgaaTopOne
import Derived.Test.YtkgnjkokbiefgaaTopCutQ
import Derived.Test.YtkgnjkokbiefgaaClock3
namespace Go.Proofs.Ytkgnjkokbiefgaa
set_option linter.unusedVariables false
set_option linter.unusedSimpArgs false
open Go.RowKit
theorem Own.ls_shape {w0 w : World} {v : Value} {rs : List (Value × List Int)} {R : HProp} (h : Own w0 (LSl v rs * R) w) : ∃ ad cap, v = .slice ad rs.length cap ∧ rs.length ≤ cap ∧ cap ≤ 9223372036854775807 := by
  have h1 : Own w0 (Sl 27 1 v rs.length (rs.map (·.1)) * (starL rowP rs * R)) w := h.perm (by unfold LSl; ac_rfl)
  obtain ⟨ad, cap, h2, h3, h4, _⟩ := Own.rd h1
  exact ⟨ad, cap, h2, h3, by have : (maxLen : Nat) = 9223372036854775807 := rfl; omega⟩
set_option maxRecDepth 100000 in
set_option maxHeartbeats 4000000 in
theorem topCut_law (w : World) (v : Value) (hs : List Ev) (hv : Evs w v hs) (vm : Value) (many : List Int) (hm : Ints w vm many) :
    Calls Try.prog 12 #[v, vm] w fun e w' => e = .returned (.bool true) ∧ Below w.heap.size w w' := by
  obtain ⟨had, hcap, rfl, hc1, hc2⟩ := hv.shape
  obtain ⟨mad, mcap, rfl, hmc1, hmc2⟩ := hm.shape
  obtain ⟨n, hn⟩ : ∃ n, n = hs.length := ⟨_, rfl⟩
  rw [← hn] at hc1 hv ⊢
  have HO0 := Lib.hid (Own.start w)
  have HV := Lib.hid hv; have HM := Lib.hid hm; have HN := Lib.hid hn
  clear hv hm hn
  go_enter Try.func12, Try.ntmps12
  go_wp2_with fail
  refine (one_any HO0.out).mono ?_
  rintro e w1 ⟨rfl, ho⟩
  have HO1 := Lib.hid ho
  clear ho HO0
  go_wp2_with fail
  refine (hCut_any _ _ hs many HO1.out HV.out.reads HM.out.reads).mono ?_
  rintro e w2 ⟨rfl, ho⟩
  have HO2 := Lib.hid ho
  clear ho HO1
  by_cases hE : cutErr hs many = 0
  rotate_left
  · obtain ⟨en, hen⟩ := errV_some hE
    rw [hen]
    clear hen
    have HE := Lib.hid hE
    clear hE
    go_wp2
    go_ret
    exact ⟨rfl, HO2.out.below⟩
  obtain ⟨hr, hm5, hmb⟩ := cutErr0 hE
  have hrE := (histR_ok hs).2 hr
  have hok : cutOk hs many = cutB hs many := by unfold cutOk; rw [hE]; simp
  rw [hok, hE, errV0]
  rw [hm5] at hmc1
  have HM' : Hid (Ints w (.slice mad 5 mcap) many) := Lib.hid (by have := HM.out; rw [hm5] at this; exact this)
  rw [hm5]
  clear HM
  obtain ⟨B, hB⟩ : ∃ B, B = cutB hs many := ⟨_, rfl⟩
  rw [← hB]
  clear hok
  have HR := Lib.hid hr; have HRE := Lib.hid hrE; have HM5 := Lib.hid hm5; have HMB := Lib.hid hmb; have HE := Lib.hid hE; have HB := Lib.hid hB
  clear hr hrE hm5 hmb hE hB
  go_wp2_with fail
  refine (vectors_any _ hs HO2.out HV.out.reads).mono ?_
  rintro e w3 ⟨v2, rs, rfl, hrs, ho⟩
  rw [HRE.out, errV0]
  have hve : vecsE hs = (vecState hs hs.length).1 := by unfold vecsE vecsR; rw [if_pos HRE.out]
  rw [hve] at hrs
  have hrl : rs.length = n := by rw [← List.length_map (f := (·.2)), hrs, (vecState_len _ _).1, HN.out]
  obtain ⟨vad, vcap, rfl, hvc1, hvc2⟩ := ho.ls_shape
  rw [hrl] at ho hvc1 ⊢
  have HO3 := Lib.hid ho
  have HRW : Hid (∀ i, i < n → ∃ rv, rs[i]? = some (rv, vecAt hs i)) := Lib.hid (fun i hi => by
    refine map_at hrs ?_
    unfold vecAt
    have hl := (vecState_len hs hs.length).1
    rw [List.getD_eq_getElem?_getD, List.getElem?_eq_getElem (by rw [hl, ← HN.out]; exact hi)]; rfl)
  clear ho hve
  have HRS := Lib.hid hrs; have HRL := Lib.hid hrl
  clear hrs hrl
  go_wp2_with fail
  refine (stableNew_yes 5 (by decide) HO3.out).mono ?_
  rintro e w4 ⟨p, rfl, ho⟩
  rw [errV0]
  have HO4 := Lib.hid ho
  clear ho
  go_wp2_with (at_make; refine wpList_mk rfl _ _ 27 rfl 3 8 (.int .i64 0) Try.underlying27 info_int rfl 5 rfl rfl (by omega) (by decide) HO4.out ?_; intro mb w5 ho; have HO5 : Hid (Own w (IntSl (.slice (some ⟨mb, 0, none⟩) 5 5) zero5 * (StableP p (List.replicate 5 zero5) * (LSl (.slice vad n vcap) rs * emp))) w5) := Lib.hid ho.sl_of_at; clear ho)
  go_loopw [12, 13] (fun jv mv wr => ∃ (m : Nat) (J : List Int) (rows : List (List Int)), m ≤ 5 ∧ mv = .int .i64 m ∧ Hid (TInv hs many m 0 J rows) ∧ Hid (Own w (IntSl jv J * (StableP p rows * (LSl (.slice vad n vcap) rs * emp))) wr)) (fun _ mv _ => 5 - (intOf mv).toNat)
  case atStart => exact ⟨0, _, _, Nat.zero_le _, rfl, Lib.hid (TInv.start HR.out HE.out), HO5⟩
  case round =>
    clear HO2 HO3 HO4 HO5
    obtain ⟨m, J, rows, hm, rfl, HT, HO⟩ := hrel
    by_cases hlt : m < 5
    rotate_left
    · have hm5' : m = 5 := by omega
      subst hm5'
      obtain ⟨⟨b1, l1⟩, ve, b2, l2⟩ := HT.out.done HE.out
      rw [← HB.out] at l1
      have q1 : (bothErr J many == 0 && leq J many) = B := by rw [b1, l1]; rfl
      have q2 : (bothErr (leastOf rows) J == 0 && leq (leastOf rows) J) = true := by rw [b2, l2]; rfl
      have B1 := Lib.hid b1; have L1 := Lib.hid l1; have VE := Lib.hid ve; have B2 := Lib.hid b2; have L2 := Lib.hid l2; have Q1 := Lib.hid q1; have Q2 := Lib.hid q2
      clear b1 l1 ve b2 l2 q1 q2
      go_wp2_with fail
      refine (leq_any _ _ J many _ (IntSl_reads (vecErr_I64 HT.out.vj) _ HO.out) (HM'.out.later HO.out)).mono ?_
      rintro e w6 ⟨rfl, rfl⟩
      rw [Q1.out, B1.out, errV0]
      go_wp2_with fail
      refine (least_any p rows HT.out.ok (by rw [HT.out.len]; omega) (HO.out.perm (star_left_comm _ _ _))).mono ?_
      rintro e w7 ⟨v3, rfl, ho⟩
      have HO6 := Lib.hid ho
      clear ho HO
      go_wp2_with fail
      refine (leq_any _ _ (leastOf rows) J _ (IntSl_reads (vecErr_I64 VE.out) _ HO6.out) ((IntSl_reads (vecErr_I64 HT.out.vj)).more.more _ HO6.out)).mono ?_
      rintro e w8 ⟨rfl, rfl⟩
      rw [Q2.out, B2.out, errV0]
      cases B
      · go_wp2
        go_ret
        exact ⟨rfl, HO6.out.below⟩
      · go_wp2
        go_ret
        exact ⟨rfl, HO6.out.below⟩
    have tm : decide ((m : Int) < 5) = true := decide_eq_true (by omega)
    go_wp2_with fail
    go_loopw [12, 14, 15] (fun jv nv iv wr => ∃ (i : Nat) (J : List Int) (rows : List (List Int)), i ≤ n ∧ nv = .int .i64 (cnt hs (m : Int) i) ∧ iv = .int .i64 i ∧ Hid (TInv hs many m i J rows) ∧ Hid (Own w (IntSl jv J * (StableP p rows * (LSl (.slice vad n vcap) rs * emp))) wr)) (fun _ _ iv _ => n - (intOf iv).toNat)
    case atStart => exact ⟨0, J, rows, Nat.zero_le _, by rw [cnt_zero]; rfl, rfl, HT, HO⟩
    case round =>
      clear HO HT
      obtain ⟨i, J, rows, hi, rfl, rfl, HT, HO⟩ := hrel
      by_cases hli : i < n
      rotate_left
      · have hin : i = n := by omega
        subst hin
        have ht := HT.out
        rw [HN.out] at ht
        have HT2 := Lib.hid ht.next
        clear ht
        go_wp2_with fail
        go_roundw
        case rel => exact ⟨m + 1, J, rows, by omega, by go_num, HT2, HO⟩
        case measure => simp [intOf]; omega
      have hil : i < hs.length := by rw [← HN.out]; exact hli
      obtain ⟨aa, pb, po, ps, rfl, hea, hcs, _⟩ := (HV.out.reads (R := IntSl u12 J * (StableP p rows * (LSl (.slice vad n vcap) rs * emp)))).at HO.out i hil
      obtain ⟨x, hx⟩ : ∃ x, x = evAt hs i := ⟨_, rfl⟩
      have hwho := HR.out.who hil
      rw [← hx] at hcs hwho
      obtain ⟨c0, c1, c2⟩ := hcs _ HO.out
      obtain ⟨cv, hcv⟩ : ∃ cv : Nat, cv = cnt hs (m : Int) i := ⟨_, rfl⟩
      have hcv2 : cv ≤ 60 := by rw [hcv]; have := cnt_le hs (m : Int) i; have := HR.out.1; omega
      have hstep := cnt_succ hs (m : Int) i hil
      rw [← evAt_get hil, ← hx, ← hcv] at hstep
      rw [← hcv]
      obtain ⟨x1, x2, x3⟩ := x
      simp only at c0 c1 c2 hwho hstep
      have hx1 : x1 = (evAt hs i).1 := by rw [← hx]
      have m0 : (0 : Int) ≤ (i : Int) := Int.natCast_nonneg i
      by_cases hxm : x1 = (m : Int)
      rotate_left
      · have hne : (x1 != (m : Int)) = true := by simpa using hxm
        have HT2 := Lib.hid (HT.out.skip (.inl (by rw [← hx1]; exact hxm)))
        rw [if_neg hxm, Nat.add_zero] at hstep
        have HS := Lib.hid hstep
        have HCS := Lib.hid hcs; have HX := Lib.hid hx; have HWHO := Lib.hid hwho; have HXM := Lib.hid hxm; have HX1 := Lib.hid hx1; have HCV := Lib.hid hcv
        clear hcs hx hwho hxm hx1 hcv
        clear hstep
        go_wp2_with fail
        go_roundw
        case rel => exact ⟨i + 1, J, rows, by omega, by rw [HS.out]; rfl, by go_num, HT2, HO⟩
        case measure => simp [intOf]; omega
      rw [if_pos hxm] at hstep
      obtain ⟨ma, hma, hmc⟩ := HM'.out.at_later m (by rw [HM5.out]; exact hlt)
      have hme := hmc _ _ HO.out
      obtain ⟨y, hy⟩ : ∃ y, y = many[m]'(by rw [HM5.out]; exact hlt) := ⟨_, rfl⟩
      rw [← hy] at hme
      have hyg : many.getD m 0 = y := by rw [hy]; exact getD_at _
      have htk : takenB hs many i = decide ((cv : Int) < y) := by
        unfold takenB
        rw [← hx1, hxm, Int.toNat_natCast, ← hcv, hyg]
      subst hma
      subst hxm
      have hne : ((m : Int) != (m : Int)) = false := by simp
      have mm0 : (0 : Int) ≤ (m : Int) := Int.natCast_nonneg m
      have HS := Lib.hid hstep
      clear hstep
      by_cases hcy : (cv : Int) + 1 ≤ y
      rotate_left
      · have HT2 := Lib.hid (HT.out.skip (.inr (by rw [htk]; simp; omega)))
        have t1 : decide ((cv : Int) + 1 ≤ y) = false := by simpa using hcy
        have HCS := Lib.hid hcs; have HX := Lib.hid hx; have HWHO := Lib.hid hwho; have HX1 := Lib.hid hx1; have HCV := Lib.hid hcv; have HY := Lib.hid hy; have HYG := Lib.hid hyg; have HTK := Lib.hid htk; have HMC := Lib.hid hmc; have HCY := Lib.hid hcy
        clear hcs hx hwho hx1 hcv hy hyg htk hmc hcy
        go_wp2_with fail
        go_roundw
        case rel => exact ⟨i + 1, J, rows, by omega, by rw [HS.out]; rfl, by go_num, HT2, HO⟩
        case measure => simp [intOf]; omega
      have t1 : decide ((cv : Int) + 1 ≤ y) = true := by simpa using hcy
      obtain ⟨k1, k2, k3⟩ := HT.out.take HR.out hil hlt hx1.symm (by rw [htk]; simp; omega)
      obtain ⟨rv, hrv⟩ := HRW.out i hli
      have hV := vecAt_ok HR.out hil
      obtain ⟨V, hVe⟩ : ∃ V, V = vecAt hs i := ⟨_, rfl⟩
      rw [← hVe] at k1 k2 k3 hrv hV
      have hj : joinOf J V = zipMax J V := by unfold joinOf; rw [if_pos k1]
      have hsh : ∃ b off, vad = some ⟨b, off, none⟩ := by
        obtain ⟨b, off, cap, e1, _⟩ := (HO.out.perm (show _ = LSl (.slice vad n vcap) rs * (IntSl u12 J * (StableP p rows * emp)) by ac_rfl)).ls_row hrv (vecErr_I64 hV)
        injection e1 with e1 _ _
        exact ⟨b, off, e1⟩
      obtain ⟨vb, voff, rfl⟩ := hsh
      have HRR : Hid (∀ (w' : World) (R' : HProp), Own w (LSl (.slice (some ⟨vb, voff, none⟩) n vcap) rs * R') w' → w'.cell? ⟨vb, voff + i, none⟩ = some rv ∧ Ints w' rv V) := Lib.hid (fun w' R' ho => by
        obtain ⟨b, off, cap, e1, _, _, h1, h2⟩ := ho.ls_row hrv (vecErr_I64 hV)
        injection e1 with e1 _ _
        injection e1 with e1
        injection e1 with e1 e2 _
        subst e1; subst e2
        exact ⟨h1, h2⟩)
      have HOa : Hid (Own w (LSl (.slice (some ⟨vb, voff, none⟩) n vcap) rs * (IntSl u12 J * (StableP p rows * emp))) wr) := Lib.hid (HO.out.perm (by ac_rfl))
      obtain ⟨g1, g2⟩ := HRR.out _ _ HOa.out
      have G2 := Lib.hid g2
      have HCS := Lib.hid hcs; have HX := Lib.hid hx; have HWHO := Lib.hid hwho; have HX1 := Lib.hid hx1; have HCV := Lib.hid hcv; have HY := Lib.hid hy; have HYG := Lib.hid hyg; have HTK := Lib.hid htk; have HMC := Lib.hid hmc; have HCY := Lib.hid hcy; have K1 := Lib.hid k1; have K2 := Lib.hid k2; have K3 := Lib.hid k3; have HRV := Lib.hid hrv; have HV := Lib.hid hV; have HVE := Lib.hid hVe; have HJ := Lib.hid hj
      clear hcs hx hwho hx1 hcv hy hyg htk hmc hcy k1 k2 k3 hrv hV hVe hj
      clear g2
      go_wp2_with fail
      refine (join_any HOa.out _ rv J V (IntSl_reads (vecErr_I64 HT.out.vj) _ HO.out) (fun w' ho => (HRR.out _ _ ho).2)).mono ?_
      rintro e w6 ⟨v6, rfl, ho⟩
      rw [K1.out, errV0]
      rw [HJ.out] at ho
      have HO6 : Hid (Own w (StableP p rows * (LSl (.slice (some ⟨vb, voff, none⟩) n vcap) rs * (IntSl v6 (zipMax J V) * emp))) w6) := Lib.hid ((ho.perm (show _ = IntSl u12 J * (IntSl v6 (zipMax J V) * (LSl (.slice (some ⟨vb, voff, none⟩) n vcap) rs * (StableP p rows * emp))) by ac_rfl)).drop.perm (by ac_rfl))
      clear ho HO HOa G2 g1
      obtain ⟨g1, g2⟩ := HRR.out _ _ (HO6.out.perm (show _ = LSl (.slice (some ⟨vb, voff, none⟩) n vcap) rs * (StableP p rows * (IntSl v6 (zipMax J V) * emp)) by ac_rfl))
      clear g2
      go_wp2_with fail
      refine (told_any p rows m _ V HT.out.ok (by rw [HT.out.len]; omega) HO6.out (fun w' ho => (HRR.out _ _ ho).2)).mono ?_
      rintro e w7 ⟨rfl, ho⟩
      rw [K2.out, errV0]
      have HO7 : Hid (Own w (IntSl v6 (zipMax J V) * (StableP p (toldRows rows (m : Int) V) * (LSl (.slice (some ⟨vb, voff, none⟩) n vcap) rs * emp))) w7) := Lib.hid (ho.perm (by ac_rfl))
      clear ho HO6 g1
      go_wp2_with fail
      go_roundw
      case rel => exact ⟨i + 1, _, _, by omega, by rw [HS.out]; rfl, by go_num, K3, HO7⟩
      case measure => simp [intOf]; omega
end Go.Proofs.Ytkgnjkokbiefgaa
