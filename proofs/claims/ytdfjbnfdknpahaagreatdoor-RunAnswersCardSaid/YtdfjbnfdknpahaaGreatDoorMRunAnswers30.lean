/- The reference's Cast: Say, of a word that may be said. -/
import Derived.Test.YtdfjbnfdknpahaaGreatDoorMRunAnswers29
import Derived.Test.YtdfjbnfdknpahaaGreatDoorMRunAnswers10
import Derived.Test.YtdfjbnfdknpahaaGreatDoorMRunAnswers8
import Derived.Test.YtdfjbnfdknpahaaGreatDoorMRunAnswers7
import Derived.Test.YtdfjbnfdknpahaaGreatDoorMRunAnswers1
namespace Go.Proofs.YtdfjbnfdknpahaaGreatDoor
set_option linter.unusedVariables false
set_option linter.unusedSimpArgs false
open Go.RowKit Go.Maps
set_option maxRecDepth 100000 in
set_option maxHeartbeats 4000000 in
theorem rkSay_yes {w0 w : World} {R : HProp} (p : Nat) (c : Cs) (who word : Int) (hI : CsI c) (hb : c.hist.length ≤ 100000) (hE : csSayErr c who word = 0 ∨ csSayErr c who word = 4) (h : Own w0 (RkP p c * R) w) :
    Calls Tryz.prog 19 #[.pointer (some ⟨p, 0, none⟩), .int .i64 who, .int .i64 word] w fun e w' => e = .returned (.int .i64 (csSayErr c who word : Nat)) ∧ Own w0 (RkP p (csSay c who word) * R) w' := by
  obtain ⟨mb, off, cap, nb, hv, S, rms, he, ho⟩ := h.rk_open
  obtain ⟨c0, c1, c2, c3, cf, c5, hc1, hc2⟩ := ho.rk_facts he
  have hsx := (ho.rk_blk.rkb_facts he.len).2.2.2.2.2
  have hn2 := hI.n2
  have hn5 := hI.n5
  rw [← he.memLen] at hn2 hn5
  obtain ⟨N, hN⟩ : ∃ N, N = rms.length := ⟨_, rfl⟩
  rw [← hN] at c0 hn2 hn5 hc1
  have hNm : c.mem.length = N := by rw [← he.memLen, hN]
  obtain ⟨E, hE'⟩ : ∃ E, E = csSayErr c who word := ⟨_, rfl⟩
  have hEE := hE'
  rw [← hE'] at hE ⊢
  unfold csSayErr at hE'
  rw [hNm] at hE'
  have hin : inR who N = true := by
    cases hi : inR who N
    · rw [if_pos hi] at hE'; omega
    · rfl
  rw [if_neg (by rw [hin]; simp)] at hE'
  have hwd : isWord word = true := by
    cases hi : isWord word
    · rw [if_pos hi] at hE'; omega
    · rfl
  rw [if_neg (by rw [hwd]; simp)] at hE'
  have hsm : (mget c.said word).isSome = false := by
    cases hi : (mget c.said word).isSome
    · rfl
    · rw [hi, if_pos rfl] at hE'; omega
  rw [hsm, if_neg (by simp)] at hE'
  have hib : 0 ≤ who ∧ who < (N : Int) := by unfold inR at hin; simpa using hin
  have hwb : 1 ≤ word ∧ word ≤ 30 := by simpa [isWord] using hwd
  obtain ⟨k, rfl⟩ : ∃ k : Nat, who = (k : Int) := ⟨who.toNat, by omega⟩
  have hkN : k < N := by omega
  obtain ⟨wn, rfl⟩ : ∃ wn : Nat, word = (wn : Int) := ⟨word.toNat, by omega⟩
  have hwl : wn < S.length := by rw [he.len]; omega
  obtain ⟨s0, s1, s2⟩ := hsx wn hwl
  have hsw : S[wn].2.word = 0 := by rw [he.said wn hwl, csSd_word hI, hsm]; rfl
  rw [hsw] at s1
  have w0' : (0 : Int) ≤ (wn : Int) := by omega
  have w31 : (wn : Int) < 31 := by omega
  obtain ⟨nad, ncap, B, hB, _, _, hnt⟩ := ho.rk_net.rn_open
  have n0 := (hnt.rn_facts).1
  obtain ⟨A, hA⟩ : ∃ A, A = c.net.all.length := ⟨_, rfl⟩
  rw [← hA] at n0
  have hA40 : A ≤ 40 := by rw [hA]; exact hI.net.len
  obtain ⟨T, hT⟩ : ∃ T, T = c.said.length := ⟨_, rfl⟩
  have hT30 : T ≤ 30 := by rw [hT]; exact hI.saidLen
  rw [← hT] at c2
  rw [← hA, ← hT] at hE'
  obtain ⟨M, hM⟩ : ∃ M, M = (T + 1) * N := ⟨_, rfl⟩
  have hM155 : M ≤ 155 := by rw [hM]; exact Nat.mul_le_mul (show T + 1 ≤ 31 by omega) hn5
  have hMi : ((T : Int) + 1) * (N : Int) = (M : Int) := by rw [hM]; simp
  rw [← hM] at hE'
  have HOI := Lib.hid ho
  have HE_ := Lib.hid he
  have HEE := Lib.hid hEE
  have HEP := Lib.hid hE'
  have HMD := Lib.hid hM
  have HA' := Lib.hid hA
  have HN' := Lib.hid hN
  have HTT := Lib.hid hT
  clear he ho hEE hE' hM hA hN hsx hnt hB hT
  have hcs : (40 < A + N - 1) ∨ (¬ 40 < A + N - 1 ∧ 60 < M) ∨ (¬ 40 < A + N - 1 ∧ ¬ 60 < M) := by omega
  rcases hcs with h1 | ⟨h1, h2⟩ | ⟨h1, h2⟩
  · have t3 : decide ((40 : Int) < (A : Int) + (N : Int) - 1) = true := decide_eq_true (by omega)
    have hE4 : E = 4 := by rw [HEP.out, if_pos (.inl h1)]
    have hsay : csSay c (k : Int) (wn : Int) = c := by unfold csSay; rw [if_neg (by rw [← HEE.out, hE4]; simp)]
    clear cf c5
    have H := Lib.hid h; have HI := Lib.hid hI; have HE := Lib.hid hE; have HNM := Lib.hid hNm; have HWD := Lib.hid hwd; have HSM := Lib.hid hsm; have HIN := Lib.hid hin; have HSW := Lib.hid hsw; have H1 := Lib.hid h1; have HE4 := Lib.hid hE4; have HSAY := Lib.hid hsay
    clear h hI hE hNm hwd hsm hin hsw h1 hE4 hsay
    go_enter Tryz.func19, Tryz.ntmps19
    go_wp2
    go_ret
    exact ⟨by rw [HE4.out]; rfl, by rw [HSAY.out]; exact H.out⟩
  · have t3 : decide ((40 : Int) < (A : Int) + (N : Int) - 1) = false := decide_eq_false (by omega)
    have t4 : decide ((60 : Int) < (M : Int)) = true := decide_eq_true (by omega)
    have hE4 : E = 4 := by rw [HEP.out, if_pos (.inr h2)]
    have hsay : csSay c (k : Int) (wn : Int) = c := by unfold csSay; rw [if_neg (by rw [← HEE.out, hE4]; simp)]
    clear cf c5
    have H := Lib.hid h; have HI := Lib.hid hI; have HE := Lib.hid hE; have HNM := Lib.hid hNm; have HWD := Lib.hid hwd; have HSM := Lib.hid hsm; have HIN := Lib.hid hin; have HSW := Lib.hid hsw; have H1 := Lib.hid h1; have H2 := Lib.hid h2; have HE4 := Lib.hid hE4; have HSAY := Lib.hid hsay
    clear h hI hE hNm hwd hsm hin hsw h1 h2 hE4 hsay
    go_enter Tryz.func19, Tryz.ntmps19
    go_wp2
    go_ret
    exact ⟨by rw [HE4.out]; rfl, by rw [HSAY.out]; exact H.out⟩
  have t3 : decide ((40 : Int) < (A : Int) + (N : Int) - 1) = false := decide_eq_false (by omega)
  have t4 : decide ((60 : Int) < (M : Int)) = false := decide_eq_false (by omega)
  have hE0 : E = 0 := by rw [HEP.out, if_neg (by omega)]
  have hE0' : csSayErr c (k : Int) (wn : Int) = 0 := by rw [← HEE.out, hE0]
  have hkr : k < rms.length := by rw [← HN'.out]; exact hkN
  have hkm : k < c.mem.length := by rw [hNm]; exact hkN
  have hmk : c.mem[k] = rms[k].m := by
    have e : c.mem[k]? = some rms[k].m := by rw [← HE_.out.mem, List.getElem?_map, List.getElem?_eq_getElem hkr]; rfl
    exact (List.getElem?_eq_some_iff.1 e).2
  have hmI : CaI rms[k].m := by rw [← hmk]; exact (hI.mem k hkm).ok
  have hs0 : caSayErr rms[k].m (wn : Int) = 0 := by rw [← hmk]; exact hI.caSay0 hkm hwd
  obtain ⟨rm, hrm⟩ : ∃ r, r = rms[k] := ⟨_, rfl⟩
  have e5 : w.cell? ⟨mb, off + k, none⟩ = some (.pointer (some ⟨rm.q, 0, none⟩)) := by rw [hrm]; exact c5 k rms[k] (by simp [hkr])
  have hsok := caSaid_ok hmI hs0
  obtain ⟨Sd', hSd⟩ : ∃ s, s = caSaid rms[k].m (wn : Int) := ⟨_, rfl⟩
  rw [← hSd] at hsok
  have hSI := vecErr_I64 (sdErr0 hsok).2.2
  have k0 : (0 : Int) ≤ (k : Int) := by omega
  have kN : (k : Int) < (N : Int) := by omega
  have f95 := cf 95 none
  -- one more
  have HO1 : Hid (Own w0 (rkBlk p (.slice (some ⟨mb, off, none⟩) rms.length cap) nb S ((T : Int) + 1) hv * (TabO rmP rmV 64 mb off cap rms * (RnP nb c.net * (starL sdRow S * (EvSl hv c.hist * R))))) (w.setCell ⟨p, 95, none⟩ (.int .i64 ((T : Int) + 1)))) := Lib.hid (by
    have h9 := HOI.out.rk_blk.rkb_many HE_.out.len ((T : Int) + 1)
    exact h9)
  obtain ⟨w1, hw1⟩ : ∃ x, x = w.setCell ⟨p, 95, none⟩ (.int .i64 ((T : Int) + 1)) := ⟨_, rfl⟩
  rw [← hw1] at HO1
  obtain ⟨d0, d1, _, d3, df, _⟩ := HO1.out.rkb_facts HE_.out.len
  rw [← HN'.out] at d0
  have ht : Own w0 (rmP rm * (SlAt 64 1 mb off rms.length cap (rms.map rmV) * (starL rmP (rms.eraseIdx k) * (rkBlk p (.slice (some ⟨mb, off, none⟩) rms.length cap) nb S ((T : Int) + 1) hv * (RnP nb c.net * (starL sdRow S * (EvSl hv c.hist * R))))))) w1 := by
    rw [hrm]
    exact HO1.out.second.tab_take hkr
  have e5' : w1.cell? ⟨mb, off + k, none⟩ = some (.pointer (some ⟨rm.q, 0, none⟩)) := by
    have h9 := HO1.out.second.tab_facts
    rw [hrm]; exact h9.1 k rms[k] (by simp [hkr])
  have HT : Hid (Own w0 (rcBlk rm.q rm.m.me rm.m.clk rm.vv * (Sl 59 3 rm.vv rm.rows.length (rm.rows.flatMap sdCells) * (SlAt 64 1 mb off rms.length cap (rms.map rmV) * (starL rmP (rms.eraseIdx k) * (rkBlk p (.slice (some ⟨mb, off, none⟩) rms.length cap) nb S ((T : Int) + 1) hv * (RnP nb c.net * (starL sdRow S * (EvSl hv c.hist * R)))))))) w1) := Lib.hid (ht.perm (by unfold rmP RcO; ac_rfl))
  have HSY := Lib.hid (rcSay_any rm.q rm.m rm.vv (wn : Int) (by rw [hrm]; exact hmI) HT.out)
  rw [hrm, ← hSd, hs0] at HSY
  rw [← hrm] at HSY
  have HRM := Lib.hid hrm
  clear c5 cf ht hrm df
  have H := Lib.hid h; have HI := Lib.hid hI; have HE := Lib.hid hE; have HNM := Lib.hid hNm; have HWD := Lib.hid hwd; have HSM := Lib.hid hsm; have HIN := Lib.hid hin; have HSW := Lib.hid hsw; have H1 := Lib.hid h1; have H2 := Lib.hid h2; have HE0 := Lib.hid hE0; have HE0' := Lib.hid hE0'; have HMK := Lib.hid hmk; have HMI := Lib.hid hmI; have HS0 := Lib.hid hs0; have HSOK := Lib.hid hsok; have HSD := Lib.hid hSd; have HSI := Lib.hid hSI
  clear h hI hE hNm hwd hsm hin hsw h1 h2 hE0 hE0' hmk hmI hs0 hsok hSd hSI
  go_enter Tryz.func19, Tryz.ntmps19
  go_upto_region 9 with fail
  rw [← hw1]
  clear hw1 c0 c1 c2 c3 e5 f95 n0 s0 s1 s2
  go_wp2_with fail
  refine HSY.out.mono ?_
  rintro e w3 ⟨v3, rfl, ho⟩
  obtain ⟨ad3, cp3, rfl⟩ := Own.int_shape ho
  obtain ⟨L3, hL3⟩ : ∃ L, L = Sd'.clk.length := ⟨_, rfl⟩
  rw [← hL3] at ho ⊢
  obtain ⟨b10, hb_b10⟩ : ∃ zz_, zz_ = (w3).heap.size := ⟨_, rfl⟩
  obtain ⟨w4, hw_w4⟩ : ∃ zz_, zz_ = (w3).alloc (.cells #[.int .i64 Sd'.who, .int .i64 Sd'.word, .slice ad3 L3 cp3] 59 (0, 0)) := ⟨_, rfl⟩
  have h_HB4 := (ho).alloc (.cells #[.int .i64 Sd'.who, .int .i64 Sd'.word, .slice ad3 L3 cp3] 59 (0, 0))
  rw [← hb_b10, ← hw_w4] at h_HB4
  have HB4 := Lib.hid h_HB4
  clear h_HB4
  obtain ⟨z0, z1, z2, _⟩ := (show Own w0 (SdO b10 Sd'.who Sd'.word (.slice ad3 L3 cp3) * _) w4 from HB4.out).sd
  obtain ⟨MV, hMV⟩ : ∃ v, v = Value.slice (some ⟨mb, off, none⟩) rms.length cap := ⟨_, rfl⟩
  rw [← hMV] at HB4
  have H4 : Hid (Own w0 (rkBlk p MV nb S ((T : Int) + 1) hv * (SdO b10 Sd'.who Sd'.word (.slice ad3 L3 cp3) * (IntSl (.slice ad3 L3 cp3) Sd'.clk * (rcBlk rm.q (caSay rm.m (wn : Int)).me (caSay rm.m (wn : Int)).clk rm.vv * (Sl 59 3 rm.vv rm.rows.length (rm.rows.flatMap sdCells) * (SlAt 64 1 mb off rms.length cap (rms.map rmV) * (starL rmP (rms.eraseIdx k) * (RnP nb c.net * (starL sdRow S * (EvSl hv c.hist * R)))))))))) w4) := Lib.hid (HB4.out.perm (by
    unfold SdO rkBlk
    ac_rfl))
  obtain ⟨_, _, _, _, gf, gx⟩ := H4.out.rkb_facts HE_.out.len
  obtain ⟨g0, g1, g2⟩ := gx wn hwl
  have gf0 := gf (2 + wn * 3) none
  have gf1 := gf (2 + wn * 3 + 1) none
  have gf2 := gf (2 + wn * 3 + 2) none
  have HS5 := Lib.hid (H4.out.rkb_sd hwl (.slice ad3 L3 cp3, Sd')).drew
  clear ho HB4 HT HSY d0 d1 d3 e5' gf gx H4
  have HMV := Lib.hid hMV
  clear hMV
  have HL3 := Lib.hid hL3
  clear hL3
  go_upto_region 10 with fail
  rw [← hb_b10, ← hw_w4]
  clear hb_b10 hw_w4
  refine wp_region_tail 5 (by kernel_rfl) (by kernel_rfl) ?_
  simp only [List.take_succ_cons, List.take_zero, List.drop_succ_cons, List.drop_zero]
  repeat still_step
  refine wpStill_nil ?_
  go_upto_region 11 with fail
  generalize hW5 : (World.drew (World.setCell _ _ _)) = W5 at HS5 ⊢
  clear hW5 g0 g1 g2 gf0 gf1 gf2 z0 z1 z2
  obtain ⟨S2, hS2⟩ : ∃ S2, S2 = S.set wn (.slice ad3 L3 cp3, Sd') := ⟨_, rfl⟩
  rw [← hS2] at HS5
  have hl2 : S2.length = 31 := by rw [hS2, List.length_set]; exact HE_.out.len
  obtain ⟨Q, hQ⟩ : ∃ Q, Q = SdO b10 Sd'.who Sd'.word (.slice ad3 L3 cp3) * (IntSl (.slice ad3 L3 cp3) Sd'.clk * (rcBlk rm.q (caSay rm.m (wn : Int)).me (caSay rm.m (wn : Int)).clk rm.vv * (Sl 59 3 rm.vv rm.rows.length (rm.rows.flatMap sdCells) * (SlAt 64 1 mb off rms.length cap (rms.map rmV) * (starL rmP (rms.eraseIdx k) * (RnP nb c.net * (starL sdRow S * R))))))) := ⟨_, rfl⟩
  have H5 : Hid (Own w0 (EvSl hv c.hist * (rkBlk p MV nb S2 ((T : Int) + 1) hv * Q)) W5) := Lib.hid (HS5.out.perm (by rw [hQ]; unfold rkBlk; ac_rfl))
  clear HS5
  have g3 : W5.cell? ⟨p, 96, none⟩ = some hv := (H5.out.second.rkb_facts hl2).2.2.2.1
  obtain ⟨had, hcp, hhv, _⟩ := Own.rd H5.out
  obtain ⟨LH, hLH⟩ : ∃ L, L = c.hist.length := ⟨_, rfl⟩
  rw [← hLH] at hhv hb
  have HLH := Lib.hid hLH
  have H5' : Hid (Own w0 (Sl 112 3 (.slice had LH hcp) LH (c.hist.flatMap evCells) * (rkBlk p MV nb S2 ((T : Int) + 1) (.slice had LH hcp) * Q)) W5) := Lib.hid (by
    have h1 := H5.out
    unfold EvSl at h1
    rw [hhv, ← hLH] at h1
    exact h1)
  rw [hhv] at g3
  clear hhv hLH H5
  have HQ_ := Lib.hid hQ
  have HS2 := Lib.hid hS2
  have HL2 := Lib.hid hl2
  clear hQ hS2 hl2
  go_upto_block 0 with (at_builtin; refine wpList_app rfl _ _ 61 rfl 112 3 24 _ info_ev Tryz.underlying61 rfl (by decide) rfl (H5'.out.alloc' _) rfl (by rfl) (Rd_lit (by simp) (by unfold maxLen; omega)) (by intro u hu; simp at hu; rcases hu with rfl | rfl | rfl <;> rfl) (by unfold maxLen; omega) (by omega) ?_; intro v6 w6 hown; obtain ⟨ad6, n6, cp6, hv6⟩ := sl_shape hown; have g4 := (hown.second.rkb_facts HL2.out).2.2.2.1; have g5 := (hown.second.rkb_facts HL2.out).2.2.2.2.1 96 none; have HN6 := Lib.hid (hown.second.rkb_hist HL2.out v6); subst hv6; clear hown)
  obtain ⟨w7, hw7⟩ : ∃ x, x = w6.setCell ⟨p, 96, none⟩ (.slice ad6 n6 cp6) := ⟨_, rfl⟩
  rw [← hw7] at HN6 ⊢
  obtain ⟨Q2, hQ2⟩ : ∃ Q2, Q2 = rmP ⟨rm.q, rm.vv, rm.rows, caSay rm.m (wn : Int)⟩ * (SlAt 64 1 mb off rms.length cap (rms.map rmV) * (starL rmP (rms.eraseIdx k) * (starL sdRow S2 * (EvSl (.slice ad6 n6 cp6) (c.hist ++ [((k : Int), 2, (wn : Int))]) * R)))) := ⟨_, rfl⟩
  have H7 : Hid (Own w0 (RnP nb (csNet c 0 (k : Int) (wn : Int)) * (rkBlk p MV nb S2 ((T : Int) + 1) (.slice ad6 n6 cp6) * Q2)) w7) := Lib.hid (by
    have e1 : Sl 112 3 (.slice ad6 n6 cp6) (LH + 1) (c.hist.flatMap evCells ++ [.int .i64 (k : Int), .int .i64 2, .int .i64 (wn : Int)]) = EvSl (.slice ad6 n6 cp6) (c.hist ++ [((k : Int), 2, (wn : Int))]) := by
      unfold EvSl
      rw [List.length_append, List.flatMap_append, HLH.out]
      rfl
    have e2 : starL sdRow S2 = sdRow (.slice ad3 L3 cp3, Sd') * starL sdRow (S.eraseIdx wn) := by rw [HS2.out]; exact starL_set sdRow S wn hwl _
    have h1 := HN6.out
    rw [HQ_.out, starL_split sdRow S wn hwl] at h1
    rw [hQ2, csNet0, e2, ← e1]
    have h2 := (h1.perm (show _ = sdRow S[wn] * (SdO b10 Sd'.who Sd'.word (.slice ad3 L3 cp3) * (RnP nb c.net * (rkBlk p MV nb S2 ((T : Int) + 1) (.slice ad6 n6 cp6) * (rmP ⟨rm.q, rm.vv, rm.rows, caSay rm.m (wn : Int)⟩ * (SlAt 64 1 mb off rms.length cap (rms.map rmV) * (starL rmP (rms.eraseIdx k) * ((sdRow (.slice ad3 L3 cp3, Sd') * starL sdRow (S.eraseIdx wn)) * (Sl 112 3 (.slice ad6 n6 cp6) (LH + 1) (c.hist.flatMap evCells ++ [.int .i64 (k : Int), .int .i64 2, .int .i64 (wn : Int)]) * R)))))))) from ?_)).drop.drop
    · exact h2
    · unfold rmP RcO
      show _ = sdRow S[wn] * (_ * (_ * (_ * ((rcBlk rm.q (caSay rm.m (wn : Int)).me (caSay rm.m (wn : Int)).clk rm.vv * _) * (_ * (_ * ((IntSl (.slice ad3 L3 cp3) Sd'.clk * _) * _)))))))
      ac_rfl)
  clear hw7 HN6 g3 g4 g5 H5' HQ_
  have HQ2 := Lib.hid hQ2
  clear hQ2
  go_wp2_with fail
  go_loopw [10] (fun iv wr => ∃ i : Nat, i ≤ N ∧ iv = .int .i64 i ∧ Hid (Own w0 (RnP nb (csNet c i (k : Int) (wn : Int)) * (rkBlk p MV nb S2 ((T : Int) + 1) (.slice ad6 n6 cp6) * Q2)) wr)) (fun iv _ => N - (intOf iv).toNat)
  case atStart => exact ⟨0, Nat.zero_le _, rfl, H7⟩
  case round =>
    clear H7
    obtain ⟨i, hi, rfl, HP⟩ := hrel
    by_cases hlt : i < N
    rotate_left
    · have hiN : i = c.mem.length := by rw [HNM.out]; omega
      rw [hiN, HQ2.out] at HP
      have HIN := Lib.hid hiN
      clear hiN
      go_wp2
      go_ret
      refine ⟨by rw [HE0.out]; rfl, ?_⟩
      have h1 := HP.out
      rw [HS2.out, HSD.out, HMV.out, HTT.out, HRM.out] at h1
      exact rk_say_close HE_.out HI.out hkr HE0'.out hwl h1
    obtain ⟨_, c1, _, _, _, _⟩ := HP.out.second.rkb_facts HL2.out
    by_cases hik : i = k
    · have t5 : ((i : Int) != (k : Int)) = false := by rw [bne_eq_false_iff_eq, hik]
      have HS3 : Hid (Own w0 (RnP nb (csNet c (i + 1) (k : Int) (wn : Int)) * (rkBlk p MV nb S2 ((T : Int) + 1) (.slice ad6 n6 cp6) * Q2)) wr) := Lib.hid (by rw [csNet_skip (by rw [hik])]; exact HP.out)
      have HIK := Lib.hid hik
      clear hik
      go_wp2
      go_round
      case rel => exact ⟨i + 1, by omega, by go_num, HS3⟩
      case measure => simp [intOf]; omega
    · have t5 : ((i : Int) != (k : Int)) = true := by rw [bne_iff_ne]; omega
      obtain ⟨s1, s2⟩ := csNet_send HI.out HE0'.out (k := i) (by rw [HNM.out]; exact hlt) (show (i : Int) ≠ (k : Int) by omega)
      have HSN := Lib.hid (rnSend_any nb (csNet c i (k : Int) (wn : Int)) ((k : Int), (i : Int), (wn : Int)) (csNet_I HI.out HE0'.out (by rw [HNM.out]; omega)) HP.out)
      rw [s1, s2] at HSN
      have HIK := Lib.hid hik; have S1 := Lib.hid s1; have S2 := Lib.hid s2
      clear hik s1 s2
      go_wp2_with fail
      refine HSN.out.mono ?_
      rintro e w8 ⟨rfl, ho⟩
      have HP2 := Lib.hid ho
      clear ho HSN c1
      go_wp2
      go_round
      case rel => exact ⟨i + 1, by omega, by go_num, HP2⟩
      case measure => simp [intOf]; omega
set_option maxRecDepth 100000 in
set_option maxHeartbeats 4000000 in
theorem rkSay_any {w0 w : World} {R : HProp} (p : Nat) (c : Cs) (who word : Int) (hI : CsI c) (hb : c.hist.length ≤ 100000) (h : Own w0 (RkP p c * R) w) :
    Calls Tryz.prog 19 #[.pointer (some ⟨p, 0, none⟩), .int .i64 who, .int .i64 word] w fun e w' => e = .returned (.int .i64 (csSayErr c who word : Nat)) ∧ Own w0 (RkP p (csSay c who word) * R) w' := by
  have hcs : (csSayErr c who word = 1 ∨ csSayErr c who word = 7) ∨ (csSayErr c who word = 0 ∨ csSayErr c who word = 4) := by
    unfold csSayErr
    split
    · exact .inl (.inl rfl)
    split
    · exact .inl (.inl rfl)
    split
    · exact .inl (.inr rfl)
    split
    · exact .inr (.inr rfl)
    · exact .inr (.inl rfl)
  rcases hcs with hc | hc
  · have hs : csSay c who word = c := by unfold csSay; rw [if_neg (by omega)]
    rw [hs]
    exact rkSay_no p c who word hI hc h
  · exact rkSay_yes p c who word hI hb hc h
end Go.Proofs.YtdfjbnfdknpahaaGreatDoor
/- The reference's Heard, At. -/
namespace Go.Proofs.YtdfjbnfdknpahaaGreatDoor
set_option linter.unusedVariables false
set_option linter.unusedSimpArgs false
open Go.RowKit
theorem fc_whereIs (p : Int → Bool) : ∀ l : List Int, whereIs p l = whereI p l
  | [] => rfl
  | x :: r => by
    unfold whereIs whereI
    rw [fc_whereIs p r]
set_option maxRecDepth 100000 in
set_option maxHeartbeats 4000000 in
theorem refAt_any (v : Value) (l : List Int) (x : Int) (w : World) (hv : Ints w v l) (hl : l.length ≤ 100000) :
    Calls Tryz.prog 45 #[v, .int .i64 x] w fun e w' => e = .returned (.int .i64 (idxI l x)) ∧ w = w' := by
  obtain ⟨ad, cap, rfl, hlc, hcap⟩ := hv.shape
  have hcap' : cap ≤ 9223372036854775807 := hcap
  obtain ⟨n, hn⟩ : ∃ n, n = l.length := ⟨_, rfl⟩
  rw [← hn] at hv hlc hl ⊢
  have HV := Lib.hid hv; have HN := Lib.hid hn
  clear hv hn
  go_enter Tryz.func45, Tryz.ntmps45
  go_wp2_with fail
  go_loop [5] (fun iv => ∃ i : Nat, i ≤ n ∧ iv = .int .i64 i ∧ Hid (∀ j (_ : j < i) (h : j < l.length), l[j] ≠ x)) (fun iv => n - (intOf iv).toNat)
  case atStart => exact ⟨0, Nat.zero_le _, rfl, Lib.hid (fun j hj => by omega)⟩
  case round =>
    obtain ⟨i, hi, rfl, HP⟩ := hrel
    by_cases hlt : i < n
    rotate_left
    · have hm : idxI l x = -1 := by
        unfold idxI
        rw [fc_whereIs]
        exact whereI_miss _ l (fun j hj => by simpa using HP.out j (by rw [← HN.out] at hj; omega) hj)
      have HM := Lib.hid hm
      clear hm
      go_wp2
      go_ret
      exact ⟨by rw [HM.out]; rfl, rfl⟩
    have hil : i < l.length := by rw [← HN.out]; exact hlt
    obtain ⟨a, ha, hc⟩ := HV.out.at i hil
    subst ha
    obtain ⟨y, hy⟩ : ∃ y, y = l[i] := ⟨_, rfl⟩
    rw [← hy] at hc
    have i0 : (0 : Int) ≤ (i : Int) := by omega
    have i1 : (i : Int) < (n : Int) := by omega
    by_cases he : y = x
    · have hm : idxI l x = i := by
        unfold idxI
        rw [fc_whereIs]
        exact whereI_hit _ l i hil (fun j hj => by simpa using HP.out j hj (by omega)) (by rw [← hy, he]; simp)
      subst he
      have HM := Lib.hid hm; have HY := Lib.hid hy
      clear hm hy
      go_wp2
      go_ret
      exact ⟨by rw [HM.out]; rfl, rfl⟩
    · have t1 : (y == x) = false := by rw [beq_eq_false_iff_ne]; exact he
      have HP2 : Hid (∀ j (_ : j < i + 1) (h : j < l.length), l[j] ≠ x) := Lib.hid (fun j h1 h2 => by
        by_cases e : j = i
        · subst e; rw [← hy]; exact he
        · exact HP.out j (by omega) h2)
      have HY := Lib.hid hy; have HE := Lib.hid he
      clear hy he
      go_wp2
      go_round
      case rel => exact ⟨i + 1, by omega, by go_num, HP2⟩
      case measure => simp [intOf]; omega
set_option maxRecDepth 100000 in
set_option maxHeartbeats 4000000 in
theorem refHeard_any {w0 w : World} {R : HProp} (v : Value) (hs : List Ev) (who : Int) (h : Own w0 R w) (hv : ReadsE w0 R v hs) (hlen : hs.length ≤ 60) :
    Calls Tryz.prog 26 #[v, .int .i64 who] w fun e w' => ∃ v', e = .returned v' ∧ Own w0 (IntSl v' (heardL hs who) * R) w' := by
  obtain ⟨had, hcap, rfl, hc1, hc2⟩ := (hv _ h).shape
  obtain ⟨n, hn⟩ : ∃ n, n = hs.length := ⟨_, rfl⟩
  rw [← hn] at hc1 hlen hv ⊢
  have H := Lib.hid h; have HV := Lib.hid hv; have HN := Lib.hid hn
  clear h hv hn
  go_enter Tryz.func26, Tryz.ntmps26
  go_wp2_with fail
  go_loopw [6, 5] (fun iv ov wr => ∃ k : Nat, k ≤ n ∧ iv = .int .i64 k ∧ Hid (Own w0 (IntSl ov (heardL (hs.take k) who) * R) wr)) (fun iv _ _ => n - (intOf iv).toNat)
  case atStart => exact ⟨0, Nat.zero_le _, rfl, Lib.hid (by rw [List.take_zero]; exact H.out.sl_nil _ _)⟩
  case round =>
    obtain ⟨k, hk, rfl, HO⟩ := hrel
    by_cases hlt : k < n
    rotate_left
    · have ho := HO.out
      rw [List.take_of_length_le (by rw [← HN.out]; omega)] at ho
      have HF := Lib.hid ho
      clear ho
      go_wp2
      go_ret
      exact ⟨_, rfl, HF.out⟩
    have hkl : k < hs.length := by rw [← HN.out]; exact hlt
    obtain ⟨aa, pb, po, ps, rfl, hea, hcs, _⟩ := HV.out.more.at HO.out k hkl
    have hst := heardL_step hs who k hkl
    obtain ⟨out, hout⟩ : ∃ out, out = heardL (hs.take k) who := ⟨_, rfl⟩
    have hol : out.length ≤ 60 := by rw [hout]; have := heardL_len (hs.take k) who; simp at this; omega
    have ho := HO.out
    rw [← hout] at ho hst
    have HO_ := Lib.hid ho
    obtain ⟨x, hx⟩ : ∃ x, x = evAt hs k := ⟨_, rfl⟩
    rw [← hx] at hcs hst
    obtain ⟨c0, c1, c2⟩ := hcs _ HO.out
    obtain ⟨x1, x2, x3⟩ := x
    simp only at c0 c1 c2
    have HA : Hid (Own w0 (Sl 3 1 u5 out.length (out.map (Value.int .i64)) * R) wr) := Lib.hid ho
    have hB : heardB who (x1, x2, x3) = ((x1 == who) && (x2 != 1)) := by unfold heardB; by_cases a1 : x1 = who <;> by_cases a2 : x2 = 1 <;> simp [a1, a2]
    rw [hB] at hst
    have i0 : (0 : Int) ≤ (k : Int) := by omega
    have i1 : (k : Int) < (n : Int) := by omega
    clear ho
    have HCS := Lib.hid hcs; have HX := Lib.hid hx; have HOUT := Lib.hid hout; have HST := Lib.hid hst; have HB := Lib.hid hB
    clear hcs hx hout hst hB
    by_cases h1 : x1 = who
    · have t1 : (x1 == who) = true := by simpa using h1
      by_cases h2 : x2 = 1
      · have t2 : (x2 != 1) = false := by simpa using h2
        have hs2 := HST.out
        rw [t1, t2] at hs2
        simp only [Bool.and_false, Bool.false_eq_true, if_false] at hs2
        have HN2 : Hid (Own w0 (IntSl u5 (heardL (hs.take (k + 1)) who) * R) wr) := Lib.hid (by rw [hs2]; exact HO_.out)
        have H1 := Lib.hid h1; have H2 := Lib.hid h2; have HS2 := Lib.hid hs2
        clear h1 h2 hs2
        go_wp2_with fail
        go_roundw
        case rel => exact ⟨k + 1, by omega, by go_num, HN2⟩
        case measure => simp [intOf]; omega
      · have t2 : (x2 != 1) = true := by simpa using h2
        have hs2 := HST.out
        rw [t1, t2] at hs2
        simp only [Bool.and_true, if_true] at hs2
        have H1 := Lib.hid h1; have H2 := Lib.hid h2; have HS2 := Lib.hid hs2
        clear h1 h2 hs2
        go_wp2_with (at_builtin; refine wpList_app rfl _ _ 57 rfl 3 1 8 _ info_int Tryz.underlying57 rfl (by decide) rfl (HA.out.alloc' _) rfl (by rfl) (Rd_lit (by simp) (by unfold maxLen; omega)) (by intro u hu; simp at hu; subst hu; rfl) (by unfold maxLen; omega) (by omega) ?_; intro v' w4 hown; have HN2 : Hid (Own w0 (IntSl v' (heardL (hs.take (k + 1)) who) * R) w4) := Lib.hid (by rw [HS2.out]; exact hown.perm (show _ = IntSl v' (out ++ [x3]) * R by unfold IntSl; simp)); clear hown)
        go_roundw
        case rel => exact ⟨k + 1, by omega, by go_num, HN2⟩
        case measure => simp [intOf]; omega
    · have hs2 := HST.out
      have t1 : (x1 == who) = false := by simpa using h1
      rw [t1] at hs2
      simp only [Bool.false_and, Bool.false_eq_true, if_false] at hs2
      have HN2 : Hid (Own w0 (IntSl u5 (heardL (hs.take (k + 1)) who) * R) wr) := Lib.hid (by rw [hs2]; exact HO_.out)
      have H1 := Lib.hid h1; have HS2 := Lib.hid hs2
      clear h1 hs2
      go_wp2_with fail
      go_roundw
      case rel => exact ⟨k + 1, by omega, by go_num, HN2⟩
      case measure => simp [intOf]; omega
end Go.Proofs.YtdfjbnfdknpahaaGreatDoor
/- The reference's history: which event is wrong, and how. -/
namespace Go.Proofs.YtdfjbnfdknpahaaGreatDoor
set_option linter.unusedVariables false
set_option linter.unusedSimpArgs false
open Go.RowKit
end Go.Proofs.YtdfjbnfdknpahaaGreatDoor
/- The reference's table of befores, plainly: it is what the program's pasts are. -/
namespace Go.Proofs.YtdfjbnfdknpahaaGreatDoor
set_option linter.unusedVariables false
set_option linter.unusedSimpArgs false
open Go.RowKit
/-- The table in the making: direct ones, as far as row i0 and column k0. -/
def tAll (h : List Ev) (i k : Nat) : Bool := decide (k < h.length) && (decide (i < k) && directB (evAt h i) (evAt h k))
def tIni (h : List Ev) (i0 k0 : Nat) (i k : Nat) : Bool := tAll h i k && (decide (i < i0) || (decide (i = i0) && decide (k < k0)))
def tStage (h : List Ev) : Nat → Nat → Nat → Bool
  | 0, i, k => tAll h i k
  | m + 1, i, k => tStage h m i k || (decide (i < m) && (decide (m < k) && (tStage h m i m && tStage h m m k)))
def tMid (h : List Ev) (m i0 k0 : Nat) (i k : Nat) : Bool := tStage h m i k || (decide (i < m) && (decide (m < k) && (tStage h m i m && tStage h m m k)) && (decide (i < i0) || (decide (i = i0) && decide (k < k0))))
theorem tStage_lt (h : List Ev) : ∀ m i k, tStage h m i k = true → k < h.length ∧ i < k
  | 0, i, k, e => by
    unfold tStage tAll at e
    simp only [Bool.and_eq_true, decide_eq_true_eq] at e
    exact ⟨e.1, e.2.1⟩
  | m + 1, i, k, e => by
    unfold tStage at e
    simp only [Bool.or_eq_true, Bool.and_eq_true, decide_eq_true_eq] at e
    rcases e with e | ⟨e1, e2, e3, e4⟩
    · exact tStage_lt h m i k e
    · exact ⟨(tStage_lt h m m k e4).1, by omega⟩
theorem tStage_bef (h : List Ev) : ∀ m i k, tStage h m i k = true → bef h k i = true
  | 0, i, k, e => by
    have hl := tStage_lt h 0 i k e
    unfold tStage tAll at e
    simp only [Bool.and_eq_true, decide_eq_true_eq] at e
    exact (bef_iff h k i hl.1).2 ⟨i, hl.2, e.2.2, .inl rfl⟩
  | m + 1, i, k, e => by
    unfold tStage at e
    simp only [Bool.or_eq_true, Bool.and_eq_true, decide_eq_true_eq] at e
    rcases e with e | ⟨e1, e2, e3, e4⟩
    · exact tStage_bef h m i k e
    · exact bef_trans h k m i (tStage_bef h m m k e4) (tStage_bef h m i m e3)
theorem tStage_mono (h : List Ev) (i k : Nat) : ∀ s t, s ≤ t → tStage h s i k = true → tStage h t i k = true := by
  intro s t hst e
  induction t with
  | zero =>
    have : s = 0 := by omega
    subst this; exact e
  | succ t ih =>
    by_cases hs : s = t + 1
    · subst hs; exact e
    · unfold tStage
      rw [ih (by omega), Bool.true_or]
theorem bef_tStage (h : List Ev) : ∀ k, k < h.length → ∀ i, bef h k i = true → ∀ s, k ≤ s → tStage h s i k = true := by
  intro k
  induction k using Nat.strongRecOn with
  | ind k ih =>
    intro hk i hb s hs
    obtain ⟨m, hm, hd, hc⟩ := (bef_iff h k i hk).1 hb
    have h0 : tStage h 0 m k = true := by
      unfold tStage tAll
      simp only [Bool.and_eq_true, decide_eq_true_eq]
      exact ⟨hk, hm, hd⟩
    rcases hc with rfl | hc
    · exact tStage_mono h m k 0 s (Nat.zero_le _) h0
    · have h1 := ih m hm (by omega) i hc m (Nat.le_refl _)
      have h2 := tStage_mono h m k 0 m (Nat.zero_le _) h0
      have hi := (tStage_lt h m i m h1).2
      refine tStage_mono h i k (m + 1) s (by omega) ?_
      unfold tStage
      rw [h1, h2]
      simp only [Bool.and_self, Bool.and_true, Bool.or_eq_true, Bool.and_eq_true, decide_eq_true_eq]
      exact .inr ⟨hi, hm⟩
theorem tStage_all (h : List Ev) (i k : Nat) : tStage h h.length i k = bef h k i := by
  rw [Bool.eq_iff_iff]
  refine ⟨tStage_bef h _ i k, fun hb => ?_⟩
  by_cases hk : k < h.length
  · exact bef_tStage h k hk i hb _ (by omega)
  · rw [bef_none h k i (by omega)] at hb; cases hb
/-! The tables, step by step -/
theorem tIni_zero (h : List Ev) (i k : Nat) : tIni h 0 0 i k = false := by unfold tIni; simp
theorem tIni_row (h : List Ev) (i0 i k : Nat) : tIni h i0 h.length i k = tIni h (i0 + 1) 0 i k := by
  unfold tIni tAll
  by_cases hk : k < h.length
  · rw [decide_eq_true hk]
    by_cases h1 : i < i0
    · rw [decide_eq_true h1, decide_eq_true (show i < i0 + 1 by omega)]; simp
    · by_cases h2 : i = i0
      · rw [decide_eq_false h1, decide_eq_true h2, decide_eq_true (show i < i0 + 1 by omega)]; simp
      · rw [decide_eq_false h1, decide_eq_false h2, decide_eq_false (show ¬ i < i0 + 1 by omega)]; simp
  · rw [decide_eq_false hk]; simp
theorem tIni_all (h : List Ev) (i k : Nat) : tIni h h.length 0 i k = tStage h 0 i k := by
  unfold tIni tStage
  by_cases hk : tAll h i k = true
  · have := tStage_lt h 0 i k hk
    rw [hk, decide_eq_true (show i < h.length by omega)]; simp
  · rw [Bool.eq_false_iff.2 hk]; simp
theorem tIni_step (h : List Ev) (i0 k0 i k : Nat) : tIni h i0 (k0 + 1) i k = if i = i0 ∧ k = k0 then tAll h i0 k0 else tIni h i0 k0 i k := by
  unfold tIni
  by_cases h1 : i = i0 ∧ k = k0
  · rw [if_pos h1, h1.1, h1.2]; simp
  · rw [if_neg h1]
    congr 2
    by_cases h2 : i = i0
    · rw [decide_eq_true h2, Bool.true_and, Bool.true_and]
      by_cases h3 : k < k0
      · rw [decide_eq_true h3, decide_eq_true (show k < k0 + 1 by omega)]
      · have : k ≠ k0 := fun e => h1 ⟨h2, e⟩
        rw [decide_eq_false h3, decide_eq_false (show ¬ k < k0 + 1 by omega)]
    · rw [decide_eq_false h2, Bool.false_and, Bool.false_and]
theorem tMid_zero (h : List Ev) (m i k : Nat) : tMid h m 0 0 i k = tStage h m i k := by unfold tMid; simp
theorem tMid_row (h : List Ev) (m i0 i k : Nat) : tMid h m i0 h.length i k = tMid h m (i0 + 1) 0 i k := by
  unfold tMid
  by_cases hk : k < h.length
  · rw [decide_eq_true hk]
    by_cases h1 : i < i0
    · rw [decide_eq_true h1, decide_eq_true (show i < i0 + 1 by omega)]; simp
    · by_cases h2 : i = i0
      · rw [decide_eq_false h1, decide_eq_true h2, decide_eq_true (show i < i0 + 1 by omega)]; simp
      · rw [decide_eq_false h1, decide_eq_false h2, decide_eq_false (show ¬ i < i0 + 1 by omega)]; simp
  · cases h3 : tStage h m m k
    · simp
    · exact absurd (tStage_lt h m m k h3).1 hk
theorem tMid_all (h : List Ev) (m i k : Nat) : tMid h m m 0 i k = tStage h (m + 1) i k := by
  unfold tMid
  conv => rhs; unfold tStage
  congr 1
  by_cases h1 : i < m
  · rw [decide_eq_true h1]; simp
  · rw [decide_eq_false h1]; simp
theorem tMid_step (h : List Ev) (m i0 k0 i k : Nat) (hi : i0 < m) (hk : m < k0) (h1 : tStage h m i0 m = true) : tMid h m i0 (k0 + 1) i k = if i = i0 ∧ k = k0 then (tMid h m i0 k0 i0 k0 || tStage h m m k0) else tMid h m i0 k0 i k := by
  unfold tMid
  by_cases h2 : i = i0 ∧ k = k0
  · rw [if_pos h2, h2.1, h2.2, h1]; simp [hi, hk]
  · rw [if_neg h2]
    congr 3
    by_cases h3 : i = i0
    · rw [decide_eq_true h3, Bool.true_and, Bool.true_and]
      by_cases h4 : k < k0
      · rw [decide_eq_true h4, decide_eq_true (show k < k0 + 1 by omega)]
      · have : k ≠ k0 := fun e => h2 ⟨h3, e⟩
        rw [decide_eq_false h4, decide_eq_false (show ¬ k < k0 + 1 by omega)]
    · rw [decide_eq_false h3, Bool.false_and, Bool.false_and]
theorem tMid_low (h : List Ev) (m i0 k0 i k : Nat) (hk : k ≤ m) : tMid h m i0 k0 i k = tStage h m i k := by
  unfold tMid
  rw [decide_eq_false (show ¬ m < k by omega)]; simp
theorem tMid_own (h : List Ev) (m i0 k0 k : Nat) : tMid h m i0 k0 m k = tStage h m m k := by
  unfold tMid
  rw [decide_eq_false (show ¬ m < m by omega)]; simp
theorem tMid_skip (h : List Ev) (m i0 i k : Nat) (h1 : tStage h m i0 m = false) : tMid h m i0 0 i k = tMid h m (i0 + 1) 0 i k := by
  unfold tMid
  by_cases h2 : i = i0
  · rw [h2, h1]; simp
  · by_cases h3 : i < i0
    · rw [decide_eq_true h3, decide_eq_true (show i < i0 + 1 by omega)]; simp
    · rw [decide_eq_false h3, decide_eq_false (show ¬ i < i0 + 1 by omega)]; simp
theorem tMid_first (h : List Ev) (m i0 i k : Nat) : tMid h m i0 (m + 1) i k = tMid h m i0 0 i k := by
  unfold tMid
  by_cases hk : m < k
  · rw [decide_eq_false (show ¬ k < m + 1 by omega)]; simp
  · rw [decide_eq_false hk]; simp
theorem tIni_first (h : List Ev) (i0 i k : Nat) : tIni h i0 (i0 + 1) i k = tIni h i0 0 i k := by
  unfold tIni
  cases ht : tAll h i k
  · simp
  · have h1 := (tStage_lt h 0 i k ht).2
    by_cases h2 : i = i0
    · rw [decide_eq_false (show ¬ k < i0 + 1 by omega)]; simp
    · rw [decide_eq_false h2]; simp
end Go.Proofs.YtdfjbnfdknpahaaGreatDoor
