/- The reference's Cast: Say, of a word that may be said. -/
import Derived.Test.YtldmdenojpnldaaDoorMCastPlays18
import Derived.Test.YtldmdenojpnldaaDoorMCastPlays2
import Derived.LaidEql
import Derived.Stop.Asserts
import Derived.RowKitTokens
namespace Go.Proofs.YtldmdenojpnldaaDoor
set_option linter.unusedVariables false
set_option linter.unusedSimpArgs false
open Go.RowKit Go.Maps
set_option maxRecDepth 100000 in
set_option maxHeartbeats 4000000 in
theorem rkSay_yes {w0 w : World} {R : HProp} (p : Nat) (c : Cs) (who word : Int) (hI : CsI c) (hb : c.hist.length ≤ 100000) (hE : csSayErr c who word = 0 ∨ csSayErr c who word = 4) (h : Own w0 (RkP p c * R) w) :
    Calls Tryd.prog 40 #[.pointer (some ⟨p, 0, none⟩), .int .i64 who, .int .i64 word] w fun e w' => e = .returned (.int .i64 (csSayErr c who word : Nat)) ∧ Own w0 (RkP p (csSay c who word) * R) w' := by
  obtain ⟨mb, off, cap, nb, hv, S, rms, he, ho⟩ := h.rk_open
  obtain ⟨c0, c1, c2, c3, cf, c5, hc1, hc2⟩ := ho.rk_facts he
  have hsx := (ho.rk_blk.rkb_facts he.len).2.2.2.2.2
  have hn2 := hI.n2
  have hn5 := hI.n5
  rw [← he.memLen] at hn2 hn5
  obtain ⟨N, hN⟩ : ∃ N, N = rms.length := ⟨_, rfl⟩
  rw [← hN] at c0 hn2 hn5 hc1
  have hNm : c.mem.length = N := by rw [← he.memLen, hN]
  obtain ⟨E, hE'⟩ : ∃ E, E = csSayErr c who word := ⟨_, rfl⟩
  have hEE := hE'
  rw [← hE'] at hE ⊢
  unfold csSayErr at hE'
  rw [hNm] at hE'
  have hin : inR who N = true := by
    cases hi : inR who N
    · rw [if_pos hi] at hE'; omega
    · rfl
  rw [if_neg (by rw [hin]; simp)] at hE'
  have hwd : isWord word = true := by
    cases hi : isWord word
    · rw [if_pos hi] at hE'; omega
    · rfl
  rw [if_neg (by rw [hwd]; simp)] at hE'
  have hsm : (mget c.said word).isSome = false := by
    cases hi : (mget c.said word).isSome
    · rfl
    · rw [hi, if_pos rfl] at hE'; omega
  rw [hsm, if_neg (by simp)] at hE'
  have hib : 0 ≤ who ∧ who < (N : Int) := by unfold inR at hin; simpa using hin
  have hwb : 1 ≤ word ∧ word ≤ 30 := by simpa [isWord] using hwd
  obtain ⟨k, rfl⟩ : ∃ k : Nat, who = (k : Int) := ⟨who.toNat, by omega⟩
  have hkN : k < N := by omega
  obtain ⟨wn, rfl⟩ : ∃ wn : Nat, word = (wn : Int) := ⟨word.toNat, by omega⟩
  have hwl : wn < S.length := by rw [he.len]; omega
  obtain ⟨s0, s1, s2⟩ := hsx wn hwl
  have hsw : S[wn].2.word = 0 := by rw [he.said wn hwl, csSd_word hI, hsm]; rfl
  rw [hsw] at s1
  have w0' : (0 : Int) ≤ (wn : Int) := by omega
  have w31 : (wn : Int) < 31 := by omega
  obtain ⟨nad, ncap, B, hB, _, _, hnt⟩ := ho.rk_net.rn_open
  have n0 := (hnt.rn_facts).1
  obtain ⟨A, hA⟩ : ∃ A, A = c.net.all.length := ⟨_, rfl⟩
  rw [← hA] at n0
  have hA40 : A ≤ 40 := by rw [hA]; exact hI.net.len
  obtain ⟨T, hT⟩ : ∃ T, T = c.said.length := ⟨_, rfl⟩
  have hT30 : T ≤ 30 := by rw [hT]; exact hI.saidLen
  rw [← hT] at c2
  rw [← hA, ← hT] at hE'
  obtain ⟨M, hM⟩ : ∃ M, M = (T + 1) * N := ⟨_, rfl⟩
  have hM155 : M ≤ 155 := by rw [hM]; exact Nat.mul_le_mul (show T + 1 ≤ 31 by omega) hn5
  have hMi : ((T : Int) + 1) * (N : Int) = (M : Int) := by rw [hM]; simp
  rw [← hM] at hE'
  have HOI := Lib.hid ho
  have HE_ := Lib.hid he
  have HEE := Lib.hid hEE
  have HEP := Lib.hid hE'
  have HMD := Lib.hid hM
  have HA' := Lib.hid hA
  have HN' := Lib.hid hN
  have HTT := Lib.hid hT
  clear he ho hEE hE' hM hA hN hsx hnt hB hT
  have hcs : (40 < A + N - 1) ∨ (¬ 40 < A + N - 1 ∧ 60 < M) ∨ (¬ 40 < A + N - 1 ∧ ¬ 60 < M) := by omega
  rcases hcs with h1 | ⟨h1, h2⟩ | ⟨h1, h2⟩
  · have t3 : decide ((40 : Int) < (A : Int) + (N : Int) - 1) = true := decide_eq_true (by omega)
    have hE4 : E = 4 := by rw [HEP.out, if_pos (.inl h1)]
    have hsay : csSay c (k : Int) (wn : Int) = c := by unfold csSay; rw [if_neg (by rw [← HEE.out, hE4]; simp)]
    clear cf c5
    have H := Lib.hid h; have HI := Lib.hid hI; have HE := Lib.hid hE; have HNM := Lib.hid hNm; have HWD := Lib.hid hwd; have HSM := Lib.hid hsm; have HIN := Lib.hid hin; have HSW := Lib.hid hsw; have H1 := Lib.hid h1; have HE4 := Lib.hid hE4; have HSAY := Lib.hid hsay
    clear h hI hE hNm hwd hsm hin hsw h1 hE4 hsay
    go_enter Tryd.func40, Tryd.ntmps40
    go_wp2
    go_ret
    exact ⟨by rw [HE4.out]; rfl, by rw [HSAY.out]; exact H.out⟩
  · have t3 : decide ((40 : Int) < (A : Int) + (N : Int) - 1) = false := decide_eq_false (by omega)
    have t4 : decide ((60 : Int) < (M : Int)) = true := decide_eq_true (by omega)
    have hE4 : E = 4 := by rw [HEP.out, if_pos (.inr h2)]
    have hsay : csSay c (k : Int) (wn : Int) = c := by unfold csSay; rw [if_neg (by rw [← HEE.out, hE4]; simp)]
    clear cf c5
    have H := Lib.hid h; have HI := Lib.hid hI; have HE := Lib.hid hE; have HNM := Lib.hid hNm; have HWD := Lib.hid hwd; have HSM := Lib.hid hsm; have HIN := Lib.hid hin; have HSW := Lib.hid hsw; have H1 := Lib.hid h1; have H2 := Lib.hid h2; have HE4 := Lib.hid hE4; have HSAY := Lib.hid hsay
    clear h hI hE hNm hwd hsm hin hsw h1 h2 hE4 hsay
    go_enter Tryd.func40, Tryd.ntmps40
    go_wp2
    go_ret
    exact ⟨by rw [HE4.out]; rfl, by rw [HSAY.out]; exact H.out⟩
  have t3 : decide ((40 : Int) < (A : Int) + (N : Int) - 1) = false := decide_eq_false (by omega)
  have t4 : decide ((60 : Int) < (M : Int)) = false := decide_eq_false (by omega)
  have hE0 : E = 0 := by rw [HEP.out, if_neg (by omega)]
  have hE0' : csSayErr c (k : Int) (wn : Int) = 0 := by rw [← HEE.out, hE0]
  have hkr : k < rms.length := by rw [← HN'.out]; exact hkN
  have hkm : k < c.mem.length := by rw [hNm]; exact hkN
  have hmk : c.mem[k] = rms[k].m := by
    have e : c.mem[k]? = some rms[k].m := by rw [← HE_.out.mem, List.getElem?_map, List.getElem?_eq_getElem hkr]; rfl
    exact (List.getElem?_eq_some_iff.1 e).2
  have hmI : CaI rms[k].m := by rw [← hmk]; exact (hI.mem k hkm).ok
  have hs0 : caSayErr rms[k].m (wn : Int) = 0 := by rw [← hmk]; exact hI.caSay0 hkm hwd
  obtain ⟨rm, hrm⟩ : ∃ r, r = rms[k] := ⟨_, rfl⟩
  have e5 : w.cell? ⟨mb, off + k, none⟩ = some (.pointer (some ⟨rm.q, 0, none⟩)) := by rw [hrm]; exact c5 k rms[k] (by simp [hkr])
  have hsok := caSaid_ok hmI hs0
  obtain ⟨Sd', hSd⟩ : ∃ s, s = caSaid rms[k].m (wn : Int) := ⟨_, rfl⟩
  rw [← hSd] at hsok
  have hSI := vecErr_I64 (sdErr0 hsok).2.2
  have k0 : (0 : Int) ≤ (k : Int) := by omega
  have kN : (k : Int) < (N : Int) := by omega
  have f95 := cf 95 none
  -- one more
  have HO1 : Hid (Own w0 (rkBlk p (.slice (some ⟨mb, off, none⟩) rms.length cap) nb S ((T : Int) + 1) hv * (TabO rmP rmV 66 mb off cap rms * (RnP nb c.net * (starL sdRow S * (EvSl hv c.hist * R))))) (w.setCell ⟨p, 95, none⟩ (.int .i64 ((T : Int) + 1)))) := Lib.hid (by
    have h9 := HOI.out.rk_blk.rkb_many HE_.out.len ((T : Int) + 1)
    exact h9)
  obtain ⟨w1, hw1⟩ : ∃ x, x = w.setCell ⟨p, 95, none⟩ (.int .i64 ((T : Int) + 1)) := ⟨_, rfl⟩
  rw [← hw1] at HO1
  obtain ⟨d0, d1, _, d3, df, _⟩ := HO1.out.rkb_facts HE_.out.len
  rw [← HN'.out] at d0
  have ht : Own w0 (rmP rm * (SlAt 66 1 mb off rms.length cap (rms.map rmV) * (starL rmP (rms.eraseIdx k) * (rkBlk p (.slice (some ⟨mb, off, none⟩) rms.length cap) nb S ((T : Int) + 1) hv * (RnP nb c.net * (starL sdRow S * (EvSl hv c.hist * R))))))) w1 := by
    rw [hrm]
    exact HO1.out.second.tab_take hkr
  have e5' : w1.cell? ⟨mb, off + k, none⟩ = some (.pointer (some ⟨rm.q, 0, none⟩)) := by
    have h9 := HO1.out.second.tab_facts
    rw [hrm]; exact h9.1 k rms[k] (by simp [hkr])
  have HT : Hid (Own w0 (rcBlk rm.q rm.m.me rm.m.clk rm.vv * (Sl 56 3 rm.vv rm.rows.length (rm.rows.flatMap sdCells) * (SlAt 66 1 mb off rms.length cap (rms.map rmV) * (starL rmP (rms.eraseIdx k) * (rkBlk p (.slice (some ⟨mb, off, none⟩) rms.length cap) nb S ((T : Int) + 1) hv * (RnP nb c.net * (starL sdRow S * (EvSl hv c.hist * R)))))))) w1) := Lib.hid (ht.perm (by unfold rmP RcO; ac_rfl))
  have HSY := Lib.hid (rcSay_any rm.q rm.m rm.vv (wn : Int) (by rw [hrm]; exact hmI) HT.out)
  rw [hrm, ← hSd, hs0] at HSY
  rw [← hrm] at HSY
  have HRM := Lib.hid hrm
  clear c5 cf ht hrm df
  have H := Lib.hid h; have HI := Lib.hid hI; have HE := Lib.hid hE; have HNM := Lib.hid hNm; have HWD := Lib.hid hwd; have HSM := Lib.hid hsm; have HIN := Lib.hid hin; have HSW := Lib.hid hsw; have H1 := Lib.hid h1; have H2 := Lib.hid h2; have HE0 := Lib.hid hE0; have HE0' := Lib.hid hE0'; have HMK := Lib.hid hmk; have HMI := Lib.hid hmI; have HS0 := Lib.hid hs0; have HSOK := Lib.hid hsok; have HSD := Lib.hid hSd; have HSI := Lib.hid hSI
  clear h hI hE hNm hwd hsm hin hsw h1 h2 hE0 hE0' hmk hmI hs0 hsok hSd hSI
  go_enter Tryd.func40, Tryd.ntmps40
  go_upto_region 9 with fail
  rw [← hw1]
  clear hw1 c0 c1 c2 c3 e5 f95 n0 s0 s1 s2
  go_wp2_with fail
  refine HSY.out.mono ?_
  rintro e w3 ⟨v3, rfl, ho⟩
  obtain ⟨ad3, cp3, rfl⟩ := Own.int_shape ho
  obtain ⟨L3, hL3⟩ : ∃ L, L = Sd'.clk.length := ⟨_, rfl⟩
  rw [← hL3] at ho ⊢
  obtain ⟨b10, hb_b10⟩ : ∃ zz_, zz_ = (w3).heap.size := ⟨_, rfl⟩
  obtain ⟨w4, hw_w4⟩ : ∃ zz_, zz_ = (w3).alloc (.cells #[.int .i64 Sd'.who, .int .i64 Sd'.word, .slice ad3 L3 cp3] 56 (0, 0)) := ⟨_, rfl⟩
  have h_HB4 := (ho).alloc (.cells #[.int .i64 Sd'.who, .int .i64 Sd'.word, .slice ad3 L3 cp3] 56 (0, 0))
  rw [← hb_b10, ← hw_w4] at h_HB4
  have HB4 := Lib.hid h_HB4
  clear h_HB4
  obtain ⟨z0, z1, z2, _⟩ := (show Own w0 (SdO b10 Sd'.who Sd'.word (.slice ad3 L3 cp3) * _) w4 from HB4.out).sd
  obtain ⟨MV, hMV⟩ : ∃ v, v = Value.slice (some ⟨mb, off, none⟩) rms.length cap := ⟨_, rfl⟩
  rw [← hMV] at HB4
  have H4 : Hid (Own w0 (rkBlk p MV nb S ((T : Int) + 1) hv * (SdO b10 Sd'.who Sd'.word (.slice ad3 L3 cp3) * (IntSl (.slice ad3 L3 cp3) Sd'.clk * (rcBlk rm.q (caSay rm.m (wn : Int)).me (caSay rm.m (wn : Int)).clk rm.vv * (Sl 56 3 rm.vv rm.rows.length (rm.rows.flatMap sdCells) * (SlAt 66 1 mb off rms.length cap (rms.map rmV) * (starL rmP (rms.eraseIdx k) * (RnP nb c.net * (starL sdRow S * (EvSl hv c.hist * R)))))))))) w4) := Lib.hid (HB4.out.perm (by
    unfold SdO rkBlk
    ac_rfl))
  obtain ⟨_, _, _, _, gf, gx⟩ := H4.out.rkb_facts HE_.out.len
  obtain ⟨g0, g1, g2⟩ := gx wn hwl
  have gf0 := gf (2 + wn * 3) none
  have gf1 := gf (2 + wn * 3 + 1) none
  have gf2 := gf (2 + wn * 3 + 2) none
  have HS5 := Lib.hid (H4.out.rkb_sd hwl (.slice ad3 L3 cp3, Sd')).drew
  clear ho HB4 HT HSY d0 d1 d3 e5' gf gx H4
  have HMV := Lib.hid hMV
  clear hMV
  have HL3 := Lib.hid hL3
  clear hL3
  go_upto_region 10 with fail
  rw [← hb_b10, ← hw_w4]
  clear hb_b10 hw_w4
  refine wp_region_tail 5 (by kernel_rfl) (by kernel_rfl) ?_
  simp only [List.take_succ_cons, List.take_zero, List.drop_succ_cons, List.drop_zero]
  repeat still_step
  refine wpStill_nil ?_
  go_upto_region 11 with fail
  generalize hW5 : (World.drew (World.setCell _ _ _)) = W5 at HS5 ⊢
  clear hW5 g0 g1 g2 gf0 gf1 gf2 z0 z1 z2
  obtain ⟨S2, hS2⟩ : ∃ S2, S2 = S.set wn (.slice ad3 L3 cp3, Sd') := ⟨_, rfl⟩
  rw [← hS2] at HS5
  have hl2 : S2.length = 31 := by rw [hS2, List.length_set]; exact HE_.out.len
  obtain ⟨Q, hQ⟩ : ∃ Q, Q = SdO b10 Sd'.who Sd'.word (.slice ad3 L3 cp3) * (IntSl (.slice ad3 L3 cp3) Sd'.clk * (rcBlk rm.q (caSay rm.m (wn : Int)).me (caSay rm.m (wn : Int)).clk rm.vv * (Sl 56 3 rm.vv rm.rows.length (rm.rows.flatMap sdCells) * (SlAt 66 1 mb off rms.length cap (rms.map rmV) * (starL rmP (rms.eraseIdx k) * (RnP nb c.net * (starL sdRow S * R))))))) := ⟨_, rfl⟩
  have H5 : Hid (Own w0 (EvSl hv c.hist * (rkBlk p MV nb S2 ((T : Int) + 1) hv * Q)) W5) := Lib.hid (HS5.out.perm (by rw [hQ]; unfold rkBlk; ac_rfl))
  clear HS5
  have g3 : W5.cell? ⟨p, 96, none⟩ = some hv := (H5.out.second.rkb_facts hl2).2.2.2.1
  obtain ⟨had, hcp, hhv, _⟩ := Own.rd H5.out
  obtain ⟨LH, hLH⟩ : ∃ L, L = c.hist.length := ⟨_, rfl⟩
  rw [← hLH] at hhv hb
  have HLH := Lib.hid hLH
  have H5' : Hid (Own w0 (Sl 102 3 (.slice had LH hcp) LH (c.hist.flatMap evCells) * (rkBlk p MV nb S2 ((T : Int) + 1) (.slice had LH hcp) * Q)) W5) := Lib.hid (by
    have h1 := H5.out
    unfold EvSl at h1
    rw [hhv, ← hLH] at h1
    exact h1)
  rw [hhv] at g3
  clear hhv hLH H5
  have HQ_ := Lib.hid hQ
  have HS2 := Lib.hid hS2
  have HL2 := Lib.hid hl2
  clear hQ hS2 hl2
  go_upto_block 0 with (at_builtin; refine wpList_app rfl _ _ 88 rfl 102 3 24 _ info_ev Tryd.underlying88 rfl (by decide) rfl (H5'.out.alloc' _) rfl (by rfl) (Rd_lit (by simp) (by unfold maxLen; omega)) (by intro u hu; simp at hu; rcases hu with rfl | rfl | rfl <;> rfl) (by unfold maxLen; omega) (by omega) ?_; intro v6 w6 hown; obtain ⟨ad6, n6, cp6, hv6⟩ := sl_shape hown; have g4 := (hown.second.rkb_facts HL2.out).2.2.2.1; have g5 := (hown.second.rkb_facts HL2.out).2.2.2.2.1 96 none; have HN6 := Lib.hid (hown.second.rkb_hist HL2.out v6); subst hv6; clear hown)
  obtain ⟨w7, hw7⟩ : ∃ x, x = w6.setCell ⟨p, 96, none⟩ (.slice ad6 n6 cp6) := ⟨_, rfl⟩
  rw [← hw7] at HN6 ⊢
  obtain ⟨Q2, hQ2⟩ : ∃ Q2, Q2 = rmP ⟨rm.q, rm.vv, rm.rows, caSay rm.m (wn : Int)⟩ * (SlAt 66 1 mb off rms.length cap (rms.map rmV) * (starL rmP (rms.eraseIdx k) * (starL sdRow S2 * (EvSl (.slice ad6 n6 cp6) (c.hist ++ [((k : Int), 2, (wn : Int))]) * R)))) := ⟨_, rfl⟩
  have H7 : Hid (Own w0 (RnP nb (csNet c 0 (k : Int) (wn : Int)) * (rkBlk p MV nb S2 ((T : Int) + 1) (.slice ad6 n6 cp6) * Q2)) w7) := Lib.hid (by
    have e1 : Sl 102 3 (.slice ad6 n6 cp6) (LH + 1) (c.hist.flatMap evCells ++ [.int .i64 (k : Int), .int .i64 2, .int .i64 (wn : Int)]) = EvSl (.slice ad6 n6 cp6) (c.hist ++ [((k : Int), 2, (wn : Int))]) := by
      unfold EvSl
      rw [List.length_append, List.flatMap_append, HLH.out]
      rfl
    have e2 : starL sdRow S2 = sdRow (.slice ad3 L3 cp3, Sd') * starL sdRow (S.eraseIdx wn) := by rw [HS2.out]; exact starL_set sdRow S wn hwl _
    have h1 := HN6.out
    rw [HQ_.out, starL_split sdRow S wn hwl] at h1
    rw [hQ2, csNet0, e2, ← e1]
    have h2 := (h1.perm (show _ = sdRow S[wn] * (SdO b10 Sd'.who Sd'.word (.slice ad3 L3 cp3) * (RnP nb c.net * (rkBlk p MV nb S2 ((T : Int) + 1) (.slice ad6 n6 cp6) * (rmP ⟨rm.q, rm.vv, rm.rows, caSay rm.m (wn : Int)⟩ * (SlAt 66 1 mb off rms.length cap (rms.map rmV) * (starL rmP (rms.eraseIdx k) * ((sdRow (.slice ad3 L3 cp3, Sd') * starL sdRow (S.eraseIdx wn)) * (Sl 102 3 (.slice ad6 n6 cp6) (LH + 1) (c.hist.flatMap evCells ++ [.int .i64 (k : Int), .int .i64 2, .int .i64 (wn : Int)]) * R)))))))) from ?_)).drop.drop
    · exact h2
    · unfold rmP RcO
      show _ = sdRow S[wn] * (_ * (_ * (_ * ((rcBlk rm.q (caSay rm.m (wn : Int)).me (caSay rm.m (wn : Int)).clk rm.vv * _) * (_ * (_ * ((IntSl (.slice ad3 L3 cp3) Sd'.clk * _) * _)))))))
      ac_rfl)
  clear hw7 HN6 g3 g4 g5 H5' HQ_
  have HQ2 := Lib.hid hQ2
  clear hQ2
  go_wp2_with fail
  go_loopw [10] (fun iv wr => ∃ i : Nat, i ≤ N ∧ iv = .int .i64 i ∧ Hid (Own w0 (RnP nb (csNet c i (k : Int) (wn : Int)) * (rkBlk p MV nb S2 ((T : Int) + 1) (.slice ad6 n6 cp6) * Q2)) wr)) (fun iv _ => N - (intOf iv).toNat)
  case atStart => exact ⟨0, Nat.zero_le _, rfl, H7⟩
  case round =>
    clear H7
    obtain ⟨i, hi, rfl, HP⟩ := hrel
    by_cases hlt : i < N
    rotate_left
    · have hiN : i = c.mem.length := by rw [HNM.out]; omega
      rw [hiN, HQ2.out] at HP
      have HIN := Lib.hid hiN
      clear hiN
      go_wp2
      go_ret
      refine ⟨by rw [HE0.out]; rfl, ?_⟩
      have h1 := HP.out
      rw [HS2.out, HSD.out, HMV.out, HTT.out, HRM.out] at h1
      exact rk_say_close HE_.out HI.out hkr HE0'.out hwl h1
    obtain ⟨_, c1, _, _, _, _⟩ := HP.out.second.rkb_facts HL2.out
    by_cases hik : i = k
    · have t5 : ((i : Int) != (k : Int)) = false := by rw [bne_eq_false_iff_eq, hik]
      have HS3 : Hid (Own w0 (RnP nb (csNet c (i + 1) (k : Int) (wn : Int)) * (rkBlk p MV nb S2 ((T : Int) + 1) (.slice ad6 n6 cp6) * Q2)) wr) := Lib.hid (by rw [csNet_skip (by rw [hik])]; exact HP.out)
      have HIK := Lib.hid hik
      clear hik
      go_wp2
      go_round
      case rel => exact ⟨i + 1, by omega, by go_num, HS3⟩
      case measure => simp [intOf]; omega
    · have t5 : ((i : Int) != (k : Int)) = true := by rw [bne_iff_ne]; omega
      obtain ⟨s1, s2⟩ := csNet_send HI.out HE0'.out (k := i) (by rw [HNM.out]; exact hlt) (show (i : Int) ≠ (k : Int) by omega)
      have HSN := Lib.hid (rnSend_any nb (csNet c i (k : Int) (wn : Int)) ((k : Int), (i : Int), (wn : Int)) (csNet_I HI.out HE0'.out (by rw [HNM.out]; omega)) HP.out)
      rw [s1, s2] at HSN
      have HIK := Lib.hid hik; have S1 := Lib.hid s1; have S2 := Lib.hid s2
      clear hik s1 s2
      go_wp2_with fail
      refine HSN.out.mono ?_
      rintro e w8 ⟨rfl, ho⟩
      have HP2 := Lib.hid ho
      clear ho HSN c1
      go_wp2
      go_round
      case rel => exact ⟨i + 1, by omega, by go_num, HP2⟩
      case measure => simp [intOf]; omega
set_option maxRecDepth 100000 in
set_option maxHeartbeats 4000000 in
theorem rkSay_any {w0 w : World} {R : HProp} (p : Nat) (c : Cs) (who word : Int) (hI : CsI c) (hb : c.hist.length ≤ 100000) (h : Own w0 (RkP p c * R) w) :
    Calls Tryd.prog 40 #[.pointer (some ⟨p, 0, none⟩), .int .i64 who, .int .i64 word] w fun e w' => e = .returned (.int .i64 (csSayErr c who word : Nat)) ∧ Own w0 (RkP p (csSay c who word) * R) w' := by
  have hcs : (csSayErr c who word = 1 ∨ csSayErr c who word = 7) ∨ (csSayErr c who word = 0 ∨ csSayErr c who word = 4) := by
    unfold csSayErr
    split
    · exact .inl (.inl rfl)
    split
    · exact .inl (.inl rfl)
    split
    · exact .inl (.inr rfl)
    split
    · exact .inr (.inr rfl)
    · exact .inr (.inl rfl)
  rcases hcs with hc | hc
  · have hs : csSay c who word = c := by unfold csSay; rw [if_neg (by omega)]
    rw [hs]
    exact rkSay_no p c who word hI hc h
  · exact rkSay_yes p c who word hI hb hc h
end Go.Proofs.YtldmdenojpnldaaDoor
/- errors.As at a number of api, and what plain.Told makes of an error: its number. (After the guide's Toyas example, at a target that is a number.) -/
namespace Go.Proofs.YtldmdenojpnldaaDoor
open Go.RowKit Go.Extern.Stop Go.Stop Go.Extern
set_option linter.unusedVariables false
namespace As
/-- The variable errors.errorType holds the handle of the type error. -/
def Handle (w : World) : Prop := w.cell? ⟨0, 0, none⟩ = some (.iface 199 (.agg #[.pointer (some ⟨1, 29, none⟩)]))
theorem valueOfT (t : Addr) (w : World) : (ReflectliteValue.unpack (.iface 150 (.pointer (some t)))).run Tryd.prog w
    = .ok (.agg #[.pointer (some ⟨1, 150, none⟩), .pointer (some ⟨w.heap.size, 0, none⟩), .int .u64 150]) (w.alloc (.cells #[.pointer (some t)] 150)) := by kernel_rfl
theorem typeT (a : Addr) (w : World) : (ReflectliteValue.methodAny (ReflectliteValue.valueError "reflectlite.Value.Type" 0) (fun t _ _ _ => ReflectliteType.toType t) #[.agg #[.pointer (some ⟨1, 150, none⟩), .pointer (some a), .int .u64 150]]).run Tryd.prog w
    = .ok (.iface 199 (.agg #[.pointer (some ⟨1, 150, none⟩)])) w := by kernel_rfl
theorem methodKind (h : Value) (w : World) : (Go.method 348 199 (.agg #[h]) "Kind").run Tryd.prog w = .ok (134, h) w := by kernel_rfl
theorem kindT (w : World) : ((ReflectliteType.abiMethod fun t => (fun a : Nat => Value.int IntKind.u8 (a : Int)) <$> Rtype.kind t) #[.pointer (some ⟨1, 150, none⟩)]).run Tryd.prog w = .ok (.int .u8 22) w := by kernel_rfl
theorem kindE (w : World) : ((ReflectliteType.abiMethod fun t => (fun a : Nat => Value.int IntKind.u8 (a : Int)) <$> Rtype.kind t) #[.pointer (some ⟨1, 129, none⟩)]).run Tryd.prog w = .ok (.int .u8 2) w := by kernel_rfl
theorem rlm (z : Sem Value) (f : TypeId → Addr → Nat → Nat → Sem Value) (v : Value) :
    ReflectliteValue.method z f #[v] = (do match ← ReflectliteValue.parts v with | none => z | some (t, a, fl) => f t a fl (fl % 32)) := rfl
theorem partsT (a : Addr) (w : World) : (ReflectliteValue.parts (.agg #[.pointer (some ⟨1, 150, none⟩), .pointer (some a), .int .u64 150])).run Tryd.prog w = .ok (some (150, a, 150)) w := by kernel_rfl
theorem isNilT (a p : Addr) (W : World) (ha : W.cell? a = some (.pointer (some p))) :
    (ReflectliteValue.method (ReflectliteValue.valueError "reflectlite.Value.IsNil" 0) ReflectliteValue.isNil #[.agg #[.pointer (some ⟨1, 150, none⟩), .pointer (some a), .int .u64 150]]).run Tryd.prog W = .ok (.bool false) W := by
  rw [rlm]
  simp only [Sem.run_bind, partsT, Result.andThen]
  simp [ReflectliteValue.isNil, loadVar, isAgg, underlying, Tryd.underlying150, ha, Result.andThen]
theorem methodElem (h : Value) (w : World) : (Go.method 348 199 (.agg #[h]) "Elem").run Tryd.prog w = .ok (144, .agg #[h]) w := by kernel_rfl
theorem methodImplements (h : Value) (w : World) : (Go.method 348 199 (.agg #[h]) "Implements").run Tryd.prog w = .ok (145, .agg #[h]) w := by kernel_rfl
theorem methodAssignableTo (h : Value) (w : World) : (Go.method 348 199 (.agg #[h]) "AssignableTo").run Tryd.prog w = .ok (142, .agg #[h]) w := by kernel_rfl
theorem elemT (w : World) : (ReflectliteType.method ReflectliteType.elem #[.agg #[.pointer (some ⟨1, 150, none⟩)]]).run Tryd.prog w = .ok (.iface 199 (.agg #[.pointer (some ⟨1, 129, none⟩)])) w := by kernel_rfl
theorem implementsE (w : World) : (ReflectliteType.relation "Implements" ReflectliteType.implements_ #[.agg #[.pointer (some ⟨1, 129, none⟩)], .iface 199 (.agg #[.pointer (some ⟨1, 29, none⟩)])]).run Tryd.prog w = .ok (.bool true) w := by kernel_rfl
theorem typeOfE (v : Value) (w : World) : (ReflectliteType.typeOf #[.iface 129 v]).run Tryd.prog w = .ok (.iface 199 (.agg #[.pointer (some ⟨1, 129, none⟩)])) w := by kernel_rfl
theorem assignableE (w : World) : (ReflectliteType.relation "AssignableTo" ReflectliteType.assignableTo #[.agg #[.pointer (some ⟨1, 129, none⟩)], .iface 199 (.agg #[.pointer (some ⟨1, 129, none⟩)])]).run Tryd.prog w = .ok (.bool true) w := by kernel_rfl
theorem valueOfE (n : Int) (w : World) : (ReflectliteValue.unpack (.iface 129 (.int .i64 n))).run Tryd.prog w
    = .ok (.agg #[.pointer (some ⟨1, 129, none⟩), .pointer (some ⟨w.heap.size, 0, none⟩), .int .u64 130]) (w.alloc (.cells #[.int .i64 n] 129)) := by kernel_rfl
theorem elemOfT (w : World) : (Rtype.elem? 150).run Tryd.prog w = .ok (some 129) w := by kernel_rfl
theorem mkE (p : Addr) (w : World) : (ReflectliteValue.mk 129 p ReflectliteValue.flagAddr).run Tryd.prog w = .ok (.agg #[.pointer (some ⟨1, 129, none⟩), .pointer (some p), .int .u64 386]) w := by kernel_rfl
theorem elemVT (a p : Addr) (W : World) (ha : W.cell? a = some (.pointer (some p))) :
    (ReflectliteValue.method (ReflectliteValue.valueError "reflectlite.Value.Elem" 0) ReflectliteValue.elem #[.agg #[.pointer (some ⟨1, 150, none⟩), .pointer (some a), .int .u64 150]]).run Tryd.prog W
      = .ok (.agg #[.pointer (some ⟨1, 129, none⟩), .pointer (some p), .int .u64 386]) W := by
  rw [rlm]
  simp only [Sem.run_bind, partsT, Result.andThen]
  simp [ReflectliteValue.elem, loadVar, isAgg, underlying, Tryd.underlying150, ha, Result.andThen, elemOfT, mkE]
theorem rls (v x : Value) : ReflectliteValue.set #[v, x] = (do
    let (some (dst, a, fl), some (src, b, _)) := (← ReflectliteValue.parts v, ← ReflectliteValue.parts x)
      | unsupported (.noEntry "extern/(internal/reflectlite.Value).Set.zeroValue")
    if fl / ReflectliteValue.flagAddr % 2 == 0 then unsupported (.noEntry "extern/(internal/reflectlite.Value).Set.unaddressable")
    let val ← loadVar src b
    if ← Rtype.directlyAssignable dst src then storeVar dst a val
    else if ← Rtype.implements dst src then
      if (← Rtype.kind src) == 20 then
        match val with
        | .nilIface => unsupported (.noEntry "extern/reflectlite: a nil value of one interface type handed on as a value of another")
        | _ => storeVar dst a val
      else storeVar dst a (.iface src val)
    else panicString ("reflectlite.Set: value of type " ++ (← Rtype.spelt src) ++ " is not assignable to type " ++ (← Rtype.spelt dst))
    pure (.tuple #[])) := rfl
theorem partsEa (a : Addr) (w : World) : (ReflectliteValue.parts (.agg #[.pointer (some ⟨1, 129, none⟩), .pointer (some a), .int .u64 386])).run Tryd.prog w = .ok (some (129, a, 386)) w := by kernel_rfl
theorem partsE (a : Addr) (w : World) : (ReflectliteValue.parts (.agg #[.pointer (some ⟨1, 129, none⟩), .pointer (some a), .int .u64 130])).run Tryd.prog w = .ok (some (129, a, 130)) w := by kernel_rfl
theorem directE (w : World) : (Rtype.directlyAssignable 129 129).run Tryd.prog w = .ok true w := by kernel_rfl
theorem sizeE (w : World) : (sizeOf 129).run Tryd.prog w = .ok 1 w := by kernel_rfl
theorem setE (ta b : Addr) (n : Int) (old : Value) (W : World) (hb : W.cell? b = some (.int .i64 n)) (ht : W.cell? ta = some old) (hf : W.frozen? ta = false) :
    (ReflectliteValue.set #[.agg #[.pointer (some ⟨1, 129, none⟩), .pointer (some ta), .int .u64 386], .agg #[.pointer (some ⟨1, 129, none⟩), .pointer (some b), .int .u64 130]]).run Tryd.prog W
      = .ok (.tuple #[]) (W.setCell ta (.int .i64 n)) := by
  rw [rls]
  simp only [Sem.run_bind, partsEa, partsE, Result.andThen]
  simp [ReflectliteValue.flagAddr, loadVar, isAgg, underlying, Tryd.underlying129, hb, Result.andThen, directE, storeVar, Value.cells, storeCells, Addr.add]
  rw [run_store Tryd.prog W ta _ _ (by rfl)]
  simp [ht, hf]
set_option maxHeartbeats 4000000 in
theorem as_hit (n : Int) (t : Addr) (old : Value) (w : World) (hg : Handle w) (ht0 : w.cell? t = some old) (hf0 : w.frozen? t = false) :
    Calls Tryd.prog 73 #[.iface 129 (.int .i64 n), .iface 150 (.pointer (some t))] w fun ev w' => ev = .returned (.bool true) ∧ w' = ((((w.alloc (.cells #[.pointer (some t)] 150)).alloc (.cells #[.pointer (some ⟨1, 150, none⟩), .pointer (some ⟨w.heap.size, 0, none⟩), .int .u64 150] 181)).alloc (.cells #[.pointer (some ⟨1, 150, none⟩), .pointer (some ⟨w.heap.size, 0, none⟩), .int .u64 150] 181)).alloc (.cells #[.int .i64 n] 129)).setCell t (.int .i64 n) := by
  have hg : w.cell? ⟨0, 0, none⟩ = some (.iface 199 (.agg #[.pointer (some ⟨1, 29, none⟩)])) := hg
  have h6 := @run_callFunc_extern Tryd.prog 92 _ (fun args => ReflectliteValue.unpack (args.getD 0 (.tuple #[]))) Tryd.func92 (by kernel_rfl) (by kernel_rfl) (by kernel_rfl) (by kernel_rfl)
  have h7 := @run_callFunc_extern Tryd.prog 93 _ (ReflectliteValue.methodAny (ReflectliteValue.valueError "reflectlite.Value.Type" 0) (fun t _ _ _ => ReflectliteType.toType t)) Tryd.func93 (by kernel_rfl) (by kernel_rfl) (by kernel_rfl) (by kernel_rfl)
  have h8 := @run_callFunc_extern Tryd.prog 94 _ (ReflectliteValue.method (ReflectliteValue.valueError "reflectlite.Value.IsNil" 0) ReflectliteValue.isNil) Tryd.func94 (by kernel_rfl) (by kernel_rfl) (by kernel_rfl) (by kernel_rfl)
  have h27 := @run_callFunc_extern Tryd.prog 134 _ (ReflectliteType.abiMethod fun t => do pure (.int .u8 (← Rtype.kind t))) Tryd.func134 (by kernel_rfl) (by kernel_rfl) (by kernel_rfl) (by kernel_rfl)
  have h37 := @run_callFunc_extern Tryd.prog 144 _ (ReflectliteType.method ReflectliteType.elem) Tryd.func144 (by kernel_rfl) (by kernel_rfl) (by kernel_rfl) (by kernel_rfl)
  have h38 := @run_callFunc_extern Tryd.prog 145 _ (ReflectliteType.relation "Implements" ReflectliteType.implements_) Tryd.func145 (by kernel_rfl) (by kernel_rfl) (by kernel_rfl) (by kernel_rfl)
  have h10 := @run_callFunc_extern Tryd.prog 108 _ ReflectliteType.typeOf Tryd.func108 (by kernel_rfl) (by kernel_rfl) (by kernel_rfl) (by kernel_rfl)
  have h35 := @run_callFunc_extern Tryd.prog 142 _ (ReflectliteType.relation "AssignableTo" ReflectliteType.assignableTo) Tryd.func142 (by kernel_rfl) (by kernel_rfl) (by kernel_rfl) (by kernel_rfl)
  have h11 := @run_callFunc_extern Tryd.prog 109 _ (ReflectliteValue.method (ReflectliteValue.valueError "reflectlite.Value.Elem" 0) ReflectliteValue.elem) Tryd.func109 (by kernel_rfl) (by kernel_rfl) (by kernel_rfl) (by kernel_rfl)
  have h12 := @run_callFunc_extern Tryd.prog 110 _ ReflectliteValue.set Tryd.func110 (by kernel_rfl) (by kernel_rfl) (by kernel_rfl) (by kernel_rfl)
  have tO := typeOfE
  have mA := methodAssignableTo
  have a25 := assignableE
  have v25 := valueOfE
  have f6 := valueOfT
  have f7 := typeT
  have mK := methodKind
  have mE := methodElem
  have mI := methodImplements
  have k27 := kindT
  have k25 := kindE
  have e27 := elemT
  have i25 := implementsE
  have n8 := isNilT ⟨w.heap.size, 0, none⟩ t ((w.alloc (.cells #[.pointer (some t)] 150)).alloc (.cells #[.pointer (some ⟨1, 150, none⟩), .pointer (some ⟨w.heap.size, 0, none⟩), .int .u64 150] 181)) (by simp)
  have hlt : 0 < w.heap.size := by
    rcases Nat.eq_zero_or_pos w.heap.size with h0 | h
    · simp [World.cell?, h0] at hg
    · exact h
  have hg2 : ((w.alloc (.cells #[.pointer (some t)] 150)).alloc (.cells #[.pointer (some ⟨1, 150, none⟩), .pointer (some ⟨w.heap.size, 0, none⟩), .int .u64 150] 181)).cell? ⟨0, 0, none⟩ = some (.iface 199 (.agg #[.pointer (some ⟨1, 29, none⟩)])) := by
    rw [World.cell?_alloc_lt _ _ ⟨0, 0, none⟩ (by simp), World.cell?_alloc_lt _ _ ⟨0, 0, none⟩ hlt]; exact hg
  have htl : t.block < w.heap.size := by
    rcases Nat.lt_or_ge t.block w.heap.size with h | h
    · exact h
    · simp [World.cell?, Array.getElem?_eq_none h] at ht0
  have el := elemVT ⟨w.heap.size, 0, none⟩ t (((w.alloc (.cells #[.pointer (some t)] 150)).alloc (.cells #[.pointer (some ⟨1, 150, none⟩), .pointer (some ⟨w.heap.size, 0, none⟩), .int .u64 150] 181)).alloc (.cells #[.pointer (some ⟨1, 150, none⟩), .pointer (some ⟨w.heap.size, 0, none⟩), .int .u64 150] 181)) (by rw [World.cell?_alloc_lt _ _ ⟨w.heap.size, 0, none⟩ (by simp; omega)]; simp)
  have st := setE t ⟨w.heap.size + 1 + 1 + 1, 0, none⟩ n old ((((w.alloc (.cells #[.pointer (some t)] 150)).alloc (.cells #[.pointer (some ⟨1, 150, none⟩), .pointer (some ⟨w.heap.size, 0, none⟩), .int .u64 150] 181)).alloc (.cells #[.pointer (some ⟨1, 150, none⟩), .pointer (some ⟨w.heap.size, 0, none⟩), .int .u64 150] 181)).alloc (.cells #[.int .i64 n] 129))
    (by rw [World.cell?_alloc_at _ _ _ _ (by simp)]; rfl)
    (by rw [World.cell?_alloc_lt _ _ t (by simp; omega), World.cell?_alloc_lt _ _ t (by simp; omega), World.cell?_alloc_lt _ _ t (by simp; omega), World.cell?_alloc_lt _ _ t htl]; exact ht0)
    (by rw [World.frozen?_alloc_old _ _ t (by simp; omega), World.frozen?_alloc_old _ _ t (by simp; omega), World.frozen?_alloc_old _ _ t (by simp; omega), World.frozen?_alloc_old _ _ t (Nat.ne_of_lt htl)]; exact hf0)
  go_enter Tryd.func73, Tryd.ntmps73
  go_wp2
  refine wp_loop_rounds 1 ?_
  rw [rounds_succ]
  go_wp2
  go_ret
  exact ⟨rfl, rfl⟩
end As
end Go.Proofs.YtldmdenojpnldaaDoor
/- What plain.Told makes of an error: its number. -/
namespace Go.Proofs.YtldmdenojpnldaaDoor
open Go.RowKit
set_option linter.unusedVariables false
/-- What plain.Told makes of an error. -/
theorem tell_any {w0 w : World} {R : HProp} (hg : As.Handle w0) (n : Nat) (h : Own w0 R w) :
    Calls Tryd.prog 61 #[errV n] w fun e w' => e = .returned (.int .i64 n) ∧ Own w0 R w' := by
  have HH := Lib.hid h
  cases n with
  | zero =>
    rw [errV0]
    go_enter Tryd.func61, Tryd.ntmps61
    go_wp2
    go_ret
    exact ⟨rfl, HH.out⟩
  | succ n =>
    rw [show errV (n + 1) = .iface 129 (.int .i64 ((n : Int) + 1)) from rfl]
    have hlt : (⟨0, 0, none⟩ : Addr).block < w0.heap.size := World.block_lt_of_cell? _ _ hg
    have hw : As.Handle w := by unfold As.Handle; rw [h.below.cell (p := ⟨0, 0, none⟩) hlt]; exact hg
    have hlw : (⟨0, 0, none⟩ : Addr).block < w.heap.size := World.block_lt_of_cell? _ _ hw
    have hw1 : As.Handle (w.alloc (.cells #[.int .i64 0] 129)) := by unfold As.Handle; rw [World.cell?_alloc_lt _ _ _ hlw]; exact hw
    have HW1 := Lib.hid hw1
    have g1 := (h.alloc (.cells #[.int .i64 0] 129))
    have HC := Lib.hid (g1.cell 0); have HF := Lib.hid (g1.free 0 none)
    clear hw hw1 hlw hlt h g1 hg
    go_enter Tryd.func61, Tryd.ntmps61
    go_wp2_with fail
    refine (As.as_hit _ ⟨w.heap.size, 0, none⟩ (.int .i64 0) _ HW1.out HC.out HF.out).mono ?_
    rintro e w' ⟨rfl, rfl⟩
    go_wp2
    go_ret
    exact ⟨by simp, ((((HH.out.alloc' _).alloc' _).alloc' _).alloc' _).alloc' _⟩
/-- Is an error the one told? -/
theorem sameErr_any {w0 w : World} {R : HProp} (hg : As.Handle w0) (n : Nat) (m : Int) (h : Own w0 R w) :
    Calls Tryd.prog 17 #[errV n, .int .i64 m] w fun e w' => e = .returned (.bool ((n : Int) == m)) ∧ Own w0 R w' := by
  have T := Lib.hid (tell_any hg n h)
  clear hg h
  go_enter Tryd.func17, Tryd.ntmps17
  go_wp2_with fail
  refine (T.out).mono ?_
  rintro e w' ⟨rfl, ho⟩
  have HO := Lib.hid ho
  clear ho
  go_wp2
  go_ret
  exact ⟨rfl, HO.out⟩
end Go.Proofs.YtldmdenojpnldaaDoor
/- errors.As at api.Errno, into a box of the call's own. -/
namespace Go.Proofs.YtldmdenojpnldaaDoor
set_option linter.unusedVariables false
set_option linter.unusedSimpArgs false
open Go.RowKit
set_option maxRecDepth 100000 in
set_option maxHeartbeats 4000000 in
theorem as_nil (v : Value) (w : World) :
    Calls Tryd.prog 73 #[.nilIface, v] w fun e w' => e = .returned (.bool false) ∧ w = w' := by
  go_enter Tryd.func73, Tryd.ntmps73
  go_wp2
  go_ret
  exact ⟨rfl, rfl⟩
abbrev ErO (b : Nat) (x : Int) : HProp := blk b (.cells #[.int .i64 x] 129 (0, 0))
set_option maxRecDepth 100000 in
set_option maxHeartbeats 4000000 in
theorem as_own {w0 w : World} {R : HProp} (hg : As.Handle w0) (n : Nat) (hn : n ≠ 0) (b : Nat) (x : Int) (h : Own w0 (ErO b x * R) w) :
    Calls Tryd.prog 73 #[.iface 129 (.int .i64 (n : Int)), .iface 150 (.pointer (some ⟨b, 0, none⟩))] w fun e w' => e = .returned (.bool true) ∧ Own w0 (ErO b (n : Int) * R) w' := by
  have hlt : (⟨0, 0, none⟩ : Addr).block < w0.heap.size := World.block_lt_of_cell? _ _ hg
  have hw : As.Handle w := by unfold As.Handle; rw [h.below.cell (p := ⟨0, 0, none⟩) hlt]; exact hg
  refine (As.as_hit (n : Int) ⟨b, 0, none⟩ (.int .i64 x) w hw ((h.cell 0).trans rfl) (h.free 0 none)).mono ?_
  rintro e w' ⟨rfl, rfl⟩
  refine ⟨rfl, ?_⟩
  have h1 : ∀ o1 o2 o3 o4, Own w0 (ErO b x * R) ((((w.alloc o1).alloc o2).alloc o3).alloc o4) := fun o1 o2 o3 o4 => (((h.alloc' o1).alloc' o2).alloc' o3).alloc' o4
  exact (h1 _ _ _ _).setCell (i := 0) (v := .int .i64 (n : Int))
end Go.Proofs.YtldmdenojpnldaaDoor
