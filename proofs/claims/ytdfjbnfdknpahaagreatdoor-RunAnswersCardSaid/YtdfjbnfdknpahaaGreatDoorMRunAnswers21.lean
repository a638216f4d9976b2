/- Contracts of package cast, continued: Say, of a word that may be said. -/
import Derived.Test.YtdfjbnfdknpahaaGreatDoorMRunAnswers19
namespace Go.Proofs.YtdfjbnfdknpahaaGreatDoor
set_option linter.unusedVariables false
set_option linter.unusedSimpArgs false
open Go.RowKit Go.Maps
section
variable {w0 w : World} {p rb off cap nb sb k : Nat} {hv : Value} {rs : List CmR} {ss : List SRow} {c : Cs} {R : HProp}
/-- A group put together again behind a word that was said. -/
theorem cs_say_close {word : Int} {r : SdR} (he : csIs rs ss c) (hk : k < rs.length) (hE : csSayErr c (k : Int) word = 0) (hr : r.2 = caSaid rs[k].2 word)
    (h : Own w0 (NtP nb (csNet c c.mem.length (k : Int) word) * (csHd p nb sb (.slice (some ⟨rb, off, none⟩) rs.length cap) hv * (CwP rs[k].1 (caSay rs[k].2 word) * (SlAt 97 1 rb off rs.length cap (rs.map cmV) * (starL cmP (rs.eraseIdx k) * (MpS sK I64 sdRow sdV sb (mput ss word r) * (EvSl hv (c.hist ++ [((k : Int), 2, word)]) * R))))))) w) :
    Own w0 (CsP p (csSay c (k : Int) word) * R) w := by
  have hm : csMem c (k : Int) = rs[k].2 := by
    have hk' : k < c.mem.length := by rw [← csIs_len he]; exact hk
    rw [csMem_at hk']
    have e : c.mem[k]? = some rs[k].2 := by rw [← he.1, List.getElem?_map, List.getElem?_eq_getElem hk]; rfl
    exact (List.getElem?_eq_some_iff.1 e).2
  refine Own.cs_close (rb := rb) (off := off) (cap := cap) (nb := nb) (sb := sb) (hv := hv) (rs := rs.set k (rs[k].1, caSay rs[k].2 word)) (ss := mput ss word r) ?_ (h.perm ?_)
  · unfold csSay
    rw [if_pos hE, hm, Int.toNat_natCast]
    refine ⟨?_, ?_⟩
    · rw [List.map_set, he.1]
    · show mvals _ (mput ss word r) = mput c.said word _
      rw [← mput_mvals, he.2, hr]
  · unfold csSay
    rw [if_pos hE]
    unfold CsO TabO
    rw [cs_mem_set hk, starL_set cmP rs k hk, List.length_set]
    show _ = csHd p nb sb _ hv * ((_ * (CwP rs[k].1 (caSay rs[k].2 word) * _)) * (NtP nb (csNet c c.mem.length (k : Int) word) * _)) * R
    ac_rfl
end
theorem csNet0 (c : Cs) (who word : Int) : csNet c 0 who word = c.net := by
  unfold csNet csPk
  simp
set_option maxRecDepth 100000 in
set_option maxHeartbeats 4000000 in
theorem csSay_yes {w0 w : World} {R : HProp} (p : Nat) (c : Cs) (who word : Int) (hI : CsI c) (hb : c.hist.length ≤ 100000) (hE : csSayErr c who word = 0 ∨ csSayErr c who word = 4) (h : Own w0 (CsP p c * R) w) :
    Calls Tryz.prog 52 #[.pointer (some ⟨p, 0, none⟩), .int .i64 who, .int .i64 word] w fun e w' => e = .returned (errV (csSayErr c who word)) ∧ Own w0 (CsP p (csSay c who word) * R) w' := by
  obtain ⟨rb, off, cap, nb, sb, hv, rs, ss, he, ho⟩ := h.cs_open
  obtain ⟨c0, c1, c2, c3, _, _, hc1, hc2⟩ := ho.cs_facts
  have hn2 := hI.n2
  have hn5 := hI.n5
  rw [← csIs_len he] at hn2 hn5
  obtain ⟨N, hN⟩ : ∃ N, N = rs.length := ⟨_, rfl⟩
  rw [← hN] at c0 hn2 hn5 hc1
  have hNm : c.mem.length = N := by rw [← csIs_len he, hN]
  obtain ⟨E, hE'⟩ : ∃ E, E = csSayErr c who word := ⟨_, rfl⟩
  have hEE := hE'
  rw [← hE'] at hE ⊢
  unfold csSayErr at hE'
  rw [hNm] at hE'
  have hin : inR who N = true := by
    cases hi : inR who N
    · rw [if_pos hi] at hE'; omega
    · rfl
  rw [if_neg (by rw [hin]; simp)] at hE'
  have hwd : isWord word = true := by
    cases hi : isWord word
    · rw [if_pos hi] at hE'; omega
    · rfl
  rw [if_neg (by rw [hwd]; simp)] at hE'
  have hsm : (mget c.said word).isSome = false := by
    cases hi : (mget c.said word).isSome
    · rfl
    · rw [hi, if_pos rfl] at hE'; omega
  rw [hsm, if_neg (by simp)] at hE'
  have hib : 0 ≤ who ∧ who < (N : Int) := by unfold inR at hin; simpa using hin
  obtain ⟨k, rfl⟩ : ∃ k : Nat, who = (k : Int) := ⟨who.toNat, by omega⟩
  have hkN : k < N := by omega
  have t1 : decide ((k : Int) < 0) = false := decide_eq_false (by omega)
  have t2 : decide (N ≤ k) = false := decide_eq_false (by omega)
  have hwI := isWord_I64 hwd
  have hlk := ho.cs_look word hwI true
  have hsn : (mget ss word).isSome = false := by rw [csIs_some he]; exact hsm
  have hnone : mget ss word = none := by cases hm : mget ss word with
    | none => rfl
    | some x => rw [hm] at hsn; cases hsn
  rw [hnone, if_pos rfl] at hlk
  have hlk2 : (Instr.lookup 93 (.map (some sb)) (.int .i64 word) true).run Tryz.prog w = .ok (.tuple #[.agg #[.int .i64 0, .int .i64 0, .slice none 0 0], .bool false]) w := hlk
  obtain ⟨A, hA⟩ : ∃ A, A = c.net.all.length := ⟨_, rfl⟩
  have hA40 : A ≤ 40 := by rw [hA]; exact hI.net.len
  obtain ⟨S, hS⟩ : ∃ S, S = ss.length := ⟨_, rfl⟩
  have hS2 : c.said.length = S := by rw [← he.2, mvals_len, hS]
  have hS30 : S ≤ 30 := by rw [← hS2]; exact hI.saidLen
  rw [← hA, hS2] at hE'
  obtain ⟨M, hM⟩ : ∃ M, M = (S + 1) * N := ⟨_, rfl⟩
  have hM155 : M ≤ 155 := by rw [hM]; exact Nat.mul_le_mul (show S + 1 ≤ 31 by omega) hn5
  have hMi : ((S : Int) + 1) * (N : Int) = (M : Int) := by rw [hM]; simp
  rw [← hM] at hE'
  obtain ⟨b1, hb_b1⟩ : ∃ zz_, zz_ = (w).heap.size := ⟨_, rfl⟩
  obtain ⟨w1, hw_w1⟩ : ∃ zz_, zz_ = (w).alloc (.cells #[.int .i64 0, .int .i64 0, .slice none 0 0] 59 (0, 0)) := ⟨_, rfl⟩
  have h_HB1 := (ho).alloc (.cells #[.int .i64 0, .int .i64 0, .slice none 0 0] 59 (0, 0))
  rw [← hb_b1, ← hw_w1] at h_HB1
  have HB1 := Lib.hid h_HB1
  clear h_HB1
  have HO := Lib.hid HB1.out.drop
  clear HB1
  have HOI := Lib.hid ho
  have HE_ := Lib.hid he
  have HEE := Lib.hid hEE
  have HEP := Lib.hid hE'
  have HMD := Lib.hid hM
  have HA' := Lib.hid hA
  have HS' := Lib.hid hS
  have HN' := Lib.hid hN
  clear hlk he ho hEE hE' hM hA hS hN
  have H := Lib.hid h; have HI := Lib.hid hI; have HE := Lib.hid hE; have HNM := Lib.hid hNm; have HWD := Lib.hid hwd; have HSM := Lib.hid hsm; have HIN := Lib.hid hin; have HSN := Lib.hid hsn; have HNONE := Lib.hid hnone; have HS2 := Lib.hid hS2
  clear h hI hE hNm hwd hsm hin hsn hnone hS2
  go_enter Tryz.func52, Tryz.ntmps52
  go_wp2_with fail
  refine (word_any _ _).mono ?_
  rintro e w' ⟨rfl, rfl⟩
  rw [HWD.out]
  go_upto_region 5 with fail
  rw [← hb_b1, ← hw_w1]
  clear hb_b1 hw_w1
  clear c0 c1 c2 c3 hlk2
  obtain ⟨c0, c1, c2, c3, _⟩ := HO.out.cs_facts
  rw [← HN'.out] at c0
  go_wp2_with fail
  refine (ntAll_any nb c.net HI.out.net HO.out.cs_net).mono ?_
  rintro e w2 ⟨v2, rfl, ho⟩
  obtain ⟨ad2, cp2, hv2, _⟩ := Own.rd ho
  subst hv2
  have ho2 : Own w0 (CsO p rb off cap nb sb hv rs ss c * R) w2 := Own.cs_net_put (c := c) ho.drop
  rw [← HA'.out]
  have hml := fun ty => ho2.cs_len ty
  rw [← HS'.out] at hml
  obtain ⟨d0, d1, d2, d3, df, d5, _, _⟩ := ho2.cs_facts
  rw [← HN'.out] at d0
  have HO2 := Lib.hid ho2
  clear ho ho2 HO c0 c1 c2 c3
  have hcs : (40 < A + N - 1) ∨ (¬ 40 < A + N - 1 ∧ 60 < M) ∨ (¬ 40 < A + N - 1 ∧ ¬ 60 < M) := by omega
  rcases hcs with h1 | ⟨h1, h2⟩ | ⟨h1, h2⟩
  · have t3 : decide ((40 : Int) < (A : Int) + (N : Int) - 1) = true := decide_eq_true (by omega)
    have hE4 : E = 4 := by rw [HEP.out, if_pos (.inl h1)]
    have hsay : csSay c (k : Int) word = c := by unfold csSay; rw [if_neg (by rw [← HEE.out, hE4]; simp)]
    have H1 := Lib.hid h1; have HE4 := Lib.hid hE4; have HSAY := Lib.hid hsay
    clear h1 hE4 hsay
    clear df d5
    go_wp2
    go_ret
    exact ⟨by rw [HE4.out]; rfl, by rw [HSAY.out]; exact Own.cs_close HE_.out HO2.out⟩
  · have t3 : decide ((40 : Int) < (A : Int) + (N : Int) - 1) = false := decide_eq_false (by omega)
    have t4 : decide ((60 : Int) < (M : Int)) = true := decide_eq_true (by omega)
    have hE4 : E = 4 := by rw [HEP.out, if_pos (.inr h2)]
    have hsay : csSay c (k : Int) word = c := by unfold csSay; rw [if_neg (by rw [← HEE.out, hE4]; simp)]
    have H1 := Lib.hid h1; have H2 := Lib.hid h2; have HE4 := Lib.hid hE4; have HSAY := Lib.hid hsay
    clear h1 h2 hE4 hsay
    clear df d5
    go_wp2
    go_ret
    exact ⟨by rw [HE4.out]; rfl, by rw [HSAY.out]; exact Own.cs_close HE_.out HO2.out⟩
  have t3 : decide ((40 : Int) < (A : Int) + (N : Int) - 1) = false := decide_eq_false (by omega)
  have t4 : decide ((60 : Int) < (M : Int)) = false := decide_eq_false (by omega)
  have hE0 : E = 0 := by rw [HEP.out, if_neg (by omega)]
  have hE0' : csSayErr c (k : Int) word = 0 := by rw [← HEE.out, hE0]
  have hkr : k < rs.length := by rw [← HN'.out]; exact hkN
  have hkm : k < c.mem.length := by rw [HNM.out]; exact hkN
  have hmk : c.mem[k] = rs[k].2 := by
    have e : c.mem[k]? = some rs[k].2 := by rw [← HE_.out.1, List.getElem?_map, List.getElem?_eq_getElem hkr]; rfl
    exact (List.getElem?_eq_some_iff.1 e).2
  have hmI : CaI rs[k].2 := by rw [← hmk]; exact (HI.out.mem k hkm).ok
  have hs0 : caSayErr rs[k].2 word = 0 := by rw [← hmk]; exact HI.out.caSay0 hkm HWD.out
  have e5 := d5 k rs[k] (by simp [hkr])
  have ht := HO2.out.cs_take hkr
  obtain ⟨q, hq⟩ : ∃ q, q = rs[k].1 := ⟨_, rfl⟩
  unfold cmV at e5
  rw [← hq] at e5 ht
  have HT := Lib.hid ht
  have HSY := Lib.hid (cwSay_any q rs[k].2 word hmI ht)
  have hsok := caSaid_ok hmI hs0
  obtain ⟨Sd', hSd⟩ : ∃ s, s = caSaid rs[k].2 word := ⟨_, rfl⟩
  rw [← hSd] at HSY hsok
  rw [hs0, errV0] at HSY
  have hSI := vecErr_I64 (sdErr0 hsok).2.2
  have k0 : (0 : Int) ≤ (k : Int) := by omega
  have HKR := Lib.hid hkr
  have HMK := Lib.hid hmk
  clear d5 df ht hmk
  have HQ := Lib.hid hq
  clear hq
  have H1 := Lib.hid h1; have H2 := Lib.hid h2; have HE0 := Lib.hid hE0; have HE0' := Lib.hid hE0'; have HMI := Lib.hid hmI; have HS0 := Lib.hid hs0; have HSOK := Lib.hid hsok; have HSD := Lib.hid hSd; have HSI := Lib.hid hSI
  clear h1 h2 hE0 hE0' hmI hs0 hsok hSd hSI
  go_wp2_with fail
  refine HSY.out.mono ?_
  rintro e w3 ⟨v3, rfl, ho⟩
  obtain ⟨ad3, cp3, rfl⟩ := Own.int_shape ho
  obtain ⟨L3, hL3⟩ : ∃ L, L = Sd'.clk.length := ⟨_, rfl⟩
  rw [← hL3] at ho ⊢
  obtain ⟨b10, hb_b10⟩ : ∃ zz_, zz_ = (w3).heap.size := ⟨_, rfl⟩
  obtain ⟨w4, hw_w4⟩ : ∃ zz_, zz_ = (w3).alloc (.cells #[.int .i64 Sd'.who, .int .i64 Sd'.word, .slice ad3 L3 cp3] 59 (0, 0)) := ⟨_, rfl⟩
  have h_HB4 := (ho).alloc (.cells #[.int .i64 Sd'.who, .int .i64 Sd'.word, .slice ad3 L3 cp3] 59 (0, 0))
  rw [← hb_b10, ← hw_w4] at h_HB4
  have HB4 := Lib.hid h_HB4
  clear h_HB4
  obtain ⟨z0, z1, z2, _⟩ := (show Own w0 (SdO b10 Sd'.who Sd'.word (.slice ad3 L3 cp3) * _) w4 from HB4.out).sd
  have H4 : Hid (Own w0 (Mp sK I64 sb (mvals sdV ss) * (starL (fun x : Int × SdR => sdRow x.2) ss * (sdRow (.slice ad3 L3 cp3, Sd') * (csHd p nb sb (.slice (some ⟨rb, off, none⟩) rs.length cap) hv * (NtP nb c.net * (EvSl hv c.hist * (CwP q (caSay rs[k].2 word) * (SlAt 97 1 rb off rs.length cap (rs.map cmV) * (starL cmP (rs.eraseIdx k) * (SdO b10 Sd'.who Sd'.word (.slice ad3 L3 cp3) * R)))))))))) w4) := Lib.hid (HB4.out.perm (by
    unfold CsX MpS SdO sdRow
    ac_rfl))
  have g2 : w4.cell? ⟨p, 2, none⟩ = some (.map (some sb)) := (H4.out.fourth.cell 2).trans rfl
  clear ho HB4 HT HSY d0 d1 d2 d3 e5 hml
  have HWI := Lib.hid hwI
  clear hwI
  have HL3 := Lib.hid hL3
  clear hL3
  go_upto_region 12 with fail
  rw [← hb_b10, ← hw_w4]
  clear hb_b10 hw_w4
  refine wp_region_planH 6 [] [(true, 0), (true, 1), (true, 2), (true, 3), (true, 4), (true, 5)] [6] (fun wS => wS = w4.drew) (by kernel_rfl) (by kernel_rfl) (rfl) ?_
  simp only [pickH, pick, List.getElem?_cons_succ, List.getElem?_cons_zero, Option.toList, Option.map_some, List.cons_append, List.nil_append]
  repeat (refine wpPure_step ?_ rfl ?_ ?_; rotate_left; (focus (intro _; first | with_reducible rfl | (go_simp; done) | (go_simp; with_reducible rfl) | rfl)); go_simp)
  refine wpPure_nil ?_
  repeat (refine wpMix_read ?_ rfl ?_ ?_; rotate_left; (focus (intro _ hS; obtain rfl := hS; first | with_reducible rfl | (go_simp; done) | (go_simp; with_reducible rfl) | rfl)); go_simp)
  refine wpMix_nil ?_
  go_wp2_with (at_mapUpdate; refine wpList_put (v := sdV (.slice ad3 L3 cp3, Sd')) (x := word) (int_ke int_kind) mapsd_kind H4.out.drew HWI.out rfl _ _ _ rfl rfl rfl rfl ?_; intro w5 ho5; have HM5 := Lib.hid (Own.cs_mapput HNONE.out ho5); clear ho5)
  refine NoPanic.normal ?_
  clear H4 g2 z0 z1 z2
  obtain ⟨Q, hQ⟩ : ∃ Q, Q = NtP nb c.net * (CwP q (caSay rs[k].2 word) * (SlAt 97 1 rb off rs.length cap (rs.map cmV) * (starL cmP (rs.eraseIdx k) * (SdO b10 Sd'.who Sd'.word (.slice ad3 L3 cp3) * (MpS sK I64 sdRow sdV sb (mput ss word (.slice ad3 L3 cp3, Sd')) * R))))) := ⟨_, rfl⟩
  have H5 : Hid (Own w0 (EvSl hv c.hist * (csHd p nb sb (.slice (some ⟨rb, off, none⟩) rs.length cap) hv * Q)) w5) := Lib.hid (HM5.out.perm (by rw [hQ]; ac_rfl))
  clear HM5
  have g3 : w5.cell? ⟨p, 3, none⟩ = some hv := (H5.out.second.cell 3).trans rfl
  obtain ⟨had, hcp, hhv, _⟩ := Own.rd H5.out
  obtain ⟨LH, hLH⟩ : ∃ L, L = c.hist.length := ⟨_, rfl⟩
  rw [← hLH] at hhv hb
  have HHV := Lib.hid hhv
  have HLH := Lib.hid hLH
  have H5' : Hid (Own w0 (Sl 112 3 (.slice had LH hcp) LH (c.hist.flatMap evCells) * (csHd p nb sb (.slice (some ⟨rb, off, none⟩) rs.length cap) (.slice had LH hcp) * Q)) w5) := Lib.hid (by
    have h1 := H5.out
    unfold EvSl at h1
    rw [hhv, ← hLH] at h1
    exact h1)
  rw [hhv] at g3
  clear hhv hLH H5
  have HQ_ := Lib.hid hQ
  clear hQ
  go_upto_block 0 with (at_builtin; refine wpList_app rfl _ _ 61 rfl 112 3 24 _ info_ev Tryz.underlying61 rfl (by decide) rfl (H5'.out.alloc' _) rfl (by rfl) (Rd_lit (by simp) (by unfold maxLen; omega)) (by intro u hu; simp at hu; rcases hu with rfl | rfl | rfl <;> rfl) (by unfold maxLen; omega) (by omega) ?_; intro v6 w6 hown; obtain ⟨ad6, n6, cp6, hv6⟩ := sl_shape hown; have g4 := (hown.second.cell 3); have g5 := hown.second.free 3 none; have HN6 := Lib.hid (hown.second.setCell (i := 3) (v := v6)); subst hv6; clear hown)
  obtain ⟨w7, hw7⟩ : ∃ x, x = w6.setCell ⟨p, 3, none⟩ (.slice ad6 n6 cp6) := ⟨_, rfl⟩
  rw [← hw7] at HN6 ⊢
  obtain ⟨Q2, hQ2⟩ : ∃ Q2, Q2 = CwP q (caSay rs[k].2 word) * (SlAt 97 1 rb off rs.length cap (rs.map cmV) * (starL cmP (rs.eraseIdx k) * (SdO b10 Sd'.who Sd'.word (.slice ad3 L3 cp3) * (MpS sK I64 sdRow sdV sb (mput ss word (.slice ad3 L3 cp3, Sd')) * (EvSl (.slice ad6 n6 cp6) (c.hist ++ [((k : Int), 2, word)]) * R))))) := ⟨_, rfl⟩
  have H7 : Hid (Own w0 (NtP nb (csNet c 0 (k : Int) word) * (csHd p nb sb (.slice (some ⟨rb, off, none⟩) rs.length cap) (.slice ad6 n6 cp6) * Q2)) w7) := Lib.hid (by
    have e1 : Sl 112 3 (.slice ad6 n6 cp6) (LH + 1) (c.hist.flatMap evCells ++ [.int .i64 (k : Int), .int .i64 2, .int .i64 word]) = EvSl (.slice ad6 n6 cp6) (c.hist ++ [((k : Int), 2, word)]) := by
      unfold EvSl
      rw [List.length_append, List.flatMap_append, HLH.out]
      rfl
    have h1 := HN6.out
    rw [HQ_.out] at h1
    rw [hQ2, csNet0, ← e1]
    refine h1.perm ?_
    show csHd p nb sb _ (.slice ad6 n6 cp6) * _ = _
    ac_rfl)
  clear hw7 HN6 g3 g4 g5 H5' HHV HQ_ HO2
  have HQ2 := Lib.hid hQ2
  clear hQ2
  go_wp2_with fail
  go_loopw [99] (fun iv wr => ∃ i : Nat, i ≤ N ∧ iv = .int .i64 i ∧ Hid (Own w0 (NtP nb (csNet c i (k : Int) word) * (csHd p nb sb (.slice (some ⟨rb, off, none⟩) rs.length cap) (.slice ad6 n6 cp6) * Q2)) wr)) (fun iv _ => N - (intOf iv).toNat)
  case atStart => exact ⟨0, Nat.zero_le _, rfl, H7⟩
  case round =>
    clear H7
    obtain ⟨i, hi, rfl, HP⟩ := hrel
    by_cases hlt : i < N
    rotate_left
    · have hiN : i = c.mem.length := by rw [HNM.out]; omega
      rw [hiN, HQ2.out] at HP
      have HIN := Lib.hid hiN
      clear hiN
      go_wp2
      go_ret
      refine ⟨by rw [HE0.out]; rfl, cs_say_close (rb := rb) (off := off) (cap := cap) (nb := nb) (sb := sb) (hv := .slice ad6 n6 cp6) (r := (.slice ad3 L3 cp3, Sd')) HE_.out HKR.out HE0'.out HSD.out ?_⟩
      rw [← HQ.out]
      have h1 := HP.out
      refine (h1.perm (show _ = SdO b10 Sd'.who Sd'.word (.slice ad3 L3 cp3) * (NtP nb (csNet c c.mem.length (k : Int) word) * (csHd p nb sb (.slice (some ⟨rb, off, none⟩) rs.length cap) (.slice ad6 n6 cp6) * (CwP q (caSay rs[k].2 word) * (SlAt 97 1 rb off rs.length cap (rs.map cmV) * (starL cmP (rs.eraseIdx k) * (MpS sK I64 sdRow sdV sb (mput ss word (.slice ad3 L3 cp3, Sd')) * (EvSl (.slice ad6 n6 cp6) (c.hist ++ [((k : Int), 2, word)]) * R))))))) by ac_rfl)).drop
    have c1 : wr.cell? ⟨p, 1, none⟩ = some (.pointer (some ⟨nb, 0, none⟩)) := (HP.out.second.cell 1).trans rfl
    by_cases hik : i = k
    · have t5 : ((i : Int) == (k : Int)) = true := by rw [beq_iff_eq, hik]
      have HS2 : Hid (Own w0 (NtP nb (csNet c (i + 1) (k : Int) word) * (csHd p nb sb (.slice (some ⟨rb, off, none⟩) rs.length cap) (.slice ad6 n6 cp6) * Q2)) wr) := Lib.hid (by rw [csNet_skip (by rw [hik])]; exact HP.out)
      have HIK := Lib.hid hik
      clear hik
      go_wp2
      go_round
      case rel => exact ⟨i + 1, by omega, by go_num, HS2⟩
      case measure => simp [intOf]; omega
    · have t5 : ((i : Int) == (k : Int)) = false := by rw [beq_eq_false_iff_ne]; omega
      obtain ⟨s1, s2⟩ := csNet_send HI.out HE0'.out (k := i) (by rw [HNM.out]; exact hlt) (show (i : Int) ≠ (k : Int) by omega)
      have HSN := Lib.hid (ntSend_any nb (csNet c i (k : Int) word) ((k : Int), (i : Int), word) (csNet_I HI.out HE0'.out (by rw [HNM.out]; omega)) HP.out)
      rw [s1, s2] at HSN
      have HIK := Lib.hid hik; have S1 := Lib.hid s1; have S2 := Lib.hid s2
      clear hik s1 s2
      go_wp2_with fail
      refine HSN.out.mono ?_
      rintro e w8 ⟨rfl, ho⟩
      rw [errV0]
      have HP2 := Lib.hid ho
      clear ho HSN c1
      go_wp2
      go_round
      case rel => exact ⟨i + 1, by omega, by go_num, HP2⟩
      case measure => simp [intOf]; omega
set_option maxRecDepth 100000 in
set_option maxHeartbeats 4000000 in
theorem csSay_any {w0 w : World} {R : HProp} (p : Nat) (c : Cs) (who word : Int) (hI : CsI c) (hb : c.hist.length ≤ 100000) (h : Own w0 (CsP p c * R) w) :
    Calls Tryz.prog 52 #[.pointer (some ⟨p, 0, none⟩), .int .i64 who, .int .i64 word] w fun e w' => e = .returned (errV (csSayErr c who word)) ∧ Own w0 (CsP p (csSay c who word) * R) w' := by
  have hcs : (csSayErr c who word = 1 ∨ csSayErr c who word = 7) ∨ (csSayErr c who word = 0 ∨ csSayErr c who word = 4) := by
    unfold csSayErr
    split
    · exact .inl (.inl rfl)
    split
    · exact .inl (.inl rfl)
    split
    · exact .inl (.inr rfl)
    split
    · exact .inr (.inr rfl)
    · exact .inr (.inl rfl)
  rcases hcs with hc | hc
  · have hs : csSay c who word = c := by unfold csSay; rw [if_neg (by omega)]
    rw [hs]
    exact csSay_no p c who word hI hc h
  · exact csSay_yes p c who word hI hb hc h
end Go.Proofs.YtdfjbnfdknpahaaGreatDoor
