/- Contracts of package cast, continued: Give. -/
import Derived.Test.YtdfjbnfdknpahaaGreatDoorMRunAnswers19
import Derived.Test.YtdfjbnfdknpahaaGreatDoorMRunAnswers9
namespace Go.Proofs.YtdfjbnfdknpahaaGreatDoor
set_option linter.unusedVariables false
set_option linter.unusedSimpArgs false
open Go.RowKit Go.Maps
def hearEv (a : Int) (l : List Int) : List Ev := l.map fun x => (a, 3, x)
theorem caOut_le {m : Ca} {s : Sd} (h : CaI m) : (caOut m s).length ≤ 41 := by
  unfold caOut
  split
  · split
    · have h1 := caOut_len (c := m) m.waits.length (caBump m.clk s.who) m.waits
      have := h.len
      simp only [List.length_cons, caRun]
      omega
    · simp
  · simp
theorem hearEv_snoc {a : Int} {l : List Int} {i : Nat} (h : i < l.length) : hearEv a (l.take (i + 1)) = hearEv a (l.take i) ++ [(a, 3, l[i])] := by
  unfold hearEv
  rw [List.take_succ_eq_append_getElem h, List.map_append]; rfl
section
variable {w0 w : World} {p rb off cap nb sb k : Nat} {hv : Value} {rs : List CmR} {ss : List SRow} {c : Cs} {R : HProp}
theorem cs_give_close {i : Int} {m : Ca} {hh : List Ev} (he : csIs rs ss c) (hk : k < rs.length) (hE : csGiveErr c i = 0) (hto : (ntAt c.net i).2.1 = (k : Int)) (hm : m = caTake (csGm c i) (csGs c i)) (hhh : hh = hearEv (k : Int) (caOut (csGm c i) (csGs c i)))
    (h : Own w0 (CwP rs[k].1 m * (NtP nb (ntOut c.net i) * (csHd p nb sb (.slice (some ⟨rb, off, none⟩) rs.length cap) hv * (SlAt 97 1 rb off rs.length cap (rs.map cmV) * (starL cmP (rs.eraseIdx k) * (MpS sK I64 sdRow sdV sb ss * (EvSl hv (c.hist ++ hh) * R))))))) w) :
    Own w0 (CsP p (csGive c i) * R) w := by
  refine Own.cs_close (rb := rb) (off := off) (cap := cap) (nb := nb) (sb := sb) (hv := hv) (rs := rs.set k (rs[k].1, m)) (ss := ss) ?_ (h.perm ?_)
  · unfold csGive
    rw [if_pos hE, hto, Int.toNat_natCast]
    exact ⟨by rw [List.map_set, he.1, hm], he.2⟩
  · unfold csGive
    rw [if_pos hE, hto]
    unfold CsO TabO
    rw [cs_mem_set hk, starL_set cmP rs k hk, List.length_set]
    show _ = csHd p nb sb _ hv * ((_ * (CwP rs[k].1 m * _)) * (NtP nb (ntOut c.net i) * (_ * EvSl hv (c.hist ++ hearEv (k : Int) (caOut (csGm c i) (csGs c i)))))) * R
    rw [← hhh]
    ac_rfl
end
set_option maxRecDepth 100000 in
set_option maxHeartbeats 4000000 in
theorem csGive_no {w0 w : World} {R : HProp} (p : Nat) (c : Cs) (i : Int) (hI : CsI c) (hE : csGiveErr c i ≠ 0) (h : Own w0 (CsP p c * R) w) :
    Calls Tryz.prog 53 #[.pointer (some ⟨p, 0, none⟩), .int .i64 i] w fun e w' => e = .returned (.tuple #[.slice none 0 0, errV (csGiveErr c i)]) ∧ Own w0 (CsP p c * R) w' := by
  obtain ⟨rb, off, cap, nb, sb, hv, rs, ss, he, ho⟩ := h.cs_open
  obtain ⟨c0, c1, c2, c3, _⟩ := ho.cs_facts
  have HO := Lib.hid ho.cs_net
  have HGV := Lib.hid (ntGive_any nb c.net i hI.net HO.out)
  have hE' : ntGiveErr c.net i ≠ 0 := hE
  have hgv0 : ntGiven c.net i = (0, 0, 0) := by unfold ntGiven; rw [if_neg hE']
  have hgs : ntGive c.net i = c.net := by unfold ntGive; rw [if_neg hE']
  have hEE : csGiveErr c i = ntGiveErr c.net i := rfl
  obtain ⟨mm, hmm⟩ := errV_some hE
  rw [hgv0, hgs, ← hEE, hmm] at HGV
  rw [hmm]
  unfold evV at HGV
  have HE_ := Lib.hid he
  clear he ho
  have H := Lib.hid h; have HI := Lib.hid hI; have HE := Lib.hid hE; have HE' := Lib.hid hE'; have HGV0 := Lib.hid hgv0; have HGS := Lib.hid hgs; have HEE := Lib.hid hEE; have HMM := Lib.hid hmm
  clear h hI hE hE' hgv0 hgs hEE hmm
  go_enter Tryz.func53, Tryz.ntmps53
  go_wp2_with fail
  refine HGV.out.mono ?_
  rintro e w2 ⟨rfl, ho⟩
  have HO2 := Lib.hid ho
  clear ho c0 c1 c2 c3
  go_wp2
  go_ret2
  exact ⟨rfl, Own.cs_close (c := c) HE_.out (Own.cs_net_put (c := c) (HO2.out.alloc' _))⟩
set_option maxRecDepth 100000 in
set_option maxHeartbeats 4000000 in
theorem csGive_yes {w0 w : World} {R : HProp} (hg : As.Handle w0) (p : Nat) (c : Cs) (i : Int) (hI : CsI c) (hb : c.hist.length ≤ 100000) (hE : csGiveErr c i = 0) (h : Own w0 (CsP p c * R) w) :
    Calls Tryz.prog 53 #[.pointer (some ⟨p, 0, none⟩), .int .i64 i] w fun e w' => ∃ v', e = .returned (.tuple #[v', errV 0]) ∧ Own w0 (IntSl v' (csGiven c i) * (CsP p (csGive c i) * R)) w' := by
  obtain ⟨rb, off, cap, nb, sb, hv, rs, ss, he, ho⟩ := h.cs_open
  obtain ⟨c0, c1, c2, c3, _, _, hc1, hc2⟩ := ho.cs_facts
  obtain ⟨k, hk, hto, hgm, hgs, hne⟩ := hI.given hE
  have hkr : k < rs.length := by rw [csIs_len he]; exact hk
  have hmk : rs[k].2 = c.mem[k] := by
    have e : c.mem[k]? = some rs[k].2 := by rw [← he.1, List.getElem?_map, List.getElem?_eq_getElem hkr]; rfl
    exact (List.getElem?_eq_some_iff.1 e).2.symm
  obtain ⟨herr, _, _⟩ := hI.take hk hgs hne
  have hmI := (hI.mem k hk).ok
  obtain ⟨_, _, hsd, _, _⟩ := hI.sd hgs
  have hn5 := hI.n5
  rw [← csIs_len he] at hn5
  have HO := Lib.hid ho.cs_net
  have HGV := Lib.hid (ntGive_any nb c.net i hI.net HO.out)
  have hEn : ntGiveErr c.net i = 0 := hE
  have hgv0 : ntGiven c.net i = ntAt c.net i := by unfold ntGiven; rw [if_pos hEn]
  have hgn : ntGive c.net i = ntOut c.net i := by unfold ntGive; rw [if_pos hEn]
  obtain ⟨P, hP⟩ : ∃ P, P = ntAt c.net i := ⟨_, rfl⟩
  have hPw : I64 P.2.2 := by
    have hh : ntHas c.net i = true := by
      unfold ntGiveErr at hEn
      cases h1 : ntHas c.net i
      · rw [if_pos h1] at hEn; cases hEn
      · rfl
    rw [hP]
    exact isWord_I64 (pkErr0 (hI.net.ok _ (ntAt_mem hh))).2.2.1
  rw [hgv0, hgn, hEn, ← hP, errV0] at HGV
  obtain ⟨pa, pb, pw⟩ := P
  unfold evV at HGV
  have hpb : pb = (k : Int) := by rw [← hto, ← hP]
  subst hpb
  dsimp only at HGV hPw
  obtain ⟨m, hm⟩ : ∃ m, m = csGm c i := ⟨_, rfl⟩
  obtain ⟨s, hs⟩ : ∃ s, s = csGs c i := ⟨_, rfl⟩
  rw [← hm] at hgm
  rw [← hs] at hgs hsd hne herr
  rw [← hgm] at hmk hmI herr
  have hpw : (ntAt c.net i).2.2 = pw := by rw [← hP]
  rw [hpw] at hgs
  obtain ⟨N, hN⟩ : ∃ N, N = rs.length := ⟨_, rfl⟩
  rw [← hN] at c0 hc1 hn5
  have hkN : k < N := by rw [hN]; exact hkr
  obtain ⟨q, hq⟩ : ∃ q, q = rs[k].1 := ⟨_, rfl⟩
  have HE_ := Lib.hid he
  have HMK := Lib.hid hmk
  have HKR := Lib.hid hkr
  have HN' := Lib.hid hN
  have HP := Lib.hid hP
  have HQ := Lib.hid hq
  have HM := Lib.hid hm
  have HS := Lib.hid hs
  have HGS := Lib.hid hgs
  clear he ho hmk hN hP hq hm hs hgs hgm hpw
  have H := Lib.hid h; have HI := Lib.hid hI; have HE := Lib.hid hE; have HEN := Lib.hid hEn; have HGV0 := Lib.hid hgv0; have HGN := Lib.hid hgn; have HTO := Lib.hid hto; have HNE := Lib.hid hne; have HERR := Lib.hid herr; have HMI := Lib.hid hmI; have HSD := Lib.hid hsd; have HPW := Lib.hid hPw
  clear h hI hE hEn hgv0 hgn hto hne herr hmI hsd hPw
  go_enter Tryz.func53, Tryz.ntmps53
  go_wp2_with fail
  refine HGV.out.mono ?_
  rintro e w2 ⟨rfl, ho⟩
  obtain ⟨b6, hb_b6⟩ : ∃ zz_, zz_ = (w2).heap.size := ⟨_, rfl⟩
  obtain ⟨w3, hw_w3⟩ : ∃ zz_, zz_ = (w2).alloc (.cells #[.int .i64 pa, .int .i64 (k : Int), .int .i64 pw] 79 (0, 0)) := ⟨_, rfl⟩
  have h_HB3 := (ho).alloc (.cells #[.int .i64 pa, .int .i64 (k : Int), .int .i64 pw] 79 (0, 0))
  rw [← hb_b6, ← hw_w3] at h_HB3
  have HB3 := Lib.hid h_HB3
  clear h_HB3
  have HO3 : Hid (Own w0 (CsO p rb off cap nb sb hv rs ss { c with net := ntOut c.net i } * (PkO b6 (pa, (k : Int), pw) * R)) w3) := Lib.hid (Own.cs_net_put (c := c) HB3.out.to6)
  obtain ⟨x0, x1, x2⟩ := (HO3.out.second.perm rfl : Own w0 (PkO b6 (pa, (k : Int), pw) * _) w3).pk
  dsimp only at x0 x1 x2
  obtain ⟨d0, d1, d2, d3, _, d5, _, _⟩ := HO3.out.cs_facts
  rw [← HN'.out] at d0
  have e5 := d5 k (q, m) ((List.getElem?_eq_getElem hkr).trans (congrArg some (Prod.ext HQ.out.symm HMK.out)))
  unfold cmV at e5
  dsimp only at e5
  have hlk := HO3.out.drew.cs_look pw HPW.out false
  rw [if_neg (by simp)] at hlk
  obtain ⟨r, hr⟩ : ∃ r, r = (mget ss pw).getD nilSdR := ⟨_, rfl⟩
  have hrs : r.2 = s := by
    have h1 := csIs_get HE_.out pw
    rw [← hr] at h1
    rw [h1]
    unfold csSd
    rw [HGS.out]; rfl
  rw [← hr] at hlk
  obtain ⟨rv, rsd⟩ := r
  dsimp only at hrs
  subst hrs
  unfold sdV at hlk
  dsimp only at hlk
  have ht : Own w0 (CwP q m * (CsX p rb off cap nb sb hv rs ss { c with net := ntOut c.net i } k * (PkO b6 (pa, (k : Int), pw) * R))) w3 := by
    rw [HQ.out, ← HMK.out]
    exact HO3.out.cs_take hkr
  have hrd : Reads w0 (CsX p rb off cap nb sb hv rs ss { c with net := ntOut c.net i } k * (PkO b6 (pa, (k : Int), pw) * R)) rv rsd.clk := fun w' h' => by
    have h1 : Own w0 (MpS sK I64 sdRow sdV sb ss * (SlAt 97 1 rb off rs.length cap (rs.map cmV) * (starL cmP (rs.eraseIdx k) * (csHd p nb sb (.slice (some ⟨rb, off, none⟩) rs.length cap) hv * (NtP nb (ntOut c.net i) * (EvSl hv c.hist * (PkO b6 (pa, (k : Int), pw) * R))))))) w' := h'.perm (by unfold CsX; ac_rfl)
    have h2 := h1.ms_take nilSdR sdRow_nil pw
    rw [← hr] at h2
    exact IntSl_reads (vecErr_I64 (sdErr0 HSD.out).2.2) _ h2
  obtain ⟨rad, rcap, hrv, _, _⟩ := (hrd _ ht.drop).shape
  rw [hrv] at hlk hrd
  have HT := Lib.hid ht.drew
  have HTK := Lib.hid (cwTake_any q m rsd _ HMI.out hrd HT.out)
  have HR_ := Lib.hid hr
  have HRV := Lib.hid hrv
  obtain ⟨ER, hER⟩ : ∃ x, x = caErr m rsd := ⟨_, rfl⟩
  obtain ⟨O, hO⟩ : ∃ x, x = caOut m rsd := ⟨_, rfl⟩
  obtain ⟨m2, hm2⟩ : ∃ x, x = caTake m rsd := ⟨_, rfl⟩
  rw [← hER] at HERR
  rw [← hER, ← hO, ← hm2] at HTK
  have k0 : (0 : Int) ≤ (k : Int) := by omega
  have kN : (k : Int) < (N : Int) := by omega
  clear ho HB3 c0 c1 c2 c3 HO HGV ht hrd hr hrv d5 d1 d3
  have HO_ := Lib.hid hO
  clear hO
  have HG := Lib.hid hg
  clear hg
  have HER := Lib.hid hER; have HM2 := Lib.hid hm2
  clear hER hm2
  go_upto_region 2 with fail
  rw [← hb_b6, ← hw_w3]
  clear hb_b6 hw_w3
  go_upto_region 4 with fail
  refine wp_region_planH 20 [] [(true, 0), (true, 1), (true, 2), (true, 3), (true, 4), (true, 5), (true, 6), (true, 7), (true, 8), (true, 9), (true, 10), (true, 11), (true, 12), (true, 13), (true, 14), (false, 15), (true, 16), (true, 17), (true, 18), (false, 19)] [20] (fun wS => wS.cell? ⟨p, 0, none⟩ = some (.slice (some ⟨rb, off, none⟩) N cap) ∧ wS.cell? ⟨p, 2, none⟩ = some (.map (some sb)) ∧ wS.cell? ⟨b6, 1, none⟩ = some (.int .i64 (k : Int)) ∧ wS.cell? ⟨b6, 2, none⟩ = some (.int .i64 pw) ∧ wS.cell? ⟨rb, off + k, none⟩ = some (.pointer (some ⟨q, 0, none⟩)) ∧ (Instr.lookup 93 (.map (some sb)) (.int .i64 pw) false).run Tryz.prog wS = .ok (.agg #[.int .i64 rsd.who, .int .i64 rsd.word, .slice rad rsd.clk.length rcap]) wS) (by kernel_rfl) (by kernel_rfl) (⟨d0, d2, x1, x2, e5, hlk⟩) ?_
  simp only [pickH, pick, List.getElem?_cons_succ, List.getElem?_cons_zero, Option.toList, Option.map_some, List.cons_append, List.nil_append]
  repeat (refine wpPure_step ?_ rfl ?_ ?_; rotate_left; (focus (intro _; first | with_reducible rfl | (go_simp; done) | (go_simp; with_reducible rfl) | rfl)); go_simp)
  refine wpPure_nil ?_
  repeat (refine wpMix_read ?_ rfl ?_ ?_; rotate_left; (focus (intro _ hS; obtain ⟨q1, q2, q3, q4, q5, q6⟩ := hS; first | with_reducible rfl | (go_simp; done) | (go_simp; with_reducible rfl) | rfl)); go_simp)
  refine wpMix_write (fun K hK => ?_)
  go_simp
  refine HTK.out.mono ?_
  rintro e w4 ⟨v4, rfl, ho4⟩
  have HO4 : Hid (Own w0 (EvSl hv c.hist * (csHd p nb sb (.slice (some ⟨rb, off, none⟩) rs.length cap) hv * (PkO b6 (pa, (k : Int), pw) * (IntSl v4 O * (CwP q m2 * (NtP nb (ntOut c.net i) * (SlAt 97 1 rb off rs.length cap (rs.map cmV) * (starL cmP (rs.eraseIdx k) * (MpS sK I64 sdRow sdV sb ss * R))))))))) w4) := Lib.hid (ho4.perm (by unfold CsX; ac_rfl))
  have f0 : w4.cell? ⟨p, 0, none⟩ = some (.slice (some ⟨rb, off, none⟩) N cap) := by rw [HN'.out]; exact (HO4.out.second.cell 0).trans rfl
  have f2 : w4.cell? ⟨p, 2, none⟩ = some (.map (some sb)) := (HO4.out.second.cell 2).trans rfl
  obtain ⟨_, g1, g2⟩ := HO4.out.third.pk
  dsimp only at g1 g2
  have f5 : w4.cell? ⟨rb, off + k, none⟩ = some (.pointer (some ⟨q, 0, none⟩)) := by
    have h1 : Own w0 (SlAt 97 1 rb off rs.length cap (rs.map cmV) * (EvSl hv c.hist * (csHd p nb sb (.slice (some ⟨rb, off, none⟩) rs.length cap) hv * (PkO b6 (pa, (k : Int), pw) * (IntSl v4 O * (CwP q m2 * (NtP nb (ntOut c.net i) * (starL cmP (rs.eraseIdx k) * (MpS sK I64 sdRow sdV sb ss * R))))))))) w4 := HO4.out.perm (by ac_rfl)
    obtain ⟨_, _, _, hc, _⟩ := h1.slAt_facts
    exact hc k (.pointer (some ⟨q, 0, none⟩)) (by
      rw [List.getElem?_map]
      exact congrArg (Option.map cmV) ((List.getElem?_eq_getElem hkr).trans (congrArg some (show rs[k] = (q, m) from Prod.ext HQ.out.symm HMK.out))))
  have f6 : (Instr.lookup 93 (.map (some sb)) (.int .i64 pw) false).run Tryz.prog w4 = .ok (.agg #[.int .i64 rsd.who, .int .i64 rsd.word, .slice rad rsd.clk.length rcap]) w4 := by
    have h1 : Own w0 (MpS sK I64 sdRow sdV sb ss * (SlAt 97 1 rb off rs.length cap (rs.map cmV) * (EvSl hv c.hist * (csHd p nb sb (.slice (some ⟨rb, off, none⟩) rs.length cap) hv * (PkO b6 (pa, (k : Int), pw) * (IntSl v4 O * (CwP q m2 * (NtP nb (ntOut c.net i) * (starL cmP (rs.eraseIdx k) * R))))))))) w4 := HO4.out.perm (by ac_rfl)
    have h2 := (h1.perm (show _ = Mp sK I64 sb (mvals sdV ss) * _ by unfold MpS; rw [star_assoc])).map_look (int_ke int_kind) mapsd_kind sd_zero HPW.out false
    rw [mget_val sdV ss pw nilSdR, if_neg (by simp), ← HR_.out] at h2
    unfold sdV at h2
    dsimp only at h2
    rw [HRV.out] at h2
    exact h2
  obtain ⟨ad4, cp4, hv4⟩ := Own.int_shape HO4.out.fourth
  subst hv4
  clear ho4 HTK HT d0 d2 x0 x1 x2 e5 hlk HO3
  refine hK _ _ ⟨⟨f0, f2, g1, g2, f5, f6⟩, ?_⟩
  clear hK K
  go_simp
  repeat (refine wpMix_read ?_ rfl ?_ ?_; rotate_left; (focus (intro _ hS; obtain ⟨q1, q2, q3, q4, q5, q6⟩ := hS; first | with_reducible rfl | (go_simp; done) | (go_simp; with_reducible rfl) | rfl)); go_simp)
  refine wpMix_write (fun K hK => ?_)
  go_simp
  refine hK _ _ ⟨⟨f0, f2, g1, g2, f5, f6⟩, ?_⟩
  clear hK K
  go_simp
  refine wpMix_nil ?_
  go_wp2_with fail
  refine NoPanic.normal ?_
  clear f0 f2 g1 g2 f5 f6
  have HGVN : Hid (csGiven c i = O ∧ m2 = caTake (csGm c i) (csGs c i) ∧ O = caOut (csGm c i) (csGs c i)) := Lib.hid (by
    refine ⟨?_, ?_, ?_⟩
    · unfold csGiven; rw [if_pos HE.out, HO_.out, HM.out, HS.out]
    · rw [HM2.out, HM.out, HS.out]
    · rw [HO_.out, HM.out, HS.out])
  obtain ⟨b9, hb_b9⟩ : ∃ zz_, zz_ = (w4).heap.size := ⟨_, rfl⟩
  obtain ⟨w5, hw_w5⟩ : ∃ zz_, zz_ = (w4).alloc (.cells #[.int .i64 0] 90 (0, 0)) := ⟨_, rfl⟩
  have h_HB9 := (HO4.out).alloc (.cells #[.int .i64 0] 90 (0, 0))
  rw [← hb_b9, ← hw_w5] at h_HB9
  have HB9 := Lib.hid h_HB9
  clear h_HB9
  have HN9 : Hid (Own w0 (ErO b9 0 * (EvSl hv c.hist * (csHd p nb sb (.slice (some ⟨rb, off, none⟩) rs.length cap) hv * (PkO b6 (pa, (k : Int), pw) * (IntSl (.slice ad4 O.length cp4) O * (CwP q m2 * (NtP nb (ntOut c.net i) * (SlAt 97 1 rb off rs.length cap (rs.map cmV) * (starL cmP (rs.eraseIdx k) * (MpS sK I64 sdRow sdV sb ss * R)))))))))) w5) := HB9
  clear HB9 HO4
  go_upto_block 0 with fail
  rw [← hb_b9, ← hw_w5]
  clear hb_b9 hw_w5
  by_cases h7 : ER = 7
  · subst h7
    have hon : O = [] := by rw [HO_.out]; unfold caOut; rw [if_neg (by rw [← HER.out]; simp)]
    have HON := Lib.hid hon
    clear hon
    rw [show errV 7 = .iface 90 (.int .i64 7) from rfl]
    go_wp2_with fail
    refine (as_own HG.out 7 (by simp) b9 0 HN9.out).mono ?_
    rintro e w6 ⟨rfl, ho⟩
    have z0 := (ho.cell 0).trans rfl
    have HO6 := Lib.hid ho
    clear ho HN9
    go_wp2
    go_ret2
    refine ⟨.slice none 0 0, rfl, ?_⟩
    rw [HGVN.out.1, HON.out]
    refine Own.sl_nil ?_ 3 1
    have h1 := HO6.out.drop
    rw [HON.out] at h1
    have hh : EvSl hv c.hist = EvSl hv (c.hist ++ []) := by rw [List.append_nil]
    rw [hh] at h1
    refine cs_give_close (rb := rb) (off := off) (cap := cap) (nb := nb) (sb := sb) (hv := hv) (m := m2) (hh := []) HE_.out hkr HE.out HTO.out HGVN.out.2.1 (by rw [← HGVN.out.2.2, HON.out]; rfl) ?_
    rw [← HQ.out]
    exact (h1.perm (show _ = PkO b6 (pa, (k : Int), pw) * (IntSl _ [] * (CwP q m2 * (NtP nb (ntOut c.net i) * (csHd p nb sb (.slice (some ⟨rb, off, none⟩) rs.length cap) hv * (SlAt 97 1 rb off rs.length cap (rs.map cmV) * (starL cmP (rs.eraseIdx k) * (MpS sK I64 sdRow sdV sb ss * (EvSl hv (c.hist ++ []) * R)))))))) by ac_rfl)).drop.drop
  have h0 : ER = 0 := HERR.out.resolve_right h7
  subst h0
  rw [errV0]
  clear h7
  go_wp2_with fail
  refine (as_nil _ _).mono ?_
  rintro e w' ⟨rfl, rfl⟩
  have HN10 : Hid (Own w0 (EvSl hv c.hist * (csHd p nb sb (.slice (some ⟨rb, off, none⟩) rs.length cap) hv * (PkO b6 (pa, (k : Int), pw) * (IntSl (.slice ad4 O.length cp4) O * (CwP q m2 * (NtP nb (ntOut c.net i) * (SlAt 97 1 rb off rs.length cap (rs.map cmV) * (starL cmP (rs.eraseIdx k) * (MpS sK I64 sdRow sdV sb ss * R))))))))) w5) := Lib.hid HN9.out.drop
  clear HN9
  go_wp2_with fail
  obtain ⟨Q, hQ⟩ : ∃ Q, Q = PkO b6 (pa, (k : Int), pw) * (IntSl (.slice ad4 O.length cp4) O * (CwP q m2 * (NtP nb (ntOut c.net i) * (SlAt 97 1 rb off rs.length cap (rs.map cmV) * (starL cmP (rs.eraseIdx k) * (MpS sK I64 sdRow sdV sb ss * R)))))) := ⟨_, rfl⟩
  have HOI : Hid (∀ x ∈ O, I64 x) := Lib.hid (by rw [HO_.out]; exact caOut_I64 HMI.out)
  have hol : O.length ≤ 41 := by rw [HO_.out]; exact caOut_le HMI.out
  have HQ_ := Lib.hid hQ
  have HQF : Hid (∀ (w' : World) (T : HProp), Own w0 (T * Q) w' → w'.cell? ⟨b6, 1, none⟩ = some (.int .i64 (k : Int)) ∧ Ints w' (.slice ad4 O.length cp4) O) := Lib.hid (fun w' T h => by
    have h1 := h.drop
    rw [hQ] at h1
    exact ⟨(h1.pk).2.1, IntSl_reads HOI.out _ h1.second⟩)
  rw [← hQ] at HN10
  clear hQ
  obtain ⟨L, hL⟩ : ∃ L, L = O.length := ⟨_, rfl⟩
  rw [← hL] at hol
  rw [← hL]
  have HL := Lib.hid hL
  rw [← hL] at HQF
  clear hL
  have HBN : Hid (c.hist.length ≤ 100000) := Lib.hid hb
  go_loopw [57] (fun iv wr => ∃ (j : Nat) (hv : Value), j ≤ L ∧ iv = .int .i64 j ∧ Hid (Own w0 (EvSl hv (c.hist ++ hearEv (k : Int) (O.take j)) * (csHd p nb sb (.slice (some ⟨rb, off, none⟩) rs.length cap) hv * Q)) wr)) (fun iv _ => L - (intOf iv).toNat)
  case atStart => exact ⟨0, hv, Nat.zero_le _, rfl, Lib.hid (by rw [List.take_zero]; show Own w0 (EvSl hv (c.hist ++ []) * _) _; rw [List.append_nil]; exact HN10.out)⟩
  case round =>
    clear HN10
    obtain ⟨j, hvj, hj, rfl, HP⟩ := hrel
    by_cases hlt : j < L
    rotate_left
    · have hjL : O.take j = O := List.take_of_length_le (by rw [← HL.out]; omega)
      rw [hjL, HQ_.out] at HP
      have HJL := Lib.hid hjL
      clear hjL
      go_wp2
      go_ret2
      refine ⟨_, rfl, ?_⟩
      rw [HGVN.out.1, HL.out]
      have h1 := HP.out
      have h2 : Own w0 (IntSl (.slice ad4 O.length cp4) O * (CwP q m2 * (NtP nb (ntOut c.net i) * (csHd p nb sb (.slice (some ⟨rb, off, none⟩) rs.length cap) hvj * (SlAt 97 1 rb off rs.length cap (rs.map cmV) * (starL cmP (rs.eraseIdx k) * (MpS sK I64 sdRow sdV sb ss * (EvSl hvj (c.hist ++ hearEv (k : Int) O) * R)))))))) wr :=
        (h1.perm (show _ = PkO b6 (pa, (k : Int), pw) * (IntSl (.slice ad4 O.length cp4) O * (CwP q m2 * (NtP nb (ntOut c.net i) * (csHd p nb sb (.slice (some ⟨rb, off, none⟩) rs.length cap) hvj * (SlAt 97 1 rb off rs.length cap (rs.map cmV) * (starL cmP (rs.eraseIdx k) * (MpS sK I64 sdRow sdV sb ss * (EvSl hvj (c.hist ++ hearEv (k : Int) O) * R)))))))) by ac_rfl)).drop
      have h3 := h2.perm (show _ = CwP q m2 * (NtP nb (ntOut c.net i) * (csHd p nb sb (.slice (some ⟨rb, off, none⟩) rs.length cap) hvj * (SlAt 97 1 rb off rs.length cap (rs.map cmV) * (starL cmP (rs.eraseIdx k) * (MpS sK I64 sdRow sdV sb ss * (EvSl hvj (c.hist ++ hearEv (k : Int) O) * (IntSl (.slice ad4 O.length cp4) O * R))))))) by ac_rfl)
      rw [HQ.out] at h3
      exact (cs_give_close (rb := rb) (off := off) (cap := cap) (nb := nb) (sb := sb) (hv := hvj) (m := m2) (hh := hearEv (k : Int) O) HE_.out hkr HE.out HTO.out HGVN.out.2.1 (by rw [← HGVN.out.2.2]) h3).second
    obtain ⟨g1, hin⟩ := HQF.out _ _ (HP.out.perm (show _ = (EvSl hvj (c.hist ++ hearEv (k : Int) (O.take j)) * csHd p nb sb (.slice (some ⟨rb, off, none⟩) rs.length cap) hvj) * Q by rw [star_assoc]))
    have hjO : j < O.length := by rw [← HL.out]; exact hlt
    obtain ⟨aa, rfl, hca⟩ := hin.at j hjO
    obtain ⟨x, hx⟩ : ∃ x, x = O[j] := ⟨_, rfl⟩
    rw [← hx] at hca
    have hsn := hearEv_snoc (a := (k : Int)) hjO
    rw [← hx] at hsn
    have g3 : wr.cell? ⟨p, 3, none⟩ = some hvj := (HP.out.second.cell 3).trans rfl
    obtain ⟨had, hcp, hhv, _⟩ := Own.rd HP.out
    obtain ⟨LH, hLH⟩ : ∃ y, y = (c.hist ++ hearEv (k : Int) (O.take j)).length := ⟨_, rfl⟩
    have hLHb : LH ≤ 100041 := by
      rw [hLH, List.length_append]
      unfold hearEv
      rw [List.length_map, List.length_take]
      have := HBN.out
      omega
    have HT : Hid (Own w0 (Sl 112 3 (.slice had LH hcp) LH ((c.hist ++ hearEv (k : Int) (O.take j)).flatMap evCells) * (csHd p nb sb (.slice (some ⟨rb, off, none⟩) rs.length cap) (.slice had LH hcp) * Q)) wr) := Lib.hid (by
      have h1 := HP.out
      unfold EvSl at h1
      rw [hhv, ← hLH] at h1
      exact h1)
    rw [hhv, ← hLH] at g3
    have j0 : (0 : Int) ≤ (j : Int) := by omega
    have jL : (j : Int) < (L : Int) := by omega
    clear hin hhv HP
    have HX := Lib.hid hx; have HSN := Lib.hid hsn; have HLH := Lib.hid hLH
    clear hx hsn hLH
    go_upto_region 13 with fail
    refine wp_region_planH 13 [] [(true, 0), (true, 1), (true, 2), (true, 3), (true, 4), (true, 5), (true, 6), (true, 7), (true, 8), (false, 9), (false, 10), (true, 11), (true, 12)] [13] (fun wS => wS.cell? ⟨p, 3, none⟩ = some (.slice had LH hcp) ∧ wS.cell? ⟨b6, 1, none⟩ = some (.int .i64 (k : Int))) (by kernel_rfl) (by kernel_rfl) (⟨g3, g1⟩) ?_
    simp only [pickH, pick, List.getElem?_cons_succ, List.getElem?_cons_zero, Option.toList, Option.map_some, List.cons_append, List.nil_append]
    repeat (refine wpPure_step ?_ rfl ?_ ?_; rotate_left; (focus (intro _; first | with_reducible rfl | (go_simp; done) | (go_simp; with_reducible rfl) | rfl)); go_simp)
    refine wpPure_nil ?_
    repeat (refine wpMix_read ?_ rfl ?_ ?_; rotate_left; (focus (intro _ hS; obtain ⟨q1, q2⟩ := hS; first | with_reducible rfl | (go_simp; done) | (go_simp; with_reducible rfl) | rfl)); go_simp)
    refine wpMix_write (fun K hK => ?_)
    go_simp
    obtain ⟨b3, hb_b3⟩ : ∃ zz_, zz_ = (wr).heap.size := ⟨_, rfl⟩
    obtain ⟨w8, hw_w8⟩ : ∃ zz_, zz_ = (wr).alloc (.cells #[.int .i64 (k : Int), .int .i64 3, .int .i64 x] 112 (0, 0)) := ⟨_, rfl⟩
    have h_HB3 := (HT.out).alloc (.cells #[.int .i64 (k : Int), .int .i64 3, .int .i64 x] 112 (0, 0))
    rw [← hb_b3, ← hw_w8] at h_HB3
    have HB3 := Lib.hid h_HB3
    clear h_HB3
    rw [← hb_b3, ← hw_w8]
    clear hb_b3 hw_w8
    have HB5 : Hid (Own w0 (Sl 112 3 (.slice had LH hcp) LH ((c.hist ++ hearEv (k : Int) (O.take j)).flatMap evCells) * (csHd p nb sb (.slice (some ⟨rb, off, none⟩) rs.length cap) (.slice had LH hcp) * (EvO b3 ((k : Int), 3, x) * Q))) w8.drew) := Lib.hid (HB3.out.drew.perm (by unfold EvO; ac_rfl))
    clear HB3 HT g1 g3 hca
    have g3 : w8.drew.cell? ⟨p, 3, none⟩ = some (.slice had LH hcp) := (HB5.out.second.cell 3).trans rfl
    have g1 := (HQF.out _ _ HB5.out.drop.drop).1
    refine hK _ _ ⟨⟨g3, g1⟩, ?_⟩
    clear hK K
    go_simp
    refine wpMix_write (fun K hK => ?_)
    have hsrc : Rd w8.drew (.slice (some ⟨b3, 0, none⟩) 1 1) 1 [.int .i64 (k : Int), .int .i64 3, .int .i64 x] := Rd_one (fun i u hi => by
      rw [Own.cell (HB5.out.third.perm (by unfold EvO; rfl))]
      match i, hi with
      | 0, hi => exact hi
      | 1, hi => exact hi
      | 2, hi => exact hi) (Nat.le_refl _) (by unfold maxLen; omega)
    refine step_app rfl _ _ 61 rfl 112 3 24 _ info_ev Tryz.underlying61 rfl (by decide) (by rfl) HB5.out (by rfl) (by rfl) hsrc (by intro u hu; simp at hu; rcases hu with rfl | rfl | rfl <;> rfl) (by unfold maxLen; omega) (by omega) ?_
    intro v9 w9 ho9
    have e3 : w9.cell? ⟨p, 3, none⟩ = some (.slice had LH hcp) := (ho9.second.cell 3).trans rfl
    have ef : w9.frozen? ⟨p, 3, none⟩ = false := ho9.second.free 3 none
    have e1 := (HQF.out _ _ ho9.drop.drop).1
    have hset := ho9.second.setCell (i := 3) (v := v9)
    have hfin : Own w0 (EvSl v9 (c.hist ++ hearEv (k : Int) (O.take (j + 1))) * (csHd p nb sb (.slice (some ⟨rb, off, none⟩) rs.length cap) v9 * Q)) (w9.setCell ⟨p, 3, none⟩ v9) := by
      have e1 : Sl 112 3 v9 (LH + 1) ((c.hist ++ hearEv (k : Int) (O.take j)).flatMap evCells ++ [.int .i64 (k : Int), .int .i64 3, .int .i64 x]) = EvSl v9 (c.hist ++ hearEv (k : Int) (O.take (j + 1))) := by
        rw [HSN.out, ← List.append_assoc]
        unfold EvSl
        rw [List.length_append (bs := [_]), List.flatMap_append (ys := [_]), ← HLH.out]
        rfl
      rw [← e1]
      refine (hset.perm (show _ = EvO b3 ((k : Int), 3, x) * (Sl 112 3 v9 (LH + 1) ((c.hist ++ hearEv (k : Int) (O.take j)).flatMap evCells ++ [.int .i64 (k : Int), .int .i64 3, .int .i64 x]) * (csHd p nb sb (.slice (some ⟨rb, off, none⟩) rs.length cap) v9 * Q)) from ?_)).drop
      show csHd p nb sb _ v9 * _ = _
      ac_rfl
    have HFIN := Lib.hid hfin
    obtain ⟨ad9, n9, cp9, hv9⟩ := sl_shape ho9
    subst hv9
    clear hsrc ho9 hset hfin HB5 g1 g3
    refine hK _ _ ⟨⟨e3, e1⟩, ?_⟩
    clear hK K
    go_simp
    repeat (refine wpMix_read ?_ rfl ?_ ?_; rotate_left; (focus (intro _ hS; obtain ⟨q1, q2⟩ := hS; first | with_reducible rfl | (go_simp; done) | (go_simp; with_reducible rfl) | rfl)); go_simp)
    refine wpMix_nil ?_
    go_wp2_with fail
    refine NoPanic.normal ?_
    go_wp2_with fail
    go_roundw
    case rel => exact ⟨j + 1, _, by omega, by go_num, HFIN⟩
    case measure => simp [intOf]; omega
set_option maxRecDepth 100000 in
set_option maxHeartbeats 4000000 in
theorem csGive_any {w0 w : World} {R : HProp} (hg : As.Handle w0) (p : Nat) (c : Cs) (i : Int) (hI : CsI c) (hb : c.hist.length ≤ 100000) (h : Own w0 (CsP p c * R) w) :
    Calls Tryz.prog 53 #[.pointer (some ⟨p, 0, none⟩), .int .i64 i] w fun e w' => ∃ v', e = .returned (.tuple #[v', errV (csGiveErr c i)]) ∧ Own w0 (IntSl v' (csGiven c i) * (CsP p (csGive c i) * R)) w' := by
  by_cases hE : csGiveErr c i = 0
  · rw [hE]
    exact csGive_yes hg p c i hI hb hE h
  · refine (csGive_no p c i hI hE h).mono ?_
    rintro e w' ⟨rfl, ho⟩
    refine ⟨_, rfl, ?_⟩
    rw [show csGiven c i = [] by unfold csGiven; rw [if_neg hE], show csGive c i = c by unfold csGive; rw [if_neg hE]]
    exact ho.sl_nil 3 1
end Go.Proofs.YtdfjbnfdknpahaaGreatDoor
/- run's line, plainly: when it can be read. -/
namespace Go.Proofs.YtdfjbnfdknpahaaGreatDoor
set_option linter.unusedVariables false
set_option linter.unusedSimpArgs false
open Go.RowKit
theorem wantsB_cases {w : List UInt8} {m : Nat} (h : wantsB w = some m) : (w = sayW ∧ m = 2) ∨ (w = giveW ∧ m = 1) ∨ (w = dropW ∧ m = 1) ∨ (w = twiceW ∧ m = 1) ∨ (w = wayW ∧ m = 0) ∨ (w = heardW ∧ m = 1) ∨ (w = facesW ∧ m = 0) ∨ (w = clockW ∧ m = 1) := by
  unfold wantsB at h
  repeat' split at h
  all_goals first | (injection h with h; subst h; subst_vars; simp; done) | (injection h with h; subst h; simp_all; done) | (cases h; done) | simp_all
theorem wantsB_le {w : List UInt8} {m : Nat} (h : wantsB w = some m) : m ≤ 2 := by
  rcases wantsB_cases h with ⟨_, h⟩ | ⟨_, h⟩ | ⟨_, h⟩ | ⟨_, h⟩ | ⟨_, h⟩ | ⟨_, h⟩ | ⟨_, h⟩ | ⟨_, h⟩ <;> omega
theorem read_none {x : List UInt8} {r : List (List UInt8)} (h : wantsB x = none) : readB (x :: r) = false := by
  unfold readB
  rw [show (x :: r).headD [] = x from rfl, h]
  simp
theorem read_two {x : List UInt8} {r : List (List UInt8)} {m : Nat} (h : wantsB x = some m) (ht : twoOk r = false) : readB (x :: r) = false := by
  unfold readB
  rw [show (x :: r).headD [] = x from rfl, show (x :: r).tail = r from rfl, h]
  have hm := wantsB_le h
  unfold twoOk at ht
  cases ha : r.all numOk
  · rfl
  · rw [ha, Bool.true_and, decide_eq_false_iff_not] at ht
    rw [Bool.true_and, decide_eq_false_iff_not]
    intro he
    injection he with he
    simp at he
    omega
theorem read_len {x : List UInt8} {r : List (List UInt8)} {m : Nat} (h : wantsB x = some m) (hl : r.length ≠ m) : readB (x :: r) = false := by
  unfold readB
  rw [show (x :: r).headD [] = x from rfl, h]
  have : decide (some m = some ((x :: r).length - 1)) = false := by
    rw [decide_eq_false_iff_not]
    intro he
    injection he with he
    simp at he
    omega
  rw [this, Bool.and_false]
theorem read_yes {x : List UInt8} {r : List (List UInt8)} {m : Nat} (h : wantsB x = some m) (ht : twoOk r = true) (hl : r.length = m) : readB (x :: r) = true := by
  unfold readB
  rw [show (x :: r).headD [] = x from rfl, show (x :: r).tail = r from rfl, h]
  unfold twoOk at ht
  rw [Bool.and_eq_true] at ht
  rw [ht.1, Bool.true_and, decide_eq_true_eq]
  simp [hl]
def badV : Value := .iface 104 (.agg #[.iface 90 (.int .i64 2)])
def lnV (e : Nat) : Value := if e = 9 then badV else errV e
theorem cut_words {s : List UInt8} : ∃ x r, cutS 32 s = x :: r := by
  cases h : cutS 32 s with
  | nil => exact absurd h (cutS_ne 32 s)
  | cons x r => exact ⟨x, r, rfl⟩
theorem cutS_small (c : UInt8) : ∀ s : List UInt8, ∀ x ∈ cutS c s, x.length ≤ s.length
  | [], x, h => by simp [cutS] at h; rw [h]; exact Nat.zero_le _
  | b :: r, x, h => by
    have ih := cutS_small c r
    unfold cutS at h
    split at h
    · rcases List.mem_cons.1 h with h | h
      · rw [h]; exact Nat.zero_le _
      · have := ih x h; simp; omega
    · split at h
      · rename_i h2; exact absurd h2 (cutS_ne c r)
      · rename_i y q h2
        rcases List.mem_cons.1 h with h | h
        · have := ih y (by rw [h2]; exact List.mem_cons_self ..)
          rw [h]; simp; omega
        · have := ih x (by rw [h2]; exact List.mem_cons_of_mem _ h)
          simp; omega
theorem words_len {s : List UInt8} : (cutS 32 s).length ≤ s.length + 1 := by
  rw [cutS_len]
  have := List.count_le_length (a := (32 : UInt8)) (l := s)
  omega
theorem CZ.word {c : Cs} (h : CZ c) : ∀ e ∈ c.hist, isWord e.2.2 = true := fun e he => by
  obtain ⟨s, hs, _, _⟩ := h.ci.D e he
  exact (h.ci.sd _ _ hs).2.2.2.1
theorem word_small {l : List Int} (hl : l.length ≤ 60) (h : ∀ x ∈ l, isWord x = true) : Small l :=
  ⟨by omega, fun x hx => by
    have := h x hx
    simp [isWord] at this
    omega⟩
theorem CZ.given {c : Cs} (h : CZ c) (i : Int) : Small (csGiven c i) := by
  unfold csGiven
  by_cases he : csGiveErr c i = 0
  · rw [if_pos he]
    have hg := h.give i
    have hh : (csGive c i).hist = c.hist ++ (caOut (csGm c i) (csGs c i)).map fun x => ((ntAt c.net i).2.1, 3, x) := by unfold csGive; rw [if_pos he]
    refine word_small ?_ fun x hx => ?_
    · have := hg.len
      rw [hh, List.length_append, List.length_map] at this
      omega
    · have := hg.word ((ntAt c.net i).2.1, 3, x) (by rw [hh]; exact List.mem_append_right _ (List.mem_map.2 ⟨x, hx, rfl⟩))
      exact this
  · rw [if_neg he]
    exact ⟨by simp, by simp⟩
theorem CZ.heardS {c : Cs} (h : CZ c) (a : Int) : Small (heardE c.hist a) := by
  unfold heardE
  split
  · unfold heardL
    refine word_small ?_ fun x hx => ?_
    · rw [List.length_map]
      have := List.length_filter_le (heardB a) c.hist
      have := h.len
      omega
    · obtain ⟨e, he, rfl⟩ := List.mem_map.1 hx
      exact h.word e (List.mem_filter.1 he).1
  · exact ⟨by simp, by simp⟩
theorem lnV_ne {e : Nat} (h : e ≤ 8) : lnV e = errV e := if_neg (by omega)
theorem say_le (c : Cs) (a b : Int) : csSayErr c a b ≤ 8 := by unfold csSayErr; ((repeat' split) <;> omega)
theorem give_le (c : Cs) (a : Int) : csGiveErr c a ≤ 8 := by unfold csGiveErr ntGiveErr; ((repeat' split) <;> omega)
theorem drop_le (c : Cs) (a : Int) : ntDropErr c.net a ≤ 8 := by unfold ntDropErr; ((repeat' split) <;> omega)
theorem twice_le (c : Cs) (a : Int) : ntTwiceErr c.net a ≤ 8 := by unfold ntTwiceErr ntErr pkErr; ((repeat' split) <;> omega)
theorem CZ.heard_le {c : Cs} (h : CZ c) (a : Int) : heardErr c.hist a ≤ 8 := by unfold heardErr; rw [h.r0]; ((repeat' split) <;> omega)
end Go.Proofs.YtdfjbnfdknpahaaGreatDoor
