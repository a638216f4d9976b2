/- Contracts of package clock: numbers. -/
import Derived.Test.YtkgnjkokbiefgaaClockP
import Derived.Test.YtkgnjkokbiefgaaHist9
namespace Go.Proofs.Ytkgnjkokbiefgaa
set_option linter.unusedVariables false
set_option linter.unusedSimpArgs false
open Go.RowKit
set_option maxRecDepth 100000 in
set_option maxHeartbeats 4000000 in
theorem numbers_any {w0 w : World} {R : HProp} (v : Value) (hs : List Ev) (h : Own w0 R w) (hv : ReadsE w0 R v hs) (hr : RightH hs) :
    Calls Try.prog 74 #[v] w fun e w' => ∃ v', e = .returned v' ∧ Own w0 (IntSl v' (numsR hs) * R) w' := by
  obtain ⟨had, hcap, rfl, hc1, hc2⟩ := (hv _ h).shape
  obtain ⟨n, hn⟩ : ∃ n, n = hs.length := ⟨_, rfl⟩
  have hlen := hr.1
  rw [← hn] at hc1 hlen hv ⊢
  obtain ⟨lb, hb_lb⟩ : ∃ zz_, zz_ = (w).heap.size := ⟨_, rfl⟩
  obtain ⟨w1, hw_w1⟩ : ∃ zz_, zz_ = (w).alloc (.cells #[.int .i64 0, .int .i64 0, .int .i64 0, .int .i64 0, .int .i64 0] 136 (0, 0)) := ⟨_, rfl⟩
  have h_HO1 := (h).alloc (.cells #[.int .i64 0, .int .i64 0, .int .i64 0, .int .i64 0, .int .i64 0] 136 (0, 0))
  rw [← hb_lb, ← hw_w1] at h_HO1
  have HO1 := Lib.hid h_HO1
  clear h_HO1
  have HO2 : Hid (Own w0 (IntSl (.slice none 0 0) (numState hs 0).1 * (Five lb (numState hs 0).2 * R)) w1) := Lib.hid (Own.sl_nil HO1.out _ _)
  clear HO1
  have H := Lib.hid h; have HV := Lib.hid hv; have HN := Lib.hid hn; have HR := Lib.hid hr
  clear h hv hn hr
  go_enter Try.func74, Try.ntmps74
  go_upto_region 3 with fail
  rw [← hb_lb, ← hw_w1]
  clear hb_lb hw_w1
  go_wp2_with fail
  go_loopw [10, 3] (fun iv ov wr => ∃ k : Nat, k ≤ n ∧ iv = .int .i64 k ∧ Hid (Own w0 (IntSl ov (numState hs k).1 * (Five lb (numState hs k).2 * R)) wr)) (fun iv _ _ => n - (intOf iv).toNat)
  case atStart => exact ⟨0, Nat.zero_le _, rfl, HO2⟩
  case round =>
    clear HO2
    obtain ⟨k, hk, rfl, HO⟩ := hrel
    by_cases hlt : k < n
    rotate_left
    · have hkn : k = n := by omega
      have ho := HO.out
      rw [hkn] at ho
      have HF := Lib.hid ho
      clear ho
      go_wp2
      go_ret
      exact ⟨_, rfl, by unfold numsR; rw [← HN.out]; exact (HF.out.perm (star_left_comm _ _ _)).drop⟩
    have hkl : k < hs.length := by rw [← HN.out]; exact hlt
    obtain ⟨aa, pb, po, ps, rfl, hea, hcs, _⟩ := HV.out.more.more.at HO.out k hkl
    have hwho := HR.out.who hkl
    have hsd := HR.out.said hkl
    have hnx : numNext hs k (numState hs k) = numNext hs k (numState hs k) := rfl
    obtain ⟨N, hN⟩ : ∃ N, N = numNext hs k (numState hs k) - 1 := ⟨_, rfl⟩
    have hnst : numState hs (k + 1) = ((numState hs k).1 ++ [N + 1], (numState hs k).2.set (evAt hs k).1.toNat (N + 1)) := by rw [hN]; simp [numState]
    obtain ⟨hb1, hb2⟩ := numState_bound hs k
    obtain ⟨hl1, hl2⟩ := numState_len hs k
    have hNdef : N = if (evAt hs k).2.1 = 3 then max ((numState hs k).2.getD (evAt hs k).1.toNat 0) ((numState hs k).1.getD (saidAt (hs.take k) (evAt hs k).2.2).toNat 0) else (numState hs k).2.getD (evAt hs k).1.toNat 0 := by rw [hN]; unfold numNext; omega
    have hsaid := fun (w1 : World) (R' : HProp) (word : Int) (ho : Own w0 (R' * R) w1) => said_any (w0 := w0) (w := w1) (R := R' * R) word (.slice (some aa) k hcap) (hs.take k) ho (HV.out.front (by omega)).more
    obtain ⟨out, hout⟩ : ∃ out, out = (numState hs k).1 := ⟨_, rfl⟩
    obtain ⟨last, hlast⟩ : ∃ last, last = (numState hs k).2 := ⟨_, rfl⟩
    have ho := HO.out
    rw [← hout, ← hlast] at ho
    rw [← hout] at hb1 hl1
    rw [← hlast] at hb2 hl2
    rw [← hout, ← hlast] at hNdef hnst
    clear hN hnx
    obtain ⟨x, hx⟩ : ∃ x, x = evAt hs k := ⟨_, rfl⟩
    rw [← hx] at hcs hwho hsd hnst hNdef
    obtain ⟨c0, c1, c2⟩ := hcs _ HO.out
    obtain ⟨x1, x2, x3⟩ := x
    simp only at c0 c1 c2 hwho hsd hnst hNdef
    obtain ⟨q, rfl⟩ : ∃ q : Nat, x1 = (q : Int) := ⟨x1.toNat, by omega⟩
    simp only [Int.toNat_natCast] at hnst hNdef
    have hq5 : q < 5 := by omega
    obtain ⟨n0, hn0⟩ : ∃ n0, n0 = last.getD q 0 := ⟨_, rfl⟩
    have hn0b := getD_bound hb2 (Int.le_refl 0) (Int.natCast_nonneg k) q
    rw [← hn0] at hn0b hNdef
    have hn0a := hn0b.1
    have hn0c := hn0b.2
    have hlq : last[q]? = some n0 := by rw [hn0, List.getD_eq_getElem?_getD, List.getElem?_eq_getElem (by omega)]; rfl
    obtain ⟨eb, hb_eb⟩ : ∃ zz_, zz_ = (wr).heap.size := ⟨_, rfl⟩
    obtain ⟨w2, hw_w2⟩ : ∃ zz_, zz_ = (wr).alloc (.cells #[.int .i64 (q : Int), .int .i64 x2, .int .i64 x3] 49 (0, 0)) := ⟨_, rfl⟩
    have h_HO1 := (ho).alloc (.cells #[.int .i64 (q : Int), .int .i64 x2, .int .i64 x3] 49 (0, 0))
    rw [← hb_eb, ← hw_w2] at h_HO1
    have HO1 := Lib.hid h_HO1
    clear h_HO1
    have HE1 : Hid (Own w0 (EvO eb ((q : Int), x2, x3) * (IntSl u3 out * (Five lb last * R))) w2) := HO1
    have HE2 : Hid (Own w0 (Five lb last * (EvO eb ((q : Int), x2, x3) * (IntSl u3 out * R))) w2) := Lib.hid (HO1.out.perm (by unfold EvO; ac_rfl))
    clear HO1
    obtain ⟨d0, d1, d2⟩ := HE1.out.ev
    simp only at d0 d1 d2
    have e1 := HE2.out.five_cell q _ hlq
    have k0 : (0 : Int) ≤ (k : Int) := by omega
    have kn : (k : Int) ≤ (n : Int) := by omega
    have kc : (k : Int) ≤ (hcap : Int) := by omega
    have hc0 : hcap ≠ 0 := by omega
    have q0 : (0 : Int) ≤ (q : Int) := by omega
    have q5 : (q : Int) < 5 := by omega
    have HNB1 := Lib.hid hb1; have HNB2 := Lib.hid hb2
    have HCS := Lib.hid hcs; have HX := Lib.hid hx; have HWHO := Lib.hid hwho; have HOUT := Lib.hid hout; have HLAST := Lib.hid hlast; have HO := Lib.hid ho; have HN0 := Lib.hid hn0; have HN0B := Lib.hid hn0b; have HLQ := Lib.hid hlq; have HNST := Lib.hid hnst; have HNDEF := Lib.hid hNdef; have HSAID := Lib.hid hsaid; have HSD := Lib.hid hsd
    clear hcs hx hwho hout hlast ho hn0 hn0b hlq hnst hNdef hsaid hsd
    clear hb1 hb2
    go_upto_region 6 with fail
    rw [← hb_eb, ← hw_w2]
    clear hb_eb hw_w2
    clear c0 c1 c2
    go_upto_if 21 with fail
    go_cut [7] (fun nv wx => nv = .int .i64 N ∧ Own w0 (EvO eb ((q : Int), x2, x3) * (IntSl u3 out * (Five lb last * R))) wx)
    case first =>
      by_cases h3 : x2 = 3
      rotate_left
      · have t1 : (x2 == 3) = false := by simpa using h3
        have hNv : N = n0 := by rw [HNDEF.out, if_neg h3]
        subst hNv
        have H3 := Lib.hid h3
        clear h3
        go_wp2_with fail
        go_meet
        exact ⟨rfl, HE1.out⟩
      · subst h3
        obtain ⟨i, hik, hsi, _⟩ := HSD.out rfl
        have hmb := getD_bound HNB1.out (Int.le_refl 0) (Int.natCast_nonneg k) i
        have hNd := HNDEF.out
        rw [if_pos rfl, hsi, Int.toNat_natCast] at hNd
        obtain ⟨m, hm⟩ : ∃ m, m = out.getD i 0 := ⟨_, rfl⟩
        rw [← hm] at hNd hmb
        have hmg : out[i]? = some m := by rw [hm, List.getD_eq_getElem?_getD, List.getElem?_eq_getElem (by omega)]; rfl
        have i0 : (0 : Int) ≤ (i : Int) := by omega
        have ik : (i : Int) < (k : Int) := by omega
        have HSI := Lib.hid hsi; have HM := Lib.hid hm; have HND := Lib.hid hNd
        clear hsi hm hNd
        go_wp2_with fail
        refine wp_region_planX 7 [0, 1] [7, 8, 9, 10, 11] (by kernel_rfl) (by kernel_rfl) ?_
        simp only [List.range_succ, List.range_zero, List.nil_append, List.filter_cons, List.filter_nil, List.filter_append, List.contains_cons, List.contains_nil, Nat.reduceBEq, Bool.or_false, Bool.or_true, Bool.not_false, Bool.not_true, if_true, if_false, Bool.false_eq_true, ↓reduceIte, pick, List.getElem?_cons_succ, List.getElem?_cons_zero, Option.toList, List.cons_append, List.nil_append]
        repeat (refine wpPure_step ?_ rfl ?_ ?_; rotate_left; (focus (intro _; first | with_reducible rfl | (go_simp; done) | (go_simp; with_reducible rfl) | rfl)); go_simp)
        refine wpPure_nil ?_
        repeat still_step
        refine wpStill_nil ?_
        go_wp2_with fail
        refine (HSAID.out _ (EvO eb ((q : Int), 3, x3) * (IntSl u3 out * Five lb last)) x3 (HE1.out.drew.perm (by ac_rfl))).mono ?_
        rintro e w3 ⟨rfl, ho⟩
        rw [HSI.out]
        have HE3 : Hid (Own w0 (IntSl u3 out * (EvO eb ((q : Int), 3, x3) * (Five lb last * R))) w3) := Lib.hid (ho.perm (by ac_rfl))
        clear ho
        obtain ⟨ob, off, ocap, ho1, hoc1, hoc2, hcell, _⟩ := HE3.out.ints_at (by omega)
        subst ho1
        have f1 := hcell i (by omega)
        rw [show out[i]'(by omega) = m from by rw [List.getElem?_eq_getElem (by omega)] at hmg; exact Option.some.inj hmg] at f1
        have il : (i : Int) < (out.length : Int) := by omega
        have hmk : m ≤ (k : Int) := hmb.2
        have hm0 : 0 ≤ m := hmb.1
        clear hcell
        have HMG := Lib.hid hmg; have HMB := Lib.hid hmb; have HL1 := Lib.hid hl1
        clear hmg hmb hl1
        go_wp2_with fail
        all_goals
          refine NoPanic.normal ?_
          go_wp2_with fail
          go_meet
          exact ⟨congrArg (Value.int .i64) (by rw [HND.out, Int.max_def]; split <;> omega), HE3.out.perm (by ac_rfl)⟩
    case rest =>
    obtain ⟨rfl, ho⟩ := hcut
    clear HE1 HE2 d0 d1 d2 e1
    have HE1 := Lib.hid ho
    have HE2 : Hid (Own w0 (Five lb last * (EvO eb ((q : Int), x2, x3) * (IntSl u3 out * R))) wc) := Lib.hid (ho.perm (by ac_rfl))
    clear ho
    obtain ⟨d0, d1, d2⟩ := HE1.out.ev
    simp only at d0 d1 d2
    have e1 := HE2.out.five_cell q _ HLQ.out
    have e2 := HE2.out.five_free
    have hN1 : 0 ≤ N ∧ N ≤ (k : Int) := by
      have h8 := getD_bound HNB1.out (Int.le_refl 0) (Int.natCast_nonneg k) (saidAt (hs.take k) x3).toNat
      rw [HNDEF.out]
      split
      · rw [Int.max_def]; split <;> omega
      · omega
    have hN2 := hN1.1
    have hN3 := hN1.2
    have hst := HE2.out.five_set q (N + 1)
    have HST : Hid (Own w0 (Sl 3 1 u3 out.length (out.map (Value.int .i64)) * (EvO eb ((q : Int), x2, x3) * (Five lb (last.set q (N + 1)) * R))) (wc.setCell ⟨lb, q, none⟩ (.int .i64 (N + 1)))) := Lib.hid (hst.perm (by unfold IntSl; ac_rfl))
    obtain ⟨ws, hws⟩ : ∃ ws, ws = wc.setCell ⟨lb, q, none⟩ (.int .i64 (N + 1)) := ⟨_, rfl⟩
    rw [← hws] at HST
    clear hst hN1
    go_upto_region 10 with fail
    rw [← hws]
    clear hws d0 d1 d2 e1 e2
    go_wp2_with (at_builtin; refine wpList_app rfl _ _ 27 rfl 3 1 8 _ info_int Try.underlying27 rfl (by decide) rfl (HST.out.alloc' _) rfl (by rfl) (Rd_lit (by simp) (by unfold maxLen; omega)) (by intro u hu; simp at hu; subst hu; rfl) (by unfold maxLen; omega) (by omega) ?_; intro v' w4 hown; have HO4 : Hid (Own w0 (IntSl v' (numState hs (k + 1)).1 * (Five lb (numState hs (k + 1)).2 * R)) w4) := Lib.hid (by rw [HNST.out]; have h9 := (hown.perm (show _ = EvO eb ((q : Int), x2, x3) * (IntSl v' (out ++ [N + 1]) * (Five lb (last.set q (N + 1)) * R)) by unfold IntSl; simp; ac_rfl)).drop; exact h9); clear hown)
    go_roundw
    case rel => exact ⟨k + 1, by omega, by go_num, HO4⟩
    case measure => simp [intOf]; omega
end Go.Proofs.Ytkgnjkokbiefgaa
