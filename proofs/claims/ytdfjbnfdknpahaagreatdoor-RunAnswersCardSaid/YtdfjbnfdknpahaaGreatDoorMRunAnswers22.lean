/- run's line. -/
import Derived.Test.YtdfjbnfdknpahaaGreatDoorMRunAnswers20
import Derived.Test.YtdfjbnfdknpahaaGreatDoorMRunAnswers21
namespace Go.Proofs.YtdfjbnfdknpahaaGreatDoor
set_option linter.unusedVariables false
set_option linter.unusedSimpArgs false
open Go.RowKit Go.Maps
set_option maxRecDepth 100000 in
set_option maxHeartbeats 4000000 in
theorem pline_any {w0 w : World} {R : HProp} (hW : RunW w0) (p : Nat) (c : Cs) (hz : CZ c) (s : List UInt8) (hs : s.length ≤ 3000) (h : Own w0 (CsP p c * R) w) :
    Calls Tryz.prog 37 #[dkV p, .string (tx s)] w fun e w' => e = .returned (.tuple #[.string (tx (lineR c s).2.1), lnV (lineR c s).2.2]) ∧ Own w0 (CsP p (lineR c s).1 * R) w' := by
  obtain ⟨x, r, hxr⟩ := @cut_words s
  obtain ⟨A, hA⟩ : ∃ A, A = lineR c s := ⟨_, rfl⟩
  rw [← hA]
  have hws := @cutS_small 32 s
  have hwl := @words_len s
  have hsp := fun (w : World) (R : HProp) (h : Own w0 R w) => split_any s (by omega) h
  rw [hxr] at hws hwl hsp
  obtain ⟨S, hS⟩ : ∃ S, S = tx s := ⟨_, rfl⟩
  rw [← hS] at hsp ⊢
  obtain ⟨n, hn⟩ : ∃ n, n = r.length := ⟨_, rfl⟩
  have hn1 : (x :: r).length = n + 1 := by rw [hn]; rfl
  rw [hn1] at hwl
  obtain ⟨b2, hb_b2⟩ : ∃ zz_, zz_ = (w).heap.size := ⟨_, rfl⟩
  obtain ⟨w1, hw_w1⟩ : ∃ zz_, zz_ = (w).alloc (.cells #[.pointer (some ⟨p, 0, none⟩)] 38 (0, 0)) := ⟨_, rfl⟩
  have h_H1 := (h).alloc (.cells #[.pointer (some ⟨p, 0, none⟩)] 38 (0, 0))
  rw [← hb_b2, ← hw_w1] at h_H1
  have H1 := Lib.hid h_H1
  clear h_H1
  obtain ⟨Q, hQ⟩ : ∃ Q, Q = DkO b2 p * (CsP p c * R) := ⟨_, rfl⟩
  have ho1 : Own w0 Q w1 := by rw [hQ]; exact H1.out
  have hsp1 := hsp _ _ ho1
  clear H1
  have H := Lib.hid h; have HO1 := Lib.hid ho1; have HZ := Lib.hid hz; have HXR := Lib.hid hxr; have HA := Lib.hid hA; have HWS := Lib.hid hws; have HSP := Lib.hid hsp; have HS := Lib.hid hS; have HN := Lib.hid hn; have HN1 := Lib.hid hn1; have HSP1 := Lib.hid hsp1; have HQ := Lib.hid hQ
  clear h ho1 hz hxr hA hws hsp hS hn hn1 hsp1 hQ
  go_enter Tryz.func37, Tryz.ntmps37
  go_upto_region 1 with fail
  rw [← hb_b2, ← hw_w1]
  clear hb_b2 hw_w1
  go_wp2_with fail
  refine HSP1.out.mono ?_
  rintro e w2 ⟨v2, rfl, ho⟩
  obtain ⟨b, off, cap, rfl, q1, q2, q3, _, q5, q6, _⟩ := Own.sl_at ho (by simp)
  have hc0 : w2.cell? ⟨b, off, none⟩ = some (.string (tx x)) := q3 0 _ rfl
  obtain ⟨X, hX⟩ : ∃ X, X = tx x := ⟨_, rfl⟩
  rw [← hX] at hc0
  rw [HN1.out] at q1 ho ⊢
  have HO2 := Lib.hid ho
  clear ho
  have hwa := fun (w : World) (h : Own w0 (StSl (.slice (some ⟨b, off, none⟩) (n + 1) cap) (x :: r) * Q) w) => wants_any h
  obtain ⟨mv, hmv⟩ : ∃ mv, mv = (wantsB x).getD 0 := ⟨_, rfl⟩
  obtain ⟨isb, hisb⟩ : ∃ isb, isb = (wantsB x).isSome := ⟨_, rfl⟩
  have hxl : stOk x := Nat.le_trans (HWS.out x (List.mem_cons_self ..)) (by omega)
  have hlk : ∀ (mb : Nat) (w : World) (R : HProp), Own w0 (Mp stK stOk mb wantsM * R) w → (Instr.lookup 128 (.map (some mb)) (.string X) true).run Tryz.prog w = .ok (.tuple #[.int .i64 (mv : Nat), .bool isb]) w := fun mb w R ho => by
    have h1 := ho.map_look (st_ke Tryz.underlying9) mapsi_kind int_zero' hxl true
    rw [wantsM_get] at h1
    rw [show Value.string X = stK x by rw [hX]; rfl, hmv, hisb]
    cases hw : wantsB x with
    | none => rw [hw] at h1; exact h1
    | some m => rw [hw] at h1; exact h1
  have hwa2 := hwa w2.drew HO2.out.drew
  clear hwa
  have HMV := Lib.hid hmv; have HISB := Lib.hid hisb; have HXL := Lib.hid hxl; have HLK := Lib.hid hlk; have HWA2 := Lib.hid hwa2; have HX := Lib.hid hX
  clear hmv hisb hxl hlk hwa2 hX
  go_upto_region 2 with fail
  refine wp_region_planH 9 [] [(true, 1), (true, 2), (true, 3), (false, 0), (false, 4), (true, 5), (true, 6), (true, 7), (false, 8)] [9] (fun wS => wS.cell? ⟨b, off, none⟩ = some (.string X)) (by kernel_rfl) (by kernel_rfl) (hc0) ?_
  simp only [pickH, pick, List.getElem?_cons_succ, List.getElem?_cons_zero, Option.toList, Option.map_some, List.cons_append, List.nil_append]
  repeat (refine wpPure_step ?_ rfl ?_ ?_; rotate_left; (focus (intro _; first | with_reducible rfl | (go_simp; done) | (go_simp; with_reducible rfl) | rfl)); go_simp)
  refine wpPure_nil ?_
  repeat (refine wpMix_read ?_ rfl ?_ ?_; rotate_left; (focus (intro _ hS; obtain s1 := hS; first | with_reducible rfl | (go_simp; done) | (go_simp; with_reducible rfl) | rfl)); go_simp)
  refine wpMix_write (fun K hK => ?_)
  go_simp
  refine HWA2.out.mono ?_
  rintro e w3 ⟨mb, rfl, ho⟩
  have hl3 := HLK.out mb w3 _ ho
  have ho3 : Own w0 (StSl (.slice (some ⟨b, off, none⟩) (n + 1) cap) (x :: r) * Q) w3 := ho.drop
  obtain ⟨b', off', cap', e1, _, _, q3', _⟩ := Own.sl_at ho3 (by simp)
  have hc3 : w3.cell? ⟨b, off, none⟩ = some (.string X) := by
    cases e1
    rw [HX.out]; exact q3' 0 _ rfl
  clear e1 q3' ho
  have HO3 := Lib.hid ho3
  clear ho3
  refine hK _ _ ⟨hc3, ?_⟩
  clear hK K
  go_simp
  repeat (refine wpMix_read ?_ rfl ?_ ?_; rotate_left; (focus (intro _ hS; obtain s1 := hS; first | with_reducible rfl | (go_simp; done) | (go_simp; with_reducible rfl) | rfl)); go_simp)
  refine wpMix_write (fun K hK => ?_)
  go_simp
  refine hK _ _ ⟨hc3, ?_⟩
  clear hK K
  go_simp
  repeat (refine wpMix_read ?_ rfl ?_ ?_; rotate_left; (focus (intro _ hS; obtain s1 := hS; first | with_reducible rfl | (go_simp; done) | (go_simp; with_reducible rfl) | rfl)); go_simp)
  refine wpMix_write (fun K hK => ?_)
  go_simp
  refine hK _ _ ⟨hc3, ?_⟩
  clear hK K
  go_simp
  refine wpMix_nil ?_
  go_wp2_with fail
  refine NoPanic.normal ?_
  clear q3 q5 q6
  obtain ⟨CV, hCV⟩ : ∃ CV, CV = cutV (some ⟨b, off, none⟩) (n + 1) cap 1 := ⟨_, rfl⟩
  have hcut : ∀ w, (Instr.sliceAt 23 (.slice (some ⟨b, off, none⟩) (n + 1) cap) (some (.int .i64 1)) none none).run Tryz.prog w = .ok CV w := fun w => by
    rw [hCV]
    exact cut_front (n := 1) Tryz.underlying23 (fun w => by kernel_rfl) (by omega) q1 w
  have hrd : ∀ w, Own w0 (StSl (.slice (some ⟨b, off, none⟩) (n + 1) cap) (x :: r) * Q) w → Sts w CV r := fun w ho => by
    have h1 := Own.sl_cut (n := 1) (by omega) (show Own w0 (Sl 9 1 (.slice (some ⟨b, off, none⟩) (n + 1) cap) (n + 1) ((x :: r).map fun l => Value.string (tx l)) * Q) w from ho.perm (by unfold StSl; rw [HN1.out]))
    have h2 := h1.rd
    unfold Sts
    rw [hCV, ← HN.out]
    exact h2
  have htw := ptwo_any hW CV r (by rw [← HN.out]; omega) (fun y hy => Nat.le_trans (HWS.out y (List.mem_cons_of_mem _ hy)) (by omega)) hrd HO3.out
  obtain ⟨OK, hOK⟩ : ∃ OK, OK = twoOk r := ⟨_, rfl⟩
  rw [← hOK] at htw
  have HCV := Lib.hid hCV; have HRD := Lib.hid hrd; have HTW := Lib.hid htw; have HOK := Lib.hid hOK
  clear hCV hrd htw hOK
  go_wp2_with fail
  refine HTW.out.mono ?_
  rintro e w4 ⟨va, vb, rfl, hab, ho⟩
  obtain ⟨b9, hb_b9⟩ : ∃ zz_, zz_ = (w4).heap.size := ⟨_, rfl⟩
  obtain ⟨w5, hw_w5⟩ : ∃ zz_, zz_ = (w4).alloc (.cells #[.int .i64 va, .int .i64 vb] 69 (0, 0)) := ⟨_, rfl⟩
  have h_H5 := (ho).alloc (.cells #[.int .i64 va, .int .i64 vb] 69 (0, 0))
  rw [← hb_b9, ← hw_w5] at h_H5
  have H5 := Lib.hid h_H5
  clear h_H5
  clear ho
  have HAB := Lib.hid hab
  clear hab
  go_upto_region 4 with fail
  rw [← hb_b9, ← hw_w5]
  clear hb_b9 hw_w5
  by_cases hrb : readB (x :: r) = true
  · obtain ⟨m, hm⟩ : ∃ m, wantsB x = some m := by
      cases hw : wantsB x with
      | none => rw [read_none hw] at hrb; cases hrb
      | some m => exact ⟨m, rfl⟩
    have hmv : mv = m := by rw [HMV.out, hm]; rfl
    subst hmv
    obtain rfl : isb = true := by rw [HISB.out, hm]; rfl
    obtain rfl : OK = true := by
      cases hk : OK with
      | true => rfl
      | false => rw [read_two hm (by rw [← HOK.out]; exact hk)] at hrb; cases hrb
    have hnm : n = mv := by
      rcases Nat.decEq r.length mv with h | h
      · rw [read_len hm h] at hrb; cases hrb
      · rw [HN.out]; exact h
    subst hnm
    have hAe : A = doR c x (argN r 0) (argN r 1) := by
      rw [HA.out]; unfold lineR; rw [HXR.out, if_pos hrb]; rfl
    have hv := HAB.out rfl
    obtain ⟨b', off', cap', e1, _, _, q3', _⟩ := Own.sl_at (H5.out.drop) (by simp)
    have hc5 : w5.cell? ⟨b, off, none⟩ = some (.string X) := by
      cases e1
      rw [HX.out]; exact q3' 0 _ rfl
    clear e1 q3'
    have hxl : X.toList = x := by rw [HX.out, ByteArray.toList_eq]; exact tx_list x
    have ho6 : Own w0 (CsP p c * (Ar b9 va vb * (DkO b2 p * (StSl (.slice (some ⟨b, off, none⟩) (n + 1) cap) (x :: r) * R)))) w5 := by
      have h1 := H5.out
      rw [HQ.out] at h1
      exact h1.perm (by ac_rfl)
    obtain ⟨a0, a1, _, _⟩ := H5.out.ar
    have c2 := Own.dk (ho6.perm (show _ = DkO b2 p * (CsP p c * (Ar b9 va vb * (StSl (.slice (some ⟨b, off, none⟩) (n + 1) cap) (x :: r) * R))) by ac_rfl))
    obtain ⟨ia, hia⟩ : ∃ ia, ia = argN r 0 := ⟨_, rfl⟩
    obtain ⟨ib, hib⟩ : ∃ ib, ib = argN r 1 := ⟨_, rfl⟩
    rw [← hia, ← hib] at hAe hv
    obtain ⟨rfl, rfl⟩ := hv
    obtain ⟨RR, hRR⟩ : ∃ RR, RR = Ar b9 ia ib * (DkO b2 p * (StSl (.slice (some ⟨b, off, none⟩) (n + 1) cap) (x :: r) * R)) := ⟨_, rfl⟩
    rw [← hRR] at ho6
    have hfin : ∀ (w : World) (c' : Cs), Own w0 (CsP p c' * RR) w → Own w0 (CsP p c' * R) w := fun w c' ho => by
      rw [hRR] at ho
      exact (ho.perm (show _ = Ar b9 ia ib * (DkO b2 p * (StSl (.slice (some ⟨b, off, none⟩) (n + 1) cap) (x :: r) * (CsP p c' * R))) by ac_rfl)).drop.drop.drop
    have hcell : ∀ (w : World) (P : HProp), Own w0 (P * RR) w → w.cell? ⟨b2, 0, none⟩ = some (.pointer (some ⟨p, 0, none⟩)) ∧ w.cell? ⟨b9, 0, none⟩ = some (.int .i64 ia) := fun w P ho => by
      rw [hRR] at ho
      exact ⟨Own.dk (ho.perm (show _ = DkO b2 p * (P * (Ar b9 ia ib * (StSl (.slice (some ⟨b, off, none⟩) (n + 1) cap) (x :: r) * R))) by ac_rfl)),
        (ho.perm (show _ = Ar b9 ia ib * (P * (DkO b2 p * (StSl (.slice (some ⟨b, off, none⟩) (n + 1) cap) (x :: r) * R))) by ac_rfl)).ar.1⟩
    have hwc := wantsB_cases hm
    have HM := Lib.hid hm; have HRB := Lib.hid hrb; have HIA := Lib.hid hia; have HIB := Lib.hid hib; have HO6 := Lib.hid ho6; have HFIN := Lib.hid hfin; have HRR := Lib.hid hRR; have HCELL := Lib.hid hcell
    clear hm hrb hia hib ho6 hfin hRR hcell
    clear HM HRB H5
    go_upto_region 7 with fail
    rcases hwc with ⟨rfl, _⟩ | ⟨rfl, _⟩ | ⟨rfl, _⟩ | ⟨rfl, _⟩ | ⟨rfl, _⟩ | ⟨rfl, _⟩ | ⟨rfl, _⟩ | ⟨rfl, _⟩
    · obtain rfl : A = (csSay c ia ib, okW, csSayErr c ia ib) := by
        rw [hAe]; unfold doR
        rw [if_pos rfl]
      have t0 : (X.toList == ([115, 97, 121] : List UInt8)) = true := by rw [hxl]; decide
      have t1 : (X.toList == ([103, 105, 118, 101] : List UInt8)) = false := by rw [hxl]; decide
      have t2 : (X.toList == ([100, 114, 111, 112] : List UInt8)) = false := by rw [hxl]; decide
      have t3 : (X.toList == ([116, 119, 105, 99, 101] : List UInt8)) = false := by rw [hxl]; decide
      have t4 : (X.toList == ([119, 97, 121] : List UInt8)) = false := by rw [hxl]; decide
      have t5 : (X.toList == ([104, 101, 97, 114, 100] : List UInt8)) = false := by rw [hxl]; decide
      have t6 : (X.toList == ([102, 97, 99, 101, 115] : List UInt8)) = false := by rw [hxl]; decide
      have HXL := Lib.hid hxl; have HAE := Lib.hid hAe
      clear hxl hAe
      go_wp2_with fail
      refine (csSay_any p c ia ib HZ.out.i HZ.out.h60 HO6.out).mono ?_
      rintro e w6 ⟨rfl, ho⟩
      have HO7 := Lib.hid ho
      clear ho
      go_wp2_with fail
      go_ret2
      exact ⟨by show _ = Ending.returned (.tuple #[.string (tx okW), lnV _]); rw [lnV_ne (say_le ..)]; rfl, HFIN.out _ _ HO7.out⟩
    · obtain rfl : A = (csGive c ia, rowT (csGiven c ia), csGiveErr c ia) := by
        rw [hAe]; unfold doR
        rw [if_neg (by decide)]
        rw [if_pos rfl]
      have t0 : (X.toList == ([115, 97, 121] : List UInt8)) = false := by rw [hxl]; decide
      have t1 : (X.toList == ([103, 105, 118, 101] : List UInt8)) = true := by rw [hxl]; decide
      have t2 : (X.toList == ([100, 114, 111, 112] : List UInt8)) = false := by rw [hxl]; decide
      have t3 : (X.toList == ([116, 119, 105, 99, 101] : List UInt8)) = false := by rw [hxl]; decide
      have t4 : (X.toList == ([119, 97, 121] : List UInt8)) = false := by rw [hxl]; decide
      have t5 : (X.toList == ([104, 101, 97, 114, 100] : List UInt8)) = false := by rw [hxl]; decide
      have t6 : (X.toList == ([102, 97, 99, 101, 115] : List UInt8)) = false := by rw [hxl]; decide
      have HXL := Lib.hid hxl; have HAE := Lib.hid hAe
      clear hxl hAe
      go_wp2_with fail
      refine (csGive_any hW.hg p c ia HZ.out.i HZ.out.h60 HO6.out).mono ?_
      rintro e w6 ⟨v6, rfl, ho⟩
      have hsm := HZ.out.given (ia : Int)
      have hnb := pnumbers_any hW v6 (csGiven c ia) hsm (fun w ho => ⟨ho.rd, fun x hx => by have := hsm.2 x hx; unfold I64; omega⟩) ho
      have HSM := Lib.hid hsm; have HNB := Lib.hid hnb
      clear hsm hnb
      clear ho
      go_wp2_with fail
      refine HNB.out.mono ?_
      rintro e w7 ⟨rfl, ho⟩
      have HO7 := Lib.hid ho.drop
      clear ho
      go_wp2_with fail
      go_ret2
      exact ⟨by show _ = Ending.returned (.tuple #[.string (tx (rowT (csGiven c ia))), lnV _]); rw [lnV_ne (give_le ..)]; rfl, HFIN.out _ _ HO7.out⟩
    · obtain rfl : A = (csDrop c ia, okW, ntDropErr c.net ia) := by
        rw [hAe]; unfold doR
        rw [if_neg (by decide)]
        rw [if_neg (by decide)]
        rw [if_pos rfl]
      have t0 : (X.toList == ([115, 97, 121] : List UInt8)) = false := by rw [hxl]; decide
      have t1 : (X.toList == ([103, 105, 118, 101] : List UInt8)) = false := by rw [hxl]; decide
      have t2 : (X.toList == ([100, 114, 111, 112] : List UInt8)) = true := by rw [hxl]; decide
      have t3 : (X.toList == ([116, 119, 105, 99, 101] : List UInt8)) = false := by rw [hxl]; decide
      have t4 : (X.toList == ([119, 97, 121] : List UInt8)) = false := by rw [hxl]; decide
      have t5 : (X.toList == ([104, 101, 97, 114, 100] : List UInt8)) = false := by rw [hxl]; decide
      have t6 : (X.toList == ([102, 97, 99, 101, 115] : List UInt8)) = false := by rw [hxl]; decide
      have HXL := Lib.hid hxl; have HAE := Lib.hid hAe
      clear hxl hAe
      go_wp2_with fail
      refine (csDrop_any p c ia HZ.out.i HO6.out).mono ?_
      rintro e w6 ⟨rfl, ho⟩
      have HO7 := Lib.hid ho
      clear ho
      go_wp2_with fail
      go_ret2
      exact ⟨by show _ = Ending.returned (.tuple #[.string (tx okW), lnV _]); rw [lnV_ne (drop_le ..)]; rfl, HFIN.out _ _ HO7.out⟩
    · obtain rfl : A = (csTwice c ia, okW, ntTwiceErr c.net ia) := by
        rw [hAe]; unfold doR
        rw [if_neg (by decide)]
        rw [if_neg (by decide)]
        rw [if_neg (by decide)]
        rw [if_pos rfl]
      have t0 : (X.toList == ([115, 97, 121] : List UInt8)) = false := by rw [hxl]; decide
      have t1 : (X.toList == ([103, 105, 118, 101] : List UInt8)) = false := by rw [hxl]; decide
      have t2 : (X.toList == ([100, 114, 111, 112] : List UInt8)) = false := by rw [hxl]; decide
      have t3 : (X.toList == ([116, 119, 105, 99, 101] : List UInt8)) = true := by rw [hxl]; decide
      have t4 : (X.toList == ([119, 97, 121] : List UInt8)) = false := by rw [hxl]; decide
      have t5 : (X.toList == ([104, 101, 97, 114, 100] : List UInt8)) = false := by rw [hxl]; decide
      have t6 : (X.toList == ([102, 97, 99, 101, 115] : List UInt8)) = false := by rw [hxl]; decide
      have HXL := Lib.hid hxl; have HAE := Lib.hid hAe
      clear hxl hAe
      go_wp2_with fail
      refine (csTwice_any p c ia HZ.out.i HO6.out).mono ?_
      rintro e w6 ⟨rfl, ho⟩
      have HO7 := Lib.hid ho
      clear ho
      go_wp2_with fail
      go_ret2
      exact ⟨by show _ = Ending.returned (.tuple #[.string (tx okW), lnV _]); rw [lnV_ne (twice_le ..)]; rfl, HFIN.out _ _ HO7.out⟩
    · obtain rfl : A = (c, wayT c.net.all, 0) := by
        rw [hAe]; unfold doR
        rw [if_neg (by decide)]
        rw [if_neg (by decide)]
        rw [if_neg (by decide)]
        rw [if_neg (by decide)]
        rw [if_pos rfl]
      have t0 : (X.toList == ([115, 97, 121] : List UInt8)) = false := by rw [hxl]; decide
      have t1 : (X.toList == ([103, 105, 118, 101] : List UInt8)) = false := by rw [hxl]; decide
      have t2 : (X.toList == ([100, 114, 111, 112] : List UInt8)) = false := by rw [hxl]; decide
      have t3 : (X.toList == ([116, 119, 105, 99, 101] : List UInt8)) = false := by rw [hxl]; decide
      have t4 : (X.toList == ([119, 97, 121] : List UInt8)) = true := by rw [hxl]; decide
      have t5 : (X.toList == ([104, 101, 97, 114, 100] : List UInt8)) = false := by rw [hxl]; decide
      have t6 : (X.toList == ([102, 97, 99, 101, 115] : List UInt8)) = false := by rw [hxl]; decide
      have HXL := Lib.hid hxl; have HAE := Lib.hid hAe
      clear hxl hAe
      go_wp2_with fail
      refine (pway_any p c HZ.out HO6.out).mono ?_
      rintro e w6 ⟨rfl, ho⟩
      have HO7 := Lib.hid ho
      clear ho
      go_wp2_with fail
      go_ret2
      exact ⟨rfl, HFIN.out _ _ HO7.out⟩
    · obtain rfl : A = (c, rowT (heardE c.hist ia), heardErr c.hist ia) := by
        rw [hAe]; unfold doR
        rw [if_neg (by decide)]
        rw [if_neg (by decide)]
        rw [if_neg (by decide)]
        rw [if_neg (by decide)]
        rw [if_neg (by decide)]
        rw [if_pos rfl]
      have t0 : (X.toList == ([115, 97, 121] : List UInt8)) = false := by rw [hxl]; decide
      have t1 : (X.toList == ([103, 105, 118, 101] : List UInt8)) = false := by rw [hxl]; decide
      have t2 : (X.toList == ([100, 114, 111, 112] : List UInt8)) = false := by rw [hxl]; decide
      have t3 : (X.toList == ([116, 119, 105, 99, 101] : List UInt8)) = false := by rw [hxl]; decide
      have t4 : (X.toList == ([119, 97, 121] : List UInt8)) = false := by rw [hxl]; decide
      have t5 : (X.toList == ([104, 101, 97, 114, 100] : List UInt8)) = true := by rw [hxl]; decide
      have t6 : (X.toList == ([102, 97, 99, 101, 115] : List UInt8)) = false := by rw [hxl]; decide
      have HXL := Lib.hid hxl; have HAE := Lib.hid hAe
      clear hxl hAe
      have hce := HZ.out.heard_le (ia : Int)
      have HCE := Lib.hid hce
      clear hce
      go_upto_region 19 with fail
      refine wp_region_planH 10 [] [(true, 0), (true, 1), (true, 3), (true, 4), (false, 2), (false, 5), (true, 6), (true, 7), (true, 8), (false, 9)] [10] (fun wS => wS.cell? ⟨b2, 0, none⟩ = some (.pointer (some ⟨p, 0, none⟩)) ∧ wS.cell? ⟨b9, 0, none⟩ = some (.int .i64 ia)) (by kernel_rfl) (by kernel_rfl) (⟨c2, a0⟩) ?_
      simp only [pickH, pick, List.getElem?_cons_succ, List.getElem?_cons_zero, Option.toList, Option.map_some, List.cons_append, List.nil_append]
      repeat (refine wpPure_step ?_ rfl ?_ ?_; rotate_left; (focus (intro _; first | with_reducible rfl | (go_simp; done) | (go_simp; with_reducible rfl) | rfl)); go_simp)
      refine wpPure_nil ?_
      repeat (refine wpMix_read ?_ rfl ?_ ?_; rotate_left; (focus (intro _ hS; obtain ⟨s1, s2⟩ := hS; first | with_reducible rfl | (go_simp; done) | (go_simp; with_reducible rfl) | rfl)); go_simp)
      refine wpMix_write (fun K hK => ?_)
      go_simp
      refine (csHistory_any p c HZ.out.i HZ.out.h60 HO6.out.drew).mono ?_
      rintro e w6 ⟨v6, rfl, ho⟩
      have hrd6 : ReadsE w0 (EvSl v6 c.hist * (CsP p c * RR)) v6 c.hist := EvSl_reads HZ.out.i.hist
      have hk6 := HCELL.out w6 (EvSl v6 c.hist * CsP p c) (ho.perm (by ac_rfl))
      have HO7 := Lib.hid ho
      clear ho
      have HRD6 := Lib.hid hrd6
      clear hrd6
      refine hK _ _ ⟨hk6, ?_⟩
      clear hK K
      go_simp
      repeat (refine wpMix_read ?_ rfl ?_ ?_; rotate_left; (focus (intro _ hS; obtain ⟨s1, s2⟩ := hS; first | with_reducible rfl | (go_simp; done) | (go_simp; with_reducible rfl) | rfl)); go_simp)
      refine wpMix_write (fun K hK => ?_)
      go_simp
      refine (facesHeard_any v6 c.hist (ia : Int) HO7.out HRD6.out).mono ?_
      rintro e w7 ⟨v7, rfl, ho⟩
      have hk7 := HCELL.out w7 (IntSl v7 (heardE c.hist ia) * (EvSl v6 c.hist * CsP p c)) (ho.perm (by ac_rfl))
      have HO8 := Lib.hid ho
      clear ho
      refine hK _ _ ⟨hk7, ?_⟩
      clear hK K
      go_simp
      repeat (refine wpMix_read ?_ rfl ?_ ?_; rotate_left; (focus (intro _ hS; obtain ⟨s1, s2⟩ := hS; first | with_reducible rfl | (go_simp; done) | (go_simp; with_reducible rfl) | rfl)); go_simp)
      refine wpMix_write (fun K hK => ?_)
      go_simp
      refine hK _ _ ⟨hk7, ?_⟩
      clear hK K
      go_simp
      repeat (refine wpMix_read ?_ rfl ?_ ?_; rotate_left; (focus (intro _ hS; obtain ⟨s1, s2⟩ := hS; first | with_reducible rfl | (go_simp; done) | (go_simp; with_reducible rfl) | rfl)); go_simp)
      refine wpMix_nil ?_
      go_wp2_with fail
      refine NoPanic.normal ?_
      have hsm := HZ.out.heardS (ia : Int)
      have hnb := pnumbers_any hW v7 (heardE c.hist ia) hsm (fun w ho => ⟨ho.rd, fun x hx => by have := hsm.2 x hx; unfold I64; omega⟩) HO8.out
      have HSM := Lib.hid hsm; have HNB := Lib.hid hnb
      clear hsm hnb
      go_wp2_with fail
      refine HNB.out.mono ?_
      rintro e w8 ⟨rfl, ho⟩
      have HO9 := Lib.hid ho.drop.drop
      clear ho
      go_wp2_with fail
      go_ret2
      exact ⟨by show _ = Ending.returned (.tuple #[.string (tx (rowT (heardE c.hist ia))), lnV _]); rw [lnV_ne HCE.out]; rfl, HFIN.out _ _ HO9.out⟩
    · obtain rfl : A = (c, faB (facesF c.hist) (facesC c.hist) (facesT c.hist), facesErr c.hist) := by
        rw [hAe]; unfold doR
        rw [if_neg (by decide)]
        rw [if_neg (by decide)]
        rw [if_neg (by decide)]
        rw [if_neg (by decide)]
        rw [if_neg (by decide)]
        rw [if_neg (by decide)]
        rw [if_pos rfl]
      have t0 : (X.toList == ([115, 97, 121] : List UInt8)) = false := by rw [hxl]; decide
      have t1 : (X.toList == ([103, 105, 118, 101] : List UInt8)) = false := by rw [hxl]; decide
      have t2 : (X.toList == ([100, 114, 111, 112] : List UInt8)) = false := by rw [hxl]; decide
      have t3 : (X.toList == ([116, 119, 105, 99, 101] : List UInt8)) = false := by rw [hxl]; decide
      have t4 : (X.toList == ([119, 97, 121] : List UInt8)) = false := by rw [hxl]; decide
      have t5 : (X.toList == ([104, 101, 97, 114, 100] : List UInt8)) = false := by rw [hxl]; decide
      have t6 : (X.toList == ([102, 97, 99, 101, 115] : List UInt8)) = true := by rw [hxl]; decide
      have HXL := Lib.hid hxl; have HAE := Lib.hid hAe
      clear hxl hAe
      go_wp2_with fail
      refine (pfaces_any p c HZ.out HO6.out).mono ?_
      rintro e w6 ⟨rfl, ho⟩
      have HO7 := Lib.hid ho
      clear ho
      go_wp2_with fail
      go_ret2
      exact ⟨by show _ = Ending.returned (.tuple #[.string (tx _), lnV _]); rw [lnV_ne (by rw [HZ.out.right]; decide)]; rfl, HFIN.out _ _ HO7.out⟩
    · obtain rfl : A = (c, clkB c ia, clkE c ia) := by
        rw [hAe]; unfold doR
        rw [if_neg (by decide)]
        rw [if_neg (by decide)]
        rw [if_neg (by decide)]
        rw [if_neg (by decide)]
        rw [if_neg (by decide)]
        rw [if_neg (by decide)]
        rw [if_neg (by decide)]
        rw [if_neg (by rw [HZ.out.r0]; simp)]
        unfold clkB clkE
        split <;> rfl
      have t0 : (X.toList == ([115, 97, 121] : List UInt8)) = false := by rw [hxl]; decide
      have t1 : (X.toList == ([103, 105, 118, 101] : List UInt8)) = false := by rw [hxl]; decide
      have t2 : (X.toList == ([100, 114, 111, 112] : List UInt8)) = false := by rw [hxl]; decide
      have t3 : (X.toList == ([116, 119, 105, 99, 101] : List UInt8)) = false := by rw [hxl]; decide
      have t4 : (X.toList == ([119, 97, 121] : List UInt8)) = false := by rw [hxl]; decide
      have t5 : (X.toList == ([104, 101, 97, 114, 100] : List UInt8)) = false := by rw [hxl]; decide
      have t6 : (X.toList == ([102, 97, 99, 101, 115] : List UInt8)) = false := by rw [hxl]; decide
      have HXL := Lib.hid hxl; have HAE := Lib.hid hAe
      clear hxl hAe
      go_wp2_with fail
      refine (pclock_any hW p c HZ.out ia HO6.out).mono ?_
      rintro e w6 ⟨rfl, ho⟩
      have HO7 := Lib.hid ho
      clear ho
      go_wp2_with fail
      go_ret2
      exact ⟨by show _ = Ending.returned (.tuple #[.string (tx _), lnV _]); rw [lnV_ne (by unfold clkE; split <;> decide)]; rfl, HFIN.out _ _ HO7.out⟩
  · have hAe : A = (c, [], 9) := by
      rw [HA.out]; unfold lineR; rw [HXR.out, if_neg hrb]
    subst hAe
    have hW5 := hW.below H5.out.below
    have hun := hW5.un
    have HO5 : Hid (Own w0 (CsP p c * R) w5) := by
      have h1 := H5.out.drop.drop
      rw [HQ.out] at h1
      exact Lib.hid h1.drop
    have hrb2 : readB (x :: r) = false := by simpa using hrb
    have hm2 : mv ≤ 2 := by
      rw [HMV.out]
      cases hw : wantsB x with
      | none => exact Nat.zero_le _
      | some m => exact wantsB_le hw
    have hz : (isb = false ∨ (isb = true ∧ OK = false)) ∨ (isb = true ∧ OK = true ∧ n ≠ mv) := by
      cases hi : isb with
      | false => exact .inl (.inl rfl)
      | true =>
        cases hk : OK with
        | false => exact .inl (.inr ⟨rfl, rfl⟩)
        | true =>
          refine .inr ⟨rfl, rfl, fun hc => ?_⟩
          obtain ⟨m, hm⟩ : ∃ m, wantsB x = some m := by
            cases hw : wantsB x with
            | none => have h2 := HISB.out; rw [hw, hi] at h2; cases h2
            | some m => exact ⟨m, rfl⟩
          have h3 : mv = m := by rw [HMV.out, hm]; rfl
          rw [read_yes hm (by rw [← HOK.out]; exact hk) (by rw [← HN.out, hc, h3])] at hrb2
          cases hrb2
    clear hW5
    have HRB := Lib.hid hrb; have HRB2 := Lib.hid hrb2
    clear hrb hrb2
    rcases hz with (rfl | ⟨rfl, rfl⟩) | ⟨rfl, rfl, hnm⟩
    all_goals
      try (have hnm2 : (((n : Int) + 1) != ((mv : Nat) : Int) + 1) = true := by rw [bne_iff_ne]; omega)
      go_upto_region 5 with fail
      refine wp_region_planH 3 [] [(true, 0), (true, 1), (false, 2)] [3] (fun wS => wS.cell? ⟨0, 0, none⟩ = some (.iface 90 (.int .i64 2))) (by kernel_rfl) (by kernel_rfl) (hun) ?_
      simp only [pickH, pick, List.getElem?_cons_succ, List.getElem?_cons_zero, Option.toList, Option.map_some, List.cons_append, List.nil_append]
      repeat (refine wpPure_step ?_ rfl ?_ ?_; rotate_left; (focus (intro _; first | with_reducible rfl | (go_simp; done) | (go_simp; with_reducible rfl) | rfl)); go_simp)
      refine wpPure_nil ?_
      repeat (refine wpMix_read ?_ rfl ?_ ?_; rotate_left; (focus (intro _ hS; obtain s1 := hS; first | with_reducible rfl | (go_simp; done) | (go_simp; with_reducible rfl) | rfl)); go_simp)
      refine wpMix_write (fun K hK => ?_)
      go_simp
      refine hK _ _ ⟨hun, ?_⟩
      clear hK K
      go_simp
      refine wpMix_nil ?_
      go_wp2_with fail
      refine NoPanic.normal ?_
      go_wp2_with fail
      go_ret2
      exact ⟨rfl, HO5.out.drew⟩
end Go.Proofs.YtdfjbnfdknpahaaGreatDoor
