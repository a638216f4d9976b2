/- NetPlays: anything that is sent, given, dropped, doubled, cut: what is refused, what is on its way. -/
import Derived.Test.YtldmdenojpnldaaDoorNetPlaysQ
import Derived.Test.YtldmdenojpnldaaDoorHeld
namespace Go.Proofs.YtldmdenojpnldaaDoor
set_option linter.unusedVariables false
set_option linter.unusedSimpArgs false
open Go.RowKit Go.Maps
theorem rn_new (p : Nat) {w0 w : World} {R : HProp} (h : Own w0 (rnBlk p (.slice none 0 0) (List.replicate 25 false) * R) w) : Own w0 (RnP p ⟨[], []⟩ * R) w := by
  refine Own.rn_close (v := .slice none 0 0) (B := List.replicate 25 false) ⟨by simp, fun a b ha hb _ => ?_⟩ ((h.sl_nil 23 3).perm ?_)
  · rw [List.getElem?_replicate, if_pos (by omega)]
    simp
  · unfold RnO PkSl
    simp only [List.length_nil, List.flatMap_nil]
    ac_rfl
set_option maxRecDepth 100000 in
set_option maxHeartbeats 4000000 in
theorem netPlays_law (w : World) (hg : As.Handle w) (vs : Value) (steps : List (List Int)) (hvs : Rows2 w vs steps) :
    Calls Tryd.prog 5 #[vs] w fun e w' => e = .returned (.bool true) ∧ Below w.heap.size w w' := by
  obtain ⟨sad, scap, rfl, hsc1, hsc2⟩ := hvs.shape
  have HW0 := Lib.hid (Own.start w)
  have HG := Lib.hid hg; have HVS := Lib.hid hvs
  clear hg hvs
  go_enter Tryd.func5, Tryd.ntmps5
  go_wp2_with fail
  refine (ntNew_any HW0.out).mono ?_
  rintro e w1 ⟨p, rfl, ho⟩
  obtain ⟨mb, hb_mb⟩ : ∃ zz_, zz_ = (w1).heap.size := ⟨_, rfl⟩
  obtain ⟨w2, hw_w2⟩ : ∃ zz_, zz_ = (w1).alloc (.cells #[.slice none 0 0, .bool false, .bool false, .bool false, .bool false, .bool false, .bool false, .bool false, .bool false, .bool false, .bool false, .bool false, .bool false, .bool false, .bool false, .bool false, .bool false, .bool false, .bool false, .bool false, .bool false, .bool false, .bool false, .bool false, .bool false, .bool false] 44 (0, 0)) := ⟨_, rfl⟩
  have h_HB := (ho).alloc (.cells #[.slice none 0 0, .bool false, .bool false, .bool false, .bool false, .bool false, .bool false, .bool false, .bool false, .bool false, .bool false, .bool false, .bool false, .bool false, .bool false, .bool false, .bool false, .bool false, .bool false, .bool false, .bool false, .bool false, .bool false, .bool false, .bool false, .bool false] 44 (0, 0))
  rw [← hb_mb, ← hw_w2] at h_HB
  have HB := Lib.hid h_HB
  clear h_HB
  have HO2 : Hid (Own w (NtP p ⟨[], []⟩ * (RnP mb ⟨[], []⟩ * emp)) w2) := Lib.hid (rn_new mb (HB.out.perm (show _ = rnBlk mb (.slice none 0 0) (List.replicate 25 false) * _ from rfl))).second
  clear ho HB
  go_upto_block 0 with fail
  rw [← hb_mb, ← hw_w2]
  clear hb_mb hw_w2
  go_wp2_with fail
  go_loopw [5] (fun iv wr => ∃ (k : Nat) (s : Nt), k ≤ steps.length ∧ iv = .int .i64 k ∧ Hid (NtI s) ∧ Hid (Own w (NtP p s * (RnP mb s * emp)) wr)) (fun iv _ => 120 - (intOf iv).toNat)
  case atStart => exact ⟨0, ⟨[], []⟩, Nat.zero_le _, rfl, Lib.hid NtI.new, HO2⟩
  case round =>
    obtain ⟨k, s, hk, rfl, HI, HP⟩ := hrel
    clear HO2
    by_cases h1 : k < steps.length
    rotate_left
    · go_wp2
      go_ret
      exact ⟨rfl, HP.out.below⟩
    by_cases h2 : k < 120
    rotate_left
    · go_wp2
      go_ret
      exact ⟨rfl, HP.out.below⟩
    obtain ⟨a2, rad, rcap, e2, hr, hc⟩ := HVS.out.at_later k h1
    obtain ⟨row, hrow⟩ : ∃ row, row = steps[k] := ⟨_, rfl⟩
    rw [← hrow] at hr hc
    subst e2
    obtain ⟨vb, hvb⟩ : ∃ b, b = wr.heap.size := ⟨_, rfl⟩
    have ht := HP.out.alloc (.cells #[.int .i64 0, .int .i64 0, .int .i64 0, .int .i64 0] 45)
    rw [← hvb] at ht
    have HT : Hid (Own w (Nms 45 vb [0, 0, 0, 0] * (NtP p s * (RnP mb s * emp))) (wr.alloc (.cells #[.int .i64 0, .int .i64 0, .int .i64 0, .int .i64 0] 45))) := Lib.hid ht
    have HR := Lib.hid hr; have HC := Lib.hid hc; have HROW := Lib.hid hrow
    clear hr hc hrow
    clear ht
    go_upto_block 2 with fail
    rw [← hvb]
    clear hvb
    go_cut [7] (fun jv wx => NmV 45 4 w vb (NtP p s * (RnP mb s * emp)) wx)
    case first =>
      refine npFill w (NtP p s * (RnP mb s * emp)) vb k steps row a2 scap rcap rad h1 hsc1 hsc2 HR HC HT ?_
      intros
      go_step
      go_step
      go_meet
      assumption
    case rest =>
    obtain ⟨x, y, z, u, hT⟩ := hcut.four
    have HT2 : Hid (Own w (NtP p s * (RnP mb s * (Nms 45 vb [x, y, z, u] * emp))) wc) := Lib.hid (hT.perm (by ac_rfl))
    clear HT HP hT hcut
    obtain ⟨d0, d1, d2, d3⟩ := HT2.out.third.four
    obtain ⟨ad, cap, Bt, hB, b1, b2, ho3⟩ := HT2.out.second.rn_open
    obtain ⟨e0, _, _⟩ := ho3.rn_facts
    obtain ⟨L, hL⟩ : ∃ L, L = s.all.length := ⟨_, rfl⟩
    rw [← hL] at e0 b1
    have HB := Lib.hid hB; have HO3 := Lib.hid ho3; have HL := Lib.hid hL
    clear hB ho3 hL
    go_upto_region 13 with fail
    go_cut [10] (fun v wx => v = .bool (ntHas s y) ∧ Own w (NtP p s * (RnP mb s * (Nms 45 vb [x, y, z, u] * emp))) wx)
    case first =>
      by_cases h0 : 0 ≤ y
      · have t0 : decide (0 ≤ y) = true := by simpa using h0
        have hh : ntHas s y = decide (y < (L : Int)) := by unfold ntHas inR; rw [t0, ← HL.out]; rfl
        have HH := Lib.hid hh; have H0 := Lib.hid h0
        clear hh h0
        go_wp2_with fail
        go_quiet (fail)
        go_wp2_with fail
        go_meet
        exact ⟨by rw [HH.out], HT2.out.drewN _⟩
      · have t0 : decide (0 ≤ y) = false := by simpa using h0
        have hh : ntHas s y = false := by unfold ntHas inR; rw [t0]; rfl
        have HH := Lib.hid hh; have H0 := Lib.hid h0
        clear hh h0
        go_wp2_with fail
        go_quiet (fail)
        go_wp2_with fail
        go_meet
        exact ⟨by rw [HH.out], HT2.out.drewN _⟩
    case rest =>
    obtain ⟨rfl, ho⟩ := hcut
    clear HT2 HO3 e0 d0 d1 d2 d3 HB
    have HT3 := Lib.hid ho
    clear ho
    obtain ⟨d0, d1, d2, d3⟩ := HT3.out.third.four
    obtain ⟨D, hD⟩ : ∃ D, D = ntHas s y := ⟨_, rfl⟩
    rw [← hD]
    have HD := Lib.hid hD
    clear hD
    go_upto_block 4 with fail
    go_cut [9] (fun tv wx => tv = .bool true ∧ ∃ s' : Nt, NtI s' ∧ Own w (NtP p s' * (RnP mb s' * (Nms 45 vb [x, y, z, u] * emp))) wx)
    case first =>
      refine npStep w HG.out s HI.out x y z u D HD.out HT3 ?_
      intros
      go_step
      go_step
      go_meet
      assumption
    case rest =>
    obtain ⟨rfl, s', hi, ho⟩ := hcut
    clear HT3 d0 d1 d2 d3 HI HD HL
    obtain ⟨ad, cap, Bt, hB, b3, b4, ho3⟩ := ho.drew.second.rn_open
    obtain ⟨e0, _, _⟩ := ho3.rn_facts
    have HI2 := Lib.hid hi
    have HO4 : Hid (Own w (NtP p s' * (RnO mb (.slice ad s'.all.length cap) Bt s' * (Nms 45 vb [x, y, z, u] * emp))) wc.drew) := Lib.hid ho3.second
    have hgd := hi.good
    obtain ⟨S, hS⟩ : ∃ S, S = s'.all := ⟨_, rfl⟩
    obtain ⟨L, hL⟩ : ∃ L, L = S.length := ⟨_, rfl⟩
    rw [← hS, ← hL] at e0
    clear hi ho
    have HB := Lib.hid hB; have HO3 := Lib.hid ho3; have HS := Lib.hid hS; have HL := Lib.hid hL; have HGD := Lib.hid hgd
    clear hB ho3 hS hL hgd
    go_upto_region 42 with fail
    refine wp_region_planH 11 [] [(true, 0), (true, 1), (true, 2), (true, 3), (true, 5), (true, 6), (true, 7), (true, 8), (false, 4), (false, 9), (true, 10)] [11] (fun wS => wS.cell? ⟨mb, 0, none⟩ = some (.slice ad L cap)) (by kernel_rfl) (by kernel_rfl) (e0) ?_
    simp only [pickH, pick, List.getElem?_cons_succ, List.getElem?_cons_zero, Option.toList, Option.map_some, List.cons_append, List.nil_append]
    repeat (refine wpPure_step ?_ rfl ?_ ?_; rotate_left; (focus (intro _; first | with_reducible rfl | (go_simp; done) | (go_simp; with_reducible rfl) | rfl)); go_simp)
    refine wpPure_nil ?_
    repeat (first | (refine wpMix_read ?_ rfl ?_ ?_; rotate_left; (focus (intro _ hS; obtain s1 := hS; first | with_reducible rfl | (go_simp; done) | (go_simp; with_reducible rfl) | rfl)); go_simp) | (refine wpMix_readW ?_ ?_ ?_ ?_; rotate_left; (focus (first | rfl | (go_simp; done))); (focus (intro _ hS; obtain s1 := hS; first | with_reducible rfl | (go_simp; done) | (go_simp; with_reducible rfl) | rfl)); go_simp))
    refine wpMix_write (fun K hK => ?_)
    go_simp
    refine (ntAll_any p s' HI2.out HO4.out).mono ?_
    rintro e w5 ⟨v5, rfl, ho5⟩
    rw [← HS.out] at ho5
    obtain ⟨ad5, cp5, hv5, _⟩ := Own.rd ho5
    subst hv5
    have hr1 : Evs w5 (.slice ad5 S.length cp5) S := PkSl_reads (by rw [HS.out]; exact HGD.out) _ ho5
    rw [← HL.out] at ho5 hr1 ⊢
    clear e0
    have e0 := ho5.third.rn_facts.1
    have hr2 : Evs w5 (.slice ad L cap) s'.all := PkSl_reads HI2.out.good _ ho5.third.rn_all
    rw [← HS.out] at hr2
    have HO5 := Lib.hid ho5
    clear ho5
    have HR1 := Lib.hid hr1; have HR2 := Lib.hid hr2
    clear hr1 hr2
    refine hK _ _ ⟨e0, ?_⟩
    clear hK K
    go_simp
    repeat (first | (refine wpMix_read ?_ rfl ?_ ?_; rotate_left; (focus (intro _ hS; obtain s1 := hS; first | with_reducible rfl | (go_simp; done) | (go_simp; with_reducible rfl) | rfl)); go_simp) | (refine wpMix_readW ?_ ?_ ?_ ?_; rotate_left; (focus (first | rfl | (go_simp; done))); (focus (intro _ hS; obtain s1 := hS; first | with_reducible rfl | (go_simp; done) | (go_simp; with_reducible rfl) | rfl)); go_simp))
    refine wpMix_write (fun K hK => ?_)
    go_simp
    refine (samePk_any _ _ S HR1.out HR2.out).mono ?_
    rintro e w6 ⟨rfl, nq, rfl⟩
    have e1 : (w5.drewN nq).cell? ⟨mb, 0, none⟩ = some (.slice ad L cap) := e0
    clear e0
    refine hK _ _ ⟨e1, ?_⟩
    clear hK K
    go_simp
    repeat (first | (refine wpMix_read ?_ rfl ?_ ?_; rotate_left; (focus (intro _ hS; obtain s1 := hS; first | with_reducible rfl | (go_simp; done) | (go_simp; with_reducible rfl) | rfl)); go_simp) | (refine wpMix_readW ?_ ?_ ?_ ?_; rotate_left; (focus (first | rfl | (go_simp; done))); (focus (intro _ hS; obtain s1 := hS; first | with_reducible rfl | (go_simp; done) | (go_simp; with_reducible rfl) | rfl)); go_simp))
    refine wpMix_nil ?_
    go_wp2_with fail
    refine NoPanic.normal ?_
    have HP2 : Hid (Own w (NtP p s' * (RnP mb s' * emp)) (w5.drewN nq)) := Lib.hid ((((HO5.out.drewN nq).drop.second.rn_close HB.out).perm (show _ = Nms 45 vb [x, y, z, u] * (NtP p s' * (RnP mb s' * emp)) by ac_rfl)).drop)
    clear e1 HO5 HO4 HO3
    go_wp2_with fail
    go_roundw
    case rel => exact ⟨k + 1, s', by omega, by go_num, HI2, HP2⟩
    case measure => simp [intOf]; omega
end Go.Proofs.YtldmdenojpnldaaDoor
