/- Contracts of package picture: Pay, Begin. -/
import Derived.Test.YtpgonkecicmanaaDoorMPicturePlays10
namespace Go.Proofs.YtpgonkecicmanaaDoor
set_option linter.unusedVariables false
set_option linter.unusedSimpArgs false
open Go.RowKit Go.Maps
theorem gold_set {l : List Int} {k : Nat} {x : Int} : (l.map (Value.int .i64)).set k (.int .i64 x) = (l.set k x).map (Value.int .i64) := by rw [List.map_set]
theorem Own.pic_gold_put {w0 w : World} {p mb1 mb2 mb3 gb go gc n : Nat} {m : List WRow} {s : Pic} {R : HProp} {k : Nat} {x : Int} (hk : k < s.gold.length) (h : Own w0 (PicO p mb1 mb2 mb3 gb go gc n m s * R) w) : Own w0 (PicO p mb1 mb2 mb3 gb go gc n m { s with gold := s.gold.set k x } * R) (w.setCell ⟨gb, go + k, none⟩ (.int .i64 x)) := by
  have h1 := h.pic_gold.slAt_set k (.int .i64 x) (by simpa using hk)
  rw [gold_set] at h1
  exact h1.perm (by unfold PicO; ac_rfl)
theorem Own.pic_begun_put {w0 w : World} {p mb1 mb2 mb3 gb go gc n : Nat} {m : List WRow} {s : Pic} {R : HProp} {v : Bool} (h : Own w0 (PicO p mb1 mb2 mb3 gb go gc n m s * R) w) : Own w0 (PicO p mb1 mb2 mb3 gb go gc n m { s with begun := v } * R) (w.setCell ⟨p, 2, none⟩ (.bool v)) :=
  (h.pic_blk.setCell (i := 2) (v := .bool v)).perm (by unfold PicO; show (picB p mb1 mb2 mb3 gb go gc n v s.onWay * _ : HProp) = _; ac_rfl)
theorem PicOk.begun {s : Pic} (h : PicOk s) (v : Bool) : PicOk { s with begun := v } := ⟨h.n5, h.gold, h.on, h.row, h.opn, h.wrote, h.few⟩
set_option maxRecDepth 100000 in
set_option maxHeartbeats 4000000 in
theorem pBegin_any {w0 w : World} {R : HProp} {p mb1 mb2 mb3 gb go gc n : Nat} (s : Pic) (who : Int) (hok : PicOk s) (h : Own w0 (PicA p mb1 mb2 mb3 gb go gc n s * R) w) :
    Calls Tryd.prog 25 #[.pointer (some ⟨p, 0, none⟩), .int .i64 who] w fun e w' => e = .returned (errV (pcBeginErr s who)) ∧ Own w0 (PicA p mb1 mb2 mb3 gb go gc n (pcBegin s who) * R) w' := by
  obtain ⟨m, hm, ho⟩ := h.pic_open
  obtain ⟨c0, _, c2, _, _, _, cf⟩ := ho.pic_facts
  have f2 := cf 2 none
  obtain ⟨E, hE⟩ : ∃ E, E = pcBeginErr s who := ⟨_, rfl⟩
  obtain ⟨S, hS⟩ : ∃ S, S = pcBegin s who := ⟨_, rfl⟩
  rw [← hE, ← hS]
  unfold pcBegin at hS
  rw [← hE] at hS
  unfold pcBeginErr at hE
  clear cf
  cases h1 : pcHas s who
  · rw [if_pos h1] at hE
    subst hE
    rw [if_neg (by decide)] at hS
    subst hS
    have H := Lib.hid h; have HO := Lib.hid ho; have HM := Lib.hid hm; have H1 := Lib.hid h1; have HOK := Lib.hid hok
    clear h ho hm h1 hok
    go_enter Tryd.func25, Tryd.ntmps25
    go_wp2_with fail
    refine (pHas_any S who HO.out).mono ?_
    rintro e w' ⟨rfl, rfl⟩
    rw [H1.out]
    go_wp2
    go_ret
    exact ⟨rfl, H.out⟩
  rw [if_neg (by rw [h1]; simp)] at hE
  cases h2 : s.begun
  rotate_left
  · rw [if_pos h2] at hE
    subst hE
    rw [if_neg (by decide)] at hS
    subst hS
    rw [h2] at c2
    have H := Lib.hid h; have HO := Lib.hid ho; have HM := Lib.hid hm; have H1 := Lib.hid h1; have H2 := Lib.hid h2; have HOK := Lib.hid hok
    clear h ho hm h1 h2 hok
    go_enter Tryd.func25, Tryd.ntmps25
    go_wp2_with fail
    refine (pHas_any S who HO.out).mono ?_
    rintro e w' ⟨rfl, rfl⟩
    rw [H1.out]
    go_wp2
    go_ret
    exact ⟨rfl, H.out⟩
  rw [if_neg (by rw [h2]; simp)] at hE
  subst hE
  rw [if_pos rfl] at hS
  rw [h2] at c2
  have HB : Hid (Own w0 (PicA p mb1 mb2 mb3 gb go gc n { s with begun := true } * R) (w.setCell ⟨p, 2, none⟩ (.bool true))) := Lib.hid ((Own.pic_begun_put (v := true) ho).pic_close hm)
  have hok2 := hok.begun true
  have h12 : pcHas { s with begun := true } who = true := h1
  have H := Lib.hid h; have HO := Lib.hid ho; have HM := Lib.hid hm; have H1 := Lib.hid h1; have H2 := Lib.hid h2; have HOK := Lib.hid hok; have HOK2 := Lib.hid hok2; have H12 := Lib.hid h12; have HS := Lib.hid hS
  clear h ho hm h1 h2 hok hok2 h12 hS
  go_enter Tryd.func25, Tryd.ntmps25
  go_wp2_with fail
  refine (pHas_any s who HO.out).mono ?_
  rintro e w' ⟨rfl, rfl⟩
  rw [H1.out]
  go_wp2_with fail
  refine (pWrite_any { s with begun := true } who H12.out HOK2.out HB.out).mono ?_
  rintro e w2 ⟨rfl, ho2⟩
  rw [← HS.out] at ho2
  have HO2 := Lib.hid ho2
  clear ho2
  go_wp2
  go_ret
  exact ⟨rfl, HO2.out⟩
set_option maxRecDepth 100000 in
set_option maxHeartbeats 4000000 in
theorem pPay_any {w0 w : World} {R : HProp} {p mb1 mb2 mb3 gb go gc n : Nat} (s : Pic) (a b x : Int) (hok : PicOk s) (h : Own w0 (PicA p mb1 mb2 mb3 gb go gc n s * R) w) :
    Calls Tryd.prog 21 #[.pointer (some ⟨p, 0, none⟩), .int .i64 a, .int .i64 b, .int .i64 x] w fun e w' => e = .returned (errV (pcPayErr s a b x)) ∧ Own w0 (PicA p mb1 mb2 mb3 gb go gc n (pcPay s a b x) * R) w' := by
  obtain ⟨E, hE⟩ : ∃ E, E = pcPayErr s a b x := ⟨_, rfl⟩
  obtain ⟨S, hS⟩ : ∃ S, S = pcPay s a b x := ⟨_, rfl⟩
  rw [← hE, ← hS]
  unfold pcPay at hS
  rw [← hE] at hS
  unfold pcPayErr at hE
  obtain ⟨b1, hb_b1⟩ : ∃ zz_, zz_ = (w).heap.size := ⟨_, rfl⟩
  obtain ⟨w1, hw_w1⟩ : ∃ zz_, zz_ = (w).alloc (.cells #[.int .i64 a, .int .i64 b] 154 (0, 0)) := ⟨_, rfl⟩
  have h_HO1 := (h).alloc (.cells #[.int .i64 a, .int .i64 b] 154 (0, 0))
  rw [← hb_b1, ← hw_w1] at h_HO1
  have HO1 := Lib.hid h_HO1
  clear h_HO1
  obtain ⟨Y, hY⟩ : ∃ Y, Y = blk b1 (.cells #[.int .i64 a, .int .i64 b] 154 (0, 0)) * R := ⟨_, rfl⟩
  have HYC : Hid (∀ w', Own w0 Y w' → w'.cell? ⟨b1, 0, none⟩ = some (.int .i64 a) ∧ w'.cell? ⟨b1, 1, none⟩ = some (.int .i64 b)) := Lib.hid (fun w' h => by rw [hY] at h; exact ⟨(h.cell 0).trans rfl, (h.cell 1).trans rfl⟩)
  have HYD : Hid (∀ s' w', Own w0 (PicA p mb1 mb2 mb3 gb go gc n s' * Y) w' → Own w0 (PicA p mb1 mb2 mb3 gb go gc n s' * R) w') := Lib.hid (fun s' w' h => by rw [hY] at h; exact h.second.drop)
  have HP : Hid (Own w0 (PicA p mb1 mb2 mb3 gb go gc n s * Y) w1) := Lib.hid (by rw [hY]; exact HO1.out.second)
  obtain ⟨x0, x1⟩ := HYC.out _ HP.out.drop
  clear HO1 h
  by_cases hc : pcWay s a b = 0
  rotate_left
  · rw [if_pos hc] at hE
    rw [if_neg (by rw [hE]; exact hc)] at hS
    subst hS
    obtain ⟨mm, hmm⟩ := errV_some hc
    rw [hE]
    rw [hmm]
    have HE := Lib.hid hE; have HC := Lib.hid hc; have HMM := Lib.hid hmm; have HY := Lib.hid hY; have HOK := Lib.hid hok
    clear hE hc hmm hY hok
    go_enter Tryd.func21, Tryd.ntmps21
    go_upto_region 2 with fail
    rw [← hb_b1, ← hw_w1]
    clear hb_b1 hw_w1
    go_wp2_with fail
    refine (pCheck_any S a b HP.out).mono ?_
    rintro e w' ⟨rfl, ho⟩
    have HF := Lib.hid (HYD.out _ _ ho)
    clear ho
    rw [HMM.out]
    go_wp2
    go_ret
    exact ⟨rfl, HF.out⟩
  rw [if_neg (by rw [hc]; simp)] at hE
  have hway := pcWay0.1 hc
  have ha : pcHas s a = true := pcHas_mem.2 hway.1
  have hb : pcHas s b = true := pcHas_mem.2 hway.2.1
  have haI := pcHas_small hok.n5 ha
  have hbI := pcHas_small hok.n5 hb
  have hx : plOk (a, b) := ⟨haI, hbI⟩
  by_cases h1 : x < 1
  · rw [if_pos (.inl h1)] at hE
    subst hE
    rw [if_neg (by decide)] at hS
    subst hS
    have t1 : decide (x < 1) = true := decide_eq_true h1
    have HC := Lib.hid hc; have HWAY := Lib.hid hway; have HA := Lib.hid ha; have HB := Lib.hid hb; have HAI := Lib.hid haI; have HBI := Lib.hid hbI; have HX := Lib.hid hx; have H1 := Lib.hid h1; have HY := Lib.hid hY; have HOK := Lib.hid hok
    clear hc hway ha hb haI hbI hx h1 hY hok
    go_enter Tryd.func21, Tryd.ntmps21
    go_upto_region 2 with fail
    rw [← hb_b1, ← hw_w1]
    clear hb_b1 hw_w1
    go_wp2_with fail
    refine (pCheck_any S a b HP.out).mono ?_
    rintro e w' ⟨rfl, ho⟩
    have HF := Lib.hid (HYD.out _ _ ho)
    clear ho
    rw [HC.out, errV0]
    go_wp2
    go_ret
    exact ⟨rfl, HF.out⟩
  have t1 : decide (x < 1) = false := decide_eq_false h1
  by_cases h2 : 1000 < x
  · rw [if_pos (.inr h2)] at hE
    subst hE
    rw [if_neg (by decide)] at hS
    subst hS
    have t2 : decide (1000 < x) = true := decide_eq_true h2
    have HC := Lib.hid hc; have HWAY := Lib.hid hway; have HA := Lib.hid ha; have HB := Lib.hid hb; have HAI := Lib.hid haI; have HBI := Lib.hid hbI; have HX := Lib.hid hx; have H1 := Lib.hid h1; have H2 := Lib.hid h2; have HY := Lib.hid hY; have HOK := Lib.hid hok
    clear hc hway ha hb haI hbI hx h1 h2 hY hok
    go_enter Tryd.func21, Tryd.ntmps21
    go_upto_region 2 with fail
    rw [← hb_b1, ← hw_w1]
    clear hb_b1 hw_w1
    go_wp2_with fail
    refine (pCheck_any S a b HP.out).mono ?_
    rintro e w' ⟨rfl, ho⟩
    have HF := Lib.hid (HYD.out _ _ ho)
    clear ho
    rw [HC.out, errV0]
    go_wp2
    go_ret
    exact ⟨rfl, HF.out⟩
  have t2 : decide (1000 < x) = false := decide_eq_false h2
  rw [if_neg (by omega)] at hE
  obtain ⟨ka, rfl⟩ : ∃ k : Nat, a = k := ⟨a.toNat, by have := pcHas_bd ha; omega⟩
  have hab := pcHas_bd ha
  have hgd := hok.gold ka
  have hrl := hok.row ka b
  have hn5 := hok.n5
  obtain ⟨g, hg⟩ : ∃ g, g = pcG s ka := ⟨_, rfl⟩
  obtain ⟨L, hL⟩ : ∃ L, L = pcRow s ka b := ⟨_, rfl⟩
  rw [← hg, ← hL] at hE
  rw [← hg] at hgd
  rw [← hL] at hrl
  by_cases h3 : g < x
  · rw [if_pos h3] at hE
    subst hE
    rw [if_neg (by decide)] at hS
    subst hS
    have t3 : decide (g < x) = true := decide_eq_true h3
    have HC := Lib.hid hc; have HWAY := Lib.hid hway; have HA := Lib.hid ha; have HB := Lib.hid hb; have HAI := Lib.hid haI; have HBI := Lib.hid hbI; have HX := Lib.hid hx; have H1 := Lib.hid h1; have H2 := Lib.hid h2; have H3 := Lib.hid h3; have HY := Lib.hid hY; have HOK := Lib.hid hok; have HG := Lib.hid hg; have HL := Lib.hid hL; have HAB := Lib.hid hab; have HRL := Lib.hid hrl; have HN5 := Lib.hid hn5
    clear hc hway ha hb haI hbI hx h1 h2 h3 hY hok hg hL hab hrl hn5
    go_enter Tryd.func21, Tryd.ntmps21
    go_upto_region 2 with fail
    rw [← hb_b1, ← hw_w1]
    clear hb_b1 hw_w1
    go_wp2_with fail
    refine (pCheck_any S ka b HP.out).mono ?_
    rintro e w2 ⟨rfl, ho⟩
    obtain ⟨m, hm, hq⟩ := ho.pic_open
    obtain ⟨c0, _⟩ := hq.pic_facts
    obtain ⟨hn, hnc, hcm, _⟩ := hq.pic_n
    have hc' := hq.pic_at HA.out
    rw [Int.toNat_natCast, ← HG.out] at hc'
    have hkn : ka < n := by have := HAB.out; omega
    have HF := Lib.hid (HYD.out _ _ ho)
    clear ho
    have HM := Lib.hid hm; have HQ := Lib.hid hq; have HN := Lib.hid hn
    clear hm hq hn
    rw [HC.out, errV0]
    go_wp2
    go_ret
    exact ⟨rfl, HF.out⟩
  have t3 : decide (g < x) = false := decide_eq_false h3
  rw [if_neg h3] at hE
  have hRowI : ∀ y ∈ L, I64 y := fun y hy => by have := hrl.2 y hy; unfold I64; omega
  obtain ⟨ln, hln⟩ : ∃ ln, ln = L.length := ⟨_, rfl⟩
  rw [← hln] at hE
  have hl1000 : ln ≤ 1000 := by rw [hln]; exact hrl.1
  have hS2 : ¬ 40 ≤ ln → S = { s with gold := s.gold.set ka (g - x), ways := mput s.ways ((ka : Int), b) (L ++ [x]) } := fun h => by
    rw [hS, hE, if_neg h, if_pos rfl, Int.toNat_natCast, ← hg, ← hL]
  have hS3 : 40 ≤ ln → S = s := fun h => by rw [hS, hE, if_pos h, if_neg (by decide)]
  obtain ⟨Q, hQ⟩ : ∃ Q : Bool, Q = decide (40 ≤ (ln : Int)) := ⟨_, rfl⟩
  have hEQ : E = if Q = true then 4 else 0 := by
    rw [hE, hQ]
    by_cases h : 40 ≤ ln
    · rw [if_pos h, if_pos (decide_eq_true (by omega))]
    · rw [if_neg h, if_neg (by simp; omega)]
  have hwr : IntKind.i64.wrap (g - x) = g - x := by rw [IntKind.wrap_i64]; omega
  have HC := Lib.hid hc; have HWAY := Lib.hid hway; have HA := Lib.hid ha; have HB := Lib.hid hb; have HAI := Lib.hid haI; have HBI := Lib.hid hbI; have HX := Lib.hid hx; have H1 := Lib.hid h1; have H2 := Lib.hid h2; have H3 := Lib.hid h3; have HY := Lib.hid hY; have HOK := Lib.hid hok; have HG := Lib.hid hg; have HL := Lib.hid hL; have HAB := Lib.hid hab; have HRL := Lib.hid hrl; have HN5 := Lib.hid hn5; have HROWI := Lib.hid hRowI; have HLN := Lib.hid hln; have HS2 := Lib.hid hS2; have HS3 := Lib.hid hS3; have HQ := Lib.hid hQ; have HE := Lib.hid hE; have HS := Lib.hid hS; have HEQ := Lib.hid hEQ
  clear hc hway ha hb haI hbI hx h1 h2 h3 hY hok hg hL hab hrl hn5 hRowI hln hS2 hS3 hQ hE hS hEQ
  go_enter Tryd.func21, Tryd.ntmps21
  go_upto_region 2 with fail
  rw [← hb_b1, ← hw_w1]
  clear hb_b1 hw_w1
  go_wp2_with fail
  refine (pCheck_any s ka b HP.out).mono ?_
  rintro e w2 ⟨rfl, ho⟩
  rw [HC.out, errV0]
  have HO := Lib.hid ho
  obtain ⟨m, hm, hq⟩ := ho.pic_open
  obtain ⟨c0, c1, _⟩ := hq.pic_facts
  obtain ⟨hn, hnc, hcm, hgf⟩ := hq.pic_n
  have hc' := hq.pic_at HA.out
  have hf' := hgf (go + ka) none
  rw [Int.toNat_natCast, ← HG.out] at hc'
  have hkn : ka < n := by have := HAB.out; omega
  clear x0 x1 ho hgf
  obtain ⟨x0, x1⟩ := HYC.out _ HO.out.drop
  have hlk := hq.drew.pic_row ((ka : Int), b) HX.out
  have hrd := hq.drew.pic_rd hm ka b (by rw [← HL.out]; exact HROWI.out)
  obtain ⟨V, hV⟩ : ∃ V, V = ((mget m ((ka : Int), b)).getD nilRow).1 := ⟨_, rfl⟩
  rw [← hV] at hlk hrd
  rw [← HL.out] at hrd
  simp only at hlk
  obtain ⟨va, vc, hvs, hvc, _⟩ := hrd.shape
  rw [← HLN.out] at hvs hvc
  subst hvs
  have c1' : w2.drew.cell? ⟨p, 1, none⟩ = some (.map (some mb1)) := c1
  have x0' : w2.drew.cell? ⟨b1, 0, none⟩ = some (.int .i64 ka) := x0
  have x1' : w2.drew.cell? ⟨b1, 1, none⟩ = some (.int .i64 b) := x1
  have HM := Lib.hid hm; have HQ := Lib.hid hq; have HN := Lib.hid hn; have HV := Lib.hid hV; have HRD := Lib.hid hrd
  clear hm hq hn hV hrd
  go_upto_region 9 with fail
  refine wp_region_planH 8 [] [(true, 0), (true, 1), (true, 2), (true, 3), (true, 4), (true, 5), (true, 6), (true, 7)] [8] (fun wS => wS = w2.drew) (by kernel_rfl) (by kernel_rfl) (rfl) ?_
  simp only [pickH, pick, List.getElem?_cons_succ, List.getElem?_cons_zero, Option.toList, Option.map_some, List.cons_append, List.nil_append]
  repeat (refine wpPure_step ?_ rfl ?_ ?_; rotate_left; (focus (intro _; first | with_reducible rfl | (go_simp; done) | (go_simp; with_reducible rfl) | rfl)); go_simp)
  refine wpPure_nil ?_
  repeat (refine wpMix_read ?_ rfl ?_ ?_; rotate_left; (focus (intro _ hS; obtain rfl := hS; first | with_reducible rfl | (go_simp; done) | (go_simp; with_reducible rfl) | rfl)); go_simp)
  refine wpMix_nil ?_
  clear hlk c1' x0' x1'
  go_wp2_with fail
  refine NoPanic.normal ?_
  by_cases h4 : 40 ≤ ln
  · have t4 : decide (40 ≤ (ln : Int)) = true := decide_eq_true (by omega)
    rw [t4]
    have e4 : E = 4 := by rw [HE.out, if_pos h4]
    have s4 := HS3.out h4
    have HF := Lib.hid (HYD.out _ _ HO.out.drew)
    have H4 := Lib.hid h4; have E4 := Lib.hid e4; have S4 := Lib.hid s4
    clear h4 e4 s4
    go_wp2
    go_ret
    exact ⟨by rw [E4.out]; rfl, by rw [S4.out]; exact HF.out⟩
  have t4 : decide (40 ≤ (ln : Int)) = false := decide_eq_false (by omega)
  rw [t4]
  have e4 : E = 0 := by rw [HE.out, if_neg h4]
  have s4 := HS2.out h4
  obtain ⟨T, hT⟩ : ∃ T : Pic, T = { s with gold := s.gold.set ka (g - x) } := ⟨_, rfl⟩
  have s5 : S = { T with ways := mput T.ways ((ka : Int), b) (L ++ [x]) } := by rw [s4, hT]
  obtain ⟨w4, hw4⟩ : ∃ w4, w4 = (w2.setCell ⟨gb, go + ka, none⟩ (.int .i64 (g - x))).drew := ⟨_, rfl⟩
  have hq4 : Own w0 (PicO p mb1 mb2 mb3 gb go gc n m T * Y) w4 := by rw [hT, hw4]; exact (Own.pic_gold_put (k := ka) (x := g - x) (by rw [HN.out]; exact hkn) HQ.out).drew
  have hm4 : mvals Prod.snd m = T.ways := by rw [hT]; exact HM.out
  obtain ⟨X, hFX⟩ : ∃ X, X = picB p mb1 mb2 mb3 gb go gc n T.begun T.onWay * (goldS gb go gc n T.gold * (wroteS mb2 T.wrote * (opnS mb3 T.opn * Y))) := ⟨_, rfl⟩
  have HO1' : Hid (Own w0 (waysS mb1 m * X) w4) := Lib.hid (hq4.perm (by rw [hFX]; unfold PicO; ac_rfl))
  have HXC : Hid (∀ w', Own w0 X w' → w'.cell? ⟨p, 1, none⟩ = some (.map (some mb1)) ∧ w'.cell? ⟨b1, 0, none⟩ = some (.int .i64 ka) ∧ w'.cell? ⟨b1, 1, none⟩ = some (.int .i64 b)) := Lib.hid (fun w' h => by rw [hFX] at h; exact ⟨(h.cell 1).trans rfl, HYC.out _ h.drop.drop.drop.drop⟩)
  have HO2 := Lib.hid (HO1'.out.ms_take nilRow rowP_nil ((ka : Int), b))
  have hcut : pcRow T ka b = L := by rw [hT, HL.out]; rfl
  have H4 := Lib.hid h4; have E4 := Lib.hid e4; have S4 := Lib.hid s4; have HT := Lib.hid hT; have HM4 := Lib.hid hm4; have HFX := Lib.hid hFX; have HCUT := Lib.hid hcut; have S5 := Lib.hid s5; have HQ4 := Lib.hid hq4
  clear h4 e4 s4 hT hm4 hFX hcut s5 hq4
  go_upto_region 12 with fail
  rw [← hw4]
  obtain ⟨c1, x0, x1⟩ := HXC.out _ HO1'.out.drop
  have HW4 := Lib.hid hw4
  clear hw4
  refine wp_region_planH 11 [] [(true, 0), (true, 1), (true, 2), (true, 3), (true, 4), (true, 5), (false, 6), (false, 7), (true, 8), (true, 10), (false, 9)] [11] (fun wS => wS.cell? ⟨p, 1, none⟩ = some (.map (some mb1)) ∧ wS.cell? ⟨b1, 0, none⟩ = some (.int .i64 ka) ∧ wS.cell? ⟨b1, 1, none⟩ = some (.int .i64 b)) (by kernel_rfl) (by kernel_rfl) (⟨c1, x0, x1⟩) ?_
  simp only [pickH, pick, List.getElem?_cons_succ, List.getElem?_cons_zero, Option.toList, Option.map_some, List.cons_append, List.nil_append]
  repeat (refine wpPure_step ?_ rfl ?_ ?_; rotate_left; (focus (intro _; first | with_reducible rfl | (go_simp; done) | (go_simp; with_reducible rfl) | rfl)); go_simp)
  refine wpPure_nil ?_
  repeat (refine wpMix_read ?_ rfl ?_ ?_; rotate_left; (focus (intro _ hS; obtain ⟨s1, s2, s3⟩ := hS; first | with_reducible rfl | (go_simp; done) | (go_simp; with_reducible rfl) | rfl)); go_simp)
  refine wpMix_write (fun K hK => ?_)
  go_simp
  obtain ⟨b2, hb_b2⟩ : ∃ zz_, zz_ = (w4).heap.size := ⟨_, rfl⟩
  obtain ⟨w5, hw_w5⟩ : ∃ zz_, zz_ = (w4).alloc (.cells #[.int .i64 x] 3 (0, 0)) := ⟨_, rfl⟩
  have h_HO3 := (HO2.out).alloc (.cells #[.int .i64 x] 3 (0, 0))
  rw [← hb_b2, ← hw_w5] at h_HO3
  have HO3 := Lib.hid h_HO3
  clear h_HO3
  rw [← hb_b2, ← hw_w5]
  clear hb_b2 hw_w5
  have k4 : w5.drew.cell? ⟨p, 1, none⟩ = some (.map (some mb1)) ∧ w5.drew.cell? ⟨b1, 0, none⟩ = some (.int .i64 ka) ∧ w5.drew.cell? ⟨b1, 1, none⟩ = some (.int .i64 b) := HXC.out _ HO3.out.drew.drop.drop.drop.drop
  refine hK _ _ ⟨k4, ?_⟩
  clear hK K
  go_simp
  clear k4 c1 x0 x1
  refine wpMix_write (fun K hK => ?_)
  refine step_open pway_ke mapw_kind ints_zero HO3.out.drew.third HX.out rfl _ _ rfl rfl rfl ?_
  intro w6 st ho3
  have hval := mget_val Prod.fst m ((ka : Int), b) nilRow
  rw [show (nilRow).1 = Value.slice none 0 0 from rfl, ← HV.out] at hval
  rw [hval]
  clear hval
  have HO4 : Hid (Own w0 (IntSl (.slice va ln vc) L * (IntSl (.slice (some ⟨b2, 0, none⟩) 1 1) [x] * (MpE plV plOk mb1 (mvals Prod.fst m) ((ka : Int), b) st * (starL (fun p : WRow => rowP p.2) (mdel m ((ka : Int), b)) * X)))) w6) := Lib.hid (by
    have h4 : Own w0 (IntSl ((mget m ((ka : Int), b)).getD nilRow).1 ((mget m ((ka : Int), b)).getD nilRow).2 * _) w6 := ho3.third
    rw [pcRow_of HM4.out, HCUT.out, ← HV.out] at h4
    have h5 := h4.third
    exact (Own.litI [x] 1 rfl (by omega) h5).second)
  clear ho3
  have k4 := HXC.out _ HO4.out.drop.drop.drop.drop
  refine hK _ _ ⟨k4, ?_⟩
  clear hK K
  go_simp
  clear k4
  repeat (refine wpMix_read ?_ rfl ?_ ?_; rotate_left; (focus (intro _ hS; obtain ⟨s1, s2, s3⟩ := hS; first | with_reducible rfl | (go_simp; done) | (go_simp; with_reducible rfl) | rfl)); go_simp)
  refine wpMix_write (fun K hK => ?_)
  refine step_app rfl _ _ 38 rfl 3 1 8 _ info_int Tryd.underlying38 rfl (by decide) (by rfl) HO4.out (by rfl) (by rfl) (Own.rd HO4.out.drop) (int_one _) (by have := HLN.out; unfold maxLen; rw [List.length_singleton]; omega) (by have := HLN.out; rw [List.length_singleton]; omega) ?_
  intro v5 w7 ho5
  have HO5 : Hid (Own w0 (MpE plV plOk mb1 (mvals Prod.fst m) ((ka : Int), b) st * (IntSl v5 (L ++ [x]) * (starL (fun p : WRow => rowP p.2) (mdel m ((ka : Int), b)) * (IntSl (.slice (some ⟨b2, 0, none⟩) 1 1) [x] * X)))) w7) := Lib.hid (by
    have h5 : Own w0 (IntSl v5 (L ++ [x]) * _) w7 := ho5.perm (show _ = IntSl v5 (L ++ [x]) * _ by unfold IntSl; rw [List.length_append, List.map_append])
    exact h5.perm (by unfold IntSl; ac_rfl))
  clear ho5
  have k4 := HXC.out _ HO5.out.drop.drop.drop.drop
  refine hK _ _ ⟨k4, ?_⟩
  clear hK K
  go_simp
  clear k4
  refine wpMix_nil ?_
  go_wp2_with (refine wpList_fill HO5.out rfl _ _ _ rfl rfl rfl rfl ?_; intro w8 ho6; have HO6 := Lib.hid ho6; clear ho6)
  refine NoPanic.normal ?_
  go_wp2
  go_ret
  refine ⟨by rw [E4.out]; rfl, ?_⟩
  refine HYD.out _ _ ?_
  have h7 := (HO6.out.second.perm (show _ = rowP (v5, L ++ [x]) * _ from rfl)).ms_put (f := rowP) (val := Prod.fst) ((ka : Int), b)
  have h8 := h7.second.drop
  rw [HFX.out] at h8
  rw [S5.out]
  exact (Own.pic_ways_put h8).pic_close (by rw [← mput_mvals, HM4.out])
end Go.Proofs.YtpgonkecicmanaaDoor
/- Contracts of package picture: Come. -/
namespace Go.Proofs.YtpgonkecicmanaaDoor
set_option linter.unusedVariables false
set_option linter.unusedSimpArgs false
open Go.RowKit Go.Maps
set_option maxRecDepth 100000 in
set_option maxHeartbeats 4000000 in
theorem pCome_any {w0 w : World} {R : HProp} {p mb1 mb2 mb3 gb go gc n : Nat} (s : Pic) (a b : Int) (hok : PicOk s) (hok2 : PicOk (pcPop s a b)) (h : Own w0 (PicA p mb1 mb2 mb3 gb go gc n s * R) w) :
    Calls Tryd.prog 23 #[.pointer (some ⟨p, 0, none⟩), .int .i64 a, .int .i64 b] w fun e w' => e = .returned (.tuple #[.int .i64 (pcComeVal s a b), errV (pcComeErr s a b)]) ∧ Own w0 (PicA p mb1 mb2 mb3 gb go gc n (pcCome s a b) * R) w' := by
  obtain ⟨b1, hb_b1⟩ : ∃ zz_, zz_ = (w).heap.size := ⟨_, rfl⟩
  obtain ⟨w1, hw_w1⟩ : ∃ zz_, zz_ = (w).alloc (.cells #[.int .i64 a, .int .i64 b] 154 (0, 0)) := ⟨_, rfl⟩
  have h_HO1 := (h).alloc (.cells #[.int .i64 a, .int .i64 b] 154 (0, 0))
  rw [← hb_b1, ← hw_w1] at h_HO1
  have HO1 := Lib.hid h_HO1
  clear h_HO1
  obtain ⟨Y, hY⟩ : ∃ Y, Y = blk b1 (.cells #[.int .i64 a, .int .i64 b] 154 (0, 0)) * R := ⟨_, rfl⟩
  have HYC : Hid (∀ w', Own w0 Y w' → w'.cell? ⟨b1, 0, none⟩ = some (.int .i64 a) ∧ w'.cell? ⟨b1, 1, none⟩ = some (.int .i64 b)) := Lib.hid (fun w' h => by rw [hY] at h; exact ⟨(h.cell 0).trans rfl, (h.cell 1).trans rfl⟩)
  have HYD : Hid (∀ s' w', Own w0 (PicA p mb1 mb2 mb3 gb go gc n s' * Y) w' → Own w0 (PicA p mb1 mb2 mb3 gb go gc n s' * R) w') := Lib.hid (fun s' w' h => by rw [hY] at h; exact h.second.drop)
  have HP : Hid (Own w0 (PicA p mb1 mb2 mb3 gb go gc n s * Y) w1) := Lib.hid (by rw [hY]; exact HO1.out.second)
  obtain ⟨x0, x1⟩ := HYC.out _ HP.out.drop
  clear HO1 h
  by_cases hc : pcWay s a b = 0
  rotate_left
  · have hE : pcComeErr s a b = pcWay s a b := by unfold pcComeErr; rw [if_pos hc]
    have hV : pcComeVal s a b = 0 := by unfold pcComeVal; rw [if_neg (by rw [hE]; exact hc)]
    have hS : pcCome s a b = s := by unfold pcCome; rw [if_neg (by rw [hE]; exact hc)]
    obtain ⟨mm, hmm⟩ := errV_some hc
    rw [hE, hV, hS, hmm]
    have HE := Lib.hid hE; have HV := Lib.hid hV; have HS := Lib.hid hS; have HC := Lib.hid hc; have HMM := Lib.hid hmm; have HY := Lib.hid hY; have HOK := Lib.hid hok; have HOK2 := Lib.hid hok2
    clear hE hV hS hc hmm hY hok hok2
    go_enter Tryd.func23, Tryd.ntmps23
    go_upto_region 2 with fail
    rw [← hb_b1, ← hw_w1]
    clear hb_b1 hw_w1
    go_wp2_with fail
    refine (pCheck_any s a b HP.out).mono ?_
    rintro e w' ⟨rfl, ho⟩
    have HF := Lib.hid (HYD.out _ _ ho)
    clear ho
    rw [HMM.out]
    go_wp2
    go_ret2
    exact ⟨rfl, HF.out⟩
  have hway := pcWay0.1 hc
  have ha : pcHas s a = true := pcHas_mem.2 hway.1
  have hb : pcHas s b = true := pcHas_mem.2 hway.2.1
  have haI := pcHas_small hok.n5 ha
  have hbI := pcHas_small hok.n5 hb
  have hx : plOk (a, b) := ⟨haI, hbI⟩
  have hrl := hok.row a b
  obtain ⟨L, hL⟩ : ∃ L, L = pcRow s a b := ⟨_, rfl⟩
  rw [← hL] at hrl
  have hRowI : ∀ y ∈ L, I64 y := fun y hy => by have := hrl.2 y hy; unfold I64; omega
  by_cases hnil : L = []
  · have hE : pcComeErr s a b = 5 := by unfold pcComeErr; rw [if_neg (by rw [hc]; simp), ← hL, if_pos hnil]
    have hV : pcComeVal s a b = 0 := by unfold pcComeVal; rw [if_neg (by rw [hE]; decide)]
    have hS : pcCome s a b = s := by unfold pcCome; rw [if_neg (by rw [hE]; decide)]
    rw [hE, hV, hS]
    subst hnil
    have HE := Lib.hid hE; have HV := Lib.hid hV; have HS := Lib.hid hS; have HC := Lib.hid hc; have HY := Lib.hid hY; have HOK := Lib.hid hok; have HOK2 := Lib.hid hok2; have HWAY := Lib.hid hway; have HA := Lib.hid ha; have HB := Lib.hid hb; have HAI := Lib.hid haI; have HBI := Lib.hid hbI; have HX := Lib.hid hx; have HRL := Lib.hid hrl; have HL := Lib.hid hL; have HROWI := Lib.hid hRowI
    clear hE hV hS hc hY hok hok2 hway ha hb haI hbI hx hrl hL hRowI
    go_enter Tryd.func23, Tryd.ntmps23
    go_upto_region 2 with fail
    rw [← hb_b1, ← hw_w1]
    clear hb_b1 hw_w1
    go_wp2_with fail
    refine (pCheck_any s a b HP.out).mono ?_
    rintro e w2 ⟨rfl, ho⟩
    rw [HC.out, errV0]
    obtain ⟨m, hm, hq⟩ := ho.pic_open
    obtain ⟨c0, c1, _⟩ := hq.drew.pic_facts
    clear x0 x1
    obtain ⟨x0, x1⟩ := HYC.out _ ho.drop.drew
    have hlk := hq.drew.pic_row (a, b) HX.out
    have hrd := hq.drew.pic_rd hm a b (by rw [← HL.out]; exact HROWI.out)
    obtain ⟨V, hV⟩ : ∃ V, V = ((mget m (a, b)).getD nilRow).1 := ⟨_, rfl⟩
    rw [← hV] at hlk hrd
    rw [← HL.out] at hrd
    simp only at hlk
    obtain ⟨va, vc, hvs, _, _⟩ := hrd.shape
    rw [show ([] : List Int).length = 0 from rfl] at hvs
    subst hvs
    have HF := Lib.hid (HYD.out _ _ ho).drew
    clear ho
    have HM := Lib.hid hm; have HQ := Lib.hid hq; have HV := Lib.hid hV; have HRD := Lib.hid hrd
    clear hm hq hV hrd
    go_upto_region 5 with fail
    refine wp_region_planH 7 [] [(true, 0), (true, 1), (true, 2), (true, 3), (true, 4), (true, 5), (true, 6)] [7] (fun wS => wS = w2.drew) (by kernel_rfl) (by kernel_rfl) (rfl) ?_
    simp only [pickH, pick, List.getElem?_cons_succ, List.getElem?_cons_zero, Option.toList, Option.map_some, List.cons_append, List.nil_append]
    repeat (refine wpPure_step ?_ rfl ?_ ?_; rotate_left; (focus (intro _; first | with_reducible rfl | (go_simp; done) | (go_simp; with_reducible rfl) | rfl)); go_simp)
    refine wpPure_nil ?_
    repeat (refine wpMix_read ?_ rfl ?_ ?_; rotate_left; (focus (intro _ hS; obtain rfl := hS; first | with_reducible rfl | (go_simp; done) | (go_simp; with_reducible rfl) | rfl)); go_simp)
    refine wpMix_nil ?_
    clear hlk c0 c1 x0 x1
    go_wp2_with fail
    refine NoPanic.normal ?_
    go_wp2
    go_ret2
    exact ⟨rfl, HF.out⟩
  obtain ⟨n0, r, hnr⟩ : ∃ n0 r, L = n0 :: r := by cases L with | nil => exact absurd rfl hnil | cons x r => exact ⟨x, r, rfl⟩
  have hE : pcComeErr s a b = 0 := by unfold pcComeErr; rw [if_neg (by rw [hc]; simp), ← hL, if_neg hnil]
  have hV : pcComeVal s a b = n0 := by unfold pcComeVal; rw [if_pos hE, ← hL, hnr]; rfl
  have hS : pcCome s a b = if n0 = 0 then pcMark (pcPop s a b) a b else pcGet2 (pcGet1 (pcPop s a b) b n0) a b n0 := by unfold pcCome; rw [if_pos hE, hV]
  obtain ⟨S, hSS⟩ : ∃ S, S = pcCome s a b := ⟨_, rfl⟩
  rw [← hSS] at hS
  rw [hE, hV, ← hSS, errV0]
  have hpop : pcPop s a b = { s with ways := mput s.ways (a, b) r } := by unfold pcPop; rw [← hL, hnr]; rfl
  have hn0 : 0 ≤ n0 ∧ n0 ≤ 1000000 := hrl.2 n0 (by rw [hnr]; simp)
  obtain ⟨lr, hlr⟩ : ∃ lr, lr = r.length := ⟨_, rfl⟩
  have hlr2 : lr ≤ 1000 := by have := hrl.1; rw [hnr, List.length_cons] at this; omega
  clear hnil
  have HE := Lib.hid hE; have HV := Lib.hid hV; have HS := Lib.hid hS; have HC := Lib.hid hc; have HY := Lib.hid hY; have HOK := Lib.hid hok; have HOK2 := Lib.hid hok2; have HWAY := Lib.hid hway; have HA := Lib.hid ha; have HB := Lib.hid hb; have HAI := Lib.hid haI; have HBI := Lib.hid hbI; have HX := Lib.hid hx; have HRL := Lib.hid hrl; have HL := Lib.hid hL; have HROWI := Lib.hid hRowI; have HSS := Lib.hid hSS; have HPOP := Lib.hid hpop; have HN0 := Lib.hid hn0; have HNR := Lib.hid hnr; have HLR := Lib.hid hlr
  clear hE hV hS hc hY hok hok2 hway ha hb haI hbI hx hrl hL hRowI hSS hpop hn0 hnr hlr
  go_enter Tryd.func23, Tryd.ntmps23
  go_upto_region 2 with fail
  rw [← hb_b1, ← hw_w1]
  clear hb_b1 hw_w1
  go_wp2_with fail
  refine (pCheck_any s a b HP.out).mono ?_
  rintro e w2 ⟨rfl, ho⟩
  rw [HC.out, errV0]
  obtain ⟨m, hm, hq⟩ := ho.pic_open
  clear x0 x1
  have hrd := hq.pic_rd hm a b (by rw [← HL.out]; exact HROWI.out)
  obtain ⟨V, hV⟩ : ∃ V, V = ((mget m (a, b)).getD nilRow).1 := ⟨_, rfl⟩
  rw [← hV] at hrd
  rw [← HL.out] at hrd
  obtain ⟨va, vc, hvs, hvc, _⟩ := hrd.shape
  rw [HNR.out, List.length_cons, ← HLR.out] at hvs hvc
  have hVS : Hid ((.slice va (lr + 1) vc : Value) = ((mget m (a, b)).getD nilRow).1) := Lib.hid (by rw [← hvs, hV])
  rw [hvs] at hrd
  have htk : Own w0 (IntSl (.slice va (lr + 1) vc) (n0 :: r) * (Mp plV plOk mb1 (mvals Prod.fst m) * (starL (fun p : WRow => rowP p.2) (mdel m (a, b)) * (picB p mb1 mb2 mb3 gb go gc n s.begun s.onWay * (goldS gb go gc n s.gold * (wroteS mb2 s.wrote * (opnS mb3 s.opn * Y))))))) w2 := by
    have h1 := hq.pic_ways.ms_take nilRow rowP_nil (a, b)
    have h2 : Own w0 (IntSl ((mget m (a, b)).getD nilRow).1 ((mget m (a, b)).getD nilRow).2 * _) w2 := h1
    rw [pcRow_of hm, ← HL.out, ← hVS.out, HNR.out] at h2
    exact h2
  obtain ⟨rb, ro, rc, hsv, _⟩ := Own.slAt htk (by simp)
  injection hsv with e1 e2 e3
  subst e1; subst e3
  clear e2
  have hc0 : w2.cell? ⟨rb, ro, none⟩ = some (.int .i64 n0) := by
    obtain ⟨aa, haa, hcc⟩ := hrd.at 0 (by rw [HNR.out]; simp)
    cases haa
    rw [Addr.add_lit] at hcc
    simpa [HNR.out] using hcc
  have HLK : Hid (∀ w', Own w0 (PicO p mb1 mb2 mb3 gb go gc n m s * Y) w' → (Instr.lookup 148 (.map (some mb1)) (.agg #[.int .i64 a, .int .i64 b]) false).run Tryd.prog w' = .ok (.slice (some ⟨rb, ro, none⟩) (lr + 1) vc) w') := Lib.hid (fun w' h => by rw [hVS.out]; exact h.pic_row (a, b) HX.out)
  have HF := Lib.hid ho
  clear ho hvs hV
  have HM := Lib.hid hm; have HQ := Lib.hid hq; have HRD := Lib.hid hrd; have HTK := Lib.hid htk
  clear hm hq hrd htk
  obtain ⟨c0, c1, _⟩ := HQ.out.drew.pic_facts
  obtain ⟨x0, x1⟩ := HYC.out _ HF.out.drop.drew
  have hlk := HLK.out _ HQ.out.drew
  have l1 : ((lr : Int) + 1 == 0) = false := by rw [beq_eq_false_iff_ne]; omega
  go_upto_region 5 with fail
  refine wp_region_planH 7 [] [(true, 0), (true, 1), (true, 2), (true, 3), (true, 4), (true, 5), (true, 6)] [7] (fun wS => wS = w2.drew) (by kernel_rfl) (by kernel_rfl) (rfl) ?_
  simp only [pickH, pick, List.getElem?_cons_succ, List.getElem?_cons_zero, Option.toList, Option.map_some, List.cons_append, List.nil_append]
  repeat (refine wpPure_step ?_ rfl ?_ ?_; rotate_left; (focus (intro _; first | with_reducible rfl | (go_simp; done) | (go_simp; with_reducible rfl) | rfl)); go_simp)
  refine wpPure_nil ?_
  repeat (refine wpMix_read ?_ rfl ?_ ?_; rotate_left; (focus (intro _ hS; obtain rfl := hS; first | with_reducible rfl | (go_simp; done) | (go_simp; with_reducible rfl) | rfl)); go_simp)
  refine wpMix_nil ?_
  clear hlk c0 c1 x0 x1
  go_wp2_with fail
  refine NoPanic.normal ?_
  have HF1 := Lib.hid HF.out.drew
  have HTK1 := Lib.hid HTK.out.drew
  have hc1 : w2.drew.cell? ⟨rb, ro, none⟩ = some (.int .i64 n0) := hc0
  obtain ⟨w3, hw3⟩ : ∃ w3, w3 = w2.drew := ⟨_, rfl⟩
  have HQ1 : Hid (Own w0 (PicO p mb1 mb2 mb3 gb go gc n m s * Y) w3) := Lib.hid (by rw [hw3]; exact HQ.out.drew)
  rw [← hw3] at HF1 HTK1 hc1
  rw [← hw3]
  clear hw3 HF HQ HTK hc0 HRD HP
  obtain ⟨c0, c1, _⟩ := HQ1.out.drew.pic_facts
  obtain ⟨x0, x1⟩ := HYC.out _ HF1.out.drop.drew
  have hlk := HLK.out _ HQ1.out.drew
  have hc2 : w3.drew.cell? ⟨rb, ro, none⟩ = some (.int .i64 n0) := hc1
  have l2 : (0 : Int) < (lr : Int) + 1 := by omega
  go_upto_region 7 with fail
  refine wp_region_planH 8 [] [(true, 0), (true, 1), (true, 2), (true, 3), (true, 4), (true, 5), (true, 6), (true, 7)] [8] (fun wS => wS = w3.drew) (by kernel_rfl) (by kernel_rfl) (rfl) ?_
  simp only [pickH, pick, List.getElem?_cons_succ, List.getElem?_cons_zero, Option.toList, Option.map_some, List.cons_append, List.nil_append]
  repeat (refine wpPure_step ?_ rfl ?_ ?_; rotate_left; (focus (intro _; first | with_reducible rfl | (go_simp; done) | (go_simp; with_reducible rfl) | rfl)); go_simp)
  refine wpPure_nil ?_
  repeat (refine wpMix_read ?_ rfl ?_ ?_; rotate_left; (focus (intro _ hS; obtain rfl := hS; first | with_reducible rfl | (go_simp; done) | (go_simp; with_reducible rfl) | rfl)); go_simp)
  refine wpMix_nil ?_
  clear hlk c0 c1 x0 x1
  go_wp2_with fail
  refine NoPanic.normal ?_
  obtain ⟨w4, hw4⟩ : ∃ w4, w4 = w3.drew := ⟨_, rfl⟩
  have HQ2 : Hid (Own w0 (PicO p mb1 mb2 mb3 gb go gc n m s * Y) w4) := Lib.hid (by rw [hw4]; exact HQ1.out.drew)
  have HTK2 := Lib.hid HTK1.out.drew
  rw [← hw4] at HTK2 hc2
  rw [← hw4]
  clear hw4 HF1 HQ1 HTK1 hc1
  obtain ⟨c0, c1, _⟩ := HQ2.out.drew.pic_facts
  obtain ⟨x0, x1⟩ := HYC.out _ HQ2.out.drew.drop
  have hlk := HLK.out _ HQ2.out.drew
  obtain ⟨CV, hCV⟩ : ∃ CV, CV = cutV (some ⟨rb, ro, none⟩) (lr + 1) vc 1 := ⟨_, rfl⟩
  have hcut : ∀ w, (Instr.sliceAt 38 (.slice (some ⟨rb, ro, none⟩) (lr + 1) vc) (some (.int .i64 1)) none none).run Tryd.prog w = .ok CV w := fun w => by
    rw [hCV]
    exact cut_front (n := 1) Tryd.underlying38 (fun w => by kernel_rfl) (by omega) hvc w
  have HCO : Hid (Own w0 (IntSl CV r * (Mp plV plOk mb1 (mvals Prod.fst m) * (starL (fun p : WRow => rowP p.2) (mdel m (a, b)) * (picB p mb1 mb2 mb3 gb go gc n s.begun s.onWay * (goldS gb go gc n s.gold * (wroteS mb2 s.wrote * (opnS mb3 s.opn * Y))))))) w4.drew) := Lib.hid (by
    have h1 := Own.sl_cut (n := 1) (by omega) (show Own w0 (Sl 3 1 (.slice (some ⟨rb, ro, none⟩) (lr + 1) vc) (lr + 1) ((n0 :: r).map (Value.int .i64)) * _) w4.drew from HTK2.out.drew.perm (by unfold IntSl; rw [List.length_cons, ← HLR.out]))
    rw [hCV]
    unfold IntSl
    rw [← HLR.out]
    exact h1)
  have HCV := Lib.hid hCV
  clear hCV
  go_upto_region 8 with fail
  refine wp_region_planH 12 [] [(true, 0), (true, 1), (true, 2), (true, 3), (true, 4), (true, 5), (true, 6), (true, 7), (true, 8), (true, 9), (true, 10), (true, 11)] [12] (fun wS => wS = w4.drew) (by kernel_rfl) (by kernel_rfl) (rfl) ?_
  simp only [pickH, pick, List.getElem?_cons_succ, List.getElem?_cons_zero, Option.toList, Option.map_some, List.cons_append, List.nil_append]
  repeat (refine wpPure_step ?_ rfl ?_ ?_; rotate_left; (focus (intro _; first | with_reducible rfl | (go_simp; done) | (go_simp; with_reducible rfl) | rfl)); go_simp)
  refine wpPure_nil ?_
  repeat (refine wpMix_read ?_ rfl ?_ ?_; rotate_left; (focus (intro _ hS; obtain rfl := hS; first | with_reducible rfl | (go_simp; done) | (go_simp; with_reducible rfl) | rfl)); go_simp)
  refine wpMix_nil ?_
  clear hlk c0 c1 x0 x1 hcut hc2 HTK2
  obtain ⟨m2, hm2⟩ : ∃ m2, m2 = mput m (a, b) (CV, r) := ⟨_, rfl⟩
  obtain ⟨T, hT⟩ : ∃ T, T = pcPop s a b := ⟨_, rfl⟩
  have hTm : mvals Prod.snd m2 = T.ways := by rw [hm2, hT, HPOP.out, ← mput_mvals, HM.out]
  have HPUT : Hid (∀ w5, Own w0 (Mp plV plOk mb1 (mput (mvals Prod.fst m) (a, b) CV) * (IntSl CV r * (starL (fun p : WRow => rowP p.2) (mdel m (a, b)) * (picB p mb1 mb2 mb3 gb go gc n s.begun s.onWay * (goldS gb go gc n s.gold * (wroteS mb2 s.wrote * (opnS mb3 s.opn * Y))))))) w5 → Own w0 (PicO p mb1 mb2 mb3 gb go gc n m2 T * Y) w5) := Lib.hid (fun w5 ho5 => by
    have h7 := (ho5.second.perm (show _ = rowP (CV, r) * _ from rfl)).ms_put (f := rowP) (val := Prod.fst) (a, b)
    rw [hm2, hT, HPOP.out]
    exact Own.pic_ways_put h7)
  have hb2 := pcHas_bd HB.out
  obtain ⟨kb, hkb⟩ : ∃ k : Nat, b = k := ⟨b.toNat, by omega⟩
  have hwb : pcHas T b = true := by rw [hT]; exact HB.out
  have hwa : pcHas T a = true := by rw [hT]; exact HA.out
  have hokT : PicOk T := by rw [hT]; exact HOK2.out
  have hgb : pcG T b = pcG s b := by rw [hT]; rfl
  have hST : S = if n0 = 0 then pcMark T a b else pcGet2 (pcGet1 T b n0) a b n0 := by rw [HS.out, hT]
  clear hm2
  have HT := Lib.hid hT; have HTM := Lib.hid hTm; have HWA := Lib.hid hwa; have HWB := Lib.hid hwb; have HOKT := Lib.hid hokT; have HST := Lib.hid hST; have HGB := Lib.hid hgb; have HB2 := Lib.hid hb2; have HKB := Lib.hid hkb
  clear hT hTm hwa hwb hokT hST hgb hb2 hkb
  go_wp2_with (at_mapUpdate; refine wpList_put (v := CV) (x := (a, b)) pway_ke mapw_kind HCO.out.second HX.out rfl _ _ _ rfl rfl rfl rfl ?_; intro w5 ho5; have HO5 := Lib.hid (HPUT.out _ ho5); clear ho5)
  refine NoPanic.normal ?_
  obtain ⟨x0, x1⟩ := HYC.out _ HO5.out.drop
  clear HCO HQ2 HPUT
  by_cases hz : n0 = 0
  · subst hz
    have hs5 : S = pcMark T a b := by rw [HST.out, if_pos rfl]
    have HO6 := Lib.hid (HO5.out.pic_close HTM.out)
    have HS5 := Lib.hid hs5
    clear hs5
    go_wp2_with fail
    refine (pMark_any T a b HWA.out HWB.out HOKT.out HO6.out).mono ?_
    rintro e w6 ⟨rfl, ho⟩
    rw [← HS5.out] at ho
    have HF6 := Lib.hid (HYD.out _ _ ho)
    clear ho
    go_wp2
    go_ret2
    exact ⟨rfl, HF6.out⟩
  have tz : (n0 == 0) = false := by rw [beq_eq_false_iff_ne]; exact hz
  have hs5 : S = pcGet2 (pcGet1 T b n0) a b n0 := by rw [HST.out, if_neg hz]
  obtain ⟨c0, _⟩ := HO5.out.pic_facts
  obtain ⟨hn, hnc, hcm, hgf⟩ := HO5.out.pic_n
  have hc' := HO5.out.pic_at HWB.out
  have hkb := HKB.out
  subst hkb
  rw [Int.toNat_natCast] at hc'
  obtain ⟨g, hg⟩ : ∃ g, g = pcG T kb := ⟨_, rfl⟩
  rw [← hg] at hc'
  have hgd := HOKT.out.gold kb
  rw [← hg] at hgd
  have hf' := hgf (go + kb) none
  have hbT := pcHas_bd HWB.out
  have hkn : kb < n := by omega
  have hn0 := HN0.out
  have hwr : IntKind.i64.wrap (g + n0) = g + n0 := by rw [IntKind.wrap_i64]; omega
  obtain ⟨T2, hT2⟩ : ∃ T2 : Pic, T2 = pcGet1 T kb n0 := ⟨_, rfl⟩
  rw [← hT2] at hs5
  have hT2' : T2 = { T with gold := T.gold.set kb (g + n0) } := by rw [hT2]; unfold pcGet1; rw [Int.toNat_natCast, ← hg]
  have HO6 : Hid (Own w0 (PicO p mb1 mb2 mb3 gb go gc n m2 T2 * Y) (w5.setCell ⟨gb, go + kb, none⟩ (.int .i64 (g + n0)))) := Lib.hid (by rw [hT2']; exact Own.pic_gold_put (k := kb) (x := g + n0) (by omega) HO5.out)
  have hm6 : mvals Prod.snd m2 = T2.ways := by rw [hT2']; exact HTM.out
  have hopn : T2.opn = T.opn := by rw [hT2']
  have hopb := HOKT.out.opn a kb
  obtain ⟨w6, hw6⟩ : ∃ w6, w6 = w5.setCell ⟨gb, go + kb, none⟩ (.int .i64 (g + n0)) := ⟨_, rfl⟩
  rw [← hw6] at HO6
  clear hgf
  have HS5 := Lib.hid hs5; have HN := Lib.hid hn; have HG := Lib.hid hg; have HGD := Lib.hid hgd; have HBT := Lib.hid hbT; have HN0 := Lib.hid hn0; have HT2 := Lib.hid hT2; have HT2' := Lib.hid hT2'; have HM6 := Lib.hid hm6; have HOPN := Lib.hid hopn; have HOPB := Lib.hid hopb; have HZ := Lib.hid hz
  clear hs5 hn hg hgd hbT hn0 hT2 hT2' hm6 hopn hopb hz
  go_upto_region 13 with fail
  rw [← hw6]
  clear hw6 HO5 c0 hc' hf' x0 x1
  obtain ⟨_, _, _, _, c4, _⟩ := HO6.out.drew.pic_facts
  obtain ⟨x0, x1⟩ := HYC.out _ HO6.out.drop.drew
  have hlk := HO6.out.drew.pic_lo2 (a, (kb : Int)) HX.out
  obtain ⟨D, hD⟩ : ∃ D, D = (mget T2.opn (a, (kb : Int))).isSome := ⟨_, rfl⟩
  obtain ⟨z, hz⟩ : ∃ D, D = (mget T2.opn (a, (kb : Int))).getD 0 := ⟨_, rfl⟩
  rw [← hD, ← hz] at hlk
  simp only at hlk
  have HD := Lib.hid hD; have HZ := Lib.hid hz
  clear hD hz
  refine wp_region_planH 10 [] [(true, 0), (true, 1), (true, 2), (true, 3), (true, 4), (true, 5), (true, 6), (true, 7), (true, 8), (false, 9)] [10] (fun wS => wS = w6.drew) (by kernel_rfl) (by kernel_rfl) (rfl) ?_
  simp only [pickH, pick, List.getElem?_cons_succ, List.getElem?_cons_zero, Option.toList, Option.map_some, List.cons_append, List.nil_append]
  repeat (refine wpPure_step ?_ rfl ?_ ?_; rotate_left; (focus (intro _; first | with_reducible rfl | (go_simp; done) | (go_simp; with_reducible rfl) | rfl)); go_simp)
  refine wpPure_nil ?_
  repeat (refine wpMix_read ?_ rfl ?_ ?_; rotate_left; (focus (intro _ hS; obtain rfl := hS; first | with_reducible rfl | (go_simp; done) | (go_simp; with_reducible rfl) | rfl)); go_simp)
  refine wpMix_write (fun K hK => ?_)
  go_simp
  refine hK _ _ ⟨rfl, ?_⟩
  clear hK K
  go_simp
  repeat (refine wpMix_read ?_ rfl ?_ ?_; rotate_left; (focus (intro _ hS; obtain rfl := hS; first | with_reducible rfl | (go_simp; done) | (go_simp; with_reducible rfl) | rfl)); go_simp)
  refine wpMix_nil ?_
  go_wp2_with fail
  refine NoPanic.normal ?_
  clear hlk c4 x0 x1
  cases D
  · have hs6 : S = T2 := by rw [HS5.out]; unfold pcGet2; rw [if_neg (by rw [← HD.out]; simp)]
    have HF7 := Lib.hid (HYD.out _ _ (HO6.out.pic_close HM6.out).drew)
    have HS6 := Lib.hid hs6
    clear hs6
    go_wp2
    go_ret2
    exact ⟨rfl, by rw [HS6.out]; exact HF7.out⟩
  have hs6 : S = { T2 with opn := mput T2.opn (a, (kb : Int)) (z + n0) } := by rw [HS5.out]; unfold pcGet2; rw [if_pos (by rw [← HD.out]), ← HZ.out]
  have hzb : 0 ≤ z ∧ z ≤ 1000000 := by rw [HZ.out, HOPN.out]; exact HOPB.out
  have hn0 := HN0.out
  have hwz : IntKind.i64.wrap (z + n0) = z + n0 := by rw [IntKind.wrap_i64]; omega
  obtain ⟨w7, hw7⟩ : ∃ w7, w7 = w6.drew := ⟨_, rfl⟩
  have HO7 : Hid (Own w0 (PicO p mb1 mb2 mb3 gb go gc n m2 T2 * Y) w7) := Lib.hid (by rw [hw7]; exact HO6.out.drew)
  rw [← hw7]
  clear HO6 hw7
  obtain ⟨_, _, _, _, c4, _⟩ := HO7.out.drew.pic_facts
  obtain ⟨x0, x1⟩ := HYC.out _ HO7.out.drop.drew
  have hlk := HO7.out.drew.pic_lo (a, (kb : Int)) HX.out
  rw [← HZ.out] at hlk
  simp only at hlk
  have HXC : Hid (∀ w', Own w0 (picB p mb1 mb2 mb3 gb go gc n T2.begun T2.onWay * (goldS gb go gc n T2.gold * (waysS mb1 m2 * (wroteS mb2 T2.wrote * Y)))) w' → w'.cell? ⟨p, 4, none⟩ = some (.map (some mb3)) ∧ w'.cell? ⟨b1, 0, none⟩ = some (.int .i64 a) ∧ w'.cell? ⟨b1, 1, none⟩ = some (.int .i64 kb)) := Lib.hid (fun w' h => ⟨(h.cell 4).trans rfl, HYC.out _ h.drop.drop.drop.drop⟩)
  have HS6 := Lib.hid hs6; have HZB := Lib.hid hzb; have HN0 := Lib.hid hn0
  clear hs6 hzb hn0
  go_upto_region 15 with fail
  refine wp_region_planH 10 [] [(true, 0), (true, 1), (true, 2), (true, 3), (true, 4), (true, 5), (true, 6), (true, 7), (false, 8), (true, 9)] [10] (fun wS => (wS.cell? ⟨p, 4, none⟩ = some (.map (some mb3)) ∧ wS.cell? ⟨b1, 0, none⟩ = some (.int .i64 a) ∧ wS.cell? ⟨b1, 1, none⟩ = some (.int .i64 kb)) ∧ (Instr.lookup 150 (.map (some mb3)) (.agg #[.int .i64 a, .int .i64 kb]) false).run Tryd.prog wS = .ok (.int .i64 z) wS) (by kernel_rfl) (by kernel_rfl) (⟨⟨c4, x0, x1⟩, hlk⟩) ?_
  simp only [pickH, pick, List.getElem?_cons_succ, List.getElem?_cons_zero, Option.toList, Option.map_some, List.cons_append, List.nil_append]
  repeat (refine wpPure_step ?_ rfl ?_ ?_; rotate_left; (focus (intro _; first | with_reducible rfl | (go_simp; done) | (go_simp; with_reducible rfl) | rfl)); go_simp)
  refine wpPure_nil ?_
  repeat (refine wpMix_read ?_ rfl ?_ ?_; rotate_left; (focus (intro _ hS; obtain ⟨⟨s1, s2, s3⟩, s4⟩ := hS; first | with_reducible rfl | (go_simp; done) | (go_simp; with_reducible rfl) | rfl)); go_simp)
  clear c4 x0 x1 hlk
  refine wpMix_write (fun K hK => ?_)
  refine step_open2 pway_ke mapo_kind i_zero HO7.out.drew.pic_opn HX.out rfl _ _ rfl rfl rfl ?_
  intro w8 st ho8 hs8
  have k4 := HXC.out _ ho8.drop
  have hlk : (Instr.lookup 150 (.map (some mb3)) (.agg #[.int .i64 a, .int .i64 kb]) false).run Tryd.prog w8 = .ok (.int .i64 z) w8 := by
    have h1 := hs8.map_look pway_ke mapo_kind i_zero HX.out false
    rw [if_neg (by decide), mget_mput, if_pos rfl, mget_mvals] at h1
    rw [HZ.out]
    cases hg : mget T2.opn (a, (kb : Int)) <;> rw [hg] at h1 <;> exact h1
  have HO8 := Lib.hid ho8
  clear ho8 hs8
  refine hK _ _ ⟨⟨k4, hlk⟩, ?_⟩
  clear hK K
  go_simp
  clear k4 hlk
  repeat (refine wpMix_read ?_ rfl ?_ ?_; rotate_left; (focus (intro _ hS; obtain ⟨⟨s1, s2, s3⟩, s4⟩ := hS; first | with_reducible rfl | (go_simp; done) | (go_simp; with_reducible rfl) | rfl)); go_simp)
  refine wpMix_nil ?_
  go_wp2_with (refine wpList_fill (v := .int .i64 (z + n0)) HO8.out rfl _ _ _ rfl rfl rfl rfl ?_; intro w9 ho9; have HO9 := Lib.hid ho9; clear ho9)
  refine NoPanic.normal ?_
  go_wp2
  go_ret2
  refine ⟨rfl, ?_⟩
  rw [HS6.out]
  refine HYD.out _ _ ?_
  have h9 : Own w0 (opnS mb3 (mput T2.opn (a, (kb : Int)) (z + n0)) * _) w9 := HO9.out.perm (by rw [show (Value.int .i64 (z + n0)) = iV (z + n0) from rfl, mput_mvals])
  exact (Own.pic_opn_put h9).pic_close HM6.out
end Go.Proofs.YtpgonkecicmanaaDoor
