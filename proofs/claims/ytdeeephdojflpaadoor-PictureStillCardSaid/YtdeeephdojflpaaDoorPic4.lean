/- Contracts of package picture: Pay, Begin. -/
import Derived.Test.YtdeeephdojflpaaDoorPic3
namespace Go.Proofs.YtdeeephdojflpaaDoor
set_option linter.unusedVariables false
set_option linter.unusedSimpArgs false
open Go.RowKit Go.Maps
theorem gold_set {l : List Int} {k : Nat} {x : Int} : (l.map (Value.int .i64)).set k (.int .i64 x) = (l.set k x).map (Value.int .i64) := by rw [List.map_set]
theorem Own.pic_gold_put {w0 w : World} {p mb1 mb2 mb3 gb go gc n : Nat} {m : List WRow} {s : Pic} {R : HProp} {k : Nat} {x : Int} (hk : k < s.gold.length) (h : Own w0 (PicO p mb1 mb2 mb3 gb go gc n m s * R) w) : Own w0 (PicO p mb1 mb2 mb3 gb go gc n m { s with gold := s.gold.set k x } * R) (w.setCell ⟨gb, go + k, none⟩ (.int .i64 x)) := by
  have h1 := h.pic_gold.slAt_set k (.int .i64 x) (by simpa using hk)
  rw [gold_set] at h1
  exact h1.perm (by unfold PicO; ac_rfl)
theorem Own.pic_begun_put {w0 w : World} {p mb1 mb2 mb3 gb go gc n : Nat} {m : List WRow} {s : Pic} {R : HProp} {v : Bool} (h : Own w0 (PicO p mb1 mb2 mb3 gb go gc n m s * R) w) : Own w0 (PicO p mb1 mb2 mb3 gb go gc n m { s with begun := v } * R) (w.setCell ⟨p, 2, none⟩ (.bool v)) :=
  (h.pic_blk.setCell (i := 2) (v := .bool v)).perm (by unfold PicO; show (picB p mb1 mb2 mb3 gb go gc n v s.onWay * _ : HProp) = _; ac_rfl)
theorem PicOk.begun {s : Pic} (h : PicOk s) (v : Bool) : PicOk { s with begun := v } := ⟨h.n5, h.gold, h.on, h.row, h.opn, h.wrote, h.few⟩
set_option maxRecDepth 100000 in
set_option maxHeartbeats 4000000 in
theorem pBegin_any {w0 w : World} {R : HProp} {p mb1 mb2 mb3 gb go gc n : Nat} (s : Pic) (who : Int) (hok : PicOk s) (h : Own w0 (PicA p mb1 mb2 mb3 gb go gc n s * R) w) :
    Calls Tryd.prog 54 #[.pointer (some ⟨p, 0, none⟩), .int .i64 who] w fun e w' => e = .returned (errV (pcBeginErr s who)) ∧ Own w0 (PicA p mb1 mb2 mb3 gb go gc n (pcBegin s who) * R) w' := by
  obtain ⟨m, hm, ho⟩ := h.pic_open
  obtain ⟨c0, _, c2, _, _, _, cf⟩ := ho.pic_facts
  have f2 := cf 2 none
  obtain ⟨E, hE⟩ : ∃ E, E = pcBeginErr s who := ⟨_, rfl⟩
  obtain ⟨S, hS⟩ : ∃ S, S = pcBegin s who := ⟨_, rfl⟩
  rw [← hE, ← hS]
  unfold pcBegin at hS
  rw [← hE] at hS
  unfold pcBeginErr at hE
  clear cf
  cases h1 : pcHas s who
  · rw [if_pos h1] at hE
    subst hE
    rw [if_neg (by decide)] at hS
    subst hS
    have H := Lib.hid h; have HO := Lib.hid ho; have HM := Lib.hid hm; have H1 := Lib.hid h1; have HOK := Lib.hid hok
    clear h ho hm h1 hok
    go_enter Tryd.func54, Tryd.ntmps54
    go_wp2_with fail
    refine (pHas_any S who HO.out).mono ?_
    rintro e w' ⟨rfl, rfl⟩
    rw [H1.out]
    go_wp2
    go_ret
    exact ⟨rfl, H.out⟩
  rw [if_neg (by rw [h1]; simp)] at hE
  cases h2 : s.begun
  rotate_left
  · rw [if_pos h2] at hE
    subst hE
    rw [if_neg (by decide)] at hS
    subst hS
    rw [h2] at c2
    have H := Lib.hid h; have HO := Lib.hid ho; have HM := Lib.hid hm; have H1 := Lib.hid h1; have H2 := Lib.hid h2; have HOK := Lib.hid hok
    clear h ho hm h1 h2 hok
    go_enter Tryd.func54, Tryd.ntmps54
    go_wp2_with fail
    refine (pHas_any S who HO.out).mono ?_
    rintro e w' ⟨rfl, rfl⟩
    rw [H1.out]
    go_wp2
    go_ret
    exact ⟨rfl, H.out⟩
  rw [if_neg (by rw [h2]; simp)] at hE
  subst hE
  rw [if_pos rfl] at hS
  rw [h2] at c2
  have HB : Hid (Own w0 (PicA p mb1 mb2 mb3 gb go gc n { s with begun := true } * R) (w.setCell ⟨p, 2, none⟩ (.bool true))) := Lib.hid ((Own.pic_begun_put (v := true) ho).pic_close hm)
  have hok2 := hok.begun true
  have h12 : pcHas { s with begun := true } who = true := h1
  have H := Lib.hid h; have HO := Lib.hid ho; have HM := Lib.hid hm; have H1 := Lib.hid h1; have H2 := Lib.hid h2; have HOK := Lib.hid hok; have HOK2 := Lib.hid hok2; have H12 := Lib.hid h12; have HS := Lib.hid hS
  clear h ho hm h1 h2 hok hok2 h12 hS
  go_enter Tryd.func54, Tryd.ntmps54
  go_wp2_with fail
  refine (pHas_any s who HO.out).mono ?_
  rintro e w' ⟨rfl, rfl⟩
  rw [H1.out]
  go_wp2_with fail
  refine (pWrite_any { s with begun := true } who H12.out HOK2.out HB.out).mono ?_
  rintro e w2 ⟨rfl, ho2⟩
  rw [← HS.out] at ho2
  have HO2 := Lib.hid ho2
  clear ho2
  go_wp2
  go_ret
  exact ⟨rfl, HO2.out⟩
set_option maxRecDepth 100000 in
set_option maxHeartbeats 4000000 in
theorem pPay_any {w0 w : World} {R : HProp} {p mb1 mb2 mb3 gb go gc n : Nat} (s : Pic) (a b x : Int) (hok : PicOk s) (h : Own w0 (PicA p mb1 mb2 mb3 gb go gc n s * R) w) :
    Calls Tryd.prog 58 #[.pointer (some ⟨p, 0, none⟩), .int .i64 a, .int .i64 b, .int .i64 x] w fun e w' => e = .returned (errV (pcPayErr s a b x)) ∧ Own w0 (PicA p mb1 mb2 mb3 gb go gc n (pcPay s a b x) * R) w' := by
  obtain ⟨E, hE⟩ : ∃ E, E = pcPayErr s a b x := ⟨_, rfl⟩
  obtain ⟨S, hS⟩ : ∃ S, S = pcPay s a b x := ⟨_, rfl⟩
  rw [← hE, ← hS]
  unfold pcPay at hS
  rw [← hE] at hS
  unfold pcPayErr at hE
  obtain ⟨b1, hb_b1⟩ : ∃ zz_, zz_ = (w).heap.size := ⟨_, rfl⟩
  obtain ⟨w1, hw_w1⟩ : ∃ zz_, zz_ = (w).alloc (.cells #[.int .i64 a, .int .i64 b] 158 (0, 0)) := ⟨_, rfl⟩
  have h_HO1 := (h).alloc (.cells #[.int .i64 a, .int .i64 b] 158 (0, 0))
  rw [← hb_b1, ← hw_w1] at h_HO1
  have HO1 := Lib.hid h_HO1
  clear h_HO1
  obtain ⟨Y, hY⟩ : ∃ Y, Y = blk b1 (.cells #[.int .i64 a, .int .i64 b] 158 (0, 0)) * R := ⟨_, rfl⟩
  have HYC : Hid (∀ w', Own w0 Y w' → w'.cell? ⟨b1, 0, none⟩ = some (.int .i64 a) ∧ w'.cell? ⟨b1, 1, none⟩ = some (.int .i64 b)) := Lib.hid (fun w' h => by rw [hY] at h; exact ⟨(h.cell 0).trans rfl, (h.cell 1).trans rfl⟩)
  have HYD : Hid (∀ s' w', Own w0 (PicA p mb1 mb2 mb3 gb go gc n s' * Y) w' → Own w0 (PicA p mb1 mb2 mb3 gb go gc n s' * R) w') := Lib.hid (fun s' w' h => by rw [hY] at h; exact h.second.drop)
  have HP : Hid (Own w0 (PicA p mb1 mb2 mb3 gb go gc n s * Y) w1) := Lib.hid (by rw [hY]; exact HO1.out.second)
  obtain ⟨x0, x1⟩ := HYC.out _ HP.out.drop
  clear HO1 h
  by_cases hc : pcWay s a b = 0
  rotate_left
  · rw [if_pos hc] at hE
    rw [if_neg (by rw [hE]; exact hc)] at hS
    subst hS
    obtain ⟨mm, hmm⟩ := errV_some hc
    rw [hE]
    rw [hmm]
    have HE := Lib.hid hE; have HC := Lib.hid hc; have HMM := Lib.hid hmm; have HY := Lib.hid hY; have HOK := Lib.hid hok
    clear hE hc hmm hY hok
    go_enter Tryd.func58, Tryd.ntmps58
    go_upto_region 2 with fail
    rw [← hb_b1, ← hw_w1]
    clear hb_b1 hw_w1
    go_wp2_with fail
    refine (pCheck_any S a b HP.out).mono ?_
    rintro e w' ⟨rfl, ho⟩
    have HF := Lib.hid (HYD.out _ _ ho)
    clear ho
    rw [HMM.out]
    go_wp2
    go_ret
    exact ⟨rfl, HF.out⟩
  rw [if_neg (by rw [hc]; simp)] at hE
  have hway := pcWay0.1 hc
  have ha : pcHas s a = true := pcHas_mem.2 hway.1
  have hb : pcHas s b = true := pcHas_mem.2 hway.2.1
  have haI := pcHas_small hok.n5 ha
  have hbI := pcHas_small hok.n5 hb
  have hx : plOk (a, b) := ⟨haI, hbI⟩
  by_cases h1 : x < 1
  · rw [if_pos (.inl h1)] at hE
    subst hE
    rw [if_neg (by decide)] at hS
    subst hS
    have t1 : decide (x < 1) = true := decide_eq_true h1
    have HC := Lib.hid hc; have HWAY := Lib.hid hway; have HA := Lib.hid ha; have HB := Lib.hid hb; have HAI := Lib.hid haI; have HBI := Lib.hid hbI; have HX := Lib.hid hx; have H1 := Lib.hid h1; have HY := Lib.hid hY; have HOK := Lib.hid hok
    clear hc hway ha hb haI hbI hx h1 hY hok
    go_enter Tryd.func58, Tryd.ntmps58
    go_upto_region 2 with fail
    rw [← hb_b1, ← hw_w1]
    clear hb_b1 hw_w1
    go_wp2_with fail
    refine (pCheck_any S a b HP.out).mono ?_
    rintro e w' ⟨rfl, ho⟩
    have HF := Lib.hid (HYD.out _ _ ho)
    clear ho
    rw [HC.out, errV0]
    go_wp2
    go_ret
    exact ⟨rfl, HF.out⟩
  have t1 : decide (x < 1) = false := decide_eq_false h1
  by_cases h2 : 1000 < x
  · rw [if_pos (.inr h2)] at hE
    subst hE
    rw [if_neg (by decide)] at hS
    subst hS
    have t2 : decide (1000 < x) = true := decide_eq_true h2
    have HC := Lib.hid hc; have HWAY := Lib.hid hway; have HA := Lib.hid ha; have HB := Lib.hid hb; have HAI := Lib.hid haI; have HBI := Lib.hid hbI; have HX := Lib.hid hx; have H1 := Lib.hid h1; have H2 := Lib.hid h2; have HY := Lib.hid hY; have HOK := Lib.hid hok
    clear hc hway ha hb haI hbI hx h1 h2 hY hok
    go_enter Tryd.func58, Tryd.ntmps58
    go_upto_region 2 with fail
    rw [← hb_b1, ← hw_w1]
    clear hb_b1 hw_w1
    go_wp2_with fail
    refine (pCheck_any S a b HP.out).mono ?_
    rintro e w' ⟨rfl, ho⟩
    have HF := Lib.hid (HYD.out _ _ ho)
    clear ho
    rw [HC.out, errV0]
    go_wp2
    go_ret
    exact ⟨rfl, HF.out⟩
  have t2 : decide (1000 < x) = false := decide_eq_false h2
  rw [if_neg (by omega)] at hE
  obtain ⟨ka, rfl⟩ : ∃ k : Nat, a = k := ⟨a.toNat, by have := pcHas_bd ha; omega⟩
  have hab := pcHas_bd ha
  have hgd := hok.gold ka
  have hrl := hok.row ka b
  have hn5 := hok.n5
  obtain ⟨g, hg⟩ : ∃ g, g = pcG s ka := ⟨_, rfl⟩
  obtain ⟨L, hL⟩ : ∃ L, L = pcRow s ka b := ⟨_, rfl⟩
  rw [← hg, ← hL] at hE
  rw [← hg] at hgd
  rw [← hL] at hrl
  by_cases h3 : g < x
  · rw [if_pos h3] at hE
    subst hE
    rw [if_neg (by decide)] at hS
    subst hS
    have t3 : decide (g < x) = true := decide_eq_true h3
    have HC := Lib.hid hc; have HWAY := Lib.hid hway; have HA := Lib.hid ha; have HB := Lib.hid hb; have HAI := Lib.hid haI; have HBI := Lib.hid hbI; have HX := Lib.hid hx; have H1 := Lib.hid h1; have H2 := Lib.hid h2; have H3 := Lib.hid h3; have HY := Lib.hid hY; have HOK := Lib.hid hok; have HG := Lib.hid hg; have HL := Lib.hid hL; have HAB := Lib.hid hab; have HRL := Lib.hid hrl; have HN5 := Lib.hid hn5
    clear hc hway ha hb haI hbI hx h1 h2 h3 hY hok hg hL hab hrl hn5
    go_enter Tryd.func58, Tryd.ntmps58
    go_upto_region 2 with fail
    rw [← hb_b1, ← hw_w1]
    clear hb_b1 hw_w1
    go_wp2_with fail
    refine (pCheck_any S ka b HP.out).mono ?_
    rintro e w2 ⟨rfl, ho⟩
    obtain ⟨m, hm, hq⟩ := ho.pic_open
    obtain ⟨c0, _⟩ := hq.pic_facts
    obtain ⟨hn, hnc, hcm, _⟩ := hq.pic_n
    have hc' := hq.pic_at HA.out
    rw [Int.toNat_natCast, ← HG.out] at hc'
    have hkn : ka < n := by have := HAB.out; omega
    have HF := Lib.hid (HYD.out _ _ ho)
    clear ho
    have HM := Lib.hid hm; have HQ := Lib.hid hq; have HN := Lib.hid hn
    clear hm hq hn
    rw [HC.out, errV0]
    go_wp2
    go_ret
    exact ⟨rfl, HF.out⟩
  have t3 : decide (g < x) = false := decide_eq_false h3
  rw [if_neg h3] at hE
  have hRowI : ∀ y ∈ L, I64 y := fun y hy => by have := hrl.2 y hy; unfold I64; omega
  obtain ⟨ln, hln⟩ : ∃ ln, ln = L.length := ⟨_, rfl⟩
  rw [← hln] at hE
  have hl1000 : ln ≤ 1000 := by rw [hln]; exact hrl.1
  have hS2 : ¬ 40 ≤ ln → S = { s with gold := s.gold.set ka (g - x), ways := mput s.ways ((ka : Int), b) (L ++ [x]) } := fun h => by
    rw [hS, hE, if_neg h, if_pos rfl, Int.toNat_natCast, ← hg, ← hL]
  have hS3 : 40 ≤ ln → S = s := fun h => by rw [hS, hE, if_pos h, if_neg (by decide)]
  obtain ⟨Q, hQ⟩ : ∃ Q : Bool, Q = decide (40 ≤ (ln : Int)) := ⟨_, rfl⟩
  have hEQ : E = if Q = true then 4 else 0 := by
    rw [hE, hQ]
    by_cases h : 40 ≤ ln
    · rw [if_pos h, if_pos (decide_eq_true (by omega))]
    · rw [if_neg h, if_neg (by simp; omega)]
  have hwr : IntKind.i64.wrap (g - x) = g - x := by rw [IntKind.wrap_i64]; omega
  have HC := Lib.hid hc; have HWAY := Lib.hid hway; have HA := Lib.hid ha; have HB := Lib.hid hb; have HAI := Lib.hid haI; have HBI := Lib.hid hbI; have HX := Lib.hid hx; have H1 := Lib.hid h1; have H2 := Lib.hid h2; have H3 := Lib.hid h3; have HY := Lib.hid hY; have HOK := Lib.hid hok; have HG := Lib.hid hg; have HL := Lib.hid hL; have HAB := Lib.hid hab; have HRL := Lib.hid hrl; have HN5 := Lib.hid hn5; have HROWI := Lib.hid hRowI; have HLN := Lib.hid hln; have HS2 := Lib.hid hS2; have HS3 := Lib.hid hS3; have HQ := Lib.hid hQ; have HE := Lib.hid hE; have HS := Lib.hid hS; have HEQ := Lib.hid hEQ
  clear hc hway ha hb haI hbI hx h1 h2 h3 hY hok hg hL hab hrl hn5 hRowI hln hS2 hS3 hQ hE hS hEQ
  go_enter Tryd.func58, Tryd.ntmps58
  go_upto_region 2 with fail
  rw [← hb_b1, ← hw_w1]
  clear hb_b1 hw_w1
  go_wp2_with fail
  refine (pCheck_any s ka b HP.out).mono ?_
  rintro e w2 ⟨rfl, ho⟩
  rw [HC.out, errV0]
  have HO := Lib.hid ho
  obtain ⟨m, hm, hq⟩ := ho.pic_open
  obtain ⟨c0, c1, _⟩ := hq.pic_facts
  obtain ⟨hn, hnc, hcm, hgf⟩ := hq.pic_n
  have hc' := hq.pic_at HA.out
  have hf' := hgf (go + ka) none
  rw [Int.toNat_natCast, ← HG.out] at hc'
  have hkn : ka < n := by have := HAB.out; omega
  clear x0 x1 ho hgf
  obtain ⟨x0, x1⟩ := HYC.out _ HO.out.drop
  have hlk := hq.drew.pic_row ((ka : Int), b) HX.out
  have hrd := hq.drew.pic_rd hm ka b (by rw [← HL.out]; exact HROWI.out)
  obtain ⟨V, hV⟩ : ∃ V, V = ((mget m ((ka : Int), b)).getD nilRow).1 := ⟨_, rfl⟩
  rw [← hV] at hlk hrd
  rw [← HL.out] at hrd
  simp only at hlk
  obtain ⟨va, vc, hvs, hvc, _⟩ := hrd.shape
  rw [← HLN.out] at hvs hvc
  subst hvs
  have c1' : w2.drew.cell? ⟨p, 1, none⟩ = some (.map (some mb1)) := c1
  have x0' : w2.drew.cell? ⟨b1, 0, none⟩ = some (.int .i64 ka) := x0
  have x1' : w2.drew.cell? ⟨b1, 1, none⟩ = some (.int .i64 b) := x1
  have HM := Lib.hid hm; have HQ := Lib.hid hq; have HN := Lib.hid hn; have HV := Lib.hid hV; have HRD := Lib.hid hrd
  clear hm hq hn hV hrd
  go_upto_region 9 with fail
  refine wp_region_planH 8 [] [(true, 0), (true, 1), (true, 2), (true, 3), (true, 4), (true, 5), (true, 6), (true, 7)] [8] (fun wS => wS = w2.drew) (by kernel_rfl) (by kernel_rfl) (rfl) ?_
  simp only [pickH, pick, List.getElem?_cons_succ, List.getElem?_cons_zero, Option.toList, Option.map_some, List.cons_append, List.nil_append]
  repeat (refine wpPure_step ?_ rfl ?_ ?_; rotate_left; (focus (intro _; first | with_reducible rfl | (go_simp; done) | (go_simp; with_reducible rfl) | rfl)); go_simp)
  refine wpPure_nil ?_
  repeat (refine wpMix_read ?_ rfl ?_ ?_; rotate_left; (focus (intro _ hS; obtain rfl := hS; first | with_reducible rfl | (go_simp; done) | (go_simp; with_reducible rfl) | rfl)); go_simp)
  refine wpMix_nil ?_
  clear hlk c1' x0' x1'
  go_wp2_with fail
  refine NoPanic.normal ?_
  by_cases h4 : 40 ≤ ln
  · have t4 : decide (40 ≤ (ln : Int)) = true := decide_eq_true (by omega)
    rw [t4]
    have e4 : E = 4 := by rw [HE.out, if_pos h4]
    have s4 := HS3.out h4
    have HF := Lib.hid (HYD.out _ _ HO.out.drew)
    have H4 := Lib.hid h4; have E4 := Lib.hid e4; have S4 := Lib.hid s4
    clear h4 e4 s4
    go_wp2
    go_ret
    exact ⟨by rw [E4.out]; rfl, by rw [S4.out]; exact HF.out⟩
  have t4 : decide (40 ≤ (ln : Int)) = false := decide_eq_false (by omega)
  rw [t4]
  have e4 : E = 0 := by rw [HE.out, if_neg h4]
  have s4 := HS2.out h4
  obtain ⟨T, hT⟩ : ∃ T : Pic, T = { s with gold := s.gold.set ka (g - x) } := ⟨_, rfl⟩
  have s5 : S = { T with ways := mput T.ways ((ka : Int), b) (L ++ [x]) } := by rw [s4, hT]
  obtain ⟨w4, hw4⟩ : ∃ w4, w4 = (w2.setCell ⟨gb, go + ka, none⟩ (.int .i64 (g - x))).drew := ⟨_, rfl⟩
  have hq4 : Own w0 (PicO p mb1 mb2 mb3 gb go gc n m T * Y) w4 := by rw [hT, hw4]; exact (Own.pic_gold_put (k := ka) (x := g - x) (by rw [HN.out]; exact hkn) HQ.out).drew
  have hm4 : mvals Prod.snd m = T.ways := by rw [hT]; exact HM.out
  obtain ⟨X, hFX⟩ : ∃ X, X = picB p mb1 mb2 mb3 gb go gc n T.begun T.onWay * (goldS gb go gc n T.gold * (wroteS mb2 T.wrote * (opnS mb3 T.opn * Y))) := ⟨_, rfl⟩
  have HO1' : Hid (Own w0 (waysS mb1 m * X) w4) := Lib.hid (hq4.perm (by rw [hFX]; unfold PicO; ac_rfl))
  have HXC : Hid (∀ w', Own w0 X w' → w'.cell? ⟨p, 1, none⟩ = some (.map (some mb1)) ∧ w'.cell? ⟨b1, 0, none⟩ = some (.int .i64 ka) ∧ w'.cell? ⟨b1, 1, none⟩ = some (.int .i64 b)) := Lib.hid (fun w' h => by rw [hFX] at h; exact ⟨(h.cell 1).trans rfl, HYC.out _ h.drop.drop.drop.drop⟩)
  have HO2 := Lib.hid (HO1'.out.ms_take nilRow rowP_nil ((ka : Int), b))
  have hcut : pcRow T ka b = L := by rw [hT, HL.out]; rfl
  have H4 := Lib.hid h4; have E4 := Lib.hid e4; have S4 := Lib.hid s4; have HT := Lib.hid hT; have HM4 := Lib.hid hm4; have HFX := Lib.hid hFX; have HCUT := Lib.hid hcut; have S5 := Lib.hid s5; have HQ4 := Lib.hid hq4
  clear h4 e4 s4 hT hm4 hFX hcut s5 hq4
  go_upto_region 12 with fail
  rw [← hw4]
  obtain ⟨c1, x0, x1⟩ := HXC.out _ HO1'.out.drop
  have HW4 := Lib.hid hw4
  clear hw4
  refine wp_region_planH 11 [] [(true, 0), (true, 1), (true, 2), (true, 3), (true, 4), (true, 5), (false, 6), (false, 7), (true, 8), (true, 10), (false, 9)] [11] (fun wS => wS.cell? ⟨p, 1, none⟩ = some (.map (some mb1)) ∧ wS.cell? ⟨b1, 0, none⟩ = some (.int .i64 ka) ∧ wS.cell? ⟨b1, 1, none⟩ = some (.int .i64 b)) (by kernel_rfl) (by kernel_rfl) (⟨c1, x0, x1⟩) ?_
  simp only [pickH, pick, List.getElem?_cons_succ, List.getElem?_cons_zero, Option.toList, Option.map_some, List.cons_append, List.nil_append]
  repeat (refine wpPure_step ?_ rfl ?_ ?_; rotate_left; (focus (intro _; first | with_reducible rfl | (go_simp; done) | (go_simp; with_reducible rfl) | rfl)); go_simp)
  refine wpPure_nil ?_
  repeat (refine wpMix_read ?_ rfl ?_ ?_; rotate_left; (focus (intro _ hS; obtain ⟨s1, s2, s3⟩ := hS; first | with_reducible rfl | (go_simp; done) | (go_simp; with_reducible rfl) | rfl)); go_simp)
  refine wpMix_write (fun K hK => ?_)
  go_simp
  obtain ⟨b2, hb_b2⟩ : ∃ zz_, zz_ = (w4).heap.size := ⟨_, rfl⟩
  obtain ⟨w5, hw_w5⟩ : ∃ zz_, zz_ = (w4).alloc (.cells #[.int .i64 x] 3 (0, 0)) := ⟨_, rfl⟩
  have h_HO3 := (HO2.out).alloc (.cells #[.int .i64 x] 3 (0, 0))
  rw [← hb_b2, ← hw_w5] at h_HO3
  have HO3 := Lib.hid h_HO3
  clear h_HO3
  rw [← hb_b2, ← hw_w5]
  clear hb_b2 hw_w5
  have k4 : w5.drew.cell? ⟨p, 1, none⟩ = some (.map (some mb1)) ∧ w5.drew.cell? ⟨b1, 0, none⟩ = some (.int .i64 ka) ∧ w5.drew.cell? ⟨b1, 1, none⟩ = some (.int .i64 b) := HXC.out _ HO3.out.drew.drop.drop.drop.drop
  refine hK _ _ ⟨k4, ?_⟩
  clear hK K
  go_simp
  clear k4 c1 x0 x1
  refine wpMix_write (fun K hK => ?_)
  refine step_open pway_ke mapw_kind ints_zero HO3.out.drew.third HX.out rfl _ _ rfl rfl rfl ?_
  intro w6 st ho3
  have hval := mget_val Prod.fst m ((ka : Int), b) nilRow
  rw [show (nilRow).1 = Value.slice none 0 0 from rfl, ← HV.out] at hval
  rw [hval]
  clear hval
  have HO4 : Hid (Own w0 (IntSl (.slice va ln vc) L * (IntSl (.slice (some ⟨b2, 0, none⟩) 1 1) [x] * (MpE plV plOk mb1 (mvals Prod.fst m) ((ka : Int), b) st * (starL (fun p : WRow => rowP p.2) (mdel m ((ka : Int), b)) * X)))) w6) := Lib.hid (by
    have h4 : Own w0 (IntSl ((mget m ((ka : Int), b)).getD nilRow).1 ((mget m ((ka : Int), b)).getD nilRow).2 * _) w6 := ho3.third
    rw [pcRow_of HM4.out, HCUT.out, ← HV.out] at h4
    have h5 := h4.third
    exact (Own.litI [x] 1 rfl (by omega) h5).second)
  clear ho3
  have k4 := HXC.out _ HO4.out.drop.drop.drop.drop
  refine hK _ _ ⟨k4, ?_⟩
  clear hK K
  go_simp
  clear k4
  repeat (refine wpMix_read ?_ rfl ?_ ?_; rotate_left; (focus (intro _ hS; obtain ⟨s1, s2, s3⟩ := hS; first | with_reducible rfl | (go_simp; done) | (go_simp; with_reducible rfl) | rfl)); go_simp)
  refine wpMix_write (fun K hK => ?_)
  refine step_app rfl _ _ 43 rfl 3 1 8 _ info_int Tryd.underlying43 rfl (by decide) (by rfl) HO4.out (by rfl) (by rfl) (Own.rd HO4.out.drop) (int_one _) (by have := HLN.out; unfold maxLen; rw [List.length_singleton]; omega) (by have := HLN.out; rw [List.length_singleton]; omega) ?_
  intro v5 w7 ho5
  have HO5 : Hid (Own w0 (MpE plV plOk mb1 (mvals Prod.fst m) ((ka : Int), b) st * (IntSl v5 (L ++ [x]) * (starL (fun p : WRow => rowP p.2) (mdel m ((ka : Int), b)) * (IntSl (.slice (some ⟨b2, 0, none⟩) 1 1) [x] * X)))) w7) := Lib.hid (by
    have h5 : Own w0 (IntSl v5 (L ++ [x]) * _) w7 := ho5.perm (show _ = IntSl v5 (L ++ [x]) * _ by unfold IntSl; rw [List.length_append, List.map_append])
    exact h5.perm (by unfold IntSl; ac_rfl))
  clear ho5
  have k4 := HXC.out _ HO5.out.drop.drop.drop.drop
  refine hK _ _ ⟨k4, ?_⟩
  clear hK K
  go_simp
  clear k4
  refine wpMix_nil ?_
  go_wp2_with (refine wpList_fill HO5.out rfl _ _ _ rfl rfl rfl rfl ?_; intro w8 ho6; have HO6 := Lib.hid ho6; clear ho6)
  refine NoPanic.normal ?_
  go_wp2
  go_ret
  refine ⟨by rw [E4.out]; rfl, ?_⟩
  refine HYD.out _ _ ?_
  have h7 := (HO6.out.second.perm (show _ = rowP (v5, L ++ [x]) * _ from rfl)).ms_put (f := rowP) (val := Prod.fst) ((ka : Int), b)
  have h8 := h7.second.drop
  rw [HFX.out] at h8
  rw [S5.out]
  exact (Own.pic_ways_put h8).pic_close (by rw [← mput_mvals, HM4.out])
end Go.Proofs.YtdeeephdojflpaaDoor
