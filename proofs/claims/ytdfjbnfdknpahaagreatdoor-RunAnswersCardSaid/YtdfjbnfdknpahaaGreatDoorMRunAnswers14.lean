/- Contracts of package cause, of a member for whom words may wait: what is read, New, Clock, Waits, Say, and what a waiting word is asked. -/
import Derived.Test.YtdfjbnfdknpahaaGreatDoorMRunAnswers13
namespace Go.Proofs.YtdfjbnfdknpahaaGreatDoor
set_option linter.unusedVariables false
set_option linter.unusedSimpArgs false
open Go.RowKit
section
variable {w0 w : World} {p mb : Nat} {wv : Value} {rows : List SdR} {c : Ca} {R : HProp}
theorem Own.cw_blk (h : Own w0 (CwO p mb wv rows c * R) w) : Own w0 (cwBlk p mb c.me wv * (IntSl (.slice (some ⟨mb, 0, none⟩) 5 5) c.clk * (Sl 59 3 wv rows.length (rows.flatMap sdCells) * (starL sdRow rows * R)))) w := h.perm (by unfold CwO; ac_rfl)
theorem Own.cw_clk (h : Own w0 (CwO p mb wv rows c * R) w) : Own w0 (IntSl (.slice (some ⟨mb, 0, none⟩) 5 5) c.clk * (cwBlk p mb c.me wv * (Sl 59 3 wv rows.length (rows.flatMap sdCells) * (starL sdRow rows * R)))) w := h.perm (by unfold CwO; ac_rfl)
theorem Own.cw_sl (h : Own w0 (CwO p mb wv rows c * R) w) : Own w0 (Sl 59 3 wv rows.length (rows.flatMap sdCells) * (cwBlk p mb c.me wv * (IntSl (.slice (some ⟨mb, 0, none⟩) 5 5) c.clk * (starL sdRow rows * R)))) w := h.perm (by unfold CwO; ac_rfl)
theorem Own.cw_facts (h5 : c.clk.length = 5) (h : Own w0 (CwO p mb wv rows c * R) w) :
    w.cell? ⟨p, 0, none⟩ = some (.int .i64 c.me) ∧ w.cell? ⟨p, 1, none⟩ = some (.slice (some ⟨mb, 0, none⟩) 5 5) ∧ w.cell? ⟨p, 2, none⟩ = some wv ∧
    (∀ k, k < 5 → w.cell? ⟨mb, k, none⟩ = some (.int .i64 (c.clk.getD k 0))) ∧ (∀ k s, w.frozen? ⟨mb, k, s⟩ = false) ∧ (∀ k s, w.frozen? ⟨p, k, s⟩ = false) := by
  obtain ⟨b, off, cap, e1, _, _, hcell, hfz, _, _, _⟩ := h.cw_clk.ints_at (by omega)
  rw [h5] at e1
  injection e1 with e1 _ e3
  injection e1 with e1
  injection e1 with e1 e2 _
  subst e1; subst e2; subst e3
  refine ⟨(h.cw_blk.cell 0).trans rfl, (h.cw_blk.cell 1).trans rfl, (h.cw_blk.cell 2).trans rfl, fun k hk => ?_, hfz, h.cw_blk.free⟩
  have h3 := hcell k (by omega)
  rw [Nat.zero_add] at h3
  rw [h3, List.getD_eq_getElem?_getD, List.getElem?_eq_getElem (by omega)]; rfl
theorem Own.cw_bump (h5 : c.clk.length = 5) (h : Own w0 (CwO p mb wv rows c * R) w) {k : Nat} (hk : k < 5) (x : Int) : Own w0 (CwO p mb wv rows ⟨c.me, c.clk.set k x, c.waits⟩ * R) (w.setCell ⟨mb, k, none⟩ (.int .i64 x)) := by
  obtain ⟨b, off, cap, e1, _, _, _, _, _, _, hset⟩ := h.cw_clk.ints_at (by omega)
  rw [h5] at e1
  injection e1 with e1 _ e3
  injection e1 with e1
  injection e1 with e1 e2 _
  subst e1; subst e2; subst e3
  have h3 := hset k x (by omega)
  rw [Nat.zero_add] at h3
  exact h3.perm (by unfold CwO; ac_rfl)
theorem Own.cw_shape (h : Own w0 (CwO p mb wv rows c * R) w) : ∃ ad cap, wv = .slice ad rows.length cap ∧ rows.length ≤ cap ∧ cap ≤ 9223372036854775807 := by
  obtain ⟨ad, cap, e, h1, h2, _⟩ := Own.rd h.cw_sl
  exact ⟨ad, cap, e, h1, by simpa [maxLen] using h2⟩
theorem sd_len (l : List SdR) : (l.flatMap sdCells).length = l.length * 3 := cells_len sdCells 3 (fun _ => rfl) l
theorem Own.sdrow_one {Q : HProp} : ∀ {rows : List SdR}, Own w0 (starL sdRow rows * Q) w → ∀ r ∈ rows, r.1.oneCell' = true
  | [], _, r, hr => by cases hr
  | x :: rs, h, r, hr => by
    have h1 : Own w0 (sdRow x * (starL sdRow rs * Q)) w := h.perm (show starL sdRow (x :: rs) * Q = _ from star_assoc _ _ _)
    rcases List.mem_cons.1 hr with rfl | hr
    · obtain ⟨ad, cap, e, _⟩ := Own.rd h1
      rw [e]; rfl
    · exact Own.sdrow_one h1.drop r hr
theorem Own.cw_one (h : Own w0 (CwO p mb wv rows c * R) w) : ∀ u ∈ rows.flatMap sdCells, u.oneCell' = true := by
  intro u hu
  obtain ⟨r, hr, hp⟩ := List.mem_flatMap.1 hu
  have h1 : Own w0 (starL sdRow rows * (cwBlk p mb c.me wv * (IntSl (.slice (some ⟨mb, 0, none⟩) 5 5) c.clk * (Sl 59 3 wv rows.length (rows.flatMap sdCells) * R)))) w := h.perm (by unfold CwO; ac_rfl)
  have h2 := Own.sdrow_one h1 r hr
  simp [sdCells] at hp
  rcases hp with rfl | rfl | rfl
  · rfl
  · rfl
  · exact h2
theorem Own.cw_at (h : Own w0 (CwO p mb wv rows c * R) w) (hl : 0 < rows.length) :
    ∃ b off cap, wv = .slice (some ⟨b, off, none⟩) rows.length cap ∧ rows.length ≤ cap ∧ cap ≤ 9223372036854775807 ∧ SdAt w0 (CwO p mb wv rows c * R) b off rows := by
  obtain ⟨b, off, cap, e, h0⟩ := Own.slAt h.cw_sl (by rw [sd_len]; omega)
  obtain ⟨h1, h2, _⟩ := h0.slAt_facts
  refine ⟨b, off, cap, e, h1, by simpa [maxLen] using h2, fun w' ho k hk => ?_⟩
  obtain ⟨b', off', cap', e', h0'⟩ := Own.slAt ho.cw_sl (by rw [sd_len]; omega)
  rw [e] at e'
  injection e' with e1 _ e3
  injection e1 with e1
  injection e1 with e1 e2 _
  subst e1; subst e2; subst e3
  obtain ⟨_, _, _, hc, _⟩ := h0'.slAt_facts
  refine ⟨?_, ?_, ?_⟩
  · have := cells_get sdCells 3 (fun _ => rfl) rows k 0 hk (by omega)
    exact hc (k * 3) (.int .i64 rows[k].2.who) (by simpa [sdCells] using this)
  · have := cells_get sdCells 3 (fun _ => rfl) rows k 1 hk (by omega)
    have h3 := hc (k * 3 + 1) (.int .i64 rows[k].2.word) (by simpa [sdCells] using this)
    rw [Nat.add_assoc]; exact h3
  · have := cells_get sdCells 3 (fun _ => rfl) rows k 2 hk (by omega)
    have h3 := hc (k * 3 + 2) rows[k].1 (by simpa [sdCells] using this)
    rw [Nat.add_assoc]; exact h3
theorem Own.cw_row (h : Own w0 (CwO p mb wv rows c * R) w) {k : Nat} (hk : k < rows.length) (hv : vecErr rows[k].2.clk = 0) : Ints w rows[k].1 rows[k].2.clk := by
  have h1 : Own w0 (starL sdRow rows * (cwBlk p mb c.me wv * (IntSl (.slice (some ⟨mb, 0, none⟩) 5 5) c.clk * (Sl 59 3 wv rows.length (rows.flatMap sdCells) * R)))) w := h.perm (by unfold CwO; ac_rfl)
  rw [starL_split sdRow rows k hk, star_assoc] at h1
  exact IntSl_reads (vecErr_I64 hv) _ h1
theorem Own.cw_ints (hv : vecErr c.clk = 0) (h : Own w0 (CwO p mb wv rows c * R) w) : Ints w (.slice (some ⟨mb, 0, none⟩) 5 5) c.clk := IntSl_reads (vecErr_I64 hv) _ h.cw_clk
end
set_option maxRecDepth 100000 in
set_option maxHeartbeats 4000000 in
theorem cwNew_yes {w0 w : World} {R : HProp} (me : Int) (hm : isMember me = true) (h : Own w0 R w) :
    Calls Tryz.prog 33 #[.int .i64 me] w fun e w' => ∃ p, e = .returned (.tuple #[.pointer (some ⟨p, 0, none⟩), errV 0]) ∧ Own w0 (CwP p (caNew me) * R) w' := by
  refine (causeNew_yes me hm h).mono ?_
  rintro e w' ⟨p, mb, rfl, ho⟩
  refine ⟨p, rfl, Own.cw_close (mb := mb) (wv := .slice none 0 0) (rows := []) rfl ?_⟩
  refine ho.perm ?_
  unfold CwO CaP caNew
  rw [List.length_nil, List.flatMap_nil, Sl_nil, show starL sdRow [] = emp from rfl, star_emp, star_emp]
  rfl
set_option maxRecDepth 100000 in
set_option maxHeartbeats 4000000 in
theorem cwSay_any {w0 w : World} {R : HProp} (p : Nat) (c : Ca) (word : Int) (hI : CaI c) (h : Own w0 (CwP p c * R) w) :
    Calls Tryz.prog 75 #[.pointer (some ⟨p, 0, none⟩), .int .i64 word] w fun e w' => ∃ v', e = .returned (.tuple #[.agg #[.int .i64 (caSaid c word).who, .int .i64 (caSaid c word).word, v'], errV (caSayErr c word)]) ∧ Own w0 (IntSl v' (caSaid c word).clk * (CwP p (caSay c word) * R)) w' := by
  obtain ⟨q, hq⟩ : ∃ q : Nat, c.me = (q : Int) := ⟨c.me.toNat, by have := hI.me; simp [isMember] at this; omega⟩
  have hq5 : q < 5 := by have := hI.me; simp [isMember] at this; omega
  have h5 := (vecErr0 hI.clk).1
  obtain ⟨y, hy⟩ : ∃ y, y = c.clk.getD q 0 := ⟨_, rfl⟩
  have hyb := vec_get hI.clk q
  rw [← hy] at hyb
  have hat : caAt c.clk c.me = y := by unfold caAt; rw [hq, Int.toNat_natCast, hy]
  obtain ⟨y0, y1⟩ := hyb
  obtain ⟨b1, hb_b1⟩ : ∃ zz_, zz_ = (w).heap.size := ⟨_, rfl⟩
  obtain ⟨w1, hw_w1⟩ : ∃ zz_, zz_ = (w).alloc (.cells #[.int .i64 0, .int .i64 0, .slice none 0 0] 59 (0, 0)) := ⟨_, rfl⟩
  have h_HO := (h).alloc (.cells #[.int .i64 0, .int .i64 0, .slice none 0 0] 59 (0, 0))
  rw [← hb_b1, ← hw_w1] at h_HO
  have HO := Lib.hid h_HO
  clear h_HO
  have HO1 : Hid (Own w0 (CwP p c * (SdO b1 0 0 (.slice none 0 0) * R)) w1) := Lib.hid (HO.out.perm (star_left_comm _ _ _))
  obtain ⟨z0, z1, z2, zf⟩ := (show Own w0 (SdO b1 0 0 (.slice none 0 0) * (CwP p c * R)) w1 from HO.out).sd
  have zf0 := zf 0 none
  have zf1 := zf 1 none
  have zf2 := zf 2 none
  have hbad := (show Own w0 (SdO b1 0 0 (.slice none 0 0) * (CwP p c * R)) w1 from HO.out).sd_put 0 0 (.slice none 0 0)
  clear zf
  cases hw : isWord word
  · have hE : caSayErr c word = 1 := by unfold caSayErr; rw [if_pos hw]
    have hS : caSay c word = c := by unfold caSay; rw [hE]; rfl
    have hT : caSaid c word = ⟨0, 0, []⟩ := by unfold caSaid; rw [hE]; rfl
    rw [hE, hS, hT]
    obtain ⟨p0, p1, p2, _⟩ := hbad.sd
    have HB := Lib.hid (hbad.drop.sl_nil 3 1)
    have HE := Lib.hid hE; have HS := Lib.hid hS; have HT := Lib.hid hT; have HI := Lib.hid hI; have HQ := Lib.hid hq; have HY := Lib.hid hy; have HAT := Lib.hid hat; have HW := Lib.hid hw; have H5 := Lib.hid h5
    clear hE hS hT hI hq hy hat hw h5
    clear hbad
    go_enter Tryz.func75, Tryz.ntmps75
    go_upto_region 1 with fail
    rw [← hb_b1, ← hw_w1]
    clear hb_b1 hw_w1
    go_wp2_with fail
    refine (word_any _ _).mono ?_
    rintro e w' ⟨rfl, rfl⟩
    rw [HW.out]
    go_wp2_with fail
    exact bodyPost_ret (v := .tuple #[.agg #[.int .i64 0, .int .i64 0, .slice none 0 0], errV 1]) (by simp [results, Tryz.results75, go_sem, p0, p1, p2, errV]) rfl ⟨_, rfl, HB.out⟩
  obtain ⟨mb, wv, rows, he, ho⟩ := HO1.out.cw_open
  obtain ⟨c0, c1, c2, hc, hf, _⟩ := ho.cw_facts h5
  have d0 := hc q hq5
  rw [← hy] at d0
  have q0 : (0 : Int) ≤ (q : Int) := by omega
  have q5 : (q : Int) < 5 := by omega
  rw [hq] at c0
  by_cases hy1 : y = 1000000
  · have hE : caSayErr c word = 4 := by unfold caSayErr; rw [if_neg (by rw [hw]; simp), hat, if_pos hy1]
    have hS : caSay c word = c := by unfold caSay; rw [hE]; rfl
    have hT : caSaid c word = ⟨0, 0, []⟩ := by unfold caSaid; rw [hE]; rfl
    have t1 : (y == 1000000) = true := by rw [beq_iff_eq]; exact hy1
    rw [hE, hS, hT]
    obtain ⟨p0, p1, p2, _⟩ := hbad.drew.sd
    have HB := Lib.hid (hbad.drew.drop.sl_nil 3 1)
    have HE := Lib.hid hE; have HS := Lib.hid hS; have HT := Lib.hid hT; have HI := Lib.hid hI; have HQ := Lib.hid hq; have HY := Lib.hid hy; have HAT := Lib.hid hat; have HW := Lib.hid hw; have H5 := Lib.hid h5; have HO := Lib.hid ho; have HE := Lib.hid he; have HY1 := Lib.hid hy1
    clear hE hS hT hI hq hy hat hw h5 ho he hy1
    clear hbad hc hf
    go_enter Tryz.func75, Tryz.ntmps75
    go_upto_region 1 with fail
    rw [← hb_b1, ← hw_w1]
    clear hb_b1 hw_w1
    go_wp2_with fail
    refine (word_any _ _).mono ?_
    rintro e w' ⟨rfl, rfl⟩
    rw [HW.out]
    go_upto_region 3 with fail
    refine wp_region_tail 11 (by kernel_rfl) (by kernel_rfl) ?_
    simp only [List.take_succ_cons, List.take_zero, List.drop_succ_cons, List.drop_zero]
    repeat still_step
    refine wpStill_nil ?_
    go_wp2_with fail
    exact bodyPost_ret (v := .tuple #[.agg #[.int .i64 0, .int .i64 0, .slice none 0 0], errV 4]) (by simp [results, Tryz.results75, go_sem, p0, p1, p2, errV]) rfl ⟨_, rfl, HB.out⟩
  have hE : caSayErr c word = 0 := by unfold caSayErr; rw [if_neg (by rw [hw]; simp), hat, if_neg hy1]
  have hS : caSay c word = ⟨c.me, c.clk.set q (y + 1), c.waits⟩ := by unfold caSay caBump; rw [hE, hat, hq, Int.toNat_natCast]; rfl
  have hT : caSaid c word = ⟨q, word, c.clk.set q (y + 1)⟩ := by unfold caSaid caBump; rw [hE, hat, hq, Int.toNat_natCast]; rfl
  have hIs := hI.say word
  rw [hS] at hIs
  have t1 : (y == 1000000) = false := by rw [beq_eq_false_iff_ne]; exact hy1
  have s0 := ho.cw_bump h5 hq5 (y + 1)
  have f0 := hf q none
  obtain ⟨D, hD⟩ : ∃ D, D = c.clk.set q (y + 1) := ⟨_, rfl⟩
  obtain ⟨w2, hw2⟩ : ∃ w2, w2 = w1.setCell ⟨mb, q, none⟩ (.int .i64 (y + 1)) := ⟨_, rfl⟩
  rw [← hw2, ← hD] at s0
  rw [← hD] at hS hT hIs
  rw [hE, hS, hT]
  have hDv : vecErr D = 0 := hIs.clk
  have hD5 := (vecErr0 hDv).1
  have HO2 := Lib.hid s0
  clear HO hc hf s0 hbad z0 z1 z2 zf0 zf1 zf2
  have HQ := Lib.hid hq
  clear hq
  have HE_ := Lib.hid he
  clear he
  have HE := Lib.hid hE; have HS := Lib.hid hS; have HT := Lib.hid hT; have HI := Lib.hid hI; have HY := Lib.hid hy; have HAT := Lib.hid hat; have HW := Lib.hid hw; have H5 := Lib.hid h5; have HO := Lib.hid ho; have HY1 := Lib.hid hy1; have HIS := Lib.hid hIs; have HD := Lib.hid hD; have HDV := Lib.hid hDv; have HD5 := Lib.hid hD5
  clear hE hS hT hI hy hat hw h5 ho hy1 hIs hD hDv hD5
  go_enter Tryz.func75, Tryz.ntmps75
  go_upto_region 1 with fail
  rw [← hb_b1, ← hw_w1]
  clear hb_b1 hw_w1
  go_wp2_with fail
  refine (word_any _ _).mono ?_
  rintro e w' ⟨rfl, rfl⟩
  rw [HW.out]
  go_upto_region 3 with fail
  refine wp_region_tail 11 (by kernel_rfl) (by kernel_rfl) ?_
  simp only [List.take_succ_cons, List.take_zero, List.drop_succ_cons, List.drop_zero]
  repeat still_step
  refine wpStill_nil ?_
  go_upto_region 5 with fail
  refine wp_region_tail 11 (by kernel_rfl) (by kernel_rfl) ?_
  simp only [List.take_succ_cons, List.take_zero, List.drop_succ_cons, List.drop_zero]
  repeat still_step
  refine wpStill_nil ?_
  go_upto_region 6 with fail
  rw [← hw2]
  clear d0 c0 c1 c2 f0 hw2 t1
  have HO3 := Lib.hid HO2.out.drew.drew.drew
  obtain ⟨c0, c1, _, _, _, _⟩ := HO2.out.cw_facts HD5.out
  rw [show (Ca.mk c.me D c.waits).me = (q : Int) from HQ.out] at c0
  refine wp_region_planH 11 [] [(true, 0), (true, 1), (true, 2), (true, 3), (true, 4), (true, 5), (true, 6), (true, 7), (true, 8), (false, 9), (true, 10)] [11, 12] (fun wS => (wS.cell? ⟨p, 0, none⟩ = some (.int .i64 q) ∧ wS.cell? ⟨p, 1, none⟩ = some (.slice (some ⟨mb, 0, none⟩) 5 5))) (by kernel_rfl) (by kernel_rfl) (⟨c0, c1⟩) ?_
  simp only [pickH, pick, List.getElem?_cons_succ, List.getElem?_cons_zero, Option.toList, Option.map_some, List.cons_append, List.nil_append]
  repeat (refine wpPure_step ?_ rfl ?_ ?_; rotate_left; (focus (intro _; first | with_reducible rfl | (go_simp; done) | (go_simp; with_reducible rfl) | rfl)); go_simp)
  refine wpPure_nil ?_
  repeat (refine wpMix_read ?_ rfl ?_ ?_; rotate_left; (focus (intro _ hS; obtain ⟨s1, s2⟩ := hS; first | with_reducible rfl | (go_simp; done) | (go_simp; with_reducible rfl) | rfl)); go_simp)
  refine wpMix_write (fun K hK => ?_)
  go_simp
  refine (cloneInts_any HO3.out _ D (HO3.out.cw_ints HDV.out) (by rw [HD5.out]; omega)).mono ?_
  rintro e w4 ⟨v4, rfl, ho⟩
  obtain ⟨x1, x2, x3, x4⟩ := (ho.perm (show _ = SdO b1 0 0 (.slice none 0 0) * (CwO p mb wv rows ⟨c.me, D, c.waits⟩ * (IntSl v4 D * R)) by ac_rfl)).sd
  have x40 := x4 0 none
  have x41 := x4 1 none
  have x42 := x4 2 none
  obtain ⟨ad4, cap4, hv4, _⟩ := Own.rd ho
  subst hv4
  have hput := (ho.perm (show _ = SdO b1 0 0 (.slice none 0 0) * (CwO p mb wv rows ⟨c.me, D, c.waits⟩ * (IntSl (.slice ad4 D.length cap4) D * R)) by ac_rfl)).sd_put (q : Int) word (.slice ad4 D.length cap4)
  obtain ⟨p0, p1, p2, _⟩ := hput.sd
  have HPUT := Lib.hid ((Own.cw_close (c := ⟨c.me, D, c.waits⟩) HE_.out hput.drop).perm (star_left_comm _ _ _))
  obtain ⟨k0, k1, _, _, _, _⟩ := (ho.perm (star_left_comm _ _ _)).cw_facts HD5.out
  rw [show (Ca.mk c.me D c.waits).me = (q : Int) from HQ.out] at k0
  clear ho hput x4 c0 c1
  refine hK _ _ ⟨⟨k0, k1⟩, ?_⟩
  clear hK K
  go_simp
  repeat (refine wpMix_read ?_ rfl ?_ ?_; rotate_left; (focus (intro _ hS; obtain ⟨s1, s2⟩ := hS; first | with_reducible rfl | (go_simp; done) | (go_simp; with_reducible rfl) | rfl)); go_simp)
  refine wpMix_nil ?_
  go_wp2_with fail
  refine NoPanic.normal ?_
  go_wp2_with fail
  exact bodyPost_ret (v := .tuple #[.agg #[.int .i64 q, .int .i64 word, .slice ad4 D.length cap4], .nilIface]) (by simp [results, Tryz.results75, go_sem, p0, p1, p2]) rfl ⟨_, rfl, HPUT.out⟩
end Go.Proofs.YtdfjbnfdknpahaaGreatDoor
/- Contracts of package cause, continued: check, of a member for whom words may wait. -/
namespace Go.Proofs.YtdfjbnfdknpahaaGreatDoor
set_option linter.unusedVariables false
set_option linter.unusedSimpArgs false
open Go.RowKit
set_option maxRecDepth 100000 in
set_option maxHeartbeats 4000000 in
theorem check1Sd_any {w0 w : World} {R : HProp} (b1 b2 : Nat) (s : Sd) (r : SdR) (hr : sdErr r.2 = 0) (h : Own w0 R w) (hc : ∀ w', Own w0 R w' → w'.cell? ⟨b1, 0, none⟩ = some (.int .i64 s.who) ∧ w'.cell? ⟨b2, 0, none⟩ = some (.int .i64 (caAt s.clk s.who)) ∧ Ints w' r.1 r.2.clk) :
    Calls Tryz.prog 120 #[sdV r, .pointer (some ⟨b1, 0, none⟩), .pointer (some ⟨b2, 0, none⟩)] w fun e w' => e = .returned (.bool (caSame s r.2)) ∧ Own w0 R w' := by
  obtain ⟨v, x⟩ := r
  unfold sdV
  dsimp only at hr hc ⊢
  obtain ⟨m1, m2, m3⟩ := sdErr0 hr
  have m4 : 0 ≤ x.who ∧ x.who < 5 := by simpa [isMember] using m1
  have m5 := (vecErr0 m3).1
  obtain ⟨q, hq⟩ : ∃ q : Nat, x.who = (q : Int) := ⟨x.who.toNat, by omega⟩
  have hql : q < x.clk.length := by omega
  have q0 : (0 : Int) ≤ (q : Int) := by omega
  have q5 : (q : Int) < 5 := by omega
  obtain ⟨n, hn⟩ : ∃ n, n = caAt s.clk s.who := ⟨_, rfl⟩
  obtain ⟨a, ha⟩ : ∃ a, a = s.who := ⟨_, rfl⟩
  obtain ⟨z, hz⟩ : ∃ z, z = x.clk[q] := ⟨_, rfl⟩
  have hat : caAt x.clk x.who = z := by unfold caAt; rw [hq, Int.toNat_natCast, hz, List.getD_eq_getElem?_getD, List.getElem?_eq_getElem hql]; rfl
  have hres : caSame s x = (decide ((q : Int) = a) && decide (z = n)) := by unfold caSame; rw [hat, hq, hn, ha]
  rw [← hn, ← ha] at hc
  obtain ⟨_, _, hi0⟩ := hc _ h
  obtain ⟨ad, cap, rfl, hc1, hc2⟩ := hi0.shape
  rw [m5] at hc1 hc
  rw [hq, hres, m5]
  obtain ⟨b3, hb_b3⟩ : ∃ zz_, zz_ = (w).heap.size := ⟨_, rfl⟩
  obtain ⟨w1, hw_w1⟩ : ∃ zz_, zz_ = (w).alloc (.cells #[.int .i64 q, .int .i64 x.word, .slice ad 5 cap] 59 (0, 0)) := ⟨_, rfl⟩
  have h_HO := (h).alloc (.cells #[.int .i64 q, .int .i64 x.word, .slice ad 5 cap] 59 (0, 0))
  rw [← hb_b3, ← hw_w1] at h_HO
  have HO := Lib.hid h_HO
  clear h_HO
  obtain ⟨c1, c2, hi⟩ := hc _ HO.out.drop
  obtain ⟨x0, x1, x2, _⟩ := (show Own w0 (SdO b3 q x.word (.slice ad 5 cap) * R) w1 from HO.out).sd
  obtain ⟨aa, rfl, hca⟩ := hi.at q hql
  rw [← hz] at hca
  clear hi0 hi
  have HO2 : Hid (Own w0 R w1) := Lib.hid HO.out.drop
  clear HO
  have H := Lib.hid h; have HC := Lib.hid hc; have HR := Lib.hid hr; have M1 := Lib.hid m1; have M2 := Lib.hid m2; have M3 := Lib.hid m3; have M4 := Lib.hid m4; have HQ := Lib.hid hq; have HN := Lib.hid hn; have HA := Lib.hid ha; have HZ := Lib.hid hz; have HAT := Lib.hid hat; have HRES := Lib.hid hres
  clear h hc hr m1 m2 m3 m4 hq hn ha hz hat hres
  by_cases h1 : (q : Int) = a
  · have t1 : ((q : Int) == a) = true := by rw [beq_iff_eq]; exact h1
    have hd1 : decide ((q : Int) = a) = true := decide_eq_true h1
    rw [hd1, Bool.true_and]
    have t2 : (z == n) = decide (z = n) := by rw [Bool.eq_iff_iff]; simp
    obtain ⟨D, hD⟩ : ∃ D, D = decide (z = n) := ⟨_, rfl⟩
    rw [← hD] at t2 ⊢
    have H1 := Lib.hid h1; have HD1 := Lib.hid hd1; have HD := Lib.hid hD
    clear h1 hd1 hD
    go_enter Tryz.func120, Tryz.ntmps120
    go_upto_region 1 with fail
    rw [← hb_b3, ← hw_w1]
    clear hb_b3 hw_w1
    go_wp2_with fail
    go_quiet (fail)
    go_wp2
    go_ret
    refine ⟨?_, HO2.out.drewN _⟩
    rfl
  · have t1 : ((q : Int) == a) = false := by rw [beq_eq_false_iff_ne]; exact h1
    have hd1 : decide ((q : Int) = a) = false := decide_eq_false h1
    rw [hd1, Bool.false_and]
    have H1 := Lib.hid h1; have HD1 := Lib.hid hd1
    clear h1 hd1
    go_enter Tryz.func120, Tryz.ntmps120
    go_upto_region 1 with fail
    rw [← hb_b3, ← hw_w1]
    clear hb_b3 hw_w1
    go_wp2_with fail
    go_quiet (fail)
    go_wp2
    go_ret
    exact ⟨rfl, HO2.out.drewN _⟩
theorem Own.cw_any {w0 w : World} {p mb : Nat} {wv : Value} {rows : List SdR} {c : Ca} {R : HProp} (h : Own w0 (CwO p mb wv rows c * R) w) : (wv = .slice none 0 0 ∧ rows = []) ∨
    ∃ b off cap, wv = .slice (some ⟨b, off, none⟩) rows.length cap ∧ rows.length ≤ cap ∧ cap ≤ 9223372036854775807 ∧ SdAt w0 (CwO p mb wv rows c * R) b off rows := by
  by_cases hl : 0 < rows.length
  · exact .inr (h.cw_at hl)
  have hr : rows = [] := List.length_eq_zero_iff.1 (by omega)
  rcases Own.sl_cases h.cw_sl with ⟨h1, _⟩ | ⟨b, off, cap, cs, h1, h2, h3, _⟩
  · exact .inl ⟨h1, hr⟩
  · exact .inr ⟨b, off, cap, h1, h2, by simpa [maxLen] using h3, fun w' _ k hk => by omega⟩
set_option maxRecDepth 100000 in
set_option maxHeartbeats 4000000 in
theorem cwHas_any {w0 w : World} {R : HProp} {pp mb : Nat} {wv : Value} {rows : List SdR} {c : Ca} (fid : FuncId) (c1 c2 : Value) (p : SdR → Bool) (h : Own w0 (CwO pp mb wv rows c * R) w) (hcf : ∀ a w, Sem.run Tryz.prog (callFunc fid a) w = .ok (.enter fid a) w) (hf : ∀ k (_ : k < rows.length) w, Own w0 (CwO pp mb wv rows c * R) w → Calls Tryz.prog fid #[sdV rows[k], c1, c2] w fun e w' => e = .returned (.bool (p rows[k])) ∧ Own w0 (CwO pp mb wv rows c * R) w') :
    Calls Tryz.prog 119 #[wv, .func (.func fid) #[] #[c1, c2]] w fun e w' => e = .returned (.bool (rows.any p)) ∧ Own w0 (CwO pp mb wv rows c * R) w' := by
  rcases h.cw_any with ⟨rfl, rfl⟩ | ⟨b, off, cap, rfl, h1, h2, ha⟩
  · refine (saidHas_none _ w).mono ?_
    rintro e w' ⟨rfl, rfl⟩
    exact ⟨rfl, h⟩
  · exact sdHas_any fid c1 c2 p b off cap rows h h1 h2 ha hcf hf
set_option maxRecDepth 100000 in
set_option maxHeartbeats 4000000 in
theorem cwIx_any {w0 w : World} {R : HProp} {pp mb : Nat} {wv : Value} {rows : List SdR} {c : Ca} (fid : FuncId) (c1 : Value) (p : SdR → Bool) (h : Own w0 (CwO pp mb wv rows c * R) w) (hcf : ∀ a w, Sem.run Tryz.prog (callFunc fid a) w = .ok (.enter fid a) w) (hf : ∀ k (_ : k < rows.length) w, Own w0 (CwO pp mb wv rows c * R) w → Calls Tryz.prog fid #[c1, sdV rows[k]] w fun e w' => e = .returned (.bool (p rows[k])) ∧ Own w0 (CwO pp mb wv rows c * R) w') :
    Calls Tryz.prog 103 #[wv, .func (.func fid) #[c1] #[]] w fun e w' => e = .returned (.int .i64 (whereI p rows)) ∧ Own w0 (CwO pp mb wv rows c * R) w' := by
  rcases h.cw_any with ⟨rfl, rfl⟩ | ⟨b, off, cap, rfl, h1, h2, ha⟩
  · refine (saidIx_none _ w).mono ?_
    rintro e w' ⟨rfl, rfl⟩
    exact ⟨rfl, h⟩
  · exact sdIx_any fid c1 p b off cap rows h h1 h2 ha hcf hf
theorem caErr_at {c : Ca} {s : Sd} (h : sdErr s = 0) (h1 : s.who ≠ c.me) (h2 : caAt s.clk s.who ≠ 0) (h3 : caAt c.clk s.who < caAt s.clk s.who) :
    caErr c s = if c.waits.any (caSame s) = true then 7 else if 40 ≤ c.waits.length ∧ caReady c.clk s = false then 4 else 0 := by
  unfold caErr
  rw [if_neg (by rw [h]; simp), if_neg h1, if_neg h2, if_neg (by omega)]
set_option maxRecDepth 100000 in
set_option maxHeartbeats 4000000 in
theorem cwCheck_no {w0 w : World} {R : HProp} (p : Nat) (c : Ca) (s : Sd) (cv : Value) (hs : sdErr s ≠ 0) (hv : Reads w0 R cv s.clk) (h : Own w0 (CwP p c * R) w) :
    Calls Tryz.prog 101 #[.pointer (some ⟨p, 0, none⟩), .agg #[.int .i64 s.who, .int .i64 s.word, cv]] w fun e w' => e = .returned (errV (caErr c s)) ∧ Own w0 (CwP p c * R) w' := by
  have hE : caErr c s = sdErr s := by unfold caErr; rw [if_pos hs]
  rw [hE]
  clear hE
  obtain ⟨vad, vcap, rfl, hvc1, hvc2⟩ := (hv _ h.drop).shape
  obtain ⟨a, word, V⟩ := s
  unfold sdErr at hs ⊢
  dsimp only at hs hv h hvc1 hvc2 ⊢
  obtain ⟨b1, hb_b1⟩ : ∃ zz_, zz_ = (w).heap.size := ⟨_, rfl⟩
  obtain ⟨w1, hw_w1⟩ : ∃ zz_, zz_ = (w).alloc (.cells #[.int .i64 a, .int .i64 word, .slice vad V.length vcap] 59 (0, 0)) := ⟨_, rfl⟩
  have h_HO := (h).alloc (.cells #[.int .i64 a, .int .i64 word, .slice vad V.length vcap] 59 (0, 0))
  rw [← hb_b1, ← hw_w1] at h_HO
  have HO := Lib.hid h_HO
  clear h_HO
  obtain ⟨x0, x1, x2, _⟩ := (show Own w0 (SdO b1 a word (.slice vad V.length vcap) * (CwP p c * R)) w1 from HO.out).sd
  have HVV := Lib.hid (hv _ HO.out.drop.drop)
  have HO2 := Lib.hid HO.out.drop
  clear HO
  cases hm : isMember a
  · have H := Lib.hid h; have HV := Lib.hid hv; have HM := Lib.hid hm; have HS := Lib.hid hs
    clear h hv hm hs
    go_enter Tryz.func101, Tryz.ntmps101
    go_upto_region 1 with fail
    rw [← hb_b1, ← hw_w1]
    clear hb_b1 hw_w1
    go_wp2_with fail
    refine (member_any _ _).mono ?_
    rintro e w' ⟨rfl, rfl⟩
    rw [HM.out]
    go_wp2
    go_ret
    exact ⟨rfl, HO2.out⟩
  cases hw : isWord word
  · have H := Lib.hid h; have HV := Lib.hid hv; have HM := Lib.hid hm; have HW := Lib.hid hw; have HS := Lib.hid hs
    clear h hv hm hw hs
    go_enter Tryz.func101, Tryz.ntmps101
    go_upto_region 1 with fail
    rw [← hb_b1, ← hw_w1]
    clear hb_b1 hw_w1
    go_wp2_with fail
    refine (member_any _ _).mono ?_
    rintro e w' ⟨rfl, rfl⟩
    rw [HM.out]
    go_wp2_with fail
    refine (word_any _ _).mono ?_
    rintro e w' ⟨rfl, rfl⟩
    rw [HW.out]
    go_wp2
    go_ret
    exact ⟨rfl, HO2.out⟩
  rw [hm, hw, if_neg (by simp), if_neg (by simp)] at hs
  rw [if_neg (show ¬ true = false by simp), if_neg (show ¬ true = false by simp)]
  obtain ⟨mm, hmm⟩ := errV_some hs
  rw [hmm]
  have H := Lib.hid h; have HV := Lib.hid hv; have HM := Lib.hid hm; have HW := Lib.hid hw; have HS := Lib.hid hs; have HMM := Lib.hid hmm
  clear h hv hm hw hs hmm
  go_enter Tryz.func101, Tryz.ntmps101
  go_upto_region 1 with fail
  rw [← hb_b1, ← hw_w1]
  clear hb_b1 hw_w1
  go_wp2_with fail
  refine (member_any _ _).mono ?_
  rintro e w' ⟨rfl, rfl⟩
  rw [HM.out]
  go_wp2_with fail
  refine (word_any _ _).mono ?_
  rintro e w' ⟨rfl, rfl⟩
  rw [HW.out]
  go_wp2_with fail
  refine (vcheck_any _ V _ HVV.out).mono ?_
  rintro e w' ⟨rfl, rfl⟩
  rw [HMM.out]
  go_wp2
  go_ret
  exact ⟨rfl, HO2.out⟩
set_option maxRecDepth 100000 in
set_option maxHeartbeats 4000000 in
theorem cwCheck_yes {w0 w : World} {R : HProp} (p : Nat) (c : Ca) (s : Sd) (cv : Value) (hI : CaI c) (hs : sdErr s = 0) (hv : Reads w0 R cv s.clk) (h : Own w0 (CwP p c * R) w) :
    Calls Tryz.prog 101 #[.pointer (some ⟨p, 0, none⟩), .agg #[.int .i64 s.who, .int .i64 s.word, cv]] w fun e w' => e = .returned (errV (caErr c s)) ∧ Own w0 (CwP p c * R) w' := by
  obtain ⟨hm, hw, hV⟩ := sdErr0 hs
  have V5 := (vecErr0 hV).1
  have h5 := (vecErr0 hI.clk).1
  obtain ⟨vad, vcap, rfl, hvc1, hvc2⟩ := (hv _ h.drop).shape
  rw [V5] at hvc1 hv ⊢
  obtain ⟨q, hq⟩ : ∃ q : Nat, s.who = (q : Int) := ⟨s.who.toNat, by simp [isMember] at hm; omega⟩
  have hq5 : q < 5 := by simp [isMember] at hm; omega
  have q0 : (0 : Int) ≤ (q : Int) := by omega
  have q5 : (q : Int) < 5 := by omega
  obtain ⟨E, hE⟩ : ∃ E, E = caErr c s := ⟨_, rfl⟩
  rw [← hE, hq]
  obtain ⟨b1, hb_b1⟩ : ∃ zz_, zz_ = (w).heap.size := ⟨_, rfl⟩
  obtain ⟨w1, hw_w1⟩ : ∃ zz_, zz_ = (w).alloc (.cells #[.int .i64 q, .int .i64 s.word, .slice vad 5 vcap] 59 (0, 0)) := ⟨_, rfl⟩
  have h_HO := (h).alloc (.cells #[.int .i64 q, .int .i64 s.word, .slice vad 5 vcap] 59 (0, 0))
  rw [← hb_b1, ← hw_w1] at h_HO
  have HO := Lib.hid h_HO
  clear h_HO
  obtain ⟨x0, x1, x2, _⟩ := (show Own w0 (SdO b1 q s.word (.slice vad 5 vcap) * (CwP p c * R)) w1 from HO.out).sd
  have HVV := Lib.hid (hv _ HO.out.drop.drop)
  obtain ⟨aa, e1, hca⟩ := HVV.out.at q (by rw [V5]; exact hq5)
  obtain ⟨z, hz⟩ : ∃ z, z = s.clk[q]'(by rw [V5]; exact hq5) := ⟨_, rfl⟩
  rw [← hz] at hca
  have hzg : caAt s.clk s.who = z := by unfold caAt; rw [hq, Int.toNat_natCast, hz, List.getD_eq_getElem?_getD, List.getElem?_eq_getElem (by rw [V5]; exact hq5)]; rfl
  have hzb := vec_get hV q
  rw [show s.clk.getD q 0 = z from by unfold caAt at hzg; rw [hq, Int.toNat_natCast] at hzg; exact hzg] at hzb
  obtain ⟨z0, z1⟩ := hzb
  subst e1
  obtain ⟨b2, hb_b2⟩ : ∃ zz_, zz_ = (w1).heap.size := ⟨_, rfl⟩
  obtain ⟨w2, hw_w2⟩ : ∃ zz_, zz_ = (w1).alloc (.cells #[.int .i64 z] 3 (0, 0)) := ⟨_, rfl⟩
  have h_HO2 := (HO.out).alloc (.cells #[.int .i64 z] 3 (0, 0))
  rw [← hb_b2, ← hw_w2] at h_HO2
  have HO2 := Lib.hid h_HO2
  clear h_HO2
  have HO3 : Hid (Own w0 (CwP p c * (SdO b1 q s.word (.slice (some aa) 5 vcap) * (blk b2 (.cells #[.int .i64 z] 3 (0, 0)) * R))) w2) := Lib.hid (HO2.out.perm (by unfold SdO; ac_rfl))
  have HFIN : Hid (∀ w', Own w0 (CwP p c * (SdO b1 q s.word (.slice (some aa) 5 vcap) * (blk b2 (.cells #[.int .i64 z] 3 (0, 0)) * R))) w' → Own w0 (CwP p c * R) w') := Lib.hid (fun w' ho => ((ho.perm (show _ = SdO b1 q s.word (.slice (some aa) 5 vcap) * (blk b2 (.cells #[.int .i64 z] 3 (0, 0)) * (CwP p c * R)) by ac_rfl)).drop.drop))
  clear HO2 HO
  obtain ⟨mb, wv, rows, he, ho⟩ := HO3.out.cw_open
  obtain ⟨c0, c1, c2, hc, _, _⟩ := ho.cw_facts h5
  obtain ⟨wad, wcap, rfl, hwc1, hwc2⟩ := ho.cw_shape
  have cq := hc q hq5
  obtain ⟨y, hy⟩ : ∃ y, y = c.clk.getD q 0 := ⟨_, rfl⟩
  rw [← hy] at cq
  have hyg : caAt c.clk s.who = y := by unfold caAt; rw [hq, Int.toNat_natCast, hy]
  have n0 : w2.cell? ⟨b2, 0, none⟩ = some (.int .i64 z) := (ho.third.cell 0).trans rfl
  obtain ⟨a0, a1, a2, _⟩ := ho.second.sd
  have hb := fun i (_ : i < 5) => vec_get hI.clk i
  obtain ⟨N, hN⟩ : ∃ N, N = rows.length := ⟨_, rfl⟩
  rw [← hN] at c2 hwc1
  have hwl : c.waits.length = N := by rw [hN, ← he, List.length_map]
  have hN40 : N ≤ 40 := by rw [← hwl]; exact hI.len
  have hmq : isMember (q : Int) = true := by rw [← hq]; exact hm
  have HE_ := Lib.hid he
  have HEE := Lib.hid hE
  clear he hE hc hm
  have HV_ := Lib.hid hV
  have HB_ := Lib.hid hb
  have V5H := Lib.hid V5
  clear hV hb
  have H := Lib.hid h; have HV := Lib.hid hv; have H5 := Lib.hid h5; have HW := Lib.hid hw; have HZ := Lib.hid hz; have HZG := Lib.hid hzg; have HMQ := Lib.hid hmq; have HI := Lib.hid hI; have HS := Lib.hid hs; have HQ := Lib.hid hq; have HY := Lib.hid hy; have HYG := Lib.hid hyg; have HO := Lib.hid ho; have HWL := Lib.hid hwl; have HN := Lib.hid hN
  clear h hv h5 hw hz hzg hmq hI hs hq hy hyg ho hwl hN
  go_enter Tryz.func101, Tryz.ntmps101
  go_upto_region 1 with fail
  rw [← hb_b1, ← hw_w1]
  clear hb_b1 hw_w1
  go_wp2_with fail
  refine (member_any _ _).mono ?_
  rintro e w' ⟨rfl, rfl⟩
  rw [HMQ.out]
  go_wp2_with fail
  refine (word_any _ _).mono ?_
  rintro e w' ⟨rfl, rfl⟩
  rw [HW.out]
  go_wp2_with fail
  refine (vcheck_any _ s.clk _ HVV.out).mono ?_
  rintro e w' ⟨rfl, rfl⟩
  rw [HV_.out, errV0]
  go_upto_region 7 with fail
  rw [← hb_b2, ← hw_w2]
  clear hb_b2 hw_w2
  clear x0 x1 x2 hca
  by_cases hme : (q : Int) = c.me
  · have t1 : ((q : Int) == c.me) = true := by rw [beq_iff_eq]; exact hme
    have hE3 : E = 3 := by rw [HEE.out]; unfold caErr; rw [if_neg (by rw [HS.out]; simp), if_pos (by rw [HQ.out]; exact hme)]
    have HME := Lib.hid hme
    clear hme
    refine wp_region_tail 7 (by kernel_rfl) (by kernel_rfl) ?_
    simp only [List.take_succ_cons, List.take_zero, List.drop_succ_cons, List.drop_zero]
    repeat still_step
    refine wpStill_nil ?_
    go_wp2
    go_ret
    exact ⟨by rw [hE3]; rfl, HFIN.out _ HO3.out.drew⟩
  have t1 : ((q : Int) == c.me) = false := by rw [beq_eq_false_iff_ne]; exact hme
  by_cases hn0 : z = 0
  · have t2 : (z == 0) = true := by rw [beq_iff_eq]; exact hn0
    have hE3 : E = 1 := by rw [HEE.out]; unfold caErr; rw [if_neg (by rw [HS.out]; simp), if_neg (by rw [HQ.out]; exact hme), if_pos (by rw [HZG.out]; exact hn0)]
    have HME := Lib.hid hme; have HN0 := Lib.hid hn0
    clear hme hn0
    refine wp_region_tail 7 (by kernel_rfl) (by kernel_rfl) ?_
    simp only [List.take_succ_cons, List.take_zero, List.drop_succ_cons, List.drop_zero]
    repeat still_step
    refine wpStill_nil ?_
    go_wp2
    go_ret
    exact ⟨by rw [hE3]; rfl, HFIN.out _ HO3.out.drew⟩
  have t2 : (z == 0) = false := by rw [beq_eq_false_iff_ne]; exact hn0
  have H1 : Hid (s.who ≠ c.me) := Lib.hid (by rw [HQ.out]; exact hme)
  have H2 : Hid (caAt s.clk s.who ≠ 0) := Lib.hid (by rw [HZG.out]; exact hn0)
  by_cases hzy : z ≤ y
  · have t3 : decide (z ≤ y) = true := decide_eq_true hzy
    have hE3 : E = 7 := by rw [HEE.out]; unfold caErr; rw [if_neg (by rw [HS.out]; simp), if_neg H1.out, if_neg H2.out, if_pos (by rw [HZG.out, HYG.out]; exact hzy)]
    have HME := Lib.hid hme; have HN0 := Lib.hid hn0; have HZY := Lib.hid hzy
    clear hme hn0 hzy
    refine wp_region_tail 7 (by kernel_rfl) (by kernel_rfl) ?_
    simp only [List.take_succ_cons, List.take_zero, List.drop_succ_cons, List.drop_zero]
    repeat still_step
    refine wpStill_nil ?_
    go_upto_region 11 with fail
    refine wp_region_tail 10 (by kernel_rfl) (by kernel_rfl) ?_
    simp only [List.take_succ_cons, List.take_zero, List.drop_succ_cons, List.drop_zero]
    repeat still_step
    refine wpStill_nil ?_
    go_wp2
    go_ret
    exact ⟨by rw [hE3]; rfl, HFIN.out _ HO3.out.drew.drew⟩
  have t3 : decide (z ≤ y) = false := decide_eq_false hzy
  have hE4 := caErr_at HS.out H1.out H2.out (by rw [HZG.out, HYG.out]; omega)
  rw [← HEE.out, HWL.out] at hE4
  have HE4 := Lib.hid hE4
  clear hE4
  have HME := Lib.hid hme; have HN0 := Lib.hid hn0; have HZY := Lib.hid hzy
  clear hme hn0 hzy
  refine wp_region_tail 7 (by kernel_rfl) (by kernel_rfl) ?_
  simp only [List.take_succ_cons, List.take_zero, List.drop_succ_cons, List.drop_zero]
  repeat still_step
  refine wpStill_nil ?_
  go_upto_region 11 with fail
  refine wp_region_tail 10 (by kernel_rfl) (by kernel_rfl) ?_
  simp only [List.take_succ_cons, List.take_zero, List.drop_succ_cons, List.drop_zero]
  repeat still_step
  refine wpStill_nil ?_
  have HO5 := Lib.hid HO.out.drew.drew
  -- the words that wait
  have key : Calls Tryz.prog 119 #[.slice wad N wcap, .func (.func 120) #[] #[.pointer (some ⟨b1, 0, none⟩), .pointer (some ⟨b2, 0, none⟩)]] w2.drew.drew fun e w' => e = .returned (.bool (c.waits.any (caSame s))) ∧ Own w0 (CwO p mb (.slice wad rows.length wcap) rows c * (SdO b1 q s.word (.slice (some aa) 5 vcap) * (blk b2 (.cells #[.int .i64 z] 3 (0, 0)) * R))) w' := by
    have h1 := cwHas_any 120 (.pointer (some ⟨b1, 0, none⟩)) (.pointer (some ⟨b2, 0, none⟩)) (fun r => caSame s r.2) HO5.out (fun a w => by kernel_rfl) (fun k hk w ho => by
      have hok : sdErr rows[k].2 = 0 := HI.out.ok _ (by rw [← HE_.out]; exact List.mem_map.2 ⟨_, List.getElem_mem hk, rfl⟩)
      refine check1Sd_any b1 b2 s rows[k] hok ho (fun w' ho' => ⟨?_, ?_, ho'.cw_row hk (sdErr0 hok).2.2⟩)
      · rw [HQ.out]; exact (ho'.second.sd).1
      · rw [HZG.out]; exact (ho'.third.cell 0).trans rfl)
    rw [← HN.out] at h1
    refine h1.mono ?_
    rintro e w' ⟨rfl, ho⟩
    refine ⟨?_, by rw [← HN.out]; exact ho⟩
    rw [← HE_.out, List.any_map]; rfl
  have HKEY := Lib.hid key
  clear key
  go_wp2_with fail
  refine HKEY.out.mono ?_
  rintro e w3 ⟨rfl, ho3⟩
  obtain ⟨B, hB⟩ : ∃ B, B = c.waits.any (caSame s) := ⟨_, rfl⟩
  rw [← hB] at HE4 ⊢
  have HO6 := Lib.hid ho3
  clear HKEY
  obtain ⟨c0, c1, c2, _, _, _⟩ := ho3.cw_facts H5.out
  obtain ⟨a0, a1, a2, _⟩ := ho3.second.sd
  rw [← HN.out] at c2
  clear ho3
  have HB := Lib.hid hB
  clear hB
  cases B
  rotate_left
  · have hE5 : E = 7 := by rw [HE4.out, if_pos rfl]
    go_wp2
    go_ret
    exact ⟨by rw [hE5]; rfl, HFIN.out _ (Own.cw_close HE_.out HO6.out)⟩
  rw [if_neg (by simp)] at HE4
  by_cases h40 : 40 ≤ N
  rotate_left
  · have hE5 : E = 0 := by rw [HE4.out, if_neg (fun h => h40 h.1)]
    have t4 : decide ((40 : Int) ≤ (N : Int)) = false := decide_eq_false (by omega)
    have H40 := Lib.hid h40
    clear h40
    go_wp2
    go_ret
    exact ⟨by rw [hE5]; rfl, HFIN.out _ (Own.cw_close HE_.out HO6.out)⟩
  have t4 : decide ((40 : Int) ≤ (N : Int)) = true := decide_eq_true (by omega)
  have HE5 : Hid (E = if caReady c.clk s = false then 4 else 0) := Lib.hid (by
    rw [HE4.out]
    by_cases hr : caReady c.clk s = false
    · rw [if_pos ⟨h40, hr⟩, if_pos hr]
    · rw [if_neg (fun h => hr h.2), if_neg hr])
  have key : Calls Tryz.prog 102 #[.pointer (some ⟨p, 0, none⟩), .agg #[.int .i64 q, .int .i64 s.word, .slice (some aa) 5 vcap]] w3 fun e w' => e = .returned (.bool (caReady c.clk s)) ∧ Own w0 (CwO p mb (.slice wad rows.length wcap) rows c * (SdO b1 q s.word (.slice (some aa) 5 vcap) * (blk b2 (.cells #[.int .i64 z] 3 (0, 0)) * R))) w' := by
    have h1 := caReady_any p mb c.clk s (.slice (some aa) 5 vcap) V5H.out HB_.out (fun w' ho' => by
      obtain ⟨_, k1, _, k3, _, _⟩ := ho'.cw_facts H5.out
      exact ⟨k1, k3, HV.out _ ho'.drop.drop.drop⟩) HO6.out
    rw [HQ.out] at h1
    exact h1
  have HKEY := Lib.hid key
  clear key
  have H40 := Lib.hid h40
  clear h40
  go_wp2_with fail
  refine HKEY.out.mono ?_
  rintro e w4 ⟨rfl, ho4⟩
  obtain ⟨B, hB⟩ : ∃ B, B = caReady c.clk s := ⟨_, rfl⟩
  rw [← hB] at HE5 ⊢
  have HO7 := Lib.hid ho4
  clear ho4 HKEY hB
  cases B
  · have hE5 : E = 4 := by rw [HE5.out, if_pos rfl]
    go_wp2
    go_ret
    exact ⟨by rw [hE5]; rfl, HFIN.out _ (Own.cw_close HE_.out HO7.out)⟩
  · have hE5 : E = 0 := by rw [HE5.out, if_neg (by simp)]
    go_wp2
    go_ret
    exact ⟨by rw [hE5]; rfl, HFIN.out _ (Own.cw_close HE_.out HO7.out)⟩
set_option maxRecDepth 100000 in
set_option maxHeartbeats 4000000 in
theorem cwCheck_any {w0 w : World} {R : HProp} (p : Nat) (c : Ca) (s : Sd) (cv : Value) (hI : CaI c) (hv : Reads w0 R cv s.clk) (h : Own w0 (CwP p c * R) w) :
    Calls Tryz.prog 101 #[.pointer (some ⟨p, 0, none⟩), .agg #[.int .i64 s.who, .int .i64 s.word, cv]] w fun e w' => e = .returned (errV (caErr c s)) ∧ Own w0 (CwP p c * R) w' := by
  by_cases hs : sdErr s = 0
  · exact cwCheck_yes p c s cv hI hs hv h
  · exact cwCheck_no p c s cv hs hv h
end Go.Proofs.YtdfjbnfdknpahaaGreatDoor
