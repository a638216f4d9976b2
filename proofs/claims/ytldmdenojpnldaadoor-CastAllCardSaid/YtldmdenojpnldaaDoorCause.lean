/- Contracts of package cause, of a member for whom none waits. -/
import Derived.Test.YtldmdenojpnldaaDoorVec2
import Derived.Test.YtldmdenojpnldaaDoorStable2
import Derived.Test.YtldmdenojpnldaaDoorHist
import Derived.Test.YtldmdenojpnldaaDoorHeld
namespace Go.Proofs.YtldmdenojpnldaaDoor
set_option linter.unusedVariables false
set_option linter.unusedSimpArgs false
open Go.RowKit
def CaP (p mb : Nat) (q : Int) (clk : List Int) : HProp :=
  blk p (.cells #[.int .i64 q, .slice (some ⟨mb, 0, none⟩) 5 5, .slice none 0 0] 136 (0, 0)) * IntSl (.slice (some ⟨mb, 0, none⟩) 5 5) clk
theorem Own.ca {w0 w : World} {p mb : Nat} {q : Int} {clk : List Int} {R : HProp} (h : Own w0 (CaP p mb q clk * R) w) (h5 : clk.length = 5) :
    w.cell? ⟨p, 0, none⟩ = some (.int .i64 q) ∧ w.cell? ⟨p, 1, none⟩ = some (.slice (some ⟨mb, 0, none⟩) 5 5) ∧ w.cell? ⟨p, 2, none⟩ = some (.slice none 0 0) ∧
    (∀ k, k < 5 → w.cell? ⟨mb, k, none⟩ = some (.int .i64 (clk.getD k 0))) ∧ (∀ k s, w.frozen? ⟨mb, k, s⟩ = false) ∧
    (∀ k x, k < 5 → Own w0 (CaP p mb q (clk.set k x) * R) (w.setCell ⟨mb, k, none⟩ (.int .i64 x))) := by
  have h1 : Own w0 (blk p (.cells #[.int .i64 q, .slice (some ⟨mb, 0, none⟩) 5 5, .slice none 0 0] 136 (0, 0)) * (IntSl (.slice (some ⟨mb, 0, none⟩) 5 5) clk * R)) w := h.perm (by unfold CaP; ac_rfl)
  have h2 : Own w0 (IntSl (.slice (some ⟨mb, 0, none⟩) 5 5) clk * (blk p (.cells #[.int .i64 q, .slice (some ⟨mb, 0, none⟩) 5 5, .slice none 0 0] 136 (0, 0)) * R)) w := h.perm (by unfold CaP; ac_rfl)
  obtain ⟨b, off, cap, e1, _, _, hcell, hfz, _, _, hset⟩ := h2.ints_at (by omega)
  rw [h5] at e1
  injection e1 with e1 _ e3
  injection e1 with e1
  injection e1 with e1 e2 _
  subst e1; subst e2; subst e3
  refine ⟨(h1.cell 0).trans rfl, (h1.cell 1).trans rfl, (h1.cell 2).trans rfl, fun k hk => ?_, hfz, fun k x hk => ?_⟩
  · have h3 := hcell k (by omega)
    rw [Nat.zero_add] at h3
    rw [h3, List.getD_eq_getElem?_getD, List.getElem?_eq_getElem (by omega)]; rfl
  · have h3 := hset k x (by omega)
    rw [Nat.zero_add] at h3
    exact h3.perm (by unfold CaP; ac_rfl)
theorem CaP_reads {w0 w : World} {p mb : Nat} {q : Int} {clk : List Int} {R : HProp} (hI : ∀ x ∈ clk, I64 x) (h : Own w0 (CaP p mb q clk * R) w) : Ints w (.slice (some ⟨mb, 0, none⟩) 5 5) clk :=
  IntSl_reads hI _ (h.perm (show _ = IntSl (.slice (some ⟨mb, 0, none⟩) 5 5) clk * (blk p (.cells #[.int .i64 q, .slice (some ⟨mb, 0, none⟩) 5 5, .slice none 0 0] 136 (0, 0)) * R) by unfold CaP; ac_rfl))
set_option maxRecDepth 100000 in
set_option maxHeartbeats 4000000 in
theorem causeNew_no (me : Int) (w : World) (hm : isMember me = false) :
    Calls Tryd.prog 25 #[.int .i64 me] w fun e w' => e = .returned (.tuple #[.pointer none, errV 1]) ∧ w = w' := by
  have HM := Lib.hid hm
  clear hm
  go_enter Tryd.func25, Tryd.ntmps25
  go_wp2_with fail
  refine (member_any _ _).mono ?_
  rintro e w' ⟨rfl, rfl⟩
  rw [HM.out]
  go_wp2
  go_ret2
  exact ⟨rfl, rfl⟩
set_option maxRecDepth 100000 in
set_option maxHeartbeats 4000000 in
theorem causeNew_yes {w0 w : World} {R : HProp} (me : Int) (hm : isMember me = true) (h : Own w0 R w) :
    Calls Tryd.prog 25 #[.int .i64 me] w fun e w' => ∃ p mb, e = .returned (.tuple #[.pointer (some ⟨p, 0, none⟩), errV 0]) ∧ Own w0 (CaP p mb me zero5 * R) w' := by
  have hmk : ∀ w, (Instr.makeSlice 36 (.int .i64 5) (.int .i64 5)).run Tryd.prog w = .ok (.slice (some ⟨w.heap.size, 0, none⟩) 5 5) (w.alloc (.cells #[.int .i64 0, .int .i64 0, .int .i64 0, .int .i64 0, .int .i64 0] 3)) := fun _ => by kernel_rfl
  have hnew := ((h.alloc (.cells #[.int .i64 0, .int .i64 0, .int .i64 0, .int .i64 0, .int .i64 0] 3)).zero5.alloc (.cells #[.int .i64 me, .slice (some ⟨w.heap.size, 0, none⟩) 5 5, .slice none 0 0] 136))
  rw [World.size_alloc] at hnew
  have HM := Lib.hid hm; have H := Lib.hid h; have HNEW := Lib.hid hnew
  clear hm h hnew
  go_enter Tryd.func25, Tryd.ntmps25
  go_wp2_with fail
  refine (member_any _ _).mono ?_
  rintro e w' ⟨rfl, rfl⟩
  rw [HM.out]
  go_wp2
  go_ret2
  exact ⟨_, w.heap.size, rfl, HNEW.out.perm (by unfold CaP; ac_rfl)⟩
set_option maxRecDepth 100000 in
set_option maxHeartbeats 4000000 in
theorem causeClock_any {w0 w : World} {R : HProp} (p mb : Nat) (q : Int) (clk : List Int) (h5 : clk.length = 5) (hI : ∀ x ∈ clk, I64 x) (h : Own w0 (CaP p mb q clk * R) w) :
    Calls Tryd.prog 34 #[.pointer (some ⟨p, 0, none⟩)] w fun e w' => ∃ v', e = .returned v' ∧ Own w0 (IntSl v' clk * (CaP p mb q clk * R)) w' := by
  obtain ⟨c0, c1, c2, _, _, _⟩ := h.ca h5
  have H := Lib.hid h; have H5 := Lib.hid h5; have HI := Lib.hid hI
  clear h h5 hI
  go_enter Tryd.func34, Tryd.ntmps34
  go_wp2_with fail
  refine (cloneInts_any H.out _ clk (CaP_reads HI.out H.out) (by rw [H5.out]; omega)).mono ?_
  rintro e w' ⟨v', rfl, ho⟩
  have HO := Lib.hid ho
  clear ho c0 c1 c2
  go_wp2
  go_ret
  exact ⟨_, rfl, HO.out⟩
set_option maxRecDepth 100000 in
set_option maxHeartbeats 4000000 in
theorem causeWaits_any {w0 w : World} {R : HProp} (p mb : Nat) (q : Int) (clk : List Int) (h5 : clk.length = 5) (h : Own w0 (CaP p mb q clk * R) w) :
    Calls Tryd.prog 28 #[.pointer (some ⟨p, 0, none⟩)] w fun e w' => e = .returned (.int .i64 0) ∧ w = w' := by
  obtain ⟨c0, c1, c2, _, _, _⟩ := h.ca h5
  have H := Lib.hid h; have H5 := Lib.hid h5
  clear h h5
  go_enter Tryd.func28, Tryd.ntmps28
  go_wp2
  go_ret
  exact ⟨rfl, rfl⟩
def SdO (b : Nat) (a x : Int) (v : Value) : HProp := blk b (.cells #[.int .i64 a, .int .i64 x, v] 56 (0, 0))
theorem Own.sd {w0 w : World} {b : Nat} {a x : Int} {v : Value} {R : HProp} (h : Own w0 (SdO b a x v * R) w) : w.cell? ⟨b, 0, none⟩ = some (.int .i64 a) ∧ w.cell? ⟨b, 1, none⟩ = some (.int .i64 x) ∧ w.cell? ⟨b, 2, none⟩ = some v ∧ ∀ i s, w.frozen? ⟨b, i, s⟩ = false :=
  ⟨(Own.cell h 0).trans rfl, (Own.cell h 1).trans rfl, (Own.cell h 2).trans rfl, Own.free h⟩
theorem Own.sd_put {w0 w : World} {b : Nat} {a x : Int} {v : Value} {R : HProp} (a' x' : Int) (v' : Value) (h : Own w0 (SdO b a x v * R) w) : Own w0 (SdO b a' x' v' * R) (((w.setCell ⟨b, 0, none⟩ (.int .i64 a')).setCell ⟨b, 1, none⟩ (.int .i64 x')).setCell ⟨b, 2, none⟩ v') :=
  (Own.setCell (i := 2) (v := v') (Own.setCell (i := 1) (v := .int .i64 x') (Own.setCell (i := 0) (v := .int .i64 a') h))).perm rfl
theorem Own.sd_put2 {w0 w : World} {b : Nat} {a x : Int} {v : Value} {R : HProp} (v' : Value) (h : Own w0 (SdO b a x v * R) w) : Own w0 (SdO b a x v' * R) (w.setCell ⟨b, 2, none⟩ v') :=
  (Own.setCell (i := 2) (v := v') h).perm rfl
set_option maxRecDepth 100000 in
set_option maxHeartbeats 4000000 in
theorem causeSay_any {w0 w : World} {R : HProp} (p mb q : Nat) (hq : q < 5) (clk : List Int) (h5 : clk.length = 5) (word : Int) (hw : isWord word = true) (hI : ∀ x ∈ clk.set q (clk.getD q 0 + 1), I64 x) (hn : 0 ≤ clk.getD q 0 ∧ clk.getD q 0 < 1000000) (h : Own w0 (CaP p mb q clk * R) w) :
    Calls Tryd.prog 26 #[.pointer (some ⟨p, 0, none⟩), .int .i64 word] w fun e w' => ∃ v', e = .returned (.tuple #[.agg #[.int .i64 q, .int .i64 word, v'], errV 0]) ∧ Own w0 (IntSl v' (clk.set q (clk.getD q 0 + 1)) * (CaP p mb q (clk.set q (clk.getD q 0 + 1)) * R)) w' := by
  obtain ⟨b1, hb_b1⟩ : ∃ zz_, zz_ = (w).heap.size := ⟨_, rfl⟩
  obtain ⟨w1, hw_w1⟩ : ∃ zz_, zz_ = (w).alloc (.cells #[.int .i64 0, .int .i64 0, .slice none 0 0] 56 (0, 0)) := ⟨_, rfl⟩
  have h_HO := (h).alloc (.cells #[.int .i64 0, .int .i64 0, .slice none 0 0] 56 (0, 0))
  rw [← hb_b1, ← hw_w1] at h_HO
  have HO := Lib.hid h_HO
  clear h_HO
  have HO1 : Hid (Own w0 (CaP p mb q clk * (SdO b1 0 0 (.slice none 0 0) * R)) w1) := Lib.hid (HO.out.perm (star_left_comm _ _ _))
  obtain ⟨c0, c1, c2, hc, hf, hs⟩ := HO1.out.ca h5
  obtain ⟨y, hy⟩ : ∃ y, y = clk.getD q 0 := ⟨_, rfl⟩
  have d0 := hc q hq
  have f0 := hf q none
  have s0 := hs q (clk.getD q 0 + 1) hq
  rw [← hy] at d0 s0 hn hI ⊢
  obtain ⟨y0, y1⟩ := hn
  have t1 : (y == 1000000) = false := by rw [beq_eq_false_iff_ne]; omega
  have q0 : (0 : Int) ≤ (q : Int) := by omega
  have q5 : (q : Int) < 5 := by omega
  obtain ⟨w2, hw2⟩ : ∃ w2, w2 = w1.setCell ⟨mb, q, none⟩ (.int .i64 (y + 1)) := ⟨_, rfl⟩
  rw [← hw2] at s0
  obtain ⟨D, hD⟩ : ∃ D, D = clk.set q (y + 1) := ⟨_, rfl⟩
  rw [← hD] at s0 hI ⊢
  have hD5 : D.length = 5 := by rw [hD]; simp [h5]
  have HO2 := Lib.hid s0
  clear HO HO1 hc hf hs s0
  have H := Lib.hid h; have H5 := Lib.hid h5; have HI := Lib.hid hI; have HW := Lib.hid hw; have HY := Lib.hid hy; have HD := Lib.hid hD; have HD5 := Lib.hid hD5
  clear h h5 hI hw hy hD hD5
  go_enter Tryd.func26, Tryd.ntmps26
  go_upto_region 1 with fail
  rw [← hb_b1, ← hw_w1]
  clear hb_b1 hw_w1
  go_wp2_with fail
  refine (word_any _ _).mono ?_
  rintro e w' ⟨rfl, rfl⟩
  rw [HW.out]
  go_upto_region 3 with fail
  refine wp_region_tail 11 (by kernel_rfl) (by kernel_rfl) ?_
  simp only [List.take_succ_cons, List.take_zero, List.drop_succ_cons, List.drop_zero]
  repeat still_step
  refine wpStill_nil ?_
  go_upto_region 5 with fail
  refine wp_region_tail 11 (by kernel_rfl) (by kernel_rfl) ?_
  simp only [List.take_succ_cons, List.take_zero, List.drop_succ_cons, List.drop_zero]
  repeat still_step
  refine wpStill_nil ?_
  go_upto_region 6 with fail
  rw [← hw2]
  clear d0 c0 c1 c2 f0 hw2 t1
  have HO3 := Lib.hid HO2.out.drew.drew.drew
  obtain ⟨c0, c1, _, _, _, _⟩ := HO2.out.ca HD5.out
  refine wp_region_planH 11 [] [(true, 0), (true, 1), (true, 2), (true, 3), (true, 4), (true, 5), (true, 6), (true, 7), (true, 8), (false, 9), (true, 10)] [11, 12] (fun wS => (wS.cell? ⟨p, 0, none⟩ = some (.int .i64 q) ∧ wS.cell? ⟨p, 1, none⟩ = some (.slice (some ⟨mb, 0, none⟩) 5 5))) (by kernel_rfl) (by kernel_rfl) (⟨c0, c1⟩) ?_
  simp only [pickH, pick, List.getElem?_cons_succ, List.getElem?_cons_zero, Option.toList, Option.map_some, List.cons_append, List.nil_append]
  repeat (refine wpPure_step ?_ rfl ?_ ?_; rotate_left; (focus (intro _; first | with_reducible rfl | (go_simp; done) | (go_simp; with_reducible rfl) | rfl)); go_simp)
  refine wpPure_nil ?_
  repeat (refine wpMix_read ?_ rfl ?_ ?_; rotate_left; (focus (intro _ hS; obtain ⟨s1, s2⟩ := hS; first | with_reducible rfl | (go_simp; done) | (go_simp; with_reducible rfl) | rfl)); go_simp)
  refine wpMix_write (fun K hK => ?_)
  go_simp
  refine (cloneInts_any HO3.out _ D (CaP_reads HI.out HO3.out) (by rw [HD5.out]; omega)).mono ?_
  rintro e w4 ⟨v4, rfl, ho⟩
  obtain ⟨x1, x2, x3, x4⟩ := (ho.perm (show _ = SdO b1 0 0 (.slice none 0 0) * (IntSl v4 D * (CaP p mb q D * R)) by ac_rfl)).sd
  have x40 := x4 0 none
  have x41 := x4 1 none
  have x42 := x4 2 none
  obtain ⟨ad4, cap4, hv4, _⟩ := Own.rd ho
  subst hv4
  have hput := (ho.perm (show _ = SdO b1 0 0 (.slice none 0 0) * (IntSl (.slice ad4 D.length cap4) D * (CaP p mb q D * R)) by ac_rfl)).sd_put (q : Int) word (.slice ad4 D.length cap4)
  obtain ⟨p0, p1, p2, _⟩ := hput.sd
  have HPUT := Lib.hid hput.drop
  obtain ⟨k0, k1, _, _, _, _⟩ := (ho.perm (star_left_comm _ _ _)).ca HD5.out
  clear ho hput x4 c0 c1
  refine hK _ _ ⟨⟨k0, k1⟩, ?_⟩
  clear hK K
  go_simp
  repeat (refine wpMix_read ?_ rfl ?_ ?_; rotate_left; (focus (intro _ hS; obtain ⟨s1, s2⟩ := hS; first | with_reducible rfl | (go_simp; done) | (go_simp; with_reducible rfl) | rfl)); go_simp)
  refine wpMix_nil ?_
  go_wp2_with fail
  refine NoPanic.normal ?_
  go_wp2_with fail
  exact bodyPost_ret (v := .tuple #[.agg #[.int .i64 q, .int .i64 word, .slice ad4 D.length cap4], .nilIface]) (by simp [results, Tryd.results26, go_sem, p0, p1, p2]) rfl ⟨_, rfl, HPUT.out⟩
end Go.Proofs.YtldmdenojpnldaaDoor
