/- Contracts of package history, continued: search for an event, what is wrong with one, with a history. -/
import Derived.Test.YtddbjcpfgjcmnaaHist
namespace Go.Proofs.Ytddbjcpfgjcmnaa
set_option linter.unusedVariables false
set_option linter.unusedSimpArgs false
open Go.RowKit
set_option maxRecDepth 100000 in
set_option maxHeartbeats 4000000 in
theorem evIndex_any {w0 w : World} {R : HProp} (x : Ev) (v : Value) (l : List Ev) (h : Own w0 R w) (hl : ReadsE w0 R v l) :
    Calls Try.prog 33 #[v, evV x] w fun e w' => e = .returned (.int .i64 (whereI (fun y => decide (x = y)) l)) ∧ Own w0 R w' := by
  obtain ⟨ad, cap, rfl, hlc, hcap⟩ := (hl _ h).shape
  obtain ⟨a, b, d⟩ := x
  unfold evV
  obtain ⟨b1, hb_b1⟩ : ∃ zz_, zz_ = (w).heap.size := ⟨_, rfl⟩
  obtain ⟨w1, hw_w1⟩ : ∃ zz_, zz_ = (w).alloc (.cells #[.int .i64 a, .int .i64 b, .int .i64 d] 40 (0, 0)) := ⟨_, rfl⟩
  have h_HO1 := (h).alloc (.cells #[.int .i64 a, .int .i64 b, .int .i64 d] 40 (0, 0))
  rw [← hb_b1, ← hw_w1] at h_HO1
  have HO1 := Lib.hid h_HO1
  clear h_HO1
  have H := Lib.hid h; have HL := Lib.hid hl
  clear h hl
  go_enter Try.func33, Try.ntmps33
  go_upto_region 1 with fail
  rw [← hb_b1, ← hw_w1]
  clear hb_b1 hw_w1
  go_wp2_with fail
  go_loopw [8] (fun i wr => ∃ k : Nat, k ≤ l.length ∧ i = .int .i64 k ∧ Hid (Own w0 (EvO b1 (a, b, d) * R) wr) ∧ Hid (∀ j (_ : j < k) (h : j < l.length), decide ((a, b, d) = l[j]) = false)) (fun i _ => l.length - (intOf i).toNat)
  case atStart => exact ⟨0, Nat.zero_le _, rfl, HO1, Lib.hid (fun j h => by omega)⟩
  case round =>
    obtain ⟨k, hk, rfl, HO, hp⟩ := hrel
    by_cases hlt : k < l.length
    rotate_left
    · have hm : whereI (fun y => decide ((a, b, d) = y)) l = -1 := whereI_miss _ l (fun j h => hp.out j (by omega) h)
      have HM := Lib.hid hm
      clear hm
      go_wp2
      go_ret
      exact ⟨by rw [HM.out]; rfl, HO.out.drop⟩
    obtain ⟨aa, eb, eo, es, rfl, hea, hcs, hgd⟩ := HL.out.at HO.out.drop k hlt
    obtain ⟨x, hx⟩ : ∃ x, x = evAt l k := ⟨_, rfl⟩
    rw [← hx] at hcs
    have hxk : x = l[k] := by rw [hx]; unfold evAt; rw [List.getD_eq_getElem?_getD, List.getElem?_eq_getElem hlt]; rfl
    obtain ⟨p, q, r⟩ := x
    obtain ⟨c0, c1, c2⟩ := hcs _ HO.out.drop
    obtain ⟨d0, d1, d2⟩ := HO.out.ev
    simp only at c0 c1 c2 d0 d1 d2
    have HCS := Lib.hid hcs; have HX := Lib.hid hx; have HGD := Lib.hid hgd
    clear hcs hx hgd
    by_cases hs : a = p ∧ b = q ∧ d = r
    · obtain ⟨rfl, rfl, rfl⟩ := hs
      have hm : whereI (fun y => decide ((a, b, d) = y)) l = k := whereI_hit _ l k hlt (fun j h => hp.out j h (by omega)) (by rw [← hxk]; simp)
      have HM := Lib.hid hm; have HXK := Lib.hid hxk
      clear hm hxk
      go_wp2_with fail
      go_quiet (fail)
      go_wp2_with fail
      go_ret
      exact ⟨by rw [HM.out]; rfl, (HO.out.drewN _).drop⟩
    have hne : ((a, b, d) : Ev) ≠ (p, q, r) := by simpa using hs
    have hn : ∀ j (_ : j < k + 1) (h : j < l.length), decide ((a, b, d) = l[j]) = false := fun j h1 h2 => by
      by_cases e : j = k
      · subst e; rw [← hxk]; simpa using hs
      · exact hp.out j (by omega) h2
    have HN := Lib.hid hn; have HXK := Lib.hid hxk; have HNE := Lib.hid hne
    clear hn hxk hne
    by_cases h1 : a = p
    · subst h1
      by_cases h2 : b = q
      · subst h2
        have h3 : (d == r) = false := by
          rw [beq_eq_false_iff_ne]; rintro rfl; exact hs ⟨rfl, rfl, rfl⟩
        clear hs
        go_wp2_with fail
        go_quiet (fail)
        have HO2 := Lib.hid (HO.out.drewN nq)
        go_wp2_with fail
        go_round
        case rel => exact ⟨k + 1, by omega, by go_num, HO2, HN⟩
        case measure => simp [intOf]; omega
      · have h3 : (b == q) = false := by simpa using h2
        clear hs
        have H2 := Lib.hid h2
        clear h2
        go_wp2_with fail
        go_quiet (fail)
        have HO2 := Lib.hid (HO.out.drewN nq)
        go_wp2_with fail
        go_round
        case rel => exact ⟨k + 1, by omega, by go_num, HO2, HN⟩
        case measure => simp [intOf]; omega
    · have h3 : (a == p) = false := by simpa using h1
      clear hs
      have H1 := Lib.hid h1
      clear h1
      go_wp2_with fail
      go_quiet (fail)
      have HO2 := Lib.hid (HO.out.drewN nq)
      go_wp2_with fail
      go_round
      case rel => exact ⟨k + 1, by omega, by go_num, HO2, HN⟩
      case measure => simp [intOf]; omega
set_option maxRecDepth 100000 in
set_option maxHeartbeats 4000000 in
theorem evContains_any {w0 w : World} {R : HProp} (x : Ev) (v : Value) (l : List Ev) (h : Own w0 R w) (hl : ReadsE w0 R v l) :
    Calls Try.prog 28 #[v, evV x] w fun e w' => e = .returned (.bool (decide (x ∈ l))) ∧ Own w0 R w' := by
  have hw := whereI_any (fun y => decide (x = y)) l
  have h2 : (l.any fun n => decide (x = n)) = decide (x ∈ l) := by
    rw [Bool.eq_iff_iff]; simp
  rw [h2] at hw
  have hd : decide ((0 : Int) ≤ whereI (fun y => decide (x = y)) l) = decide (x ∈ l) := by
    rw [Bool.eq_iff_iff]; simpa using hw
  obtain ⟨q, hq⟩ : ∃ q, q = whereI (fun y => decide (x = y)) l := ⟨_, rfl⟩
  rw [← hq] at hd
  obtain ⟨y, hy⟩ : ∃ y, y = x := ⟨_, rfl⟩
  have h' := evIndex_any (w := w.alloc (.cells #[.int .i64 x.1, .int .i64 x.2.1, .int .i64 x.2.2] 40 (0, 0))) x v l (h.alloc _) hl.more
  rw [← hq] at h'
  obtain ⟨a, b, d⟩ := x
  unfold evV at h' ⊢
  obtain ⟨b1, hb_b1⟩ : ∃ zz_, zz_ = (w).heap.size := ⟨_, rfl⟩
  obtain ⟨w1, hw_w1⟩ : ∃ zz_, zz_ = (w).alloc (.cells #[.int .i64 a, .int .i64 b, .int .i64 d] 40 (0, 0)) := ⟨_, rfl⟩
  have h_HO1 := (h).alloc (.cells #[.int .i64 a, .int .i64 b, .int .i64 d] 40 (0, 0))
  rw [← hb_b1, ← hw_w1] at h_HO1
  have HO1 := Lib.hid h_HO1
  clear h_HO1
  rw [← hb_b1, ← hw_w1] at h'
  obtain ⟨c0, c1, c2⟩ := (show Own w0 (EvO b1 (a, b, d) * R) w1 from HO1.out).ev
  simp only at c0 c1 c2
  have H := Lib.hid h; have HL := Lib.hid hl; have HW := Lib.hid hw; have H2 := Lib.hid h2; have HQ := Lib.hid hq; have HY := Lib.hid hy; have H' := Lib.hid h'
  clear h hl hw h2 hq hy h'
  go_enter Try.func28, Try.ntmps28
  go_upto_region 1 with fail
  rw [← hb_b1, ← hw_w1]
  clear hb_b1 hw_w1
  go_wp2_with fail
  refine (H'.out).mono ?_
  rintro e w' ⟨rfl, ho⟩
  have HO2 := Lib.hid ho.drop
  clear ho c0 c1 c2
  go_wp2
  go_ret
  exact ⟨by rw [← hd]; rfl, HO2.out⟩
theorem evErr_right {l : List Ev} {x : Ev} (h : rightB x = false) : evErr l x = 1 := by unfold evErr; rw [if_pos h]
theorem rightB_what {x : Ev} (h : rightB x = true) : x.2.1 = 1 ∨ x.2.1 = 2 ∨ x.2.1 = 3 := by
  unfold rightB at h
  by_cases h1 : x.2.1 = 1
  · exact .inl h1
  · simp [h1] at h; exact .inr h.2.1
set_option maxRecDepth 100000 in
set_option maxHeartbeats 4000000 in
theorem evCheck_any {w0 w : World} {R : HProp} (x : Ev) (v : Value) (l : List Ev) (h : Own w0 R w) (hl : ReadsE w0 R v l) :
    Calls Try.prog 24 #[v, evV x] w fun e w' => e = .returned (errV (evErr l x)) ∧ Own w0 R w' := by
  obtain ⟨ad, cap, rfl, hlc, hcap⟩ := (hl _ h).shape
  obtain ⟨b1, hb_b1⟩ : ∃ zz_, zz_ = (w).heap.size := ⟨_, rfl⟩
  obtain ⟨w1, hw_w1⟩ : ∃ zz_, zz_ = (w).alloc (.cells #[.int .i64 x.1, .int .i64 x.2.1, .int .i64 x.2.2] 40 (0, 0)) := ⟨_, rfl⟩
  have h_HO1 := (h).alloc (.cells #[.int .i64 x.1, .int .i64 x.2.1, .int .i64 x.2.2] 40 (0, 0))
  rw [← hb_b1, ← hw_w1] at h_HO1
  have HO1 := Lib.hid h_HO1
  clear h_HO1
  have HO : Hid (Own w0 (EvO b1 x * R) w1) := HO1
  have HLM : Hid (ReadsE w0 (EvO b1 x * R) (.slice ad l.length cap) l) := Lib.hid hl.more
  have H := Lib.hid h; have HL := Lib.hid hl
  clear h hl
  clear HO1
  obtain ⟨c0, c1, c2⟩ := HO.out.ev
  cases hr : rightB x
  · have hE : evErr l x = 1 := evErr_right hr
    obtain ⟨a, b, d⟩ := x
    have hr_ := right_any (w0 := w0) (w := w1) (R := EvO b1 (a, b, d) * R) (a, b, d) HO.out
    unfold evV at hr_ ⊢
    simp only at c0 c1 c2
    rw [hr] at hr_
    have HE := Lib.hid hE; have HR := Lib.hid hr; have HR_ := Lib.hid hr_
    clear hE hr hr_
    go_enter Try.func24, Try.ntmps24
    go_upto_region 1 with fail
    rw [← hb_b1, ← hw_w1]
    clear hb_b1 hw_w1
    go_wp2_with fail
    refine (HR_.out).mono ?_
    rintro e w' ⟨rfl, ho⟩
    have HO2 := Lib.hid ho.drop
    clear ho c0 c1 c2
    go_wp2
    go_ret
    exact ⟨by rw [HE.out]; rfl, HO2.out⟩
  have hw := rightB_what hr
  obtain ⟨s, hs⟩ : ∃ s, s = saidAt l x.2.2 := ⟨_, rfl⟩
  obtain ⟨a, b, d⟩ := x
  simp only at hw hs c0 c1 c2
  rcases hw with rfl | rfl | rfl
  · have hE : evErr l (a, 1, d) = 0 := by unfold evErr; rw [if_neg (by rw [hr]; simp), if_neg (by simp), if_neg (by simp), if_neg (by simp)]
    unfold evV
    have HE := Lib.hid hE; have HS := Lib.hid hs
    clear hE hs
    go_enter Try.func24, Try.ntmps24
    go_upto_region 1 with fail
    rw [← hb_b1, ← hw_w1]
    clear hb_b1 hw_w1
    go_wp2_with fail
    refine (right_any (a, 1, d) HO.out).mono ?_
    rintro e w2 ⟨rfl, ho⟩
    rw [hr]
    obtain ⟨c0, c1, c2⟩ := ho.ev
    simp only at c0 c1 c2
    have HO2 := Lib.hid ho
    clear ho
    go_wp2_with fail
    refine (said_any d _ l HO2.out HLM.out).mono ?_
    rintro e w3 ⟨rfl, ho⟩
    rw [← HS.out]
    obtain ⟨c0, c1, c2⟩ := ho.ev
    simp only at c0 c1 c2
    have HO3 := Lib.hid ho
    clear ho
    go_wp2_with fail
    go_quiet (fail)
    go_wp2
    go_ret
    exact ⟨by rw [HE.out]; rfl, (HO3.out.drewN _).drop⟩
  · by_cases h0 : 0 ≤ s
    · have hE : evErr l (a, 2, d) = 7 := by unfold evErr; rw [if_neg (by rw [hr]; simp), if_pos (.inl ⟨rfl, by rw [← hs]; exact h0⟩)]
      have t1 : decide ((0 : Int) ≤ s) = true := by simpa using h0
      unfold evV
      have HE := Lib.hid hE; have HS := Lib.hid hs; have H0 := Lib.hid h0
      clear hE hs h0
      go_enter Try.func24, Try.ntmps24
      go_upto_region 1 with fail
      rw [← hb_b1, ← hw_w1]
      clear hb_b1 hw_w1
      go_wp2_with fail
      refine (right_any (a, 2, d) HO.out).mono ?_
      rintro e w2 ⟨rfl, ho⟩
      rw [hr]
      obtain ⟨c0, c1, c2⟩ := ho.ev
      simp only at c0 c1 c2
      have HO2 := Lib.hid ho
      clear ho
      go_wp2_with fail
      refine (said_any d _ l HO2.out HLM.out).mono ?_
      rintro e w3 ⟨rfl, ho⟩
      rw [← HS.out]
      obtain ⟨c0, c1, c2⟩ := ho.ev
      simp only at c0 c1 c2
      have HO3 := Lib.hid ho
      clear ho
      go_wp2
      go_ret
      exact ⟨by rw [HE.out]; rfl, HO3.out.drop⟩
    · have hE : evErr l (a, 2, d) = 0 := by unfold evErr; rw [if_neg (by rw [hr]; simp), if_neg (by simp [← hs]; omega), if_neg (by simp), if_neg (by simp)]
      have t1 : decide ((0 : Int) ≤ s) = false := by simpa using h0
      unfold evV
      have HE := Lib.hid hE; have HS := Lib.hid hs; have H0 := Lib.hid h0
      clear hE hs h0
      go_enter Try.func24, Try.ntmps24
      go_upto_region 1 with fail
      rw [← hb_b1, ← hw_w1]
      clear hb_b1 hw_w1
      go_wp2_with fail
      refine (right_any (a, 2, d) HO.out).mono ?_
      rintro e w2 ⟨rfl, ho⟩
      rw [hr]
      obtain ⟨c0, c1, c2⟩ := ho.ev
      simp only at c0 c1 c2
      have HO2 := Lib.hid ho
      clear ho
      go_wp2_with fail
      refine (said_any d _ l HO2.out HLM.out).mono ?_
      rintro e w3 ⟨rfl, ho⟩
      rw [← HS.out]
      obtain ⟨c0, c1, c2⟩ := ho.ev
      simp only at c0 c1 c2
      have HO3 := Lib.hid ho
      clear ho
      go_wp2_with fail
      go_quiet (fail)
      go_wp2
      go_ret
      exact ⟨by rw [HE.out]; rfl, (HO3.out.drewN _).drop⟩
  · by_cases hin : ((a, 3, d) : Ev) ∈ l
    · have hE : evErr l (a, 3, d) = 7 := by unfold evErr; rw [if_neg (by rw [hr]; simp), if_pos (.inr ⟨rfl, hin⟩)]
      have t1 : decide (((a, 3, d) : Ev) ∈ l) = true := by simpa using hin
      unfold evV
      have HE := Lib.hid hE; have HS := Lib.hid hs; have HIN := Lib.hid hin
      clear hE hs hin
      go_enter Try.func24, Try.ntmps24
      go_upto_region 1 with fail
      rw [← hb_b1, ← hw_w1]
      clear hb_b1 hw_w1
      go_wp2_with fail
      refine (right_any (a, 3, d) HO.out).mono ?_
      rintro e w2 ⟨rfl, ho⟩
      rw [hr]
      obtain ⟨c0, c1, c2⟩ := ho.ev
      simp only at c0 c1 c2
      have HO2 := Lib.hid ho
      clear ho
      go_wp2_with fail
      refine (said_any d _ l HO2.out HLM.out).mono ?_
      rintro e w3 ⟨rfl, ho⟩
      rw [← HS.out]
      obtain ⟨c0, c1, c2⟩ := ho.ev
      simp only at c0 c1 c2
      have HO3 := Lib.hid ho
      clear ho
      go_wp2_with fail
      refine (evContains_any (a, 3, d) _ l HO3.out HLM.out).mono ?_
      rintro e w4 ⟨rfl, ho⟩
      rw [t1]
      have HO4 := Lib.hid ho.drop
      clear ho
      go_wp2
      go_ret
      exact ⟨by rw [HE.out]; rfl, HO4.out⟩
    have t1 : decide (((a, 3, d) : Ev) ∈ l) = false := by simpa using hin
    rcases whereI_cases (saysB d) l with ⟨h1, _⟩ | ⟨k, hk, h1, _, _⟩
    · have hE : evErr l (a, 3, d) = 5 := by unfold evErr; rw [if_neg (by rw [hr]; simp), if_neg (by simp [hin]), if_pos ⟨rfl, by show saidAt l d < 0; unfold saidAt; omega⟩]
      have hs1 : s = -1 := by rw [hs]; exact h1
      subst hs1
      unfold evV
      have HE := Lib.hid hE; have HS := Lib.hid hs; have HIN := Lib.hid hin; have H1 := Lib.hid h1
      clear hE hs hin h1
      go_enter Try.func24, Try.ntmps24
      go_upto_region 1 with fail
      rw [← hb_b1, ← hw_w1]
      clear hb_b1 hw_w1
      go_wp2_with fail
      refine (right_any (a, 3, d) HO.out).mono ?_
      rintro e w2 ⟨rfl, ho⟩
      rw [hr]
      obtain ⟨c0, c1, c2⟩ := ho.ev
      simp only at c0 c1 c2
      have HO2 := Lib.hid ho
      clear ho
      go_wp2_with fail
      refine (said_any d _ l HO2.out HLM.out).mono ?_
      rintro e w3 ⟨rfl, ho⟩
      rw [← HS.out]
      obtain ⟨c0, c1, c2⟩ := ho.ev
      simp only at c0 c1 c2
      have HO3 := Lib.hid ho
      clear ho
      go_wp2_with fail
      refine (evContains_any (a, 3, d) _ l HO3.out HLM.out).mono ?_
      rintro e w4 ⟨rfl, ho⟩
      rw [t1]
      obtain ⟨c0, c1, c2⟩ := ho.ev
      simp only at c0 c1 c2
      have HO4 := Lib.hid ho
      clear ho
      go_wp2
      go_ret
      exact ⟨by rw [HE.out]; rfl, HO4.out.drop⟩
    · have hsk : s = (k : Int) := by rw [hs]; exact h1
      obtain ⟨q, hq⟩ : ∃ q, q = (evAt l k).1 := ⟨_, rfl⟩
      have hE : evErr l (a, 3, d) = if q = a then 3 else 0 := by
        unfold evErr
        rw [if_neg (by rw [hr]; simp), if_neg (by simp [hin]), if_neg (by simp [show saidAt l d = (k : Int) from h1]), show saidAt l d = (k : Int) from h1]
        simp [hq]
      subst hsk
      obtain ⟨aa, eb, eo, es, rfl, hea, hcs, hgd⟩ := HL.out.at HO.out.drop k hk
      rw [← hq] at hcs
      unfold evV
      have HE := Lib.hid hE; have HS := Lib.hid hs; have HIN := Lib.hid hin; have H1 := Lib.hid h1; have HCS := Lib.hid hcs; have HGD := Lib.hid hgd; have HQ := Lib.hid hq
      clear hE hs hin h1 hcs hgd hq
      go_enter Try.func24, Try.ntmps24
      go_upto_region 1 with fail
      rw [← hb_b1, ← hw_w1]
      clear hb_b1 hw_w1
      go_wp2_with fail
      refine (right_any (a, 3, d) HO.out).mono ?_
      rintro e w2 ⟨rfl, ho⟩
      rw [hr]
      obtain ⟨c0, c1, c2⟩ := ho.ev
      simp only at c0 c1 c2
      have HO2 := Lib.hid ho
      clear ho
      go_wp2_with fail
      refine (said_any d _ l HO2.out HLM.out).mono ?_
      rintro e w3 ⟨rfl, ho⟩
      rw [← HS.out]
      obtain ⟨c0, c1, c2⟩ := ho.ev
      simp only at c0 c1 c2
      have HO3 := Lib.hid ho
      clear ho
      go_wp2_with fail
      refine (evContains_any (a, 3, d) _ l HO3.out HLM.out).mono ?_
      rintro e w4 ⟨rfl, ho⟩
      rw [t1]
      obtain ⟨c0, c1, c2⟩ := ho.ev
      simp only at c0 c1 c2
      obtain ⟨d0, _, _⟩ := HCS.out _ ho.drop
      have HO4 := Lib.hid ho
      clear ho
      by_cases hqa : q = a
      · have t2 : (q == a) = true := by simpa using hqa
        have hE2 : evErr l (a, 3, d) = 3 := by rw [HE.out, if_pos hqa]
        have HQA := Lib.hid hqa; have HE2 := Lib.hid hE2
        clear hqa hE2
        go_wp2_with fail
        go_quiet (fail)
        go_wp2
        go_ret
        exact ⟨by rw [HE2.out]; rfl, (HO4.out.drewN _).drop⟩
      · have t2 : (q == a) = false := by simpa using hqa
        have hE2 : evErr l (a, 3, d) = 0 := by rw [HE.out, if_neg hqa]
        have HQA := Lib.hid hqa; have HE2 := Lib.hid hE2
        clear hqa hE2
        go_wp2_with fail
        go_quiet (fail)
        go_wp2
        go_ret
        exact ⟨by rw [HE2.out]; rfl, (HO4.out.drewN _).drop⟩
end Go.Proofs.Ytddbjcpfgjcmnaa
