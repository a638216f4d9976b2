/- Contracts of package history, continued: search for an event, what is wrong with one, with a history. -/
import Derived.Test.YtgjjilehpgnjhaaDoorMHistoryTells2
namespace Go.Proofs.YtgjjilehpgnjhaaDoor
set_option linter.unusedVariables false
set_option linter.unusedSimpArgs false
open Go.RowKit
set_option maxRecDepth 100000 in
set_option maxHeartbeats 4000000 in
theorem evIndex_any {w0 w : World} {R : HProp} (x : Ev) (v : Value) (l : List Ev) (h : Own w0 R w) (hl : ReadsE w0 R v l) :
    Calls Tryd.prog 87 #[v, evV x] w fun e w' => e = .returned (.int .i64 (whereI (fun y => decide (x = y)) l)) ∧ Own w0 R w' := by
  obtain ⟨ad, cap, rfl, hlc, hcap⟩ := (hl _ h).shape
  obtain ⟨a, b, d⟩ := x
  unfold evV
  obtain ⟨b1, hb_b1⟩ : ∃ zz_, zz_ = (w).heap.size := ⟨_, rfl⟩
  obtain ⟨w1, hw_w1⟩ : ∃ zz_, zz_ = (w).alloc (.cells #[.int .i64 a, .int .i64 b, .int .i64 d] 28 (0, 0)) := ⟨_, rfl⟩
  have h_HO1 := (h).alloc (.cells #[.int .i64 a, .int .i64 b, .int .i64 d] 28 (0, 0))
  rw [← hb_b1, ← hw_w1] at h_HO1
  have HO1 := Lib.hid h_HO1
  clear h_HO1
  have H := Lib.hid h; have HL := Lib.hid hl
  clear h hl
  go_enter Tryd.func87, Tryd.ntmps87
  go_upto_region 1 with fail
  rw [← hb_b1, ← hw_w1]
  clear hb_b1 hw_w1
  go_wp2_with fail
  go_loopw [8] (fun i wr => ∃ k : Nat, k ≤ l.length ∧ i = .int .i64 k ∧ Hid (Own w0 (EvO b1 (a, b, d) * R) wr) ∧ Hid (∀ j (_ : j < k) (h : j < l.length), decide ((a, b, d) = l[j]) = false)) (fun i _ => l.length - (intOf i).toNat)
  case atStart => exact ⟨0, Nat.zero_le _, rfl, HO1, Lib.hid (fun j h => by omega)⟩
  case round =>
    obtain ⟨k, hk, rfl, HO, hp⟩ := hrel
    by_cases hlt : k < l.length
    rotate_left
    · have hm : whereI (fun y => decide ((a, b, d) = y)) l = -1 := whereI_miss _ l (fun j h => hp.out j (by omega) h)
      have HM := Lib.hid hm
      clear hm
      go_wp2
      go_ret
      exact ⟨by rw [HM.out]; rfl, HO.out.drop⟩
    obtain ⟨aa, eb, eo, es, rfl, hea, hcs, hgd⟩ := HL.out.at HO.out.drop k hlt
    obtain ⟨x, hx⟩ : ∃ x, x = evAt l k := ⟨_, rfl⟩
    rw [← hx] at hcs
    have hxk : x = l[k] := by rw [hx]; unfold evAt; rw [List.getD_eq_getElem?_getD, List.getElem?_eq_getElem hlt]; rfl
    obtain ⟨p, q, r⟩ := x
    obtain ⟨c0, c1, c2⟩ := hcs _ HO.out.drop
    obtain ⟨d0, d1, d2⟩ := HO.out.ev
    simp only at c0 c1 c2 d0 d1 d2
    have HCS := Lib.hid hcs; have HX := Lib.hid hx; have HGD := Lib.hid hgd
    clear hcs hx hgd
    by_cases hs : a = p ∧ b = q ∧ d = r
    · obtain ⟨rfl, rfl, rfl⟩ := hs
      have hm : whereI (fun y => decide ((a, b, d) = y)) l = k := whereI_hit _ l k hlt (fun j h => hp.out j h (by omega)) (by rw [← hxk]; simp)
      have HM := Lib.hid hm; have HXK := Lib.hid hxk
      clear hm hxk
      go_wp2_with fail
      go_quiet (fail)
      go_wp2_with fail
      go_ret
      exact ⟨by rw [HM.out]; rfl, (HO.out.drewN _).drop⟩
    have hne : ((a, b, d) : Ev) ≠ (p, q, r) := by simpa using hs
    have hn : ∀ j (_ : j < k + 1) (h : j < l.length), decide ((a, b, d) = l[j]) = false := fun j h1 h2 => by
      by_cases e : j = k
      · subst e; rw [← hxk]; simpa using hs
      · exact hp.out j (by omega) h2
    have HN := Lib.hid hn; have HXK := Lib.hid hxk; have HNE := Lib.hid hne
    clear hn hxk hne
    by_cases h1 : a = p
    · subst h1
      by_cases h2 : b = q
      · subst h2
        have h3 : (d == r) = false := by
          rw [beq_eq_false_iff_ne]; rintro rfl; exact hs ⟨rfl, rfl, rfl⟩
        clear hs
        go_wp2_with fail
        go_quiet (fail)
        have HO2 := Lib.hid (HO.out.drewN nq)
        go_wp2_with fail
        go_round
        case rel => exact ⟨k + 1, by omega, by go_num, HO2, HN⟩
        case measure => simp [intOf]; omega
      · have h3 : (b == q) = false := by simpa using h2
        clear hs
        have H2 := Lib.hid h2
        clear h2
        go_wp2_with fail
        go_quiet (fail)
        have HO2 := Lib.hid (HO.out.drewN nq)
        go_wp2_with fail
        go_round
        case rel => exact ⟨k + 1, by omega, by go_num, HO2, HN⟩
        case measure => simp [intOf]; omega
    · have h3 : (a == p) = false := by simpa using h1
      clear hs
      have H1 := Lib.hid h1
      clear h1
      go_wp2_with fail
      go_quiet (fail)
      have HO2 := Lib.hid (HO.out.drewN nq)
      go_wp2_with fail
      go_round
      case rel => exact ⟨k + 1, by omega, by go_num, HO2, HN⟩
      case measure => simp [intOf]; omega
set_option maxRecDepth 100000 in
set_option maxHeartbeats 4000000 in
theorem evContains_any {w0 w : World} {R : HProp} (x : Ev) (v : Value) (l : List Ev) (h : Own w0 R w) (hl : ReadsE w0 R v l) :
    Calls Tryd.prog 63 #[v, evV x] w fun e w' => e = .returned (.bool (decide (x ∈ l))) ∧ Own w0 R w' := by
  have hw := whereI_any (fun y => decide (x = y)) l
  have h2 : (l.any fun n => decide (x = n)) = decide (x ∈ l) := by
    rw [Bool.eq_iff_iff]; simp
  rw [h2] at hw
  have hd : decide ((0 : Int) ≤ whereI (fun y => decide (x = y)) l) = decide (x ∈ l) := by
    rw [Bool.eq_iff_iff]; simpa using hw
  obtain ⟨q, hq⟩ : ∃ q, q = whereI (fun y => decide (x = y)) l := ⟨_, rfl⟩
  rw [← hq] at hd
  obtain ⟨y, hy⟩ : ∃ y, y = x := ⟨_, rfl⟩
  have h' := evIndex_any (w := w.alloc (.cells #[.int .i64 x.1, .int .i64 x.2.1, .int .i64 x.2.2] 28 (0, 0))) x v l (h.alloc _) hl.more
  rw [← hq] at h'
  obtain ⟨a, b, d⟩ := x
  unfold evV at h' ⊢
  obtain ⟨b1, hb_b1⟩ : ∃ zz_, zz_ = (w).heap.size := ⟨_, rfl⟩
  obtain ⟨w1, hw_w1⟩ : ∃ zz_, zz_ = (w).alloc (.cells #[.int .i64 a, .int .i64 b, .int .i64 d] 28 (0, 0)) := ⟨_, rfl⟩
  have h_HO1 := (h).alloc (.cells #[.int .i64 a, .int .i64 b, .int .i64 d] 28 (0, 0))
  rw [← hb_b1, ← hw_w1] at h_HO1
  have HO1 := Lib.hid h_HO1
  clear h_HO1
  rw [← hb_b1, ← hw_w1] at h'
  obtain ⟨c0, c1, c2⟩ := (show Own w0 (EvO b1 (a, b, d) * R) w1 from HO1.out).ev
  simp only at c0 c1 c2
  have H := Lib.hid h; have HL := Lib.hid hl; have HW := Lib.hid hw; have H2 := Lib.hid h2; have HQ := Lib.hid hq; have HY := Lib.hid hy; have H' := Lib.hid h'
  clear h hl hw h2 hq hy h'
  go_enter Tryd.func63, Tryd.ntmps63
  go_upto_region 1 with fail
  rw [← hb_b1, ← hw_w1]
  clear hb_b1 hw_w1
  go_wp2_with fail
  refine (H'.out).mono ?_
  rintro e w' ⟨rfl, ho⟩
  have HO2 := Lib.hid ho.drop
  clear ho c0 c1 c2
  go_wp2
  go_ret
  exact ⟨by rw [← hd]; rfl, HO2.out⟩
theorem evErr_right {l : List Ev} {x : Ev} (h : rightB x = false) : evErr l x = 1 := by unfold evErr; rw [if_pos h]
theorem rightB_what {x : Ev} (h : rightB x = true) : x.2.1 = 1 ∨ x.2.1 = 2 ∨ x.2.1 = 3 := by
  unfold rightB at h
  by_cases h1 : x.2.1 = 1
  · exact .inl h1
  · simp [h1] at h; exact .inr h.2.1
set_option maxRecDepth 100000 in
set_option maxHeartbeats 4000000 in
theorem evCheck_any {w0 w : World} {R : HProp} (x : Ev) (v : Value) (l : List Ev) (h : Own w0 R w) (hl : ReadsE w0 R v l) :
    Calls Tryd.prog 41 #[v, evV x] w fun e w' => e = .returned (errV (evErr l x)) ∧ Own w0 R w' := by
  obtain ⟨ad, cap, rfl, hlc, hcap⟩ := (hl _ h).shape
  obtain ⟨b1, hb_b1⟩ : ∃ zz_, zz_ = (w).heap.size := ⟨_, rfl⟩
  obtain ⟨w1, hw_w1⟩ : ∃ zz_, zz_ = (w).alloc (.cells #[.int .i64 x.1, .int .i64 x.2.1, .int .i64 x.2.2] 28 (0, 0)) := ⟨_, rfl⟩
  have h_HO1 := (h).alloc (.cells #[.int .i64 x.1, .int .i64 x.2.1, .int .i64 x.2.2] 28 (0, 0))
  rw [← hb_b1, ← hw_w1] at h_HO1
  have HO1 := Lib.hid h_HO1
  clear h_HO1
  have HO : Hid (Own w0 (EvO b1 x * R) w1) := HO1
  have HLM : Hid (ReadsE w0 (EvO b1 x * R) (.slice ad l.length cap) l) := Lib.hid hl.more
  have H := Lib.hid h; have HL := Lib.hid hl
  clear h hl
  clear HO1
  obtain ⟨c0, c1, c2⟩ := HO.out.ev
  cases hr : rightB x
  · have hE : evErr l x = 1 := evErr_right hr
    obtain ⟨a, b, d⟩ := x
    have hr_ := right_any (w0 := w0) (w := w1) (R := EvO b1 (a, b, d) * R) (a, b, d) HO.out
    unfold evV at hr_ ⊢
    simp only at c0 c1 c2
    rw [hr] at hr_
    have HE := Lib.hid hE; have HR := Lib.hid hr; have HR_ := Lib.hid hr_
    clear hE hr hr_
    go_enter Tryd.func41, Tryd.ntmps41
    go_upto_region 1 with fail
    rw [← hb_b1, ← hw_w1]
    clear hb_b1 hw_w1
    go_wp2_with fail
    refine (HR_.out).mono ?_
    rintro e w' ⟨rfl, ho⟩
    have HO2 := Lib.hid ho.drop
    clear ho c0 c1 c2
    go_wp2
    go_ret
    exact ⟨by rw [HE.out]; rfl, HO2.out⟩
  have hw := rightB_what hr
  obtain ⟨s, hs⟩ : ∃ s, s = saidAt l x.2.2 := ⟨_, rfl⟩
  obtain ⟨a, b, d⟩ := x
  simp only at hw hs c0 c1 c2
  rcases hw with rfl | rfl | rfl
  · have hE : evErr l (a, 1, d) = 0 := by unfold evErr; rw [if_neg (by rw [hr]; simp), if_neg (by simp), if_neg (by simp), if_neg (by simp)]
    unfold evV
    have HE := Lib.hid hE; have HS := Lib.hid hs
    clear hE hs
    go_enter Tryd.func41, Tryd.ntmps41
    go_upto_region 1 with fail
    rw [← hb_b1, ← hw_w1]
    clear hb_b1 hw_w1
    go_wp2_with fail
    refine (right_any (a, 1, d) HO.out).mono ?_
    rintro e w2 ⟨rfl, ho⟩
    rw [hr]
    obtain ⟨c0, c1, c2⟩ := ho.ev
    simp only at c0 c1 c2
    have HO2 := Lib.hid ho
    clear ho
    go_wp2_with fail
    refine (said_any d _ l HO2.out HLM.out).mono ?_
    rintro e w3 ⟨rfl, ho⟩
    rw [← HS.out]
    obtain ⟨c0, c1, c2⟩ := ho.ev
    simp only at c0 c1 c2
    have HO3 := Lib.hid ho
    clear ho
    go_wp2_with fail
    go_quiet (fail)
    go_wp2
    go_ret
    exact ⟨by rw [HE.out]; rfl, (HO3.out.drewN _).drop⟩
  · by_cases h0 : 0 ≤ s
    · have hE : evErr l (a, 2, d) = 7 := by unfold evErr; rw [if_neg (by rw [hr]; simp), if_pos (.inl ⟨rfl, by rw [← hs]; exact h0⟩)]
      have t1 : decide ((0 : Int) ≤ s) = true := by simpa using h0
      unfold evV
      have HE := Lib.hid hE; have HS := Lib.hid hs; have H0 := Lib.hid h0
      clear hE hs h0
      go_enter Tryd.func41, Tryd.ntmps41
      go_upto_region 1 with fail
      rw [← hb_b1, ← hw_w1]
      clear hb_b1 hw_w1
      go_wp2_with fail
      refine (right_any (a, 2, d) HO.out).mono ?_
      rintro e w2 ⟨rfl, ho⟩
      rw [hr]
      obtain ⟨c0, c1, c2⟩ := ho.ev
      simp only at c0 c1 c2
      have HO2 := Lib.hid ho
      clear ho
      go_wp2_with fail
      refine (said_any d _ l HO2.out HLM.out).mono ?_
      rintro e w3 ⟨rfl, ho⟩
      rw [← HS.out]
      obtain ⟨c0, c1, c2⟩ := ho.ev
      simp only at c0 c1 c2
      have HO3 := Lib.hid ho
      clear ho
      go_wp2
      go_ret
      exact ⟨by rw [HE.out]; rfl, HO3.out.drop⟩
    · have hE : evErr l (a, 2, d) = 0 := by unfold evErr; rw [if_neg (by rw [hr]; simp), if_neg (by simp [← hs]; omega), if_neg (by simp), if_neg (by simp)]
      have t1 : decide ((0 : Int) ≤ s) = false := by simpa using h0
      unfold evV
      have HE := Lib.hid hE; have HS := Lib.hid hs; have H0 := Lib.hid h0
      clear hE hs h0
      go_enter Tryd.func41, Tryd.ntmps41
      go_upto_region 1 with fail
      rw [← hb_b1, ← hw_w1]
      clear hb_b1 hw_w1
      go_wp2_with fail
      refine (right_any (a, 2, d) HO.out).mono ?_
      rintro e w2 ⟨rfl, ho⟩
      rw [hr]
      obtain ⟨c0, c1, c2⟩ := ho.ev
      simp only at c0 c1 c2
      have HO2 := Lib.hid ho
      clear ho
      go_wp2_with fail
      refine (said_any d _ l HO2.out HLM.out).mono ?_
      rintro e w3 ⟨rfl, ho⟩
      rw [← HS.out]
      obtain ⟨c0, c1, c2⟩ := ho.ev
      simp only at c0 c1 c2
      have HO3 := Lib.hid ho
      clear ho
      go_wp2_with fail
      go_quiet (fail)
      go_wp2
      go_ret
      exact ⟨by rw [HE.out]; rfl, (HO3.out.drewN _).drop⟩
  · by_cases hin : ((a, 3, d) : Ev) ∈ l
    · have hE : evErr l (a, 3, d) = 7 := by unfold evErr; rw [if_neg (by rw [hr]; simp), if_pos (.inr ⟨rfl, hin⟩)]
      have t1 : decide (((a, 3, d) : Ev) ∈ l) = true := by simpa using hin
      unfold evV
      have HE := Lib.hid hE; have HS := Lib.hid hs; have HIN := Lib.hid hin
      clear hE hs hin
      go_enter Tryd.func41, Tryd.ntmps41
      go_upto_region 1 with fail
      rw [← hb_b1, ← hw_w1]
      clear hb_b1 hw_w1
      go_wp2_with fail
      refine (right_any (a, 3, d) HO.out).mono ?_
      rintro e w2 ⟨rfl, ho⟩
      rw [hr]
      obtain ⟨c0, c1, c2⟩ := ho.ev
      simp only at c0 c1 c2
      have HO2 := Lib.hid ho
      clear ho
      go_wp2_with fail
      refine (said_any d _ l HO2.out HLM.out).mono ?_
      rintro e w3 ⟨rfl, ho⟩
      rw [← HS.out]
      obtain ⟨c0, c1, c2⟩ := ho.ev
      simp only at c0 c1 c2
      have HO3 := Lib.hid ho
      clear ho
      go_wp2_with fail
      refine (evContains_any (a, 3, d) _ l HO3.out HLM.out).mono ?_
      rintro e w4 ⟨rfl, ho⟩
      rw [t1]
      have HO4 := Lib.hid ho.drop
      clear ho
      go_wp2
      go_ret
      exact ⟨by rw [HE.out]; rfl, HO4.out⟩
    have t1 : decide (((a, 3, d) : Ev) ∈ l) = false := by simpa using hin
    rcases whereI_cases (saysB d) l with ⟨h1, _⟩ | ⟨k, hk, h1, _, _⟩
    · have hE : evErr l (a, 3, d) = 5 := by unfold evErr; rw [if_neg (by rw [hr]; simp), if_neg (by simp [hin]), if_pos ⟨rfl, by show saidAt l d < 0; unfold saidAt; omega⟩]
      have hs1 : s = -1 := by rw [hs]; exact h1
      subst hs1
      unfold evV
      have HE := Lib.hid hE; have HS := Lib.hid hs; have HIN := Lib.hid hin; have H1 := Lib.hid h1
      clear hE hs hin h1
      go_enter Tryd.func41, Tryd.ntmps41
      go_upto_region 1 with fail
      rw [← hb_b1, ← hw_w1]
      clear hb_b1 hw_w1
      go_wp2_with fail
      refine (right_any (a, 3, d) HO.out).mono ?_
      rintro e w2 ⟨rfl, ho⟩
      rw [hr]
      obtain ⟨c0, c1, c2⟩ := ho.ev
      simp only at c0 c1 c2
      have HO2 := Lib.hid ho
      clear ho
      go_wp2_with fail
      refine (said_any d _ l HO2.out HLM.out).mono ?_
      rintro e w3 ⟨rfl, ho⟩
      rw [← HS.out]
      obtain ⟨c0, c1, c2⟩ := ho.ev
      simp only at c0 c1 c2
      have HO3 := Lib.hid ho
      clear ho
      go_wp2_with fail
      refine (evContains_any (a, 3, d) _ l HO3.out HLM.out).mono ?_
      rintro e w4 ⟨rfl, ho⟩
      rw [t1]
      obtain ⟨c0, c1, c2⟩ := ho.ev
      simp only at c0 c1 c2
      have HO4 := Lib.hid ho
      clear ho
      go_wp2
      go_ret
      exact ⟨by rw [HE.out]; rfl, HO4.out.drop⟩
    · have hsk : s = (k : Int) := by rw [hs]; exact h1
      obtain ⟨q, hq⟩ : ∃ q, q = (evAt l k).1 := ⟨_, rfl⟩
      have hE : evErr l (a, 3, d) = if q = a then 3 else 0 := by
        unfold evErr
        rw [if_neg (by rw [hr]; simp), if_neg (by simp [hin]), if_neg (by simp [show saidAt l d = (k : Int) from h1]), show saidAt l d = (k : Int) from h1]
        simp [hq]
      subst hsk
      obtain ⟨aa, eb, eo, es, rfl, hea, hcs, hgd⟩ := HL.out.at HO.out.drop k hk
      rw [← hq] at hcs
      unfold evV
      have HE := Lib.hid hE; have HS := Lib.hid hs; have HIN := Lib.hid hin; have H1 := Lib.hid h1; have HCS := Lib.hid hcs; have HGD := Lib.hid hgd; have HQ := Lib.hid hq
      clear hE hs hin h1 hcs hgd hq
      go_enter Tryd.func41, Tryd.ntmps41
      go_upto_region 1 with fail
      rw [← hb_b1, ← hw_w1]
      clear hb_b1 hw_w1
      go_wp2_with fail
      refine (right_any (a, 3, d) HO.out).mono ?_
      rintro e w2 ⟨rfl, ho⟩
      rw [hr]
      obtain ⟨c0, c1, c2⟩ := ho.ev
      simp only at c0 c1 c2
      have HO2 := Lib.hid ho
      clear ho
      go_wp2_with fail
      refine (said_any d _ l HO2.out HLM.out).mono ?_
      rintro e w3 ⟨rfl, ho⟩
      rw [← HS.out]
      obtain ⟨c0, c1, c2⟩ := ho.ev
      simp only at c0 c1 c2
      have HO3 := Lib.hid ho
      clear ho
      go_wp2_with fail
      refine (evContains_any (a, 3, d) _ l HO3.out HLM.out).mono ?_
      rintro e w4 ⟨rfl, ho⟩
      rw [t1]
      obtain ⟨c0, c1, c2⟩ := ho.ev
      simp only at c0 c1 c2
      obtain ⟨d0, _, _⟩ := HCS.out _ ho.drop
      have HO4 := Lib.hid ho
      clear ho
      by_cases hqa : q = a
      · have t2 : (q == a) = true := by simpa using hqa
        have hE2 : evErr l (a, 3, d) = 3 := by rw [HE.out, if_pos hqa]
        have HQA := Lib.hid hqa; have HE2 := Lib.hid hE2
        clear hqa hE2
        go_wp2_with fail
        go_quiet (fail)
        go_wp2
        go_ret
        exact ⟨by rw [HE2.out]; rfl, (HO4.out.drewN _).drop⟩
      · have t2 : (q == a) = false := by simpa using hqa
        have hE2 : evErr l (a, 3, d) = 0 := by rw [HE.out, if_neg hqa]
        have HQA := Lib.hid hqa; have HE2 := Lib.hid hE2
        clear hqa hE2
        go_wp2_with fail
        go_quiet (fail)
        go_wp2
        go_ret
        exact ⟨by rw [HE2.out]; rfl, (HO4.out.drewN _).drop⟩
end Go.Proofs.YtgjjilehpgnjhaaDoor
/- Contracts of package history, continued: what is wrong with a history. -/
namespace Go.Proofs.YtgjjilehpgnjhaaDoor
set_option linter.unusedVariables false
set_option linter.unusedSimpArgs false
open Go.RowKit
theorem histGo_cons (ahead : List Ev) (x : Ev) (r : List Ev) : histGo ahead (x :: r) = if evErr ahead x ≠ 0 then (ahead.length, evErr ahead x) else histGo (ahead ++ [x]) r := rfl
theorem histGo_step {l : List Ev} {k : Nat} (hk : k < l.length) : histGo (l.take k) (l.drop k) = if evErr (l.take k) (evAt l k) ≠ 0 then (k, evErr (l.take k) (evAt l k)) else histGo (l.take (k + 1)) (l.drop (k + 1)) := by
  have hev : evAt l k = l[k] := by unfold evAt; rw [List.getD_eq_getElem?_getD, List.getElem?_eq_getElem hk]; rfl
  rw [List.drop_eq_getElem_cons hk, hev, histGo_cons, show (l.take k).length = k by simp; omega, ← List.take_succ_eq_append_getElem hk]
theorem errV_ne {E : Nat} (h : E ≠ 0) : errV E = .iface 75 (.int .i64 (E : Int)) := by
  obtain ⟨k, rfl⟩ : ∃ k, E = k + 1 := ⟨E - 1, by omega⟩
  rfl
set_option maxRecDepth 100000 in
set_option maxHeartbeats 4000000 in
theorem hCheck_any {w0 w : World} {R : HProp} (v : Value) (l : List Ev) (h : Own w0 R w) (hl : ReadsE w0 R v l) :
    Calls Tryd.prog 10 #[v] w fun e w' => e = .returned (.tuple #[.int .i64 (histR l).1, errV (histR l).2]) ∧ Own w0 R w' := by
  obtain ⟨ad, cap, rfl, hlc, hcap⟩ := (hl _ h).shape
  by_cases hlen : 60 < l.length
  · have hr : histR l = (0, 4) := by unfold histR; rw [if_pos hlen]
    have t1 : decide ((60 : Int) < (l.length : Int)) = true := by simp; omega
    have H := Lib.hid h; have HL := Lib.hid hl; have HR := Lib.hid hr
    clear h hl hr
    go_enter Tryd.func10, Tryd.ntmps10
    go_wp2
    go_ret2
    exact ⟨by rw [HR.out]; rfl, H.out⟩
  have hr : histR l = histGo [] l := by unfold histR; rw [if_neg hlen]
  have t1 : decide ((60 : Int) < (l.length : Int)) = false := by simp; omega
  have H := Lib.hid h; have HL := Lib.hid hl; have HR := Lib.hid hr
  clear h hl hr
  go_enter Tryd.func10, Tryd.ntmps10
  go_wp2_with fail
  go_loopw [13] (fun i wr => ∃ k : Nat, k ≤ l.length ∧ i = .int .i64 k ∧ Hid (histGo (l.take k) (l.drop k) = histR l) ∧ Hid (Own w0 R wr)) (fun i _ => l.length - (intOf i).toNat)
  case atStart => exact ⟨0, Nat.zero_le _, rfl, Lib.hid HR.out.symm, H⟩
  case round =>
    obtain ⟨k, hk, rfl, hp, HO⟩ := hrel
    by_cases hlt : k < l.length
    rotate_left
    · have hfin : histR l = (0, 0) := by
        have := hp.out
        rw [List.drop_of_length_le (by omega)] at this
        rw [← this]; unfold histGo; rfl
      have HFIN := Lib.hid hfin
      clear hfin
      go_wp2
      go_ret2
      exact ⟨by rw [HFIN.out]; rfl, HO.out⟩
    obtain ⟨aa, eb, eo, es, rfl, hea, hcs, hgd⟩ := HL.out.at HO.out k hlt
    have hst := histGo_step hlt
    rw [hp.out] at hst
    obtain ⟨x, hx⟩ : ∃ x, x = evAt l k := ⟨_, rfl⟩
    rw [← hx] at hcs hst hgd
    obtain ⟨c0, c1, c2⟩ := hcs _ HO.out
    have hck := fun (w1 : World) (b1 : Nat) (ho : Own w0 (EvO b1 x * R) w1) => evCheck_any (w0 := w0) (w := w1) (R := EvO b1 x * R) x (.slice (some aa) k cap) (l.take k) ho (HL.out.front (by omega)).more
    obtain ⟨a, b, d⟩ := x
    unfold evV at hck
    obtain ⟨b1, hb_b1⟩ : ∃ zz_, zz_ = (wr).heap.size := ⟨_, rfl⟩
    obtain ⟨w1, hw_w1⟩ : ∃ zz_, zz_ = (wr).alloc (.cells #[.int .i64 a, .int .i64 b, .int .i64 d] 28 (0, 0)) := ⟨_, rfl⟩
    have h_HO1 := (HO.out).alloc (.cells #[.int .i64 a, .int .i64 b, .int .i64 d] 28 (0, 0))
    rw [← hb_b1, ← hw_w1] at h_HO1
    have HO1 := Lib.hid h_HO1
    clear h_HO1
    have HW1 : Hid (Own w0 (EvO b1 (a, b, d) * R) w1) := HO1
    obtain ⟨d0, d1, d2⟩ := HW1.out.ev
    simp only at c0 c1 c2 d0 d1 d2
    clear HO1
    obtain ⟨E, hE⟩ : ∃ E, E = evErr (l.take k) (a, b, d) := ⟨_, rfl⟩
    rw [← hE] at hst
    have HE_ := Lib.hid hE
    clear hE
    have HCS := Lib.hid hcs; have HX := Lib.hid hx; have HGD := Lib.hid hgd; have HCK := Lib.hid hck
    clear hcs hx hgd hck
    have hk0 : (0 : Int) ≤ (k : Int) := by omega
    have hkc : (k : Int) ≤ (cap : Int) := by omega
    have hkl : (k : Int) ≤ (l.length : Int) := by omega
    have hc0 : cap ≠ 0 := by omega
    by_cases he : E = 0
    rotate_left
    · have hee := errV_ne he
      rw [if_pos he] at hst
      have HE := Lib.hid he; have HST := Lib.hid hst; have HEE := Lib.hid hee
      clear he hst hee
      go_upto_region 6 with fail
      rw [← hb_b1, ← hw_w1]
      clear hb_b1 hw_w1
      clear c0 c1 c2
      refine wp_region_tail 4 (by kernel_rfl) (by kernel_rfl) ?_
      simp only [List.take_succ_cons, List.take_zero, List.drop_succ_cons, List.drop_zero]
      repeat still_step
      refine wpStill_nil ?_
      go_wp2_with fail
      refine (HCK.out _ _ HW1.out.drew).mono ?_
      rintro e w2 ⟨rfl, ho⟩
      rw [← HE_.out, HEE.out]
      have HO2 := Lib.hid ho.drop
      clear ho
      go_wp2
      go_ret2
      exact ⟨by rw [HST.out]; exact congrArg (fun z => Ending.returned (.tuple #[.int .i64 k, z])) HEE.out.symm, HO2.out⟩
    rw [if_neg (by simpa using he)] at hst
    have hee : errV E = .nilIface := by rw [he]; rfl
    have HE := Lib.hid he; have HST := Lib.hid hst; have HEE := Lib.hid hee
    clear he hst hee
    go_upto_region 6 with fail
    rw [← hb_b1, ← hw_w1]
    clear hb_b1 hw_w1
    clear c0 c1 c2
    refine wp_region_tail 4 (by kernel_rfl) (by kernel_rfl) ?_
    simp only [List.take_succ_cons, List.take_zero, List.drop_succ_cons, List.drop_zero]
    repeat still_step
    refine wpStill_nil ?_
    go_wp2_with fail
    refine (HCK.out _ _ HW1.out.drew).mono ?_
    rintro e w2 ⟨rfl, ho⟩
    rw [← HE_.out, HEE.out]
    have HO2 := Lib.hid ho.drop
    clear ho
    go_wp2
    go_round
    case rel => exact ⟨k + 1, by omega, by go_num, Lib.hid HST.out.symm, HO2⟩
    case measure => simp [intOf]; omega
set_option maxRecDepth 100000 in
set_option maxHeartbeats 4000000 in
theorem hRight_any {w0 w : World} {R : HProp} (v : Value) (l : List Ev) (h : Own w0 R w) (hl : ReadsE w0 R v l) :
    Calls Tryd.prog 43 #[v] w fun e w' => e = .returned (errV (histR l).2) ∧ Own w0 R w' := by
  obtain ⟨ad, cap, rfl, hlc, hcap⟩ := (hl _ h).shape
  have H := Lib.hid h; have HL := Lib.hid hl
  clear h hl
  go_enter Tryd.func43, Tryd.ntmps43
  go_wp2_with fail
  refine (hCheck_any _ l H.out HL.out).mono ?_
  rintro e w2 ⟨rfl, ho⟩
  obtain ⟨E, hE⟩ : ∃ E, E = (histR l).2 := ⟨_, rfl⟩
  obtain ⟨q, hq⟩ : ∃ q, q = (histR l).1 := ⟨_, rfl⟩
  rw [← hE, ← hq]
  have HO2 := Lib.hid ho
  have HE := Lib.hid hE; have HQ := Lib.hid hq
  clear hE hq
  clear ho
  go_wp2
  go_ret
  exact ⟨by rw [← HE.out]; rfl, HO2.out⟩
set_option maxRecDepth 100000 in
set_option maxHeartbeats 4000000 in
theorem fnIndex_any {w0 w : World} {R : HProp} (fid : FuncId) (c : Value) (p : Int → Bool) (v : Value) (l : List Int) (h : Own w0 R w) (hl : Reads w0 R v l) (hcf : ∀ a w, Sem.run Tryd.prog (callFunc fid a) w = .ok (.enter fid a) w) (hf : ∀ x w, Own w0 R w → Calls Tryd.prog fid #[.int .i64 x, c] w fun e w' => e = .returned (.bool (p x)) ∧ Own w0 R w') :
    Calls Tryd.prog 92 #[v, .func (.func fid) #[] #[c]] w fun e w' => e = .returned (.int .i64 (whereI p l)) ∧ Own w0 R w' := by
  obtain ⟨ad, cap, rfl, hlc, hcap⟩ := (hl _ h).shape
  have H := Lib.hid h; have HL := Lib.hid hl; have HF := Lib.hid hf; have HCF := Lib.hid hcf
  clear h hl hf hcf
  go_enter Tryd.func92, Tryd.ntmps92
  go_wp2_with fail
  go_loopw [8] (fun i wr => ∃ k : Nat, k ≤ l.length ∧ i = .int .i64 k ∧ Hid (Own w0 R wr) ∧ Hid (∀ j (_ : j < k) (h : j < l.length), p l[j] = false)) (fun i _ => l.length - (intOf i).toNat)
  case atStart => exact ⟨0, Nat.zero_le _, rfl, H, Lib.hid (fun j h => by omega)⟩
  case round =>
    obtain ⟨k, hk, rfl, HO, hp⟩ := hrel
    by_cases hlt : k < l.length
    rotate_left
    · have hm : whereI p l = -1 := whereI_miss _ l (fun j h => hp.out j (by omega) h)
      have HM := Lib.hid hm
      clear hm
      go_wp2
      go_ret
      exact ⟨by rw [HM.out]; rfl, HO.out⟩
    obtain ⟨aa, rfl, hca⟩ := (HL.out _ HO.out).at k hlt
    obtain ⟨x, hx⟩ : ∃ x, x = l[k] := ⟨_, rfl⟩
    rw [← hx] at hca
    cases hs : p x
    · have hn : ∀ j (_ : j < k + 1) (h : j < l.length), p l[j] = false := fun j h1 h2 => by
        by_cases e : j = k
        · subst e; rw [← hx]; exact hs
        · exact hp.out j (by omega) h2
      have HN := Lib.hid hn; have HX := Lib.hid hx
      clear hn hx
      go_wp2_with fail
      rw [HCF.out]
      go_wp2_with fail
      refine (HF.out x _ HO.out).mono ?_
      rintro e w' ⟨rfl, ho⟩
      rw [hs]
      have HO2 := Lib.hid ho
      clear ho hca
      go_wp2
      go_round
      case rel => exact ⟨k + 1, by omega, by go_num, HO2, HN⟩
      case measure => simp [intOf]; omega
    · have hm : whereI p l = k := whereI_hit _ l k hlt (fun j h => hp.out j h (by omega)) (by rw [← hx]; exact hs)
      have HM := Lib.hid hm; have HX := Lib.hid hx
      clear hm hx
      go_wp2_with fail
      rw [HCF.out]
      go_wp2_with fail
      refine (HF.out x _ HO.out).mono ?_
      rintro e w' ⟨rfl, ho⟩
      rw [hs]
      have HO2 := Lib.hid ho
      clear ho hca
      go_wp2
      go_ret
      exact ⟨by rw [HM.out]; rfl, HO2.out⟩
set_option maxRecDepth 100000 in
set_option maxHeartbeats 4000000 in
theorem fnContains_any {w0 w : World} {R : HProp} (fid : FuncId) (c : Value) (p : Int → Bool) (v : Value) (l : List Int) (h : Own w0 R w) (hl : Reads w0 R v l) (hcf : ∀ a w, Sem.run Tryd.prog (callFunc fid a) w = .ok (.enter fid a) w) (hf : ∀ x w, Own w0 R w → Calls Tryd.prog fid #[.int .i64 x, c] w fun e w' => e = .returned (.bool (p x)) ∧ Own w0 R w') :
    Calls Tryd.prog 65 #[v, .func (.func fid) #[] #[c]] w fun e w' => e = .returned (.bool (l.any p)) ∧ Own w0 R w' := by
  have hd : decide ((0 : Int) ≤ whereI p l) = l.any p := by rw [Bool.eq_iff_iff]; simpa using whereI_any p l
  have H := Lib.hid h; have HL := Lib.hid hl; have HF := Lib.hid hf; have HD := Lib.hid hd; have HCF := Lib.hid hcf
  clear h hl hf hd hcf
  go_enter Tryd.func65, Tryd.ntmps65
  go_wp2_with fail
  refine (fnIndex_any fid c p v l H.out HL.out HCF.out HF.out).mono ?_
  rintro e w' ⟨rfl, ho⟩
  have HO2 := Lib.hid ho
  clear ho
  go_wp2
  go_ret
  exact ⟨by rw [← HD.out]; rfl, HO2.out⟩
def insideB (n : Nat) (i : Int) : Bool := decide (i < 0) || decide ((n : Int) ≤ i)
set_option maxRecDepth 100000 in
set_option maxHeartbeats 4000000 in
theorem inside1_any {w0 w : World} {R : HProp} (b n cap : Nat) (ad : Option Addr) (i : Int) (h : Own w0 R w) (hc : w.cell? ⟨b, 0, none⟩ = some (.slice ad n cap)) :
    Calls Tryd.prog 66 #[.int .i64 i, .pointer (some ⟨b, 0, none⟩)] w fun e w' => e = .returned (.bool (insideB n i)) ∧ Own w0 R w' := by
  have H := Lib.hid h
  clear h
  by_cases h1 : i < 0
  · have t1 : decide (i < 0) = true := by simpa using h1
    have hi : insideB n i = true := by unfold insideB; simp [h1]
    have H1 := Lib.hid h1; have HI := Lib.hid hi
    clear h1 hi
    go_enter Tryd.func66, Tryd.ntmps66
    go_wp2
    go_ret
    exact ⟨by rw [HI.out]; rfl, H.out⟩
  · have t1 : decide (i < 0) = false := by simpa using h1
    have hi : insideB n i = decide ((n : Int) ≤ i) := by unfold insideB; simp [h1]
    have H1 := Lib.hid h1; have HI := Lib.hid hi
    clear h1 hi
    go_enter Tryd.func66, Tryd.ntmps66
    go_wp2
    go_ret
    exact ⟨by rw [HI.out]; rfl, H.out⟩
set_option maxRecDepth 100000 in
set_option maxHeartbeats 4000000 in
theorem inside_any {w0 w : World} {R : HProp} (v vl : Value) (hs : List Ev) (l : List Int) (h : Own w0 R w) (hv : ReadsE w0 R v hs) (hl : Reads w0 R vl l) :
    Calls Tryd.prog 44 #[v, vl] w fun e w' => e = .returned (.bool (!l.any (insideB hs.length))) ∧ Own w0 R w' := by
  obtain ⟨ad, cap, rfl, _, _⟩ := (hv _ h).shape
  obtain ⟨b1, hb_b1⟩ : ∃ zz_, zz_ = (w).heap.size := ⟨_, rfl⟩
  obtain ⟨w1, hw_w1⟩ : ∃ zz_, zz_ = (w).alloc (.cells #[.slice ad hs.length cap] 22 (0, 0)) := ⟨_, rfl⟩
  have h_HO := (h).alloc (.cells #[.slice ad hs.length cap] 22 (0, 0))
  rw [← hb_b1, ← hw_w1] at h_HO
  have HO := Lib.hid h_HO
  clear h_HO
  have hf : ∀ x w, Own w0 (blk b1 (.cells #[.slice ad hs.length cap] 22 (0, 0)) * R) w → Calls Tryd.prog 66 #[.int .i64 x, .pointer (some ⟨b1, 0, none⟩)] w fun e w' => e = .returned (.bool (insideB hs.length x)) ∧ Own w0 (blk b1 (.cells #[.slice ad hs.length cap] 22 (0, 0)) * R) w' :=
    fun x w ho => inside1_any b1 hs.length cap ad x ho ((Own.cell ho 0).trans rfl)
  have H := Lib.hid h; have HV := Lib.hid hv; have HL := Lib.hid hl; have HF := Lib.hid hf
  clear h hv hl hf
  go_enter Tryd.func44, Tryd.ntmps44
  go_upto_region 1 with fail
  rw [← hb_b1, ← hw_w1]
  clear hb_b1 hw_w1
  go_wp2_with fail
  refine (fnContains_any _ _ (insideB hs.length) vl l HO.out HL.out.more (fun a w => by kernel_rfl) HF.out).mono ?_
  rintro e w' ⟨rfl, ho⟩
  have HO2 := Lib.hid ho.drop
  clear ho
  go_wp2
  go_ret
  exact ⟨rfl, HO2.out⟩
end Go.Proofs.YtgjjilehpgnjhaaDoor
/- A law for a drawn region: some slots are moved first, the rest of the first n operations read, the others come in a given order. -/
namespace Go.Proofs.YtgjjilehpgnjhaaDoor
set_option linter.unusedVariables false
set_option linter.unusedSimpArgs false
open Go.RowKit
section
variable {P : Program} {ops : Array Oper} {md : Region.Mode}
structure HInv (md : Region.Mode) (ops : Array Oper) (n : Nat) (m : List Nat) (listed : Array Bool) : Prop where
  size : listed.size = ops.size
  closed : ∀ j oj, ops[j]? = some oj → listed.getD j false = true → ∀ e ∈ oj.after, Region.binds md e = true → listed.getD e.on false = true
  tail : ∀ t, n ≤ t → t < ops.size → t ∉ m → listed.getD t true = false
theorem HInv.set {n i : Nat} {m : List Nat} {listed : Array Bool} (inv : HInv md ops n m listed) (hi : i ∈ Region.ready md ops listed) (hin : i < n ∨ i ∈ m) : HInv md ops n m (listed.setIfInBounds i true) := by
  obtain ⟨_, oi, hoi, hall⟩ := mem_ready.1 hi
  refine ⟨by simp [inv.size], fun j oj hj hl e he hb => ?_, fun t ht ht' htm => by
    rw [getD_set_ne true (fun e => by
      subst e
      rcases hin with h | h
      · omega
      · exact htm h)]; exact inv.tail t ht ht' htm⟩
  by_cases hij : i = j
  · subst hij
    have : oj = oi := Option.some.inj (hj.symm.trans hoi)
    subst this
    exact getD_set_true (hall e he hb)
  · rw [getD_set_ne false hij] at hl
    exact getD_set_true (inv.closed j oj hj hl e he hb)
/-- Each operation behind n that is not moved first waits for one such from n on. -/
def linkX (md : Region.Mode) (ops : Array Oper) (n : Nat) (m : List Nat) : Bool :=
  !m.contains n && (List.range ops.size).all fun t => decide (t ≤ n) || m.contains t || (List.range t).any fun s => decide (n ≤ s) && !m.contains s && Region.waitsFor md ops t s
def sinkX (md : Region.Mode) (ops : Array Oper) (n : Nat) (m : List Nat) : Bool :=
  (List.range n).all fun i => m.contains i || (List.range (n + 1)).any fun j => decide (i < j) && Region.waitsFor md ops j i
theorem none_aheadX {n : Nat} {m : List Nat} {listed : Array Bool} (hs : sinkX md ops n m = true) (hl : linkX md ops n m = true) (inv : HInv md ops n m listed) (hm : ∀ i ∈ m, listed.getD i false = true) {i : Nat} (hi : i < n) (hun : listed.getD i true = false) :
    ∀ t, n ≤ t → t ∉ Region.ready md ops listed := by
  have key : ∀ (d i : Nat), n - i = d → i < n → listed.getD i true = false → n ∉ Region.ready md ops listed := by
    intro d
    induction d using Nat.strongRecOn with
    | _ d ih =>
      intro i hd hi hun hr
      have huni := getD_both hun
      obtain ⟨_, on, hon, hall⟩ := mem_ready.1 hr
      have h0 := List.all_eq_true.1 hs i (List.mem_range.2 hi)
      rw [Bool.or_eq_true] at h0
      rcases h0 with h0 | h0
      · have := hm i (by simpa using h0)
        rw [huni] at this; cases this
      obtain ⟨j, hj, hj2⟩ := List.any_eq_true.1 h0
      simp only [Bool.and_eq_true, decide_eq_true_eq] at hj2
      obtain ⟨oj, hoj, e, he, hb, heon⟩ := Region.waitsFor_spec hj2.2
      have hjn := List.mem_range.1 hj
      by_cases hjt : j = n
      · subst hjt
        rw [hoj] at hon; cases hon
        have := hall e he hb
        rw [heon, huni] at this; cases this
      · cases hlj : listed.getD j false with
        | true =>
          have := inv.closed j oj hoj hlj e he hb
          rw [heon, huni] at this; cases this
        | false => exact ih (n - j) (by omega) j rfl (by omega) (getD_in (by rw [inv.size]; exact (Array.getElem?_eq_some_iff.1 hoj).1) hlj) hr
  intro t ht hr
  rcases Nat.eq_or_lt_of_le ht with rfl | hlt
  · exact key _ i rfl hi hun hr
  · obtain ⟨_, ot, hot, hall⟩ := mem_ready.1 hr
    have htlt : t < ops.size := (Array.getElem?_eq_some_iff.1 hot).1
    have hl' := hl
    simp only [linkX, Bool.and_eq_true] at hl'
    have h1 := List.all_eq_true.1 hl'.2 t (List.mem_range.2 htlt)
    simp only [Bool.or_eq_true, decide_eq_true_eq] at h1
    rcases h1 with (h1 | h1) | h1
    · omega
    · have := hm t (by simpa using h1)
      obtain ⟨hrl, _⟩ := mem_ready.1 hr
      rw [getD_both hrl] at this; cases this
    · obtain ⟨s, hs1, hs2⟩ := List.any_eq_true.1 h1
      simp only [Bool.and_eq_true, decide_eq_true_eq] at hs2
      have hst := List.mem_range.1 hs1
      obtain ⟨o', ho', e, he, hb, heon⟩ := Region.waitsFor_spec hs2.2
      rw [hot] at ho'; cases ho'
      have := hall e he hb
      rw [heon, getD_both (inv.tail s hs2.1.1 (by omega) (by simpa using hs2.1.2))] at this
      cases this
theorem head_takeX {w : World} {n i : Nat} {m : List Nat} {oi : Oper} {v : Value} {L : Array Bool → Act → Prop} (hi : ops[i]? = some oi) (hsel : Region.noSelect ops = true)
    (hs : sinkX md ops n m = true) (hl : linkX md ops n m = true) (hin : i < n) (hdone : ∀ listed a, L listed a → ∀ j ∈ Region.ready md ops listed, n ≤ j) :
    ∀ (f : Nat) (listed : Array Bool) (a : Act), HInv md ops n m listed → (∀ i ∈ m, listed.getD i false = true) →
      (∀ j oj, ops[j]? = some oj → j ≠ i → listed.getD j true = false → (∀ e ∈ oj.after, Region.binds md e = true → e.on ≠ i) → oi.apart ops oj = true) →
      i ∈ Region.ready md ops listed → YieldsAt P ops w oi v a →
      wpAnyL P md ops w n L f (listed.setIfInBounds i true) (a.put oi.dst v) → wpAnyL P md ops w n L (f + 1) listed a := by
  have sel := Region.noSelect_spec hsel
  intro f
  induction f with
  | zero =>
    intro listed a inv hm _ hr hy H
    have hun := (mem_ready.1 hr).1
    refine ⟨List.ne_nil_of_mem hr, fun j hj => ?_⟩
    have hjn : j < n := Nat.lt_of_not_le fun h => none_aheadX hs hl inv hm hin hun j h hj
    by_cases hji : j = i
    · subst hji; exact ⟨hjn, hy.stOp hi H⟩
    · have := hdone _ _ H j (ready_mono hj hji)
      omega
  | succ f ih =>
    intro listed a inv hm hfree hr hy H
    have hun := (mem_ready.1 hr).1
    refine ⟨List.ne_nil_of_mem hr, fun j hj => ?_⟩
    have hjn : j < n := Nat.lt_of_not_le fun h => none_aheadX hs hl inv hm hin hun j h hj
    refine ⟨hjn, ?_⟩
    by_cases hji : j = i
    · subst hji; exact hy.stOp hi H
    obtain ⟨hjun, oj, hoj, hall⟩ := mem_ready.1 hj
    have hnot : ∀ e ∈ oj.after, Region.binds md e = true → e.on ≠ i := fun e he hb heq => by
      have h1 := hall e he hb
      rw [heq, getD_both hun] at h1
      cases h1
    have h2 := stOp_put hoj (hfree j oj hoj hji hjun hnot) (sel i oi · · hi) (sel j oj · · hoj) hy (H.2 j (ready_mono hj hji)).2
    refine stOp_mono (fun a' h3 => ih _ a' (inv.set hj (.inl hjn)) (fun k hk => getD_set_true (hm k hk)) (fun k ok hk hki hun' hno => hfree k ok hk hki ?_ hno) (ready_mono hr (Ne.symm hji)) h3.1 ?_) h2
    · by_cases hjk : j = k
      · subst hjk; exact hjun
      · rwa [getD_set_ne true hjk] at hun'
    · rw [Array.setIfInBounds_comm _ _ hji]
      exact h3.2
def headX (md : Region.Mode) (ops : Array Oper) (r : List Nat) (n : Nat) : List Nat → Array Bool → Bool
  | [], listed => (List.range n).all (fun i => listed.getD i false) && ordB md ops r listed
  | k :: l, listed => decide (k < n) && (Region.ready md ops listed).contains k && Region.free md ops listed k && headX md ops r n l (listed.setIfInBounds k true)
theorem getD_true_of {listed : Array Bool} {i : Nat} (h : listed.getD i false = true) : listed.getD i true = true := by
  rcases Nat.lt_or_ge i listed.size with h' | h'
  · simp [h'] at h ⊢; exact h
  · simp [Array.getElem?_eq_none h'] at h
theorem wpAnyL_planX {w : World} {n : Nat} {m r : List Nat} {Lq : Act → Prop} {L0 : List Oper} (hops : ops = L0.toArray) (hsel : Region.noSelect ops = true) (hs : sinkX md ops n m = true) (hl : linkX md ops n m = true) :
    ∀ (l : List Nat) (listed : Array Bool) (a : Act), HInv md ops n m listed → (∀ i ∈ m, listed.getD i false = true) →
    headX md ops r n l listed = true → wpStill P ops w Lq (pick L0 l) a →
    wpAnyL P md ops w n (fun listed' a' => ((∀ i < n, listed'.getD i true = true) ∧ ordB md ops r listed' = true) ∧ Lq a') l.length listed a
  | [], listed, a, _, _, hB, h => by
    simp only [headX, Bool.and_eq_true] at hB
    exact ⟨⟨fun i hi => getD_true_of (by simpa using List.all_eq_true.1 hB.1 i (List.mem_range.2 hi)), hB.2⟩, h⟩
  | k :: l, listed, a, inv, hm, hB, h => by
    simp only [headX, Bool.and_eq_true, decide_eq_true_eq] at hB
    obtain ⟨⟨⟨hkn, hr⟩, hf⟩, hB'⟩ := hB
    have hr' : k ∈ Region.ready md ops listed := by simpa using hr
    obtain ⟨_, o, h0, _⟩ := mem_ready.1 hr'
    have h0' : L0[k]? = some o := by rw [hops] at h0; simpa using h0
    simp only [pick, h0', Option.toList, List.cons_append, List.nil_append] at h
    have hst : stOp P ops w k (wpStill P ops w Lq (pick L0 l)) a := by unfold stOp; simp only [h0]; exact h
    obtain ⟨v, hy, hK⟩ := yieldsAt_of_stOp h0 hst
    refine head_takeX h0 hsel hs hl hkn (fun listed' a' hL => ordB_ready hL.1.2 hL.1.1) l.length listed a inv hm (Region.free_spec h0 hf) hr' hy ?_
    exact wpAnyL_planX hops hsel hs hl l _ _ (inv.set hr' (.inl hkn)) (fun i hi => getD_set_true (hm i hi)) hB' hK
/-- What is taken first, whatever the world. -/
def preX (md : Region.Mode) (ops : Array Oper) : List Nat → Array Bool → Option (Array Bool)
  | [], listed => some listed
  | k :: l, listed => if (Region.ready md ops listed).contains k && Region.free md ops listed k then preX md ops l (listed.setIfInBounds k true) else none
theorem preX_mono : ∀ (l : List Nat) (listed out : Array Bool), preX md ops l listed = some out → (∀ i, listed.getD i false = true → out.getD i false = true)
  | [], listed, out, h => by simp only [preX, Option.some.injEq] at h; subst h; exact fun _ h => h
  | k :: l, listed, out, h => by
    unfold preX at h
    split at h
    · exact fun i hi => preX_mono l _ out h i (getD_set_true hi)
    · cases h
theorem preX_inv {n : Nat} {m : List Nat} : ∀ (l : List Nat) (listed out : Array Bool), (∀ i ∈ l, i ∈ m) → HInv md ops n m listed → preX md ops l listed = some out → HInv md ops n m out ∧ (∀ i ∈ l, out.getD i false = true)
  | [], listed, out, _, inv, h => by simp only [preX, Option.some.injEq] at h; subst h; exact ⟨inv, fun i hi => by cases hi⟩
  | k :: l, listed, out, hm, inv, h => by
    unfold preX at h
    split at h
    · rename_i hc
      simp only [Bool.and_eq_true] at hc
      have hr' : k ∈ Region.ready md ops listed := by simpa using hc.1
      obtain ⟨a, b⟩ := preX_inv l _ out (fun i hi => hm i (by simp [hi])) (inv.set hr' (.inr (hm k (by simp)))) h
      refine ⟨a, fun i hi => ?_⟩
      rcases List.mem_cons.1 hi with rfl | hi
      · obtain ⟨_, o, ho, _⟩ := mem_ready.1 hr'
        have hlt : i < listed.size := by rw [inv.size]; exact (Array.getElem?_eq_some_iff.1 ho).1
        exact preX_mono l _ out h i (by simp [hlt])
      · exact b i hi
    · cases h
/-- The values of what is taken first. -/
def wpPure (P : Program) (ops : Array Oper) (K : Act → Prop) : List Oper → Act → Prop
  | [], a => K a
  | o :: l, a => ∃ v, Yields P ops o v a ∧ wpPure P ops K l (a.put o.dst v)
theorem wpPure_nil {K : Act → Prop} {a : Act} (h : K a) : wpPure P ops K [] a := h
theorem wpPure_step {K : Act → Prop} {a : Act} {o : Oper} {l : List Oper} (v : Value) (hg : o.guard = none) (hv : ∀ w, (execOp a.eval o).run P w = .ok (.value v) w) (h : wpPure P ops K l (a.put o.dst v)) : wpPure P ops K (o :: l) a :=
  ⟨v, .inl ⟨by simp [Region.wanted, hg], hv⟩, h⟩
theorem wpAny_pre {w : World} {f : Nat} {L0 : List Oper} {Q : Exit → Act → World → Prop} {K : Act → Prop} (hops : ops = L0.toArray) (hsel : Region.noSelect ops = true) (hQ : ∀ d v c a w, Q (.panic c) (Act.put a d v) w → Q (.panic c) a w) :
    ∀ (m : List Nat) (listed out : Array Bool) (a : Act), preX md ops m listed = some out → wpPure P ops K (pick L0 m) a → (∀ a', K a' → wpAny P md ops Q f out a' w) → wpAny P md ops Q (m.length + f) listed a w
  | [], listed, out, a, hp, h, hK => by
    simp only [preX, Option.some.injEq] at hp; subst hp
    rw [List.length_nil, Nat.zero_add]
    exact hK a h
  | k :: m, listed, out, a, hp, h, hK => by
    unfold preX at hp
    split at hp
    · rename_i hc
      simp only [Bool.and_eq_true] at hc
      have hr' : k ∈ Region.ready md ops listed := by simpa using hc.1
      obtain ⟨_, o, h0, _⟩ := mem_ready.1 hr'
      have h0' : L0[k]? = some o := by rw [hops] at h0; simpa using h0
      simp only [pick, h0', Option.toList, List.cons_append, List.nil_append] at h
      obtain ⟨v, hy, hK'⟩ := h
      rw [show (k :: m).length + f = (m.length + f) + 1 by simp only [List.length_cons]; omega]
      exact wpAny_take h0 hsel hc.2 hc.1 (fun c a w => hQ o.dst v c a w) hy (wpAny_pre hops hsel hQ m _ out _ hp hK' hK)
    · cases hp
def planX (ops : Array Oper) (n : Nat) (m r : List Nat) : Bool :=
  Region.noSelect ops && decide (n < ops.size) && true && sinkX .any ops n m && linkX .any ops n m && (match preX .any ops m (Array.replicate ops.size false) with | some listed => headX .any ops r n ((List.range n).filter fun i => !m.contains i) listed | none => false) && decide (m.length + (((List.range n).filter fun i => !m.contains i).length + r.length) = ops.size)
theorem wp_region_planX {id : Nat} {Q : Exit → Act → World → Prop} {a : Act} {w : World} {l : List Oper} (n : Nat) (m r : List Nat) (hm : P.follows .mixedOrders = true) (hB : planX l.toArray n m r = true)
    (h : wpPure P l.toArray (fun a1 => wpStill P l.toArray w.drew (fun a' => wpList P l.toArray (NoPanic Q) (pick l r) a' w.drew) (pick l ((List.range n).filter fun i => !m.contains i)) a1) (pick l m) a) : (Code.region id l.toArray true).wp P Q a w := by
  refine wp_region_noPanic ?_
  simp only [planX, Bool.and_eq_true, decide_eq_true_eq] at hB
  obtain ⟨⟨⟨⟨⟨⟨hsel, hn⟩, _⟩, hs⟩, hl⟩, hh⟩, hlen⟩ := hB
  have inv0 : HInv .any l.toArray n m (Array.replicate l.toArray.size false) :=
    ⟨by simp, fun j oj _ hl => (by rw [getD_replicate_false] at hl; cases hl), fun t _ ht _ => getD_in (by simpa using ht) (getD_replicate_false _ _)⟩
  cases hp : preX .any l.toArray m (Array.replicate l.toArray.size false) with
  | none => rw [hp] at hh; cases hh
  | some out =>
    rw [hp] at hh
    obtain ⟨inv1, hmo⟩ := preX_inv m _ out (fun _ h => h) inv0 hp
    refine wp_region_any hm ?_
    have hQ : ∀ d v c a w, NoPanic Q (.panic c) (Act.put a d v) w → NoPanic Q (.panic c) a w := fun _ _ _ _ _ h => h.elim
    have H := wpAny_pre (P := P) (md := .any) (f := ((List.range n).filter fun i => !m.contains i).length + r.length) (Q := NoPanic Q) rfl hsel hQ m _ out a hp h (fun a1 h1 => by
      have H1 := wpAnyL_planX (md := .any) (r := r) rfl hsel hs hl _ out a1 inv1 hmo hh h1
      exact wpAny_of_head (Q' := NoPanic Q) (g := r.length) (fun listed a' hL => wpAny_of_ord hsel hQ r listed a' _ hL.1.2 hL.2) _ _ _ H1)
    rw [hlen] at H
    exact H
end
end Go.Proofs.YtgjjilehpgnjhaaDoor
