/- Contracts of package history, continued: search for an event, what is wrong with one, with a history. -/
import Derived.Test.YtdfjbnfdknpahaaGreatDoorMRunAnswers2
import Derived.Test.YtdfjbnfdknpahaaGreatDoorMRunAnswers1
import Derived.OwnWalk
import Derived.Test.YtdfjbnfdknpahaaGreatDoorMRunAnswers7
namespace Go.Proofs.YtdfjbnfdknpahaaGreatDoor
set_option linter.unusedVariables false
set_option linter.unusedSimpArgs false
open Go.RowKit
set_option maxRecDepth 100000 in
set_option maxHeartbeats 4000000 in
theorem evIndex_any {w0 w : World} {R : HProp} (x : Ev) (v : Value) (l : List Ev) (h : Own w0 R w) (hl : ReadsE w0 R v l) :
    Calls Tryz.prog 164 #[v, evV x] w fun e w' => e = .returned (.int .i64 (whereI (fun y => decide (x = y)) l)) ∧ Own w0 R w' := by
  obtain ⟨ad, cap, rfl, hlc, hcap⟩ := (hl _ h).shape
  obtain ⟨a, b, d⟩ := x
  unfold evV
  obtain ⟨b1, hb_b1⟩ : ∃ zz_, zz_ = (w).heap.size := ⟨_, rfl⟩
  obtain ⟨w1, hw_w1⟩ : ∃ zz_, zz_ = (w).alloc (.cells #[.int .i64 a, .int .i64 b, .int .i64 d] 112 (0, 0)) := ⟨_, rfl⟩
  have h_HO1 := (h).alloc (.cells #[.int .i64 a, .int .i64 b, .int .i64 d] 112 (0, 0))
  rw [← hb_b1, ← hw_w1] at h_HO1
  have HO1 := Lib.hid h_HO1
  clear h_HO1
  have H := Lib.hid h; have HL := Lib.hid hl
  clear h hl
  go_enter Tryz.func164, Tryz.ntmps164
  go_upto_region 1 with fail
  rw [← hb_b1, ← hw_w1]
  clear hb_b1 hw_w1
  go_wp2_with fail
  go_loopw [8] (fun i wr => ∃ k : Nat, k ≤ l.length ∧ i = .int .i64 k ∧ Hid (Own w0 (EvO b1 (a, b, d) * R) wr) ∧ Hid (∀ j (_ : j < k) (h : j < l.length), decide ((a, b, d) = l[j]) = false)) (fun i _ => l.length - (intOf i).toNat)
  case atStart => exact ⟨0, Nat.zero_le _, rfl, HO1, Lib.hid (fun j h => by omega)⟩
  case round =>
    obtain ⟨k, hk, rfl, HO, hp⟩ := hrel
    by_cases hlt : k < l.length
    rotate_left
    · have hm : whereI (fun y => decide ((a, b, d) = y)) l = -1 := whereI_miss _ l (fun j h => hp.out j (by omega) h)
      have HM := Lib.hid hm
      clear hm
      go_wp2
      go_ret
      exact ⟨by rw [HM.out]; rfl, HO.out.drop⟩
    obtain ⟨aa, eb, eo, es, rfl, hea, hcs, hgd⟩ := HL.out.at HO.out.drop k hlt
    obtain ⟨x, hx⟩ : ∃ x, x = evAt l k := ⟨_, rfl⟩
    rw [← hx] at hcs
    have hxk : x = l[k] := by rw [hx]; unfold evAt; rw [List.getD_eq_getElem?_getD, List.getElem?_eq_getElem hlt]; rfl
    obtain ⟨p, q, r⟩ := x
    obtain ⟨c0, c1, c2⟩ := hcs _ HO.out.drop
    obtain ⟨d0, d1, d2⟩ := HO.out.ev
    simp only at c0 c1 c2 d0 d1 d2
    have HCS := Lib.hid hcs; have HX := Lib.hid hx; have HGD := Lib.hid hgd
    clear hcs hx hgd
    by_cases hs : a = p ∧ b = q ∧ d = r
    · obtain ⟨rfl, rfl, rfl⟩ := hs
      have hm : whereI (fun y => decide ((a, b, d) = y)) l = k := whereI_hit _ l k hlt (fun j h => hp.out j h (by omega)) (by rw [← hxk]; simp)
      have HM := Lib.hid hm; have HXK := Lib.hid hxk
      clear hm hxk
      go_wp2_with fail
      go_quiet (fail)
      go_wp2_with fail
      go_ret
      exact ⟨by rw [HM.out]; rfl, (HO.out.drewN _).drop⟩
    have hne : ((a, b, d) : Ev) ≠ (p, q, r) := by simpa using hs
    have hn : ∀ j (_ : j < k + 1) (h : j < l.length), decide ((a, b, d) = l[j]) = false := fun j h1 h2 => by
      by_cases e : j = k
      · subst e; rw [← hxk]; simpa using hs
      · exact hp.out j (by omega) h2
    have HN := Lib.hid hn; have HXK := Lib.hid hxk; have HNE := Lib.hid hne
    clear hn hxk hne
    by_cases h1 : a = p
    · subst h1
      by_cases h2 : b = q
      · subst h2
        have h3 : (d == r) = false := by
          rw [beq_eq_false_iff_ne]; rintro rfl; exact hs ⟨rfl, rfl, rfl⟩
        clear hs
        go_wp2_with fail
        go_quiet (fail)
        have HO2 := Lib.hid (HO.out.drewN nq)
        go_wp2_with fail
        go_round
        case rel => exact ⟨k + 1, by omega, by go_num, HO2, HN⟩
        case measure => simp [intOf]; omega
      · have h3 : (b == q) = false := by simpa using h2
        clear hs
        have H2 := Lib.hid h2
        clear h2
        go_wp2_with fail
        go_quiet (fail)
        have HO2 := Lib.hid (HO.out.drewN nq)
        go_wp2_with fail
        go_round
        case rel => exact ⟨k + 1, by omega, by go_num, HO2, HN⟩
        case measure => simp [intOf]; omega
    · have h3 : (a == p) = false := by simpa using h1
      clear hs
      have H1 := Lib.hid h1
      clear h1
      go_wp2_with fail
      go_quiet (fail)
      have HO2 := Lib.hid (HO.out.drewN nq)
      go_wp2_with fail
      go_round
      case rel => exact ⟨k + 1, by omega, by go_num, HO2, HN⟩
      case measure => simp [intOf]; omega
set_option maxRecDepth 100000 in
set_option maxHeartbeats 4000000 in
theorem evContains_any {w0 w : World} {R : HProp} (x : Ev) (v : Value) (l : List Ev) (h : Own w0 R w) (hl : ReadsE w0 R v l) :
    Calls Tryz.prog 150 #[v, evV x] w fun e w' => e = .returned (.bool (decide (x ∈ l))) ∧ Own w0 R w' := by
  have hw := whereI_any (fun y => decide (x = y)) l
  have h2 : (l.any fun n => decide (x = n)) = decide (x ∈ l) := by
    rw [Bool.eq_iff_iff]; simp
  rw [h2] at hw
  have hd : decide ((0 : Int) ≤ whereI (fun y => decide (x = y)) l) = decide (x ∈ l) := by
    rw [Bool.eq_iff_iff]; simpa using hw
  obtain ⟨q, hq⟩ : ∃ q, q = whereI (fun y => decide (x = y)) l := ⟨_, rfl⟩
  rw [← hq] at hd
  obtain ⟨y, hy⟩ : ∃ y, y = x := ⟨_, rfl⟩
  have h' := evIndex_any (w := w.alloc (.cells #[.int .i64 x.1, .int .i64 x.2.1, .int .i64 x.2.2] 112 (0, 0))) x v l (h.alloc _) hl.more
  rw [← hq] at h'
  obtain ⟨a, b, d⟩ := x
  unfold evV at h' ⊢
  obtain ⟨b1, hb_b1⟩ : ∃ zz_, zz_ = (w).heap.size := ⟨_, rfl⟩
  obtain ⟨w1, hw_w1⟩ : ∃ zz_, zz_ = (w).alloc (.cells #[.int .i64 a, .int .i64 b, .int .i64 d] 112 (0, 0)) := ⟨_, rfl⟩
  have h_HO1 := (h).alloc (.cells #[.int .i64 a, .int .i64 b, .int .i64 d] 112 (0, 0))
  rw [← hb_b1, ← hw_w1] at h_HO1
  have HO1 := Lib.hid h_HO1
  clear h_HO1
  rw [← hb_b1, ← hw_w1] at h'
  obtain ⟨c0, c1, c2⟩ := (show Own w0 (EvO b1 (a, b, d) * R) w1 from HO1.out).ev
  simp only at c0 c1 c2
  have H := Lib.hid h; have HL := Lib.hid hl; have HW := Lib.hid hw; have H2 := Lib.hid h2; have HQ := Lib.hid hq; have HY := Lib.hid hy; have H' := Lib.hid h'
  clear h hl hw h2 hq hy h'
  go_enter Tryz.func150, Tryz.ntmps150
  go_upto_region 1 with fail
  rw [← hb_b1, ← hw_w1]
  clear hb_b1 hw_w1
  go_wp2_with fail
  refine (H'.out).mono ?_
  rintro e w' ⟨rfl, ho⟩
  have HO2 := Lib.hid ho.drop
  clear ho c0 c1 c2
  go_wp2
  go_ret
  exact ⟨by rw [← hd]; rfl, HO2.out⟩
theorem evErr_right {l : List Ev} {x : Ev} (h : rightB x = false) : evErr l x = 1 := by unfold evErr; rw [if_pos h]
theorem rightB_what {x : Ev} (h : rightB x = true) : x.2.1 = 1 ∨ x.2.1 = 2 ∨ x.2.1 = 3 := by
  unfold rightB at h
  by_cases h1 : x.2.1 = 1
  · exact .inl h1
  · simp [h1] at h; exact .inr h.2.1
set_option maxRecDepth 100000 in
set_option maxHeartbeats 4000000 in
theorem evCheck_any {w0 w : World} {R : HProp} (x : Ev) (v : Value) (l : List Ev) (h : Own w0 R w) (hl : ReadsE w0 R v l) :
    Calls Tryz.prog 123 #[v, evV x] w fun e w' => e = .returned (errV (evErr l x)) ∧ Own w0 R w' := by
  obtain ⟨ad, cap, rfl, hlc, hcap⟩ := (hl _ h).shape
  obtain ⟨b1, hb_b1⟩ : ∃ zz_, zz_ = (w).heap.size := ⟨_, rfl⟩
  obtain ⟨w1, hw_w1⟩ : ∃ zz_, zz_ = (w).alloc (.cells #[.int .i64 x.1, .int .i64 x.2.1, .int .i64 x.2.2] 112 (0, 0)) := ⟨_, rfl⟩
  have h_HO1 := (h).alloc (.cells #[.int .i64 x.1, .int .i64 x.2.1, .int .i64 x.2.2] 112 (0, 0))
  rw [← hb_b1, ← hw_w1] at h_HO1
  have HO1 := Lib.hid h_HO1
  clear h_HO1
  have HO : Hid (Own w0 (EvO b1 x * R) w1) := HO1
  have HLM : Hid (ReadsE w0 (EvO b1 x * R) (.slice ad l.length cap) l) := Lib.hid hl.more
  have H := Lib.hid h; have HL := Lib.hid hl
  clear h hl
  clear HO1
  obtain ⟨c0, c1, c2⟩ := HO.out.ev
  cases hr : rightB x
  · have hE : evErr l x = 1 := evErr_right hr
    obtain ⟨a, b, d⟩ := x
    have hr_ := right_any (w0 := w0) (w := w1) (R := EvO b1 (a, b, d) * R) (a, b, d) HO.out
    unfold evV at hr_ ⊢
    simp only at c0 c1 c2
    rw [hr] at hr_
    have HE := Lib.hid hE; have HR := Lib.hid hr; have HR_ := Lib.hid hr_
    clear hE hr hr_
    go_enter Tryz.func123, Tryz.ntmps123
    go_upto_region 1 with fail
    rw [← hb_b1, ← hw_w1]
    clear hb_b1 hw_w1
    go_wp2_with fail
    refine (HR_.out).mono ?_
    rintro e w' ⟨rfl, ho⟩
    have HO2 := Lib.hid ho.drop
    clear ho c0 c1 c2
    go_wp2
    go_ret
    exact ⟨by rw [HE.out]; rfl, HO2.out⟩
  have hw := rightB_what hr
  obtain ⟨s, hs⟩ : ∃ s, s = saidAt l x.2.2 := ⟨_, rfl⟩
  obtain ⟨a, b, d⟩ := x
  simp only at hw hs c0 c1 c2
  rcases hw with rfl | rfl | rfl
  · have hE : evErr l (a, 1, d) = 0 := by unfold evErr; rw [if_neg (by rw [hr]; simp), if_neg (by simp), if_neg (by simp), if_neg (by simp)]
    unfold evV
    have HE := Lib.hid hE; have HS := Lib.hid hs
    clear hE hs
    go_enter Tryz.func123, Tryz.ntmps123
    go_upto_region 1 with fail
    rw [← hb_b1, ← hw_w1]
    clear hb_b1 hw_w1
    go_wp2_with fail
    refine (right_any (a, 1, d) HO.out).mono ?_
    rintro e w2 ⟨rfl, ho⟩
    rw [hr]
    obtain ⟨c0, c1, c2⟩ := ho.ev
    simp only at c0 c1 c2
    have HO2 := Lib.hid ho
    clear ho
    go_wp2_with fail
    refine (said_any d _ l HO2.out HLM.out).mono ?_
    rintro e w3 ⟨rfl, ho⟩
    rw [← HS.out]
    obtain ⟨c0, c1, c2⟩ := ho.ev
    simp only at c0 c1 c2
    have HO3 := Lib.hid ho
    clear ho
    go_wp2_with fail
    go_quiet (fail)
    go_wp2
    go_ret
    exact ⟨by rw [HE.out]; rfl, (HO3.out.drewN _).drop⟩
  · by_cases h0 : 0 ≤ s
    · have hE : evErr l (a, 2, d) = 7 := by unfold evErr; rw [if_neg (by rw [hr]; simp), if_pos (.inl ⟨rfl, by rw [← hs]; exact h0⟩)]
      have t1 : decide ((0 : Int) ≤ s) = true := by simpa using h0
      unfold evV
      have HE := Lib.hid hE; have HS := Lib.hid hs; have H0 := Lib.hid h0
      clear hE hs h0
      go_enter Tryz.func123, Tryz.ntmps123
      go_upto_region 1 with fail
      rw [← hb_b1, ← hw_w1]
      clear hb_b1 hw_w1
      go_wp2_with fail
      refine (right_any (a, 2, d) HO.out).mono ?_
      rintro e w2 ⟨rfl, ho⟩
      rw [hr]
      obtain ⟨c0, c1, c2⟩ := ho.ev
      simp only at c0 c1 c2
      have HO2 := Lib.hid ho
      clear ho
      go_wp2_with fail
      refine (said_any d _ l HO2.out HLM.out).mono ?_
      rintro e w3 ⟨rfl, ho⟩
      rw [← HS.out]
      obtain ⟨c0, c1, c2⟩ := ho.ev
      simp only at c0 c1 c2
      have HO3 := Lib.hid ho
      clear ho
      go_wp2
      go_ret
      exact ⟨by rw [HE.out]; rfl, HO3.out.drop⟩
    · have hE : evErr l (a, 2, d) = 0 := by unfold evErr; rw [if_neg (by rw [hr]; simp), if_neg (by first | (simp [← hs]; done) | (simp [← hs]; omega)), if_neg (by simp), if_neg (by simp)]
      have t1 : decide ((0 : Int) ≤ s) = false := by simpa using h0
      unfold evV
      have HE := Lib.hid hE; have HS := Lib.hid hs; have H0 := Lib.hid h0
      clear hE hs h0
      go_enter Tryz.func123, Tryz.ntmps123
      go_upto_region 1 with fail
      rw [← hb_b1, ← hw_w1]
      clear hb_b1 hw_w1
      go_wp2_with fail
      refine (right_any (a, 2, d) HO.out).mono ?_
      rintro e w2 ⟨rfl, ho⟩
      rw [hr]
      obtain ⟨c0, c1, c2⟩ := ho.ev
      simp only at c0 c1 c2
      have HO2 := Lib.hid ho
      clear ho
      go_wp2_with fail
      refine (said_any d _ l HO2.out HLM.out).mono ?_
      rintro e w3 ⟨rfl, ho⟩
      rw [← HS.out]
      obtain ⟨c0, c1, c2⟩ := ho.ev
      simp only at c0 c1 c2
      have HO3 := Lib.hid ho
      clear ho
      go_wp2_with fail
      go_quiet (fail)
      go_wp2
      go_ret
      exact ⟨by rw [HE.out]; rfl, (HO3.out.drewN _).drop⟩
  · by_cases hin : ((a, 3, d) : Ev) ∈ l
    · have hE : evErr l (a, 3, d) = 7 := by unfold evErr; rw [if_neg (by rw [hr]; simp), if_pos (.inr ⟨rfl, hin⟩)]
      have t1 : decide (((a, 3, d) : Ev) ∈ l) = true := by simpa using hin
      unfold evV
      have HE := Lib.hid hE; have HS := Lib.hid hs; have HIN := Lib.hid hin
      clear hE hs hin
      go_enter Tryz.func123, Tryz.ntmps123
      go_upto_region 1 with fail
      rw [← hb_b1, ← hw_w1]
      clear hb_b1 hw_w1
      go_wp2_with fail
      refine (right_any (a, 3, d) HO.out).mono ?_
      rintro e w2 ⟨rfl, ho⟩
      rw [hr]
      obtain ⟨c0, c1, c2⟩ := ho.ev
      simp only at c0 c1 c2
      have HO2 := Lib.hid ho
      clear ho
      go_wp2_with fail
      refine (said_any d _ l HO2.out HLM.out).mono ?_
      rintro e w3 ⟨rfl, ho⟩
      rw [← HS.out]
      obtain ⟨c0, c1, c2⟩ := ho.ev
      simp only at c0 c1 c2
      have HO3 := Lib.hid ho
      clear ho
      go_wp2_with fail
      refine (evContains_any (a, 3, d) _ l HO3.out HLM.out).mono ?_
      rintro e w4 ⟨rfl, ho⟩
      rw [t1]
      have HO4 := Lib.hid ho.drop
      clear ho
      go_wp2
      go_ret
      exact ⟨by rw [HE.out]; rfl, HO4.out⟩
    have t1 : decide (((a, 3, d) : Ev) ∈ l) = false := by simpa using hin
    rcases whereI_cases (saysB d) l with ⟨h1, _⟩ | ⟨k, hk, h1, _, _⟩
    · have hE : evErr l (a, 3, d) = 5 := by unfold evErr; rw [if_neg (by rw [hr]; simp), if_neg (by simp [hin]), if_pos ⟨rfl, by show saidAt l d < 0; unfold saidAt; omega⟩]
      have hs1 : s = -1 := by rw [hs]; exact h1
      subst hs1
      unfold evV
      have HE := Lib.hid hE; have HS := Lib.hid hs; have HIN := Lib.hid hin; have H1 := Lib.hid h1
      clear hE hs hin h1
      go_enter Tryz.func123, Tryz.ntmps123
      go_upto_region 1 with fail
      rw [← hb_b1, ← hw_w1]
      clear hb_b1 hw_w1
      go_wp2_with fail
      refine (right_any (a, 3, d) HO.out).mono ?_
      rintro e w2 ⟨rfl, ho⟩
      rw [hr]
      obtain ⟨c0, c1, c2⟩ := ho.ev
      simp only at c0 c1 c2
      have HO2 := Lib.hid ho
      clear ho
      go_wp2_with fail
      refine (said_any d _ l HO2.out HLM.out).mono ?_
      rintro e w3 ⟨rfl, ho⟩
      rw [← HS.out]
      obtain ⟨c0, c1, c2⟩ := ho.ev
      simp only at c0 c1 c2
      have HO3 := Lib.hid ho
      clear ho
      go_wp2_with fail
      refine (evContains_any (a, 3, d) _ l HO3.out HLM.out).mono ?_
      rintro e w4 ⟨rfl, ho⟩
      rw [t1]
      obtain ⟨c0, c1, c2⟩ := ho.ev
      simp only at c0 c1 c2
      have HO4 := Lib.hid ho
      clear ho
      go_wp2
      go_ret
      exact ⟨by rw [HE.out]; rfl, HO4.out.drop⟩
    · have hsk : s = (k : Int) := by rw [hs]; exact h1
      obtain ⟨q, hq⟩ : ∃ q, q = (evAt l k).1 := ⟨_, rfl⟩
      have hE : evErr l (a, 3, d) = if q = a then 3 else 0 := by
        unfold evErr
        rw [if_neg (by rw [hr]; simp), if_neg (by simp [hin]), if_neg (by simp [show saidAt l d = (k : Int) from h1]), show saidAt l d = (k : Int) from h1]
        simp [hq]
      subst hsk
      obtain ⟨aa, eb, eo, es, rfl, hea, hcs, hgd⟩ := HL.out.at HO.out.drop k hk
      rw [← hq] at hcs
      unfold evV
      have HE := Lib.hid hE; have HS := Lib.hid hs; have HIN := Lib.hid hin; have H1 := Lib.hid h1; have HCS := Lib.hid hcs; have HGD := Lib.hid hgd; have HQ := Lib.hid hq
      clear hE hs hin h1 hcs hgd hq
      go_enter Tryz.func123, Tryz.ntmps123
      go_upto_region 1 with fail
      rw [← hb_b1, ← hw_w1]
      clear hb_b1 hw_w1
      go_wp2_with fail
      refine (right_any (a, 3, d) HO.out).mono ?_
      rintro e w2 ⟨rfl, ho⟩
      rw [hr]
      obtain ⟨c0, c1, c2⟩ := ho.ev
      simp only at c0 c1 c2
      have HO2 := Lib.hid ho
      clear ho
      go_wp2_with fail
      refine (said_any d _ l HO2.out HLM.out).mono ?_
      rintro e w3 ⟨rfl, ho⟩
      rw [← HS.out]
      obtain ⟨c0, c1, c2⟩ := ho.ev
      simp only at c0 c1 c2
      have HO3 := Lib.hid ho
      clear ho
      go_wp2_with fail
      refine (evContains_any (a, 3, d) _ l HO3.out HLM.out).mono ?_
      rintro e w4 ⟨rfl, ho⟩
      rw [t1]
      obtain ⟨c0, c1, c2⟩ := ho.ev
      simp only at c0 c1 c2
      obtain ⟨d0, _, _⟩ := HCS.out _ ho.drop
      have HO4 := Lib.hid ho
      clear ho
      by_cases hqa : q = a
      · have t2 : (q == a) = true := by simpa using hqa
        have hE2 : evErr l (a, 3, d) = 3 := by rw [HE.out, if_pos hqa]
        have HQA := Lib.hid hqa; have HE2 := Lib.hid hE2
        clear hqa hE2
        go_wp2_with fail
        go_quiet (fail)
        go_wp2
        go_ret
        exact ⟨by rw [HE2.out]; rfl, (HO4.out.drewN _).drop⟩
      · have t2 : (q == a) = false := by simpa using hqa
        have hE2 : evErr l (a, 3, d) = 0 := by rw [HE.out, if_neg hqa]
        have HQA := Lib.hid hqa; have HE2 := Lib.hid hE2
        clear hqa hE2
        go_wp2_with fail
        go_quiet (fail)
        go_wp2
        go_ret
        exact ⟨by rw [HE2.out]; rfl, (HO4.out.drewN _).drop⟩
end Go.Proofs.YtdfjbnfdknpahaaGreatDoor
/- Contracts of package history, continued: what is wrong with a history. -/
namespace Go.Proofs.YtdfjbnfdknpahaaGreatDoor
set_option linter.unusedVariables false
set_option linter.unusedSimpArgs false
open Go.RowKit
theorem histGo_cons (ahead : List Ev) (x : Ev) (r : List Ev) : histGo ahead (x :: r) = if evErr ahead x ≠ 0 then (ahead.length, evErr ahead x) else histGo (ahead ++ [x]) r := rfl
theorem histGo_step {l : List Ev} {k : Nat} (hk : k < l.length) : histGo (l.take k) (l.drop k) = if evErr (l.take k) (evAt l k) ≠ 0 then (k, evErr (l.take k) (evAt l k)) else histGo (l.take (k + 1)) (l.drop (k + 1)) := by
  have hev : evAt l k = l[k] := by unfold evAt; rw [List.getD_eq_getElem?_getD, List.getElem?_eq_getElem hk]; rfl
  rw [List.drop_eq_getElem_cons hk, hev, histGo_cons, show (l.take k).length = k by simp; omega, ← List.take_succ_eq_append_getElem hk]
theorem errV_ne {E : Nat} (h : E ≠ 0) : errV E = .iface 90 (.int .i64 (E : Int)) := by
  obtain ⟨k, rfl⟩ : ∃ k, E = k + 1 := ⟨E - 1, by omega⟩
  rfl
set_option maxRecDepth 100000 in
set_option maxHeartbeats 4000000 in
theorem hCheck_any {w0 w : World} {R : HProp} (v : Value) (l : List Ev) (h : Own w0 R w) (hl : ReadsE w0 R v l) :
    Calls Tryz.prog 107 #[v] w fun e w' => e = .returned (.tuple #[.int .i64 (histR l).1, errV (histR l).2]) ∧ Own w0 R w' := by
  obtain ⟨ad, cap, rfl, hlc, hcap⟩ := (hl _ h).shape
  by_cases hlen : 60 < l.length
  · have hr : histR l = (0, 4) := by unfold histR; rw [if_pos hlen]
    have t1 : decide ((60 : Int) < (l.length : Int)) = true := by simp; omega
    have H := Lib.hid h; have HL := Lib.hid hl; have HR := Lib.hid hr
    clear h hl hr
    go_enter Tryz.func107, Tryz.ntmps107
    go_wp2
    go_ret2
    exact ⟨by rw [HR.out]; rfl, H.out⟩
  have hr : histR l = histGo [] l := by unfold histR; rw [if_neg hlen]
  have t1 : decide ((60 : Int) < (l.length : Int)) = false := by simp; omega
  have H := Lib.hid h; have HL := Lib.hid hl; have HR := Lib.hid hr
  clear h hl hr
  go_enter Tryz.func107, Tryz.ntmps107
  go_wp2_with fail
  go_loopw [13] (fun i wr => ∃ k : Nat, k ≤ l.length ∧ i = .int .i64 k ∧ Hid (histGo (l.take k) (l.drop k) = histR l) ∧ Hid (Own w0 R wr)) (fun i _ => l.length - (intOf i).toNat)
  case atStart => exact ⟨0, Nat.zero_le _, rfl, Lib.hid HR.out.symm, H⟩
  case round =>
    obtain ⟨k, hk, rfl, hp, HO⟩ := hrel
    by_cases hlt : k < l.length
    rotate_left
    · have hfin : histR l = (0, 0) := by
        have := hp.out
        rw [List.drop_of_length_le (by omega)] at this
        rw [← this]; unfold histGo; rfl
      have HFIN := Lib.hid hfin
      clear hfin
      go_wp2
      go_ret2
      exact ⟨by rw [HFIN.out]; rfl, HO.out⟩
    obtain ⟨aa, eb, eo, es, rfl, hea, hcs, hgd⟩ := HL.out.at HO.out k hlt
    have hst := histGo_step hlt
    rw [hp.out] at hst
    obtain ⟨x, hx⟩ : ∃ x, x = evAt l k := ⟨_, rfl⟩
    rw [← hx] at hcs hst hgd
    obtain ⟨c0, c1, c2⟩ := hcs _ HO.out
    have hck := fun (w1 : World) (b1 : Nat) (ho : Own w0 (EvO b1 x * R) w1) => evCheck_any (w0 := w0) (w := w1) (R := EvO b1 x * R) x (.slice (some aa) k cap) (l.take k) ho (HL.out.front (by omega)).more
    obtain ⟨a, b, d⟩ := x
    unfold evV at hck
    obtain ⟨b1, hb_b1⟩ : ∃ zz_, zz_ = (wr).heap.size := ⟨_, rfl⟩
    obtain ⟨w1, hw_w1⟩ : ∃ zz_, zz_ = (wr).alloc (.cells #[.int .i64 a, .int .i64 b, .int .i64 d] 112 (0, 0)) := ⟨_, rfl⟩
    have h_HO1 := (HO.out).alloc (.cells #[.int .i64 a, .int .i64 b, .int .i64 d] 112 (0, 0))
    rw [← hb_b1, ← hw_w1] at h_HO1
    have HO1 := Lib.hid h_HO1
    clear h_HO1
    have HW1 : Hid (Own w0 (EvO b1 (a, b, d) * R) w1) := HO1
    obtain ⟨d0, d1, d2⟩ := HW1.out.ev
    simp only at c0 c1 c2 d0 d1 d2
    clear HO1
    obtain ⟨E, hE⟩ : ∃ E, E = evErr (l.take k) (a, b, d) := ⟨_, rfl⟩
    rw [← hE] at hst
    have HE_ := Lib.hid hE
    clear hE
    have HCS := Lib.hid hcs; have HX := Lib.hid hx; have HGD := Lib.hid hgd; have HCK := Lib.hid hck
    clear hcs hx hgd hck
    have hk0 : (0 : Int) ≤ (k : Int) := by omega
    have hkc : (k : Int) ≤ (cap : Int) := by omega
    have hkl : (k : Int) ≤ (l.length : Int) := by omega
    have hc0 : cap ≠ 0 := by omega
    by_cases he : E = 0
    rotate_left
    · have hee := errV_ne he
      rw [if_pos he] at hst
      have HE := Lib.hid he; have HST := Lib.hid hst; have HEE := Lib.hid hee
      clear he hst hee
      go_upto_region 6 with fail
      rw [← hb_b1, ← hw_w1]
      clear hb_b1 hw_w1
      clear c0 c1 c2
      refine wp_region_tail 4 (by kernel_rfl) (by kernel_rfl) ?_
      simp only [List.take_succ_cons, List.take_zero, List.drop_succ_cons, List.drop_zero]
      repeat still_step
      refine wpStill_nil ?_
      go_wp2_with fail
      refine (HCK.out _ _ HW1.out.drew).mono ?_
      rintro e w2 ⟨rfl, ho⟩
      rw [← HE_.out, HEE.out]
      have HO2 := Lib.hid ho.drop
      clear ho
      go_wp2
      go_ret2
      exact ⟨by rw [HST.out]; exact congrArg (fun z => Ending.returned (.tuple #[.int .i64 k, z])) HEE.out.symm, HO2.out⟩
    rw [if_neg (by simpa using he)] at hst
    have hee : errV E = .nilIface := by rw [he]; rfl
    have HE := Lib.hid he; have HST := Lib.hid hst; have HEE := Lib.hid hee
    clear he hst hee
    go_upto_region 6 with fail
    rw [← hb_b1, ← hw_w1]
    clear hb_b1 hw_w1
    clear c0 c1 c2
    refine wp_region_tail 4 (by kernel_rfl) (by kernel_rfl) ?_
    simp only [List.take_succ_cons, List.take_zero, List.drop_succ_cons, List.drop_zero]
    repeat still_step
    refine wpStill_nil ?_
    go_wp2_with fail
    refine (HCK.out _ _ HW1.out.drew).mono ?_
    rintro e w2 ⟨rfl, ho⟩
    rw [← HE_.out, HEE.out]
    have HO2 := Lib.hid ho.drop
    clear ho
    go_wp2
    go_round
    case rel => exact ⟨k + 1, by omega, by go_num, Lib.hid HST.out.symm, HO2⟩
    case measure => simp [intOf]; omega
set_option maxRecDepth 100000 in
set_option maxHeartbeats 4000000 in
theorem hRight_any {w0 w : World} {R : HProp} (v : Value) (l : List Ev) (h : Own w0 R w) (hl : ReadsE w0 R v l) :
    Calls Tryz.prog 84 #[v] w fun e w' => e = .returned (errV (histR l).2) ∧ Own w0 R w' := by
  obtain ⟨ad, cap, rfl, hlc, hcap⟩ := (hl _ h).shape
  have H := Lib.hid h; have HL := Lib.hid hl
  clear h hl
  go_enter Tryz.func84, Tryz.ntmps84
  go_wp2_with fail
  refine (hCheck_any _ l H.out HL.out).mono ?_
  rintro e w2 ⟨rfl, ho⟩
  obtain ⟨E, hE⟩ : ∃ E, E = (histR l).2 := ⟨_, rfl⟩
  obtain ⟨q, hq⟩ : ∃ q, q = (histR l).1 := ⟨_, rfl⟩
  rw [← hE, ← hq]
  have HO2 := Lib.hid ho
  have HE := Lib.hid hE; have HQ := Lib.hid hq
  clear hE hq
  clear ho
  go_wp2
  go_ret
  exact ⟨by rw [← HE.out]; rfl, HO2.out⟩
end Go.Proofs.YtdfjbnfdknpahaaGreatDoor
/- make of a slice of a variable length, for own rows; a table of own rows of bools. -/
namespace Go.Proofs.YtdfjbnfdknpahaaGreatDoor
set_option linter.unusedVariables false
set_option linter.unusedSimpArgs false
open Go.RowKit
theorem wpList_mk {P : Program} {w0 w : World} {R : HProp} {ops : Array Oper} {rest : List Oper} {o : Oper} {a : Act} {Q : Exit → Act → World → Prop}
    (hg : o.guard = none) (l c : Operand) (t : TypeId) (hop : o.op = Op.makeSlice t l c) (e : TypeId) (bytes : Nat) (z : Value) (ht : P.underlying t = some (.slice e)) (hinf : (P.info? e).map (fun i => (i.zero, i.size, i.bytes)) = some (some z, 1, bytes)) (hzs : z.cells = #[z])
    (n : Nat) (hl : a.eval l = .int .i64 (n : Int)) (hc : a.eval c = .int .i64 (n : Int)) (hn : n ≤ 100000) (hb : bytes ≤ 100) (h : Own w0 R w)
    (hK : ∀ b w', Own w0 (SlAt e 1 b 0 n n (List.replicate n z) * R) w' → wpList P ops Q rest (a.put o.dst (.slice (some ⟨b, 0, none⟩) n n)) w') :
    wpList P ops Q (o :: rest) a w := by
  obtain ⟨i, hi, hz, hsize, hby⟩ := info_parts hinf
  have hb2 : i.bytes * n ≤ 281474976710656 := by
    rw [hby]
    exact Nat.le_trans (Nat.mul_le_mul hb hn) (by decide)
  have hm : n ≤ maxLen := by unfold maxLen; omega
  refine wpList_plain hg fun K hK' => ?_
  obtain ⟨w', hrun, r1, r2⟩ := run_make_full (P := P) w w.heap.size t e i z 1 ht hi hz hsize .i64 .i64 n hb2 hm (Nat.le_refl _)
  unfold Oper.wp
  simp [execOp, hop, hl, hc, hrun, Result.andThen]
  refine hK' _ _ (hK _ w' ?_)
  obtain ⟨hxl, h1 | ⟨g, cap, cur, hv, hbg, hh, h3, h4, h5, h6⟩⟩ := r1
  · simp at h1
  · injection hv with e1 e2 e3
    injection e1 with e1
    injection e1 with e1 _ _
    subst e1
    subst e3
    have hx : (madeCells z.cells (n * 1)).toList = List.replicate n z := by
      rw [hzs]
      apply List.ext_getElem
      · simp [madeCells]
      · intro j h1 h2
        simp [madeCells, Nat.mod_one]
    rw [hx] at h6
    have ho := h.new (o := .cells cur e (0, 0)) r2.os r2.tape r2.output r2.size (fun k hk => r2.block k hk (by simp)) hh
    refine ho.cons fun x hx => ⟨cur, Nat.le_refl _, hm, by simp, by rw [h5]; omega, fun j hj => ?_, hx⟩
    rw [← h6, List.getElem?_take, if_pos (by simpa using hj)]
    simp
theorem bool_info : (Tryz.prog.info? 4).map (fun i => (i.zero, i.size, i.bytes)) = some (some (.bool false), 1, 1) := by kernel_rfl
/-- An owned slice of bools. -/
def BoolSl (v : Value) (l : List Bool) : HProp := Sl 4 1 v l.length (l.map Value.bool)
def BRow (r : Value × List Bool) : HProp := BoolSl r.1 r.2
def BTab (rb n : Nat) (rs : List (Value × List Bool)) : HProp := TabO BRow (·.1) 203 rb 0 n rs
theorem Own.bt_slot {w0 w : World} {rb n k : Nat} {rs : List (Value × List Bool)} {R : HProp} (h : Own w0 (BTab rb n rs * R) w) (hk : k < rs.length) : w.cell? ⟨rb, k, none⟩ = some rs[k].1 := by
  have := (Own.tab_facts h).1 k rs[k] (List.getElem?_eq_getElem hk)
  simpa using this
theorem Own.bt_row {w0 w : World} {rb n k : Nat} {rs : List (Value × List Bool)} {R : HProp} (h : Own w0 (BTab rb n rs * R) w) (hk : k < rs.length) (hp : 0 < rs[k].2.length) :
    ∃ b o cap, rs[k].1 = .slice (some ⟨b, o, none⟩) rs[k].2.length cap ∧ rs[k].2.length ≤ cap ∧ cap ≤ 9223372036854775807 ∧ (∀ i s, w.frozen? ⟨b, i, s⟩ = false) ∧ (∀ j (hj : j < rs[k].2.length), w.cell? ⟨b, o + j, none⟩ = some (.bool rs[k].2[j])) ∧
      ∀ j x, j < rs[k].2.length → Own w0 (BTab rb n (rs.set k (rs[k].1, rs[k].2.set j x)) * R) (w.setCell ⟨b, o + j, none⟩ (.bool x)) := by
  have h1 := Own.tab_take h hk
  obtain ⟨b, o, cap, e1, h2⟩ := Own.slAt h1 (by simpa using hp)
  have f := h2.slAt_facts
  refine ⟨b, o, cap, e1, f.1, f.2.1, fun i s => f.2.2.2.2.1 i s, fun j hj => f.2.2.2.1 j _ (by simp [hj]), fun j x hj => ?_⟩
  have h3 := h2.slAt_set j (.bool x) (by simpa using hj)
  have h4 := h3.sl_of_at
  have h5 : Own w0 (BRow (rs[k].1, rs[k].2.set j x) * (SlAt 203 1 rb 0 rs.length n (rs.map (·.1)) * (starL BRow (rs.eraseIdx k) * R))) (w.setCell ⟨b, o + j, none⟩ (.bool x)) := by
    refine h4.perm ?_
    congr 1
    unfold BRow BoolSl
    simp only [List.map_set, List.length_set]
    rw [← e1]
  unfold BTab TabO
  refine h5.perm ?_
  rw [starL_set BRow rs k hk]
  have : (rs.set k (rs[k].1, rs[k].2.set j x)).map (·.1) = rs.map (·.1) := by
    apply List.ext_getElem
    · simp
    · intro m h1 h2
      simp only [List.getElem_map, List.getElem_set]
      split
      · rename_i hm; subst hm; rfl
      · rfl
  rw [this, List.length_set]
  ac_rfl
end Go.Proofs.YtdfjbnfdknpahaaGreatDoor
/- Pieces of a function's text, found by their numbers. -/
namespace Go.Proofs.YtdfjbnfdknpahaaGreatDoor
set_option linter.unusedVariables false
set_option linter.unusedSimpArgs false
open Go.RowKit
def findBlock (t : Nat) : Code → Option Code
  | .cond _ a b => match findBlock t a with
    | some c => some c
    | none => findBlock t b
  | .seq a b => match findBlock t a with
    | some c => some c
    | none => findBlock t b
  | .block k c => if k = t then some (.block k c) else findBlock t c
  | .loop c => findBlock t c
  | .scope c => findBlock t c
  | _ => none
def findRegion (t : Nat) : Code → Option Code
  | .cond _ a b => match findRegion t a with
    | some c => some c
    | none => findRegion t b
  | .seq a b => match findRegion t a with
    | some c => some c
    | none => findRegion t b
  | .region k o d => if k = t then some (.region k o d) else none
  | .block _ c => findRegion t c
  | .loop c => findRegion t c
  | .scope c => findRegion t c
  | _ => none
end Go.Proofs.YtdfjbnfdknpahaaGreatDoor
/- Contracts of package history, continued: who is ahead of whom. -/
namespace Go.Proofs.YtdfjbnfdknpahaaGreatDoor
set_option linter.unusedVariables false
set_option linter.unusedSimpArgs false
open Go.RowKit
/-- The first j places of r with those of s. -/
def orFirst (r s : List Bool) (j : Nat) : List Bool := (List.range r.length).map fun m => if m < j then (r.getD m false || s.getD m false) else r.getD m false
theorem orFirst_len (r s : List Bool) (j : Nat) : (orFirst r s j).length = r.length := by simp [orFirst]
theorem orFirst_zero (r s : List Bool) : orFirst r s 0 = r := by
  apply List.ext_getElem
  · simp [orFirst]
  · intro m h1 h2
    simp [orFirst, List.getD_eq_getElem?_getD, h2]
theorem orFirst_get (r s : List Bool) (j : Nat) (hj : j < r.length) : (orFirst r s j)[j]? = some (r.getD j false) := by
  simp [orFirst, hj]
theorem orFirst_step (r s : List Bool) (j : Nat) (hj : j < r.length) : (orFirst r s j).set j (r.getD j false || s.getD j false) = orFirst r s (j + 1) := by
  apply List.ext_getElem
  · simp [orFirst]
  · intro m h1 h2
    have hm : m < r.length := by simpa [orFirst] using h2
    rw [List.getElem_set]
    simp only [orFirst, List.getElem_map, List.getElem_range]
    by_cases hmj : j = m
    · subst hmj; rw [if_pos rfl, if_pos (by omega)]
    · rw [if_neg hmj]
      by_cases h3 : m < j
      · rw [if_pos h3, if_pos (by omega)]
      · rw [if_neg h3, if_neg (by omega)]
theorem orFirst_all (r s : List Bool) (h : r.length = s.length) : orFirst r s r.length = orRow r s := by
  apply List.ext_getElem
  · simp [orFirst, orRow, h]
  · intro m h1 h2
    have hm : m < r.length := by simpa [orFirst] using h1
    simp only [orFirst, List.getElem_map, List.getElem_range, orRow, List.getElem_zipWith]
    rw [if_pos hm]
    simp [List.getD_eq_getElem?_getD, hm, show m < s.length by omega]
theorem Own.bt_cell {w0 w : World} {rb n k : Nat} {rs : List (Value × List Bool)} {R : HProp} {v : Value} {l : List Bool} (h : Own w0 (BTab rb n rs * R) w) (hk : rs[k]? = some (v, l)) : w.cell? ⟨rb, k, none⟩ = some v := by
  obtain ⟨hlt, he⟩ := List.getElem?_eq_some_iff.1 hk
  have := h.bt_slot hlt
  rw [he] at this; exact this
theorem Own.bt_free {w0 w : World} {rb n : Nat} {rs : List (Value × List Bool)} {R : HProp} (h : Own w0 (BTab rb n rs * R) w) : ∀ i s, w.frozen? ⟨rb, i, s⟩ = false := (Own.tab_facts h).2.1
theorem Own.bt_put {w0 w : World} {rb n k : Nat} {rs : List (Value × List Bool)} {R : HProp} {v : Value} {l : List Bool} {b o cap m : Nat} (h : Own w0 (BTab rb n rs * R) w) (hk : rs[k]? = some (v, l)) (hv : v = .slice (some ⟨b, o, none⟩) m cap) (hp : 0 < l.length) :
    l.length = m ∧ m ≤ cap ∧ cap ≤ 9223372036854775807 ∧ (∀ i s, w.frozen? ⟨b, i, s⟩ = false) ∧ (∀ j x, l[j]? = some x → w.cell? ⟨b, o + j, none⟩ = some (.bool x)) ∧
      ∀ j x, j < l.length → Own w0 (BTab rb n (rs.set k (v, l.set j x)) * R) (w.setCell ⟨b, o + j, none⟩ (.bool x)) := by
  obtain ⟨hlt, he⟩ := List.getElem?_eq_some_iff.1 hk
  obtain ⟨b', o', cap', e1, f1, f2, f3, f4, f5⟩ := h.bt_row hlt (by rw [he]; exact hp)
  simp only [he] at e1 f1 f4 f5
  rw [hv] at e1
  injection e1 with e1 e2 e3
  injection e1 with e1
  injection e1 with e1 e4 _
  subst e1; subst e3; subst e4
  refine ⟨e2.symm, by rw [e2]; exact f1, f2, f3, fun j x hj => ?_, fun j x hj => f5 j x hj⟩
  obtain ⟨hlt2, he2⟩ := List.getElem?_eq_some_iff.1 hj
  have := f4 j hlt2
  rw [he2] at this; exact this
theorem set_same {α : Type} {l : List α} {k : Nat} {a : α} (h : l[k]? = some a) : l.set k a = l := by
  obtain ⟨hk, rfl⟩ := List.getElem?_eq_some_iff.1 h
  simp
noncomputable def paOr_code : Code := ((Tryz.f108.body.bind (findBlock 4)).getD .skip)
set_option maxRecDepth 1000000 in
set_option maxHeartbeats 4000000 in
theorem paOr {Q : Exit → Act → World → Prop} {u0 u1 u2 u5 u6 u7 u8 u9 u10 u11 u12 u13 u14 u15 u16 u17 u18 u19 u20 u21 u22 u23 u24 u25 u26 u27 u28 u29 u30 u31 u32 u33 u34 u35 u36 u37 u38 u39 u40 u41 u42 u43 u44 u45 u46 u47 u48 u49 u50 u51 u52 u53 u54 u55 u56 u57 u58 u59 u60 u61 u62 u63 u64 u65 u66 u67 u68 u69 u70 u71 u75 u76 u77 u78 u79 u80 u81 u82 u83 u84 u85 u86 u87 u88 u89 u90 u91 u92 u93 u94 u95 u96 u97 u98 : Value} {w1 : World} (w : World) (R : HProp) (rb n k i kb ko kcap sb so scap : Nat) (rs : List (Value × List Bool)) (r s : List Bool) (hk : k < n) (hi : i < k) (hn : n ≤ 60) (HR : Hid (rs[k]? = some (.slice (some ⟨kb, ko, none⟩) n kcap, r))) (HS : Hid (rs[i]? = some (.slice (some ⟨sb, so, none⟩) n scap, s))) (HRL : Hid (r.length = n ∧ s.length = n)) (HP : Hid (Own w (BTab rb n rs * R) w1))
    (hK : ∀ (v8 v9 v74 v75 v76 v77 v78 v79 v80 v81 v82 v83 v84 v85 v86 v87 v88 v89 v90 v91 v92 v93 v94 v95 : Value) (wx : World), (Own w (BTab rb n (rs.set k (.slice (some ⟨kb, ko, none⟩) n kcap, orRow r s)) * R) wx) → Q .normal ⟨List.toArray (u0 :: u1 :: u2 :: (.slice (some ⟨rb, 0, none⟩) n n) :: (.int .i64 (k : Int)) :: u5 :: u6 :: u7 :: v8 :: v9 :: u10 :: u11 :: u12 :: u13 :: u14 :: u15 :: u16 :: u17 :: u18 :: u19 :: u20 :: u21 :: u22 :: u23 :: u24 :: u25 :: u26 :: u27 :: u28 :: u29 :: u30 :: u31 :: u32 :: u33 :: u34 :: u35 :: u36 :: u37 :: u38 :: u39 :: u40 :: u41 :: u42 :: u43 :: u44 :: u45 :: u46 :: u47 :: u48 :: u49 :: u50 :: u51 :: u52 :: u53 :: u54 :: u55 :: u56 :: u57 :: u58 :: u59 :: u60 :: u61 :: u62 :: u63 :: u64 :: u65 :: u66 :: u67 :: u68 :: u69 :: u70 :: u71 :: (.slice (some ⟨sb, so, none⟩) n scap) :: (.int .i64 (n : Int)) :: v74 :: v75 :: v76 :: v77 :: v78 :: v79 :: v80 :: v81 :: v82 :: v83 :: v84 :: v85 :: v86 :: v87 :: v88 :: v89 :: v90 :: v91 :: v92 :: v93 :: v94 :: v95 :: u96 :: u97 :: u98 :: []), []⟩ wx) :
    Code.wp Tryz.prog paOr_code Q ⟨List.toArray (u0 :: u1 :: u2 :: (.slice (some ⟨rb, 0, none⟩) n n) :: (.int .i64 (k : Int)) :: u5 :: u6 :: u7 :: u8 :: u9 :: u10 :: u11 :: u12 :: u13 :: u14 :: u15 :: u16 :: u17 :: u18 :: u19 :: u20 :: u21 :: u22 :: u23 :: u24 :: u25 :: u26 :: u27 :: u28 :: u29 :: u30 :: u31 :: u32 :: u33 :: u34 :: u35 :: u36 :: u37 :: u38 :: u39 :: u40 :: u41 :: u42 :: u43 :: u44 :: u45 :: u46 :: u47 :: u48 :: u49 :: u50 :: u51 :: u52 :: u53 :: u54 :: u55 :: u56 :: u57 :: u58 :: u59 :: u60 :: u61 :: u62 :: u63 :: u64 :: u65 :: u66 :: u67 :: u68 :: u69 :: u70 :: u71 :: (.slice (some ⟨sb, so, none⟩) n scap) :: (.int .i64 (n : Int)) :: (.int .i64 0) :: u75 :: u76 :: u77 :: u78 :: u79 :: u80 :: u81 :: u82 :: u83 :: u84 :: u85 :: u86 :: u87 :: u88 :: u89 :: u90 :: u91 :: u92 :: u93 :: u94 :: u95 :: u96 :: u97 :: u98 :: []), []⟩ w1 := by
  conv => arg 2; whnf
  have HK := Lib.hid hK
  clear hK
  go_wp2_with fail
  go_loopw [74] (fun jv wr => ∃ j : Nat, j ≤ n ∧ jv = .int .i64 j ∧ Hid (Own w (BTab rb n (rs.set k (.slice (some ⟨kb, ko, none⟩) n kcap, orFirst r s j)) * R) wr)) (fun jv _ => n - (intOf jv).toNat)
  case atStart =>
    refine ⟨0, Nat.zero_le _, rfl, Lib.hid ?_⟩
    rw [orFirst_zero, set_same HR.out]
    exact HP.out
  case round =>
    obtain ⟨j, hj, rfl, HO⟩ := hrel
    by_cases hlt : j < n
    rotate_left
    · have hjn : j = n := by omega
      have fin := HO.out
      rw [hjn, ← HRL.out.1, orFirst_all r s (HRL.out.1.trans HRL.out.2.symm), HRL.out.1] at fin
      have FIN := Lib.hid fin
      clear fin
      go_wp2_with fail
      apply HK.out
      exact FIN.out
    have hrl := HRL.out.1
    have hkr : k < rs.length := (List.getElem?_eq_some_iff.1 HR.out).1
    have e1 : (rs.set k (.slice (some ⟨kb, ko, none⟩) n kcap, orFirst r s j))[k]? = some (.slice (some ⟨kb, ko, none⟩) n kcap, orFirst r s j) := by simp [hkr]
    have e2 : (rs.set k (.slice (some ⟨kb, ko, none⟩) n kcap, orFirst r s j))[i]? = some (.slice (some ⟨sb, so, none⟩) n scap, s) := by rw [List.getElem?_set, if_neg (by omega)]; exact HS.out
    obtain ⟨g1, g2, g3, g4, g5, g6⟩ := HO.out.bt_put e1 rfl (by rw [orFirst_len]; omega)
    obtain ⟨k1, k2, k3, k4, k5, _⟩ := HO.out.bt_put e2 rfl (by rw [HRL.out.2]; omega)
    have c1 := HO.out.bt_cell e1
    have c2 := HO.out.bt_cell e2
    have d1 := g5 j _ (orFirst_get r s j (by omega))
    have d2 := k5 j (s.getD j false) (by rw [List.getD_eq_getElem?_getD, List.getElem?_eq_getElem (by rw [HRL.out.2]; omega)]; rfl)
    have hst := orFirst_step r s j (by omega)
    have st := g6 j (r.getD j false || s.getD j false) (by rw [orFirst_len]; omega)
    rw [hst, List.set_set] at st
    obtain ⟨x, hx⟩ : ∃ x, x = r.getD j false := ⟨_, rfl⟩
    obtain ⟨y, hy⟩ : ∃ y, y = s.getD j false := ⟨_, rfl⟩
    rw [← hx] at d1 st
    rw [← hy] at d2 st
    have f1 := HO.out.bt_free
    have j0 : (0 : Int) ≤ (j : Int) := by omega
    have j1 : (j : Int) < (n : Int) := by omega
    have k0' : (0 : Int) ≤ (k : Int) := by omega
    have k1' : (k : Int) < (n : Int) := by omega
    have E1 := Lib.hid e1; have E2 := Lib.hid e2; have G5 := Lib.hid g5; have G6 := Lib.hid g6; have K5 := Lib.hid k5; have HST := Lib.hid hst; have HX := Lib.hid hx; have HY := Lib.hid hy; have HRL := Lib.hid hrl; have ST := Lib.hid st; have G1 := Lib.hid g1; have K1 := Lib.hid k1
    clear e1 e2 g5 g6 k5 hst hx hy hrl st g1 k1
    cases x
    · go_wp2_with fail
      refine wp_region_tail 15 (by kernel_rfl) (by kernel_rfl) ?_
      simp only [List.take_succ_cons, List.take_zero, List.drop_succ_cons, List.drop_zero]
      repeat still_step
      refine wpStill_nil ?_
      go_wp2_with fail
      have ST2 := Lib.hid ST.out.drew
      clear ST
      go_roundw
      case rel => exact ⟨j + 1, by omega, by go_num, ST2⟩
      case measure => simp [intOf]; omega
    · go_wp2_with fail
      refine wp_region_tail 15 (by kernel_rfl) (by kernel_rfl) ?_
      simp only [List.take_succ_cons, List.take_zero, List.drop_succ_cons, List.drop_zero]
      repeat still_step
      refine wpStill_nil ?_
      go_wp2_with fail
      have ST2 := Lib.hid ST.out.drew
      clear ST
      go_roundw
      case rel => exact ⟨j + 1, by omega, by go_num, ST2⟩
      case measure => simp [intOf]; omega
end Go.Proofs.YtdfjbnfdknpahaaGreatDoor
