/- Package log: Do, continued. -/
import Derived.Test.YtpafhfnimncklaaGreatDoorMTopCast22
import Derived.Test.YtpafhfnimncklaaGreatDoorMTopCast21
import Derived.Test.YtpafhfnimncklaaGreatDoorMTopCast2
import Derived.Test.YtpafhfnimncklaaGreatDoorMTopCast9
import Derived.Test.YtpafhfnimncklaaGreatDoorMTopCast8
namespace Go.Proofs.YtpafhfnimncklaaGreatDoor
set_option linter.unusedVariables false
set_option linter.unusedSimpArgs false
open Go.RowKit
/-- The next history. -/
noncomputable def lgNext_code : Code := ((Tryz.f10.body.bind (findRegion 3)).getD .skip)
set_option maxRecDepth 1000000 in
set_option maxHeartbeats 4000000 in
theorem lgNext {Q : Exit → Act → World → Prop} {u1 u2 u4 u5 u6 u7 u8 u9 u10 u11 u12 u13 u14 u15 u16 u17 u18 u19 u20 u21 u22 u23 u24 u25 u26 u27 u28 u29 u30 u31 u32 u33 u34 u35 u36 u37 u38 u39 u40 u41 u42 u43 u44 u45 u46 u47 u48 u49 u50 u51 u52 u53 u54 u55 u56 u57 u58 u59 u60 u61 u62 u63 u64 u65 u66 : Value} {w1 : World} (w0 : World) (R : HProp) (p b1 : Nat) (hv : Value) (s : Lg) (e : Ev) (HI : Hid (LgI s)) (HO : Hid (Own w0 (EvO b1 e * (LgO p hv s * R)) w1))
    (hK : ∀ (v5 v13 v14 v15 v16 v17 v18 v19 v20 : Value) (wx : World), (Own w0 (EvSl v5 (s.h ++ [e]) * (EvO b1 e * (LgO p hv s * R))) wx) → Q .normal ⟨List.toArray ((.pointer (some ⟨p, 0, none⟩)) :: u1 :: u2 :: (.pointer (some ⟨b1, 0, none⟩)) :: u4 :: v5 :: u6 :: u7 :: u8 :: u9 :: u10 :: u11 :: u12 :: v13 :: v14 :: v15 :: v16 :: v17 :: v18 :: v19 :: v20 :: u21 :: u22 :: u23 :: u24 :: u25 :: u26 :: u27 :: u28 :: u29 :: u30 :: u31 :: u32 :: u33 :: u34 :: u35 :: u36 :: u37 :: u38 :: u39 :: u40 :: u41 :: u42 :: u43 :: u44 :: u45 :: u46 :: u47 :: u48 :: u49 :: u50 :: u51 :: u52 :: u53 :: u54 :: u55 :: u56 :: u57 :: u58 :: u59 :: u60 :: u61 :: u62 :: u63 :: u64 :: u65 :: u66 :: []), []⟩ wx) :
    Code.wp Tryz.prog lgNext_code Q ⟨List.toArray ((.pointer (some ⟨p, 0, none⟩)) :: u1 :: u2 :: (.pointer (some ⟨b1, 0, none⟩)) :: u4 :: u5 :: u6 :: u7 :: u8 :: u9 :: u10 :: u11 :: u12 :: u13 :: u14 :: u15 :: u16 :: u17 :: u18 :: u19 :: u20 :: u21 :: u22 :: u23 :: u24 :: u25 :: u26 :: u27 :: u28 :: u29 :: u30 :: u31 :: u32 :: u33 :: u34 :: u35 :: u36 :: u37 :: u38 :: u39 :: u40 :: u41 :: u42 :: u43 :: u44 :: u45 :: u46 :: u47 :: u48 :: u49 :: u50 :: u51 :: u52 :: u53 :: u54 :: u55 :: u56 :: u57 :: u58 :: u59 :: u60 :: u61 :: u62 :: u63 :: u64 :: u65 :: u66 :: []), []⟩ w1 := by
  conv => arg 2; whnf
  have HK := Lib.hid hK
  clear hK
  obtain ⟨x0, x1, x2⟩ := HO.out.drew.ev
  obtain ⟨c0, _⟩ := HO.out.drew.drop.lg_facts
  have hlen := HI.out.hr.1
  obtain ⟨y1, y2, y3⟩ := e
  simp only at x0 x1 x2
  have HEV := Lib.hid (HO.out.drew.drop.lg_evs HI.out.hr)
  obtain ⟨H, hH⟩ : ∃ x, x = s.h := ⟨_, rfl⟩
  rw [← hH] at hlen HEV
  have HHH := Lib.hid hH
  clear hH
  refine wp_region_planF 8 [(true, 0), (true, 1), (true, 2), (true, 3), (true, 5)] 4 6 [(false, 6), (false, 7)] [(false, 4), (false, 7)] [8] (fun wS => wS.cell? ⟨p, 0, none⟩ = some hv ∧ wS.cell? ⟨b1, 0, none⟩ = some (.int .i64 y1) ∧ wS.cell? ⟨b1, 1, none⟩ = some (.int .i64 y2) ∧ wS.cell? ⟨b1, 2, none⟩ = some (.int .i64 y3)) (by kernel_rfl) (by kernel_rfl) ⟨c0, x0, x1, x2⟩ ?_
  simp only [pickH, pick, List.getElem?_cons_succ, List.getElem?_cons_zero, Option.toList, Option.map_some, List.cons_append, List.nil_append]
  repeat (refine wpMix_read ?_ rfl ?_ ?_; rotate_left; (focus (intro _ hS; obtain ⟨s1, s2, s3, s4⟩ := hS; first | with_reducible rfl | (go_simp; done) | (go_simp; with_reducible rfl) | rfl)); go_simp)
  refine wpMix_nil ⟨?_, ?_⟩
  · refine wpMix_write (fun K hK => ?_)
    go_simp
    refine (cloneEv_any hv H HEV.out (by omega) HO.out.drew).mono ?_
    rintro e w2 ⟨v2, rfl, ho⟩
    obtain ⟨ad2, cp2, hv2, _⟩ := Own.rd ho
    subst hv2
    clear c0 x0 x1 x2
    obtain ⟨x0, x1, x2⟩ := ho.drop.ev
    obtain ⟨c0, _⟩ := ho.drop.drop.lg_facts
    simp only at x0 x1 x2
    have HO2 := Lib.hid ho
    clear ho
    refine hK _ _ ⟨⟨c0, x0, x1, x2⟩, ?_⟩
    clear hK K
    go_simp
    refine wpMix_write (fun K hK => ?_)
    go_simp
    obtain ⟨b3, hb_b3⟩ : ∃ zz_, zz_ = (w2).heap.size := ⟨_, rfl⟩
    obtain ⟨w3, hw_w3⟩ : ∃ zz_, zz_ = (w2).alloc (.cells #[.int .i64 y1, .int .i64 y2, .int .i64 y3] 40 (0, 0)) := ⟨_, rfl⟩
    have h_HB := (HO2.out).alloc (.cells #[.int .i64 y1, .int .i64 y2, .int .i64 y3] 40 (0, 0))
    rw [← hb_b3, ← hw_w3] at h_HB
    have HB := Lib.hid h_HB
    clear h_HB
    rw [← hb_b3, ← hw_w3]
    clear hb_b3 hw_w3
    have HB2 : Hid (Own w0 (Sl 40 3 (.slice ad2 H.length cp2) H.length (H.flatMap evCells) * (EvO b3 (y1, y2, y3) * (EvO b1 (y1, y2, y3) * (LgO p hv s * R)))) w3) := Lib.hid (HB.out.perm (by unfold EvSl EvO; ac_rfl))
    clear HB HO2 c0 x0 x1 x2
    obtain ⟨x0, x1, x2⟩ := HB2.out.drop.drop.ev
    obtain ⟨c0, _⟩ := HB2.out.drop.drop.drop.lg_facts
    simp only at x0 x1 x2
    refine hK _ _ ⟨⟨c0, x0, x1, x2⟩, ?_⟩
    clear hK K
    go_simp
    refine wpMix_write (fun K hK => ?_)
    have hsrc : Rd w3 (.slice (some ⟨b3, 0, none⟩) 1 1) 1 [.int .i64 y1, .int .i64 y2, .int .i64 y3] := Rd_one (fun i u hi => by
      rw [(HB2.out.perm (show _ = EvO b3 (y1, y2, y3) * (Sl 40 3 (.slice ad2 H.length cp2) H.length (H.flatMap evCells) * (EvO b1 (y1, y2, y3) * (LgO p hv s * R))) by ac_rfl)).cell]
      match i, hi with
      | 0, hi => exact hi
      | 1, hi => exact hi
      | 2, hi => exact hi) (Nat.le_refl _) (by unfold maxLen; omega)
    refine step_app rfl _ _ 34 rfl 40 3 24 _ info_ev Tryz.underlying34 rfl (by decide) (by rfl) HB2.out (by rfl) (by rfl) hsrc (by intro u hu; simp at hu; rcases hu with rfl | rfl | rfl <;> rfl) (by unfold maxLen; omega) (by omega) ?_
    intro v5 w5 ho5
    clear c0 x0 x1 x2 hsrc
    have ho6 : Own w0 (EvSl v5 (H ++ [(y1, y2, y3)]) * (EvO b1 (y1, y2, y3) * (LgO p hv s * R))) w5 := Own.evs_snoc (l2 := [(y1, y2, y3)]) (ho5.perm (show _ = EvO b3 (y1, y2, y3) * (Sl 40 3 v5 (H.length + 1) (H.flatMap evCells ++ [(y1, y2, y3)].flatMap evCells) * (EvO b1 (y1, y2, y3) * (LgO p hv s * R))) by
      show Sl _ _ _ _ (_ ++ evCells (y1, y2, y3)) * _ = _
      simp only [List.flatMap_cons, List.flatMap_nil, List.append_nil]
      ac_rfl)).drop
    obtain ⟨x0, x1, x2⟩ := ho6.drop.ev
    obtain ⟨c0, _⟩ := ho6.drop.drop.lg_facts
    simp only at x0 x1 x2
    have HF := Lib.hid ho6
    clear ho5 ho6 HB2
    refine hK _ _ ⟨⟨c0, x0, x1, x2⟩, ?_⟩
    clear hK K
    go_simp
    refine wpMix_nil ?_
    go_wp2_with fail
    refine NoPanic.normal ?_
    apply HK.out
    rw [← HHH.out]
    exact HF.out
  · refine wpMix_write (fun K hK => ?_)
    go_simp
    obtain ⟨b3, hb_b3⟩ : ∃ zz_, zz_ = (w1).heap.size := ⟨_, rfl⟩
    obtain ⟨w3, hw_w3⟩ : ∃ zz_, zz_ = (w1).alloc (.cells #[.int .i64 y1, .int .i64 y2, .int .i64 y3] 40 (0, 0)) := ⟨_, rfl⟩
    have h_HB := (HO.out).alloc (.cells #[.int .i64 y1, .int .i64 y2, .int .i64 y3] 40 (0, 0))
    rw [← hb_b3, ← hw_w3] at h_HB
    have HB := Lib.hid h_HB
    clear h_HB
    rw [← hb_b3, ← hw_w3]
    clear hb_b3 hw_w3
    have HB2 : Hid (Own w0 (EvO b3 (y1, y2, y3) * (EvO b1 (y1, y2, y3) * (LgO p hv s * R))) w3.drew) := Lib.hid HB.out.drew
    clear HB c0 x0 x1 x2
    obtain ⟨x0, x1, x2⟩ := HB2.out.drop.ev
    obtain ⟨c0, _⟩ := HB2.out.drop.drop.lg_facts
    have HEV2 := Lib.hid (HB2.out.drop.drop.lg_evs HI.out.hr)
    rw [← HHH.out] at HEV2
    simp only at x0 x1 x2
    refine hK _ _ ⟨⟨c0, x0, x1, x2⟩, ?_⟩
    clear hK K
    go_simp
    refine wpMix_write (fun K hK => ?_)
    go_simp
    refine (cloneEv_any hv H HEV2.out (by omega) HB2.out).mono ?_
    rintro e w2 ⟨v2, rfl, ho⟩
    obtain ⟨ad2, cp2, hv2, _⟩ := Own.rd ho
    subst hv2
    clear c0 x0 x1 x2
    obtain ⟨x0, x1, x2⟩ := ho.drop.drop.ev
    obtain ⟨c0, _⟩ := ho.drop.drop.drop.lg_facts
    simp only at x0 x1 x2
    have HB3 : Hid (Own w0 (Sl 40 3 (.slice ad2 H.length cp2) H.length (H.flatMap evCells) * (EvO b3 (y1, y2, y3) * (EvO b1 (y1, y2, y3) * (LgO p hv s * R)))) w2) := Lib.hid ho
    clear ho HB2 HEV2
    refine hK _ _ ⟨⟨c0, x0, x1, x2⟩, ?_⟩
    clear hK K
    go_simp
    refine wpMix_write (fun K hK => ?_)
    have hsrc : Rd w2 (.slice (some ⟨b3, 0, none⟩) 1 1) 1 [.int .i64 y1, .int .i64 y2, .int .i64 y3] := Rd_one (fun i u hi => by
      rw [(HB3.out.perm (show _ = EvO b3 (y1, y2, y3) * (Sl 40 3 (.slice ad2 H.length cp2) H.length (H.flatMap evCells) * (EvO b1 (y1, y2, y3) * (LgO p hv s * R))) by ac_rfl)).cell]
      match i, hi with
      | 0, hi => exact hi
      | 1, hi => exact hi
      | 2, hi => exact hi) (Nat.le_refl _) (by unfold maxLen; omega)
    refine step_app rfl _ _ 34 rfl 40 3 24 _ info_ev Tryz.underlying34 rfl (by decide) (by rfl) HB3.out (by rfl) (by rfl) hsrc (by intro u hu; simp at hu; rcases hu with rfl | rfl | rfl <;> rfl) (by unfold maxLen; omega) (by omega) ?_
    intro v5 w5 ho5
    clear c0 x0 x1 x2 hsrc
    have ho6 : Own w0 (EvSl v5 (H ++ [(y1, y2, y3)]) * (EvO b1 (y1, y2, y3) * (LgO p hv s * R))) w5 := Own.evs_snoc (l2 := [(y1, y2, y3)]) (ho5.perm (show _ = EvO b3 (y1, y2, y3) * (Sl 40 3 v5 (H.length + 1) (H.flatMap evCells ++ [(y1, y2, y3)].flatMap evCells) * (EvO b1 (y1, y2, y3) * (LgO p hv s * R))) by
      show Sl _ _ _ _ (_ ++ evCells (y1, y2, y3)) * _ = _
      simp only [List.flatMap_cons, List.flatMap_nil, List.append_nil]
      ac_rfl)).drop
    obtain ⟨x0, x1, x2⟩ := ho6.drop.ev
    obtain ⟨c0, _⟩ := ho6.drop.drop.lg_facts
    simp only at x0 x1 x2
    have HF := Lib.hid ho6
    clear ho5 ho6 HB3
    refine hK _ _ ⟨⟨c0, x0, x1, x2⟩, ?_⟩
    clear hK K
    go_simp
    refine wpMix_nil ?_
    go_wp2_with fail
    refine NoPanic.normal ?_
    apply HK.out
    rw [← HHH.out]
    exact HF.out
end Go.Proofs.YtpafhfnimncklaaGreatDoor
/- Package log: Do, the whole. -/
namespace Go.Proofs.YtpafhfnimncklaaGreatDoor
set_option linter.unusedVariables false
set_option linter.unusedSimpArgs false
open Go.RowKit
theorem Own.lg_next {w0 w : World} {p : Nat} {hv v : Value} {s : Lg} {h' : List Ev} {R : HProp} (h : Own w0 (LgO p hv s * (EvSl v h' * R)) w) : Own w0 (LgP p { s with h := h' } * R) (w.setCell ⟨p, 0, none⟩ v) := by
  have h1 := (h.perm (show _ = EvSl hv s.h * (blk p (.cells #[hv, .string (strL s.bs), .int .i64 (s.safe : Nat), .int .i64 s.left, .bool s.st] 85 (0, 0)) * (EvSl v h' * R)) by unfold LgO; ac_rfl)).drop
  have h2 := h1.setCell (i := 0) (v := v)
  refine Own.lg_close (hv := v) (h2.perm ?_)
  unfold LgO
  rw [show (#[hv, .string (strL s.bs), .int .i64 (s.safe : Nat), .int .i64 s.left, .bool s.st] : Array Value).setIfInBounds 0 v = #[v, .string (strL s.bs), .int .i64 (s.safe : Nat), .int .i64 s.left, .bool s.st] by simp [Array.setIfInBounds]]
  ac_rfl
theorem sl_shp {w0 w : World} {ty : TypeId} {size : Nat} {v : Value} {n : Nat} {xs : List Value} {R : HProp} (h : Own w0 (Sl ty size v n xs * R) w) : ∃ ad L cp, v = .slice ad L cp := by
  obtain ⟨ad, cp, e, _⟩ := Own.rd h
  exact ⟨ad, n, cp, e⟩
theorem half_is {e : Ev} (h : okEv e) : ∃ k, (encE e).length = k ∧ 6 ≤ k ∧ k ≤ 9 := ⟨_, rfl, (encE_len h).1, (encE_len h).2⟩
set_option maxRecDepth 100000 in
set_option maxHeartbeats 4000000 in
theorem lgDo_any {w0 w : World} {R : HProp} (p : Nat) (s : Lg) (ev : Ev) (hI : LgI s) (hg : goodEv ev) (h : Own w0 (LgP p s * R) w) :
    Calls Tryz.prog 10 #[.pointer (some ⟨p, 0, none⟩), evV ev] w fun e w' => e = .returned (errV (lgErr s ev)) ∧ Own w0 (LgP p (lgDo s ev) * R) w' := by
  obtain ⟨hv, ho⟩ := h.lg_open
  obtain ⟨_, _, _, _, c4, _⟩ := ho.lg_facts
  obtain ⟨y1, y2, y3⟩ := ev
  unfold evV
  obtain ⟨b1, hb_b1⟩ : ∃ zz_, zz_ = (w).heap.size := ⟨_, rfl⟩
  obtain ⟨w1, hw_w1⟩ : ∃ zz_, zz_ = (w).alloc (.cells #[.int .i64 y1, .int .i64 y2, .int .i64 y3] 40 (0, 0)) := ⟨_, rfl⟩
  have h_H1 := (ho).alloc (.cells #[.int .i64 y1, .int .i64 y2, .int .i64 y3] 40 (0, 0))
  rw [← hb_b1, ← hw_w1] at h_H1
  have H1 := Lib.hid h_H1
  clear h_H1
  have HO1 : Hid (Own w0 (EvO b1 (y1, y2, y3) * (LgO p hv s * R)) w1) := H1
  obtain ⟨_, _, _, _, d4, _⟩ := H1.out.drop.lg_facts
  clear c4 ho H1
  cases hst : s.st
  rotate_left
  · have h1 : lgDo s (y1, y2, y3) = s := by unfold lgDo; rw [if_pos hst]
    have h2 : lgErr s (y1, y2, y3) = 6 := by unfold lgErr; rw [if_pos hst]
    rw [hst] at d4
    rw [h1, h2]
    have H := Lib.hid h; have HI := Lib.hid hI; have HST := Lib.hid hst; have H1 := Lib.hid h1; have H2 := Lib.hid h2; have HG := Lib.hid hg
    clear h hI hst h1 h2 hg
    go_enter Tryz.func10, Tryz.ntmps10
    go_upto_region 1 with fail
    rw [← hb_b1, ← hw_w1]
    clear hb_b1 hw_w1
    go_wp2
    go_ret
    exact ⟨rfl, Own.lg_close HO1.out.drop⟩
  rw [hst] at d4
  obtain ⟨E, hE⟩ : ∃ E, E = (histR (s.h ++ [(y1, y2, y3)])).2 := ⟨_, rfl⟩
  have hds : lgDo s (y1, y2, y3) = if E ≠ 0 then s else if s.left = 0 then { s with st := true, left := -1, bs := s.bs ++ halfE (y1, y2, y3) } else { s with st := false, left := dec1 s.left, bs := s.bs ++ encE (y1, y2, y3), h := s.h ++ [(y1, y2, y3)] } := by
    unfold lgDo; rw [if_neg (by rw [hst]; simp), ← hE]
  have hes : lgErr s (y1, y2, y3) = if E ≠ 0 then E else if s.left = 0 then 6 else 0 := by
    unfold lgErr; rw [if_neg (by rw [hst]; simp), ← hE]
  have hgd : ∀ x ∈ s.h ++ [(y1, y2, y3)], goodEv x := fun x hx => by
    rcases List.mem_append.1 hx with hx | hx
    · exact okEv_good (hI.hr.ok x hx)
    · rw [List.mem_singleton.1 hx]; exact hg
  have H := Lib.hid h; have HST := Lib.hid hst; have HG := Lib.hid hg; have HGD := Lib.hid hgd
  clear h hst hg hgd
  have HI := Lib.hid hI
  by_cases h0 : E = 0
  rotate_left
  · rw [if_pos h0] at hds hes
    rw [hds, hes]
    have hee := errV_ne h0
    have HDS := Lib.hid hds; have HES := Lib.hid hes; have HE := Lib.hid hE; have H0 := Lib.hid h0; have HEE := Lib.hid hee
    clear hds hes hE h0 hee
    clear hI
    go_enter Tryz.func10, Tryz.ntmps10
    go_upto_region 1 with fail
    rw [← hb_b1, ← hw_w1]
    clear hb_b1 hw_w1
    go_upto_region 3 with fail
    refine lgNext w0 R p b1 hv s (y1, y2, y3) HI HO1 ?_
    intros
    rename_i wq hpp
    have HP := Lib.hid hpp
    clear hpp d4
    go_wp2_with fail
    refine (hRight_any _ (s.h ++ [(y1, y2, y3)]) HP.out (EvSl_reads HGD.out)).mono ?_
    rintro e w2 ⟨rfl, ho⟩
    rw [← HE.out, HEE.out]
    have HO2 := Lib.hid ho
    clear ho HP
    go_wp2
    go_ret
    exact ⟨by rw [HEE.out]; rfl, Own.lg_close HO2.out.drop.drop⟩
  rw [if_neg (by simpa using h0)] at hds hes
  have hrn : RightH (s.h ++ [(y1, y2, y3)]) := (histR_ok _).1 (by rw [← hE]; exact h0)
  have hok : okEv (y1, y2, y3) := hrn.ok _ (by simp)
  obtain ⟨⟨k1, k2⟩, ⟨k3, k4⟩, k5, k6⟩ := id hok
  simp only at k1 k2 k3 k4 k5 k6
  obtain ⟨a, rfl⟩ : ∃ a : Nat, y1 = (a : Int) := ⟨y1.toNat, by omega⟩
  obtain ⟨b, rfl⟩ : ∃ a : Nat, y2 = (a : Int) := ⟨y2.toNat, by omega⟩
  obtain ⟨c, rfl⟩ : ∃ a : Nat, y3 = (a : Int) := ⟨y3.toNat, by omega⟩
  have hlL := hI.left
  have hbl := hI.len
  have hln := encE_len hok
  obtain ⟨LE, hLE⟩ : ∃ x, x = encE ((a : Int), (b : Int), (c : Int)) := ⟨_, rfl⟩
  have hhf : halfE ((a : Int), (b : Int), (c : Int)) = LE.take (LE.length / 2) := by rw [hLE]; rfl
  rw [← hLE] at hln
  rw [hhf, ← hLE] at hds
  have hLs := strL_size LE
  obtain ⟨D, hD⟩ : ∃ D, decide (s.left = 0) = D := ⟨_, rfl⟩
  clear hI
  have HE := Lib.hid hE; have H0 := Lib.hid h0; have HRN := Lib.hid hrn; have HOK := Lib.hid hok; have HHF := Lib.hid hhf; have HLL := Lib.hid hlL
  clear hE h0 hrn hok hhf hlL
  go_enter Tryz.func10, Tryz.ntmps10
  go_upto_region 1 with fail
  rw [← hb_b1, ← hw_w1]
  clear hb_b1 hw_w1
  go_upto_region 3 with fail
  refine lgNext w0 R p b1 hv s _ HI HO1 ?_
  intros
  rename_i v5n _ _ _ _ _ _ _ _ wq hpp
  obtain ⟨ad5, n5, cp5, hv5⟩ := sl_shp (show Own w0 (Sl 40 3 v5n _ _ * _) wq from hpp)
  subst hv5
  have HP := Lib.hid hpp
  clear hpp d4
  go_wp2_with fail
  refine (hRight_any _ (s.h ++ [((a : Int), (b : Int), (c : Int))]) HP.out (EvSl_reads HGD.out)).mono ?_
  rintro e w2 ⟨rfl, ho⟩
  rw [← HE.out, H0.out, errV0]
  obtain ⟨x0, x1, x2⟩ := ho.drop.ev
  simp only at x0 x1 x2
  have HO2 := Lib.hid ho
  clear ho HP
  go_upto_region 7 with fail
  refine lgLine b1 a b c (by omega) (by omega) (by omega) x0 x1 x2 ?_
  intros
  rename_i hpp
  obtain ⟨rfl, rfl⟩ := hpp
  clear x0 x1 x2
  rw [← hLE]
  have HO3 : Hid (Own w0 (LgO p hv s * (EvSl (.slice ad5 n5 cp5) (s.h ++ [((a : Int), (b : Int), (c : Int))]) * (EvO b1 ((a : Int), (b : Int), (c : Int)) * R))) w2.drew) := Lib.hid (HO2.out.drew.perm (by ac_rfl))
  clear HO2
  go_wp2_with fail
  refine (lgStep_any p hv s HLL.out HO3.out).mono ?_
  rintro e w3 ⟨rfl, ho⟩
  rw [hD]
  obtain ⟨e0, e1, e2, e3, e4, ef⟩ := ho.lg_facts
  have e1' : w3.cell? ⟨p, 1, none⟩ = some (.string (strL s.bs)) := e1
  have hbs := strL_size s.bs
  have HLQ := Lib.hid hLE
  clear hLE
  cases D
  · have hz : ¬ s.left = 0 := by simpa using hD
    rw [if_neg hz] at hds hes
    have had : ∀ w : World, (Op.stringOp .add (strL s.bs) (strL LE)).run Tryz.prog w = .ok (.string (strL s.bs ++ strL LE)) w := fun w => run_string_add_sum _ _ _ (by omega)
    rw [strL_app] at had
    have hs1 : Own w0 (LgO p hv { lgStep s with bs := s.bs ++ LE } * (EvSl (.slice ad5 n5 cp5) (s.h ++ [((a : Int), (b : Int), (c : Int))]) * (EvO b1 ((a : Int), (b : Int), (c : Int)) * R))) (w3.setCell ⟨p, 1, none⟩ (.string (strL (s.bs ++ LE)))) := ho.lg_set 1 _ rfl rfl (by simp [Array.setIfInBounds])
    obtain ⟨w4, hw4⟩ : ∃ x, x = w3.setCell ⟨p, 1, none⟩ (.string (strL (s.bs ++ LE))) := ⟨_, rfl⟩
    rw [← hw4] at hs1
    obtain ⟨f0, _, _, _, _, ff⟩ := hs1.lg_facts
    have hs2 := hs1.lg_next
    rw [show ({ ({ lgStep s with bs := s.bs ++ LE } : Lg) with h := s.h ++ [((a : Int), (b : Int), (c : Int))] } : Lg) = { s with st := false, left := dec1 s.left, bs := s.bs ++ LE, h := s.h ++ [((a : Int), (b : Int), (c : Int))] } by unfold lgStep; rw [hD]] at hs2
    have HS2 := Lib.hid hs2
    obtain ⟨B, hB⟩ : ∃ x, x = strL s.bs := ⟨_, rfl⟩
    obtain ⟨T, hT⟩ : ∃ x, x = strL LE := ⟨_, rfl⟩
    obtain ⟨U, hU⟩ : ∃ x, x = strL (s.bs ++ LE) := ⟨_, rfl⟩
    rw [← hB] at had e1'
    rw [← hT] at had ⊢
    rw [← hU] at had hw4
    clear hs1 hs2 hB hT hU ho e1 hLs hbs
    have HDS := Lib.hid hds; have HES := Lib.hid hes; have HD := Lib.hid hD; have HZ := Lib.hid hz; have HLN := Lib.hid hln
    clear hds hes hD hz hln
    go_upto_region 12 with fail
    rw [← hw4]
    clear hw4 e0 e1' e2 e3 e4 ef
    go_wp2
    go_ret
    exact ⟨by rw [HES.out]; rfl, by rw [HDS.out]; exact (HS2.out.perm (star_left_comm _ _ _)).drop⟩
  · have hz : s.left = 0 := by simpa using hD
    rw [if_pos hz] at hds hes
    have hd1 : dec1 s.left = -1 := by rw [hz]; rfl
    obtain ⟨K, hK, hK9⟩ : ∃ K : Nat, K = LE.length / 2 ∧ K ≤ LE.length := ⟨_, rfl, by omega⟩
    rw [← hK] at hds
    have hTs := strL_size (LE.take K)
    rw [List.length_take] at hTs
    have had : ∀ w : World, (Op.stringOp .add (strL s.bs) (strL (LE.take K))).run Tryz.prog w = .ok (.string (strL s.bs ++ strL (LE.take K))) w := fun w => run_string_add_sum _ _ _ (by omega)
    have hsl : ∀ w : World, (Instr.slice 9 (.string (strL LE)) none (some (.int .i64 (K : Int))) none).run Tryz.prog w = .ok (.string (strL (LE.take K))) w := fun w => by
      rw [run_slice_string_h w 9 (strL LE) Tryz.underlying9 .i64 _ (by omega) (by rw [hLs]; omega), Int.toNat_natCast, strL_take]
    rw [strL_app] at had
    have hs1 : Own w0 (LgO p hv { lgStep s with bs := s.bs ++ LE.take K } * (EvSl (.slice ad5 n5 cp5) (s.h ++ [((a : Int), (b : Int), (c : Int))]) * (EvO b1 ((a : Int), (b : Int), (c : Int)) * R))) (w3.setCell ⟨p, 1, none⟩ (.string (strL (s.bs ++ LE.take K)))) := ho.lg_set 1 _ rfl rfl (by simp [Array.setIfInBounds])
    rw [show ({ lgStep s with bs := s.bs ++ LE.take K } : Lg) = { s with st := true, left := -1, bs := s.bs ++ LE.take K } by unfold lgStep; rw [hD, hd1]] at hs1
    have HS2 : Hid (Own w0 (LgP p (lgDo s ((a : Int), (b : Int), (c : Int))) * R) ((w3.setCell ⟨p, 1, none⟩ (.string (strL (s.bs ++ LE.take K)))).drew)) := Lib.hid (by
      rw [hds]
      exact Own.drew (Own.lg_close (hs1.perm (show _ = EvSl (.slice ad5 n5 cp5) (s.h ++ [((a : Int), (b : Int), (c : Int))]) * (EvO b1 ((a : Int), (b : Int), (c : Int)) * (LgO p hv { s with st := true, left := -1, bs := s.bs ++ LE.take K } * R)) by ac_rfl)).drop.drop))
    obtain ⟨B, hB⟩ : ∃ x, x = strL s.bs := ⟨_, rfl⟩
    obtain ⟨T, hT⟩ : ∃ x, x = strL LE := ⟨_, rfl⟩
    obtain ⟨V, hV⟩ : ∃ x, x = strL (LE.take K) := ⟨_, rfl⟩
    obtain ⟨U, hU⟩ : ∃ x, x = strL (s.bs ++ LE.take K) := ⟨_, rfl⟩
    rw [← hB] at had e1'
    rw [← hT] at hsl hLs ⊢
    rw [← hV] at had hsl
    rw [← hU] at had HS2
    obtain ⟨KI, hKI⟩ : ∃ x : Int, (K : Int) = x := ⟨_, rfl⟩
    rw [hKI] at hsl
    have hn4 : (T.size = 6 ∧ KI = 3) ∨ (T.size = 7 ∧ KI = 3) ∨ (T.size = 8 ∧ KI = 4) ∨ (T.size = 9 ∧ KI = 4) := by omega
    clear hs1 hB hT hU hV ho e1 hbs hTs hK hK9 hd1 hKI
    have hln' := hln
    have HDS := Lib.hid hds; have HES := Lib.hid hes; have HD := Lib.hid hD; have HZ := Lib.hid hz; have HLN := Lib.hid hln; have HLS := Lib.hid hLs; have HLN' := Lib.hid hln'
    clear hds hes hD hz hln hLs hln'
    have hw3 : IntKind.i64.wrap 3 = 3 := by decide
    have hw4 : IntKind.i64.wrap 4 = 4 := by decide
    rcases hn4 with ⟨n1, rfl⟩ | ⟨n1, rfl⟩ | ⟨n1, rfl⟩ | ⟨n1, rfl⟩
    all_goals
      go_upto_region 9 with fail
      refine wp_region_planH 12 [] [(true, 0), (true, 1), (true, 2), (true, 3), (true, 4), (true, 5), (true, 6), (true, 7), (true, 8), (true, 9), (true, 10), (true, 11)] [12] (fun wS => wS = w3.drew) (by kernel_rfl) (by kernel_rfl) (rfl) ?_
      simp only [pickH, pick, List.getElem?_cons_succ, List.getElem?_cons_zero, Option.toList, Option.map_some, List.cons_append, List.nil_append]
      repeat (refine wpPure_step ?_ rfl ?_ ?_; rotate_left; (focus (intro _; first | with_reducible rfl | (go_simp; done) | (go_simp; with_reducible rfl) | rfl)); go_simp)
      refine wpPure_nil ?_
      repeat (refine wpMix_read ?_ rfl ?_ ?_; rotate_left; (focus (intro _ hS; obtain rfl := hS; first | with_reducible rfl | (go_simp; done) | (go_simp; with_reducible rfl) | rfl)); go_simp)
      refine wpMix_nil ?_
      go_wp2_with fail
      refine NoPanic.normal ?_
      go_wp2
      go_ret
      exact ⟨by rw [HES.out]; rfl, HS2.out⟩
end Go.Proofs.YtpafhfnimncklaaGreatDoor
/- mootsame.Said of two that are the same. -/
namespace Go.Proofs.YtpafhfnimncklaaGreatDoor
set_option linter.unusedVariables false
set_option linter.unusedSimpArgs false
open Go.RowKit
set_option maxRecDepth 100000 in
set_option maxHeartbeats 4000000 in
theorem sameSaid_eq {w0 w : World} {R : HProp} (who word : Int) (va vb : Value) (l : List Int) (h : Own w0 R w) (hA : Reads w0 R va l) (hB : Reads w0 R vb l) :
    Calls Tryz.prog 19 #[.agg #[.int .i64 who, .int .i64 word, va], .agg #[.int .i64 who, .int .i64 word, vb]] w fun e w' => e = .returned (.bool true) ∧ Own w0 R w' := by
  obtain ⟨ad, acap, rfl, _, _⟩ := (hA _ h).shape
  obtain ⟨bd, bcap, rfl, _, _⟩ := (hB _ h).shape
  obtain ⟨n, hn⟩ : ∃ n, n = l.length := ⟨_, rfl⟩
  rw [← hn] at hA hB ⊢
  obtain ⟨b1, hb_b1⟩ : ∃ zz_, zz_ = (w).heap.size := ⟨_, rfl⟩
  obtain ⟨w1, hw_w1⟩ : ∃ zz_, zz_ = (w).alloc (.cells #[.int .i64 who, .int .i64 word, .slice ad n acap] 51 (0, 0)) := ⟨_, rfl⟩
  have h_HO1 := (h).alloc (.cells #[.int .i64 who, .int .i64 word, .slice ad n acap] 51 (0, 0))
  rw [← hb_b1, ← hw_w1] at h_HO1
  have HO1 := Lib.hid h_HO1
  clear h_HO1
  obtain ⟨b2, hb_b2⟩ : ∃ zz_, zz_ = (w1).heap.size := ⟨_, rfl⟩
  obtain ⟨w2, hw_w2⟩ : ∃ zz_, zz_ = (w1).alloc (.cells #[.int .i64 who, .int .i64 word, .slice bd n bcap] 51 (0, 0)) := ⟨_, rfl⟩
  have h_HO2 := (HO1.out).alloc (.cells #[.int .i64 who, .int .i64 word, .slice bd n bcap] 51 (0, 0))
  rw [← hb_b2, ← hw_w2] at h_HO2
  have HO2 := Lib.hid h_HO2
  clear h_HO2
  obtain ⟨d0, d1, d2, _⟩ := (show Own w0 (SdB b2 who word (.slice bd n bcap) * _) w2 from HO2.out).sdB
  obtain ⟨c0, c1, c2, _⟩ := (show Own w0 (SdB b1 who word (.slice ad n acap) * _) w2 from HO2.out.drop).sdB
  have hra := hA.more.more _ HO2.out
  have hrb := hB.more.more _ HO2.out
  clear h HO1
  have HA := Lib.hid hA; have HB := Lib.hid hB; have HRA := Lib.hid hra; have HRB := Lib.hid hrb; have HN := Lib.hid hn
  clear hA hB hra hrb hn
  go_enter Tryz.func19, Tryz.ntmps19
  go_upto_region 1 with fail
  have hq_b2 : b1 + 1 = b2 := by rw [hb_b2, hw_w1, hb_b1, World.size_alloc]
  rw [← hb_b1, hq_b2, ← hw_w1, ← hw_w2]
  clear hq_b2 hb_b1 hb_b2 hw_w1 hw_w2
  go_wp2_with fail
  refine (sameInts_any _ _ l l _ HRA.out HRB.out).mono ?_
  rintro e w' ⟨rfl, nq, rfl⟩
  have hll : (l == l) = true := by simp
  rw [hll]
  go_wp2
  go_ret
  exact ⟨rfl, (HO2.out.drewN _).drop.drop⟩
end Go.Proofs.YtpafhfnimncklaaGreatDoor
/- Contracts of package clock: numbers. -/
namespace Go.Proofs.YtpafhfnimncklaaGreatDoor
set_option linter.unusedVariables false
set_option linter.unusedSimpArgs false
open Go.RowKit
end Go.Proofs.YtpafhfnimncklaaGreatDoor
/- Contracts of package clock, continued: vectors. -/
namespace Go.Proofs.YtpafhfnimncklaaGreatDoor
set_option linter.unusedVariables false
set_option linter.unusedSimpArgs false
open Go.RowKit
/-- A row of owned lists of ints: a slice of them. -/
def LSl (v : Value) (rs : List (Value × List Int)) : HProp := Sl 30 1 v rs.length (rs.map (·.1)) * starL rowP rs
/-- The same in an array of five. -/
def L5 (b : Nat) (rs : List (Value × List Int)) : HProp := blk b (.cells (rs.map (·.1)).toArray 132 (0, 0)) * starL rowP rs
theorem rows_one {rs : List (Value × List Int)} {k : Nat} {v : Value} {l : List Int} (h : rs[k]? = some (v, l)) : starL rowP rs = IntSl v l * starL rowP (rs.eraseIdx k) := by
  obtain ⟨hlt, he⟩ := List.getElem?_eq_some_iff.1 h
  rw [starL_split rowP rs k hlt, he]; rfl
theorem Own.l5_cell {w0 w : World} {b k : Nat} {rs : List (Value × List Int)} {v : Value} {l : List Int} {R : HProp} (h : Own w0 (L5 b rs * R) w) (hk : rs[k]? = some (v, l)) : w.cell? ⟨b, k, none⟩ = some v := by
  have h1 : Own w0 (blk b (.cells (rs.map (·.1)).toArray 132 (0, 0)) * (starL rowP rs * R)) w := h.perm (by unfold L5; ac_rfl)
  rw [Own.cell h1]; simp [hk]
theorem Own.l5_free {w0 w : World} {b : Nat} {rs : List (Value × List Int)} {R : HProp} (h : Own w0 (L5 b rs * R) w) : ∀ i, w.frozen? ⟨b, i, none⟩ = false := by
  have h1 : Own w0 (blk b (.cells (rs.map (·.1)).toArray 132 (0, 0)) * (starL rowP rs * R)) w := h.perm (by unfold L5; ac_rfl)
  exact fun i => Own.free h1 i none
theorem Own.l5_row {w0 w : World} {b k : Nat} {rs : List (Value × List Int)} {v : Value} {l : List Int} {R : HProp} (h : Own w0 (L5 b rs * R) w) (hk : rs[k]? = some (v, l)) (hI : ∀ x ∈ l, I64 x) : Ints w v l := by
  have h1 : Own w0 (IntSl v l * (starL rowP (rs.eraseIdx k) * (blk b (.cells (rs.map (·.1)).toArray 132 (0, 0)) * R))) w := h.perm (by unfold L5; rw [rows_one hk]; ac_rfl)
  exact ⟨Own.rd h1, hI⟩
theorem Own.l5_put {w0 w : World} {b k : Nat} {rs : List (Value × List Int)} {v : Value} {l : List Int} {R : HProp} (h : Own w0 (IntSl v l * (L5 b rs * R)) w) (hk : k < rs.length) : Own w0 (L5 b (rs.set k (v, l)) * R) (w.setCell ⟨b, k, none⟩ v) := by
  have h1 : Own w0 (rowP rs[k] * (blk b (.cells (rs.map (·.1)).toArray 132 (0, 0)) * (IntSl v l * (starL rowP (rs.eraseIdx k) * R)))) w := h.perm (by unfold L5; rw [starL_split rowP rs k hk]; ac_rfl)
  have h2 := h1.drop.setCell (i := k) (v := v)
  refine h2.perm ?_
  unfold L5
  rw [starL_set rowP rs k hk]
  show _ = blk b _ * (IntSl v l * starL rowP (rs.eraseIdx k)) * R
  rw [List.map_set, show ((rs.map (·.1)).set k (v, l).1).toArray = (rs.map (·.1)).toArray.setIfInBounds k v by simp]
  ac_rfl
theorem Own.ls_row {w0 w : World} {v rv : Value} {k : Nat} {rs : List (Value × List Int)} {l : List Int} {R : HProp} (h : Own w0 (LSl v rs * R) w) (hk : rs[k]? = some (rv, l)) (hI : ∀ x ∈ l, I64 x) :
    ∃ b off cap, v = .slice (some ⟨b, off, none⟩) rs.length cap ∧ rs.length ≤ cap ∧ cap ≤ 9223372036854775807 ∧ w.cell? ⟨b, off + k, none⟩ = some rv ∧ Ints w rv l := by
  obtain ⟨hlt, _⟩ := List.getElem?_eq_some_iff.1 hk
  have h1 : Own w0 (Sl 30 1 v rs.length (rs.map (·.1)) * (starL rowP rs * R)) w := h.perm (by unfold LSl; ac_rfl)
  obtain ⟨b, off, cap, e1, h2⟩ := h1.slAt (by simp; omega)
  have f := h2.slAt_facts
  have h3 : Own w0 (IntSl rv l * (starL rowP (rs.eraseIdx k) * (Sl 30 1 v rs.length (rs.map (·.1)) * R))) w := h.perm (by unfold LSl; rw [rows_one hk]; ac_rfl)
  exact ⟨b, off, cap, e1, f.1, f.2.1, f.2.2.2.1 k rv (by simp [hk]), Own.rd h3, hI⟩
theorem Own.ls_snoc {w0 w : World} {v x : Value} {rs : List (Value × List Int)} {l : List Int} {R : HProp} (h : Own w0 (Sl 30 1 v (rs.length + 1) (rs.map (·.1) ++ [x]) * (IntSl x l * (starL rowP rs * R))) w) : Own w0 (LSl v (rs ++ [(x, l)]) * R) w := by
  refine h.perm ?_
  unfold LSl
  rw [starL_snoc]
  show _ = Sl 30 1 v (rs ++ [(x, l)]).length ((rs ++ [(x, l)]).map (·.1)) * (IntSl x l * starL rowP rs) * R
  simp only [List.length_append, List.length_cons, List.length_nil, List.map_append, List.map_cons, List.map_nil, Nat.zero_add]
  ac_rfl
theorem LSl_nil : LSl (.slice none 0 0) [] = emp := by
  unfold LSl; rw [show starL rowP ([] : List (Value × List Int)) = emp from rfl, star_emp]; exact Sl_nil _ _
theorem L5_nil {b : Nat} : L5 b (List.replicate 5 (.slice none 0 0, [])) = blk b (.cells #[.slice none 0 0, .slice none 0 0, .slice none 0 0, .slice none 0 0, .slice none 0 0] 132 (0, 0)) := by
  unfold L5
  rw [starL_nils rowP (.slice none 0 0, []) (by unfold rowP IntSl; exact Sl_nil _ _), star_emp]
  rfl
set_option maxRecDepth 100000 in
set_option maxHeartbeats 4000000 in
theorem cloneNil_any (w : World) :
    Calls Tryz.prog 46 #[.slice none 0 0] w fun e w' => e = .returned (.slice none 0 0) ∧ w = w' := by
  have hnil := fun (w : World) => Lib.run_eql_slice_nil (P := Tryz.prog) w 30 3 none 0 0 0 0 Tryz.underlying30
  go_enter Tryz.func46, Tryz.ntmps46
  go_wp2
  go_ret
  exact ⟨rfl, rfl⟩
end Go.Proofs.YtpafhfnimncklaaGreatDoor
