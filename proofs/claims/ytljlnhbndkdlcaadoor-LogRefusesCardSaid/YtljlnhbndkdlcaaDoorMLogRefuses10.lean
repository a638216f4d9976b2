/- Package log: Do, continued. -/
import Derived.Test.YtljlnhbndkdlcaaDoorMLogRefuses9
import Derived.Test.YtljlnhbndkdlcaaDoorMLogRefuses8
import Derived.Test.YtljlnhbndkdlcaaDoorMLogRefuses2
import Derived.LaidEql
import Derived.Stop.Asserts
import Derived.RowKitTokens
import Derived.Test.YtljlnhbndkdlcaaDoorRows
import Derived.ChangeSame
import Derived.ChangeVars
import Derived.JoinedOf
import Derived.LaidLaws
import Derived.LaidHandle
import Derived.Stop.Joined
namespace Go.Proofs.YtljlnhbndkdlcaaDoor
set_option linter.unusedVariables false
set_option linter.unusedSimpArgs false
open Go.RowKit
/-- The next history. -/
noncomputable def lgNext_code : Code := ((Tryd.f8.body.bind (findRegion 3)).getD .skip)
set_option maxRecDepth 1000000 in
set_option maxHeartbeats 4000000 in
theorem lgNext {Q : Exit → Act → World → Prop} {u1 u2 u4 u5 u6 u7 u8 u9 u10 u11 u12 u13 u14 u15 u16 u17 u18 u19 u20 u21 u22 u23 u24 u25 u26 u27 u28 u29 u30 u31 u32 u33 u34 u35 u36 u37 u38 u39 u40 u41 u42 u43 u44 u45 u46 u47 u48 u49 u50 u51 u52 u53 u54 u55 u56 u57 u58 u59 u60 u61 u62 u63 u64 u65 u66 : Value} {w1 : World} (w0 : World) (R : HProp) (p b1 : Nat) (hv : Value) (s : Lg) (e : Ev) (HI : Hid (LgI s)) (HO : Hid (Own w0 (EvO b1 e * (LgO p hv s * R)) w1))
    (hK : ∀ (v5 v13 v14 v15 v16 v17 v18 v19 v20 : Value) (wx : World), (Own w0 (EvSl v5 (s.h ++ [e]) * (EvO b1 e * (LgO p hv s * R))) wx) → Q .normal ⟨List.toArray ((.pointer (some ⟨p, 0, none⟩)) :: u1 :: u2 :: (.pointer (some ⟨b1, 0, none⟩)) :: u4 :: v5 :: u6 :: u7 :: u8 :: u9 :: u10 :: u11 :: u12 :: v13 :: v14 :: v15 :: v16 :: v17 :: v18 :: v19 :: v20 :: u21 :: u22 :: u23 :: u24 :: u25 :: u26 :: u27 :: u28 :: u29 :: u30 :: u31 :: u32 :: u33 :: u34 :: u35 :: u36 :: u37 :: u38 :: u39 :: u40 :: u41 :: u42 :: u43 :: u44 :: u45 :: u46 :: u47 :: u48 :: u49 :: u50 :: u51 :: u52 :: u53 :: u54 :: u55 :: u56 :: u57 :: u58 :: u59 :: u60 :: u61 :: u62 :: u63 :: u64 :: u65 :: u66 :: []), []⟩ wx) :
    Code.wp Tryd.prog lgNext_code Q ⟨List.toArray ((.pointer (some ⟨p, 0, none⟩)) :: u1 :: u2 :: (.pointer (some ⟨b1, 0, none⟩)) :: u4 :: u5 :: u6 :: u7 :: u8 :: u9 :: u10 :: u11 :: u12 :: u13 :: u14 :: u15 :: u16 :: u17 :: u18 :: u19 :: u20 :: u21 :: u22 :: u23 :: u24 :: u25 :: u26 :: u27 :: u28 :: u29 :: u30 :: u31 :: u32 :: u33 :: u34 :: u35 :: u36 :: u37 :: u38 :: u39 :: u40 :: u41 :: u42 :: u43 :: u44 :: u45 :: u46 :: u47 :: u48 :: u49 :: u50 :: u51 :: u52 :: u53 :: u54 :: u55 :: u56 :: u57 :: u58 :: u59 :: u60 :: u61 :: u62 :: u63 :: u64 :: u65 :: u66 :: []), []⟩ w1 := by
  conv => arg 2; whnf
  have HK := Lib.hid hK
  clear hK
  obtain ⟨x0, x1, x2⟩ := HO.out.drew.ev
  obtain ⟨c0, _⟩ := HO.out.drew.drop.lg_facts
  have hlen := HI.out.hr.1
  obtain ⟨y1, y2, y3⟩ := e
  simp only at x0 x1 x2
  have HEV := Lib.hid (HO.out.drew.drop.lg_evs HI.out.hr)
  obtain ⟨H, hH⟩ : ∃ x, x = s.h := ⟨_, rfl⟩
  rw [← hH] at hlen HEV
  have HHH := Lib.hid hH
  clear hH
  refine wp_region_planF 8 [(true, 0), (true, 1), (true, 2), (true, 3), (true, 5)] 4 6 [(false, 6), (false, 7)] [(false, 4), (false, 7)] [8] (fun wS => wS.cell? ⟨p, 0, none⟩ = some hv ∧ wS.cell? ⟨b1, 0, none⟩ = some (.int .i64 y1) ∧ wS.cell? ⟨b1, 1, none⟩ = some (.int .i64 y2) ∧ wS.cell? ⟨b1, 2, none⟩ = some (.int .i64 y3)) (by kernel_rfl) (by kernel_rfl) ⟨c0, x0, x1, x2⟩ ?_
  simp only [pickH, pick, List.getElem?_cons_succ, List.getElem?_cons_zero, Option.toList, Option.map_some, List.cons_append, List.nil_append]
  repeat (refine wpMix_read ?_ rfl ?_ ?_; rotate_left; (focus (intro _ hS; obtain ⟨s1, s2, s3, s4⟩ := hS; first | with_reducible rfl | (go_simp; done) | (go_simp; with_reducible rfl) | rfl)); go_simp)
  refine wpMix_nil ⟨?_, ?_⟩
  · refine wpMix_write (fun K hK => ?_)
    go_simp
    refine (cloneEv_any hv H HEV.out (by omega) HO.out.drew).mono ?_
    rintro e w2 ⟨v2, rfl, ho⟩
    obtain ⟨ad2, cp2, hv2, _⟩ := Own.rd ho
    subst hv2
    clear c0 x0 x1 x2
    obtain ⟨x0, x1, x2⟩ := ho.drop.ev
    obtain ⟨c0, _⟩ := ho.drop.drop.lg_facts
    simp only at x0 x1 x2
    have HO2 := Lib.hid ho
    clear ho
    refine hK _ _ ⟨⟨c0, x0, x1, x2⟩, ?_⟩
    clear hK K
    go_simp
    refine wpMix_write (fun K hK => ?_)
    go_simp
    obtain ⟨b3, hb_b3⟩ : ∃ zz_, zz_ = (w2).heap.size := ⟨_, rfl⟩
    obtain ⟨w3, hw_w3⟩ : ∃ zz_, zz_ = (w2).alloc (.cells #[.int .i64 y1, .int .i64 y2, .int .i64 y3] 28 (0, 0)) := ⟨_, rfl⟩
    have h_HB := (HO2.out).alloc (.cells #[.int .i64 y1, .int .i64 y2, .int .i64 y3] 28 (0, 0))
    rw [← hb_b3, ← hw_w3] at h_HB
    have HB := Lib.hid h_HB
    clear h_HB
    rw [← hb_b3, ← hw_w3]
    clear hb_b3 hw_w3
    have HB2 : Hid (Own w0 (Sl 28 3 (.slice ad2 H.length cp2) H.length (H.flatMap evCells) * (EvO b3 (y1, y2, y3) * (EvO b1 (y1, y2, y3) * (LgO p hv s * R)))) w3) := Lib.hid (HB.out.perm (by unfold EvSl EvO; ac_rfl))
    clear HB HO2 c0 x0 x1 x2
    obtain ⟨x0, x1, x2⟩ := HB2.out.drop.drop.ev
    obtain ⟨c0, _⟩ := HB2.out.drop.drop.drop.lg_facts
    simp only at x0 x1 x2
    refine hK _ _ ⟨⟨c0, x0, x1, x2⟩, ?_⟩
    clear hK K
    go_simp
    refine wpMix_write (fun K hK => ?_)
    have hsrc : Rd w3 (.slice (some ⟨b3, 0, none⟩) 1 1) 1 [.int .i64 y1, .int .i64 y2, .int .i64 y3] := Rd_one (fun i u hi => by
      rw [(HB2.out.perm (show _ = EvO b3 (y1, y2, y3) * (Sl 28 3 (.slice ad2 H.length cp2) H.length (H.flatMap evCells) * (EvO b1 (y1, y2, y3) * (LgO p hv s * R))) by ac_rfl)).cell]
      match i, hi with
      | 0, hi => exact hi
      | 1, hi => exact hi
      | 2, hi => exact hi) (Nat.le_refl _) (by unfold maxLen; omega)
    refine step_app rfl _ _ 33 rfl 28 3 24 _ info_ev Tryd.underlying33 rfl (by decide) (by rfl) HB2.out (by rfl) (by rfl) hsrc (by intro u hu; simp at hu; rcases hu with rfl | rfl | rfl <;> rfl) (by unfold maxLen; omega) (by omega) ?_
    intro v5 w5 ho5
    clear c0 x0 x1 x2 hsrc
    have ho6 : Own w0 (EvSl v5 (H ++ [(y1, y2, y3)]) * (EvO b1 (y1, y2, y3) * (LgO p hv s * R))) w5 := Own.evs_snoc (l2 := [(y1, y2, y3)]) (ho5.perm (show _ = EvO b3 (y1, y2, y3) * (Sl 28 3 v5 (H.length + 1) (H.flatMap evCells ++ [(y1, y2, y3)].flatMap evCells) * (EvO b1 (y1, y2, y3) * (LgO p hv s * R))) by
      show Sl _ _ _ _ (_ ++ evCells (y1, y2, y3)) * _ = _
      simp only [List.flatMap_cons, List.flatMap_nil, List.append_nil]
      ac_rfl)).drop
    obtain ⟨x0, x1, x2⟩ := ho6.drop.ev
    obtain ⟨c0, _⟩ := ho6.drop.drop.lg_facts
    simp only at x0 x1 x2
    have HF := Lib.hid ho6
    clear ho5 ho6 HB2
    refine hK _ _ ⟨⟨c0, x0, x1, x2⟩, ?_⟩
    clear hK K
    go_simp
    refine wpMix_nil ?_
    go_wp2_with fail
    refine NoPanic.normal ?_
    apply HK.out
    rw [← HHH.out]
    exact HF.out
  · refine wpMix_write (fun K hK => ?_)
    go_simp
    obtain ⟨b3, hb_b3⟩ : ∃ zz_, zz_ = (w1).heap.size := ⟨_, rfl⟩
    obtain ⟨w3, hw_w3⟩ : ∃ zz_, zz_ = (w1).alloc (.cells #[.int .i64 y1, .int .i64 y2, .int .i64 y3] 28 (0, 0)) := ⟨_, rfl⟩
    have h_HB := (HO.out).alloc (.cells #[.int .i64 y1, .int .i64 y2, .int .i64 y3] 28 (0, 0))
    rw [← hb_b3, ← hw_w3] at h_HB
    have HB := Lib.hid h_HB
    clear h_HB
    rw [← hb_b3, ← hw_w3]
    clear hb_b3 hw_w3
    have HB2 : Hid (Own w0 (EvO b3 (y1, y2, y3) * (EvO b1 (y1, y2, y3) * (LgO p hv s * R))) w3.drew) := Lib.hid HB.out.drew
    clear HB c0 x0 x1 x2
    obtain ⟨x0, x1, x2⟩ := HB2.out.drop.ev
    obtain ⟨c0, _⟩ := HB2.out.drop.drop.lg_facts
    have HEV2 := Lib.hid (HB2.out.drop.drop.lg_evs HI.out.hr)
    rw [← HHH.out] at HEV2
    simp only at x0 x1 x2
    refine hK _ _ ⟨⟨c0, x0, x1, x2⟩, ?_⟩
    clear hK K
    go_simp
    refine wpMix_write (fun K hK => ?_)
    go_simp
    refine (cloneEv_any hv H HEV2.out (by omega) HB2.out).mono ?_
    rintro e w2 ⟨v2, rfl, ho⟩
    obtain ⟨ad2, cp2, hv2, _⟩ := Own.rd ho
    subst hv2
    clear c0 x0 x1 x2
    obtain ⟨x0, x1, x2⟩ := ho.drop.drop.ev
    obtain ⟨c0, _⟩ := ho.drop.drop.drop.lg_facts
    simp only at x0 x1 x2
    have HB3 : Hid (Own w0 (Sl 28 3 (.slice ad2 H.length cp2) H.length (H.flatMap evCells) * (EvO b3 (y1, y2, y3) * (EvO b1 (y1, y2, y3) * (LgO p hv s * R)))) w2) := Lib.hid ho
    clear ho HB2 HEV2
    refine hK _ _ ⟨⟨c0, x0, x1, x2⟩, ?_⟩
    clear hK K
    go_simp
    refine wpMix_write (fun K hK => ?_)
    have hsrc : Rd w2 (.slice (some ⟨b3, 0, none⟩) 1 1) 1 [.int .i64 y1, .int .i64 y2, .int .i64 y3] := Rd_one (fun i u hi => by
      rw [(HB3.out.perm (show _ = EvO b3 (y1, y2, y3) * (Sl 28 3 (.slice ad2 H.length cp2) H.length (H.flatMap evCells) * (EvO b1 (y1, y2, y3) * (LgO p hv s * R))) by ac_rfl)).cell]
      match i, hi with
      | 0, hi => exact hi
      | 1, hi => exact hi
      | 2, hi => exact hi) (Nat.le_refl _) (by unfold maxLen; omega)
    refine step_app rfl _ _ 33 rfl 28 3 24 _ info_ev Tryd.underlying33 rfl (by decide) (by rfl) HB3.out (by rfl) (by rfl) hsrc (by intro u hu; simp at hu; rcases hu with rfl | rfl | rfl <;> rfl) (by unfold maxLen; omega) (by omega) ?_
    intro v5 w5 ho5
    clear c0 x0 x1 x2 hsrc
    have ho6 : Own w0 (EvSl v5 (H ++ [(y1, y2, y3)]) * (EvO b1 (y1, y2, y3) * (LgO p hv s * R))) w5 := Own.evs_snoc (l2 := [(y1, y2, y3)]) (ho5.perm (show _ = EvO b3 (y1, y2, y3) * (Sl 28 3 v5 (H.length + 1) (H.flatMap evCells ++ [(y1, y2, y3)].flatMap evCells) * (EvO b1 (y1, y2, y3) * (LgO p hv s * R))) by
      show Sl _ _ _ _ (_ ++ evCells (y1, y2, y3)) * _ = _
      simp only [List.flatMap_cons, List.flatMap_nil, List.append_nil]
      ac_rfl)).drop
    obtain ⟨x0, x1, x2⟩ := ho6.drop.ev
    obtain ⟨c0, _⟩ := ho6.drop.drop.lg_facts
    simp only at x0 x1 x2
    have HF := Lib.hid ho6
    clear ho5 ho6 HB3
    refine hK _ _ ⟨⟨c0, x0, x1, x2⟩, ?_⟩
    clear hK K
    go_simp
    refine wpMix_nil ?_
    go_wp2_with fail
    refine NoPanic.normal ?_
    apply HK.out
    rw [← HHH.out]
    exact HF.out
end Go.Proofs.YtljlnhbndkdlcaaDoor
/- Package log: Do, the whole. -/
namespace Go.Proofs.YtljlnhbndkdlcaaDoor
set_option linter.unusedVariables false
set_option linter.unusedSimpArgs false
open Go.RowKit
theorem Own.lg_next {w0 w : World} {p : Nat} {hv v : Value} {s : Lg} {h' : List Ev} {R : HProp} (h : Own w0 (LgO p hv s * (EvSl v h' * R)) w) : Own w0 (LgP p { s with h := h' } * R) (w.setCell ⟨p, 0, none⟩ v) := by
  have h1 := (h.perm (show _ = EvSl hv s.h * (blk p (.cells #[hv, .string (strL s.bs), .int .i64 (s.safe : Nat), .int .i64 s.left, .bool s.st] 60 (0, 0)) * (EvSl v h' * R)) by unfold LgO; ac_rfl)).drop
  have h2 := h1.setCell (i := 0) (v := v)
  refine Own.lg_close (hv := v) (h2.perm ?_)
  unfold LgO
  rw [show (#[hv, .string (strL s.bs), .int .i64 (s.safe : Nat), .int .i64 s.left, .bool s.st] : Array Value).setIfInBounds 0 v = #[v, .string (strL s.bs), .int .i64 (s.safe : Nat), .int .i64 s.left, .bool s.st] by simp [Array.setIfInBounds]]
  ac_rfl
theorem sl_shp {w0 w : World} {ty : TypeId} {size : Nat} {v : Value} {n : Nat} {xs : List Value} {R : HProp} (h : Own w0 (Sl ty size v n xs * R) w) : ∃ ad L cp, v = .slice ad L cp := by
  obtain ⟨ad, cp, e, _⟩ := Own.rd h
  exact ⟨ad, n, cp, e⟩
theorem half_is {e : Ev} (h : okEv e) : ∃ k, (encE e).length = k ∧ 6 ≤ k ∧ k ≤ 9 := ⟨_, rfl, (encE_len h).1, (encE_len h).2⟩
set_option maxRecDepth 100000 in
set_option maxHeartbeats 4000000 in
theorem lgDo_any {w0 w : World} {R : HProp} (p : Nat) (s : Lg) (ev : Ev) (hI : LgI s) (hg : goodEv ev) (h : Own w0 (LgP p s * R) w) :
    Calls Tryd.prog 8 #[.pointer (some ⟨p, 0, none⟩), evV ev] w fun e w' => e = .returned (errV (lgErr s ev)) ∧ Own w0 (LgP p (lgDo s ev) * R) w' := by
  obtain ⟨hv, ho⟩ := h.lg_open
  obtain ⟨_, _, _, _, c4, _⟩ := ho.lg_facts
  obtain ⟨y1, y2, y3⟩ := ev
  unfold evV
  obtain ⟨b1, hb_b1⟩ : ∃ zz_, zz_ = (w).heap.size := ⟨_, rfl⟩
  obtain ⟨w1, hw_w1⟩ : ∃ zz_, zz_ = (w).alloc (.cells #[.int .i64 y1, .int .i64 y2, .int .i64 y3] 28 (0, 0)) := ⟨_, rfl⟩
  have h_H1 := (ho).alloc (.cells #[.int .i64 y1, .int .i64 y2, .int .i64 y3] 28 (0, 0))
  rw [← hb_b1, ← hw_w1] at h_H1
  have H1 := Lib.hid h_H1
  clear h_H1
  have HO1 : Hid (Own w0 (EvO b1 (y1, y2, y3) * (LgO p hv s * R)) w1) := H1
  obtain ⟨_, _, _, _, d4, _⟩ := H1.out.drop.lg_facts
  clear c4 ho H1
  cases hst : s.st
  rotate_left
  · have h1 : lgDo s (y1, y2, y3) = s := by unfold lgDo; rw [if_pos hst]
    have h2 : lgErr s (y1, y2, y3) = 6 := by unfold lgErr; rw [if_pos hst]
    rw [hst] at d4
    rw [h1, h2]
    have H := Lib.hid h; have HI := Lib.hid hI; have HST := Lib.hid hst; have H1 := Lib.hid h1; have H2 := Lib.hid h2; have HG := Lib.hid hg
    clear h hI hst h1 h2 hg
    go_enter Tryd.func8, Tryd.ntmps8
    go_upto_region 1 with fail
    rw [← hb_b1, ← hw_w1]
    clear hb_b1 hw_w1
    go_wp2
    go_ret
    exact ⟨rfl, Own.lg_close HO1.out.drop⟩
  rw [hst] at d4
  obtain ⟨E, hE⟩ : ∃ E, E = (histR (s.h ++ [(y1, y2, y3)])).2 := ⟨_, rfl⟩
  have hds : lgDo s (y1, y2, y3) = if E ≠ 0 then s else if s.left = 0 then { s with st := true, left := -1, bs := s.bs ++ halfE (y1, y2, y3) } else { s with st := false, left := dec1 s.left, bs := s.bs ++ encE (y1, y2, y3), h := s.h ++ [(y1, y2, y3)] } := by
    unfold lgDo; rw [if_neg (by rw [hst]; simp), ← hE]
  have hes : lgErr s (y1, y2, y3) = if E ≠ 0 then E else if s.left = 0 then 6 else 0 := by
    unfold lgErr; rw [if_neg (by rw [hst]; simp), ← hE]
  have hgd : ∀ x ∈ s.h ++ [(y1, y2, y3)], goodEv x := fun x hx => by
    rcases List.mem_append.1 hx with hx | hx
    · exact okEv_good (hI.hr.ok x hx)
    · rw [List.mem_singleton.1 hx]; exact hg
  have H := Lib.hid h; have HST := Lib.hid hst; have HG := Lib.hid hg; have HGD := Lib.hid hgd
  clear h hst hg hgd
  have HI := Lib.hid hI
  by_cases h0 : E = 0
  rotate_left
  · rw [if_pos h0] at hds hes
    rw [hds, hes]
    have hee := errV_ne h0
    have HDS := Lib.hid hds; have HES := Lib.hid hes; have HE := Lib.hid hE; have H0 := Lib.hid h0; have HEE := Lib.hid hee
    clear hds hes hE h0 hee
    clear hI
    go_enter Tryd.func8, Tryd.ntmps8
    go_upto_region 1 with fail
    rw [← hb_b1, ← hw_w1]
    clear hb_b1 hw_w1
    go_upto_region 3 with fail
    refine lgNext w0 R p b1 hv s (y1, y2, y3) HI HO1 ?_
    intros
    rename_i wq hpp
    have HP := Lib.hid hpp
    clear hpp d4
    go_wp2_with fail
    refine (hRight_any _ (s.h ++ [(y1, y2, y3)]) HP.out (EvSl_reads HGD.out)).mono ?_
    rintro e w2 ⟨rfl, ho⟩
    rw [← HE.out, HEE.out]
    have HO2 := Lib.hid ho
    clear ho HP
    go_wp2
    go_ret
    exact ⟨by rw [HEE.out]; rfl, Own.lg_close HO2.out.drop.drop⟩
  rw [if_neg (by simpa using h0)] at hds hes
  have hrn : RightH (s.h ++ [(y1, y2, y3)]) := (histR_ok _).1 (by rw [← hE]; exact h0)
  have hok : okEv (y1, y2, y3) := hrn.ok _ (by simp)
  obtain ⟨⟨k1, k2⟩, ⟨k3, k4⟩, k5, k6⟩ := id hok
  simp only at k1 k2 k3 k4 k5 k6
  obtain ⟨a, rfl⟩ : ∃ a : Nat, y1 = (a : Int) := ⟨y1.toNat, by omega⟩
  obtain ⟨b, rfl⟩ : ∃ a : Nat, y2 = (a : Int) := ⟨y2.toNat, by omega⟩
  obtain ⟨c, rfl⟩ : ∃ a : Nat, y3 = (a : Int) := ⟨y3.toNat, by omega⟩
  have hlL := hI.left
  have hbl := hI.len
  have hln := encE_len hok
  obtain ⟨LE, hLE⟩ : ∃ x, x = encE ((a : Int), (b : Int), (c : Int)) := ⟨_, rfl⟩
  have hhf : halfE ((a : Int), (b : Int), (c : Int)) = LE.take (LE.length / 2) := by rw [hLE]; rfl
  rw [← hLE] at hln
  rw [hhf, ← hLE] at hds
  have hLs := strL_size LE
  obtain ⟨D, hD⟩ : ∃ D, decide (s.left = 0) = D := ⟨_, rfl⟩
  clear hI
  have HE := Lib.hid hE; have H0 := Lib.hid h0; have HRN := Lib.hid hrn; have HOK := Lib.hid hok; have HHF := Lib.hid hhf; have HLL := Lib.hid hlL
  clear hE h0 hrn hok hhf hlL
  go_enter Tryd.func8, Tryd.ntmps8
  go_upto_region 1 with fail
  rw [← hb_b1, ← hw_w1]
  clear hb_b1 hw_w1
  go_upto_region 3 with fail
  refine lgNext w0 R p b1 hv s _ HI HO1 ?_
  intros
  rename_i v5n _ _ _ _ _ _ _ _ wq hpp
  obtain ⟨ad5, n5, cp5, hv5⟩ := sl_shp (show Own w0 (Sl 28 3 v5n _ _ * _) wq from hpp)
  subst hv5
  have HP := Lib.hid hpp
  clear hpp d4
  go_wp2_with fail
  refine (hRight_any _ (s.h ++ [((a : Int), (b : Int), (c : Int))]) HP.out (EvSl_reads HGD.out)).mono ?_
  rintro e w2 ⟨rfl, ho⟩
  rw [← HE.out, H0.out, errV0]
  obtain ⟨x0, x1, x2⟩ := ho.drop.ev
  simp only at x0 x1 x2
  have HO2 := Lib.hid ho
  clear ho HP
  go_upto_region 7 with fail
  refine lgLine b1 a b c (by omega) (by omega) (by omega) x0 x1 x2 ?_
  intros
  rename_i hpp
  obtain ⟨rfl, rfl⟩ := hpp
  clear x0 x1 x2
  rw [← hLE]
  have HO3 : Hid (Own w0 (LgO p hv s * (EvSl (.slice ad5 n5 cp5) (s.h ++ [((a : Int), (b : Int), (c : Int))]) * (EvO b1 ((a : Int), (b : Int), (c : Int)) * R))) w2.drew) := Lib.hid (HO2.out.drew.perm (by ac_rfl))
  clear HO2
  go_wp2_with fail
  refine (lgStep_any p hv s HLL.out HO3.out).mono ?_
  rintro e w3 ⟨rfl, ho⟩
  rw [hD]
  obtain ⟨e0, e1, e2, e3, e4, ef⟩ := ho.lg_facts
  have e1' : w3.cell? ⟨p, 1, none⟩ = some (.string (strL s.bs)) := e1
  have hbs := strL_size s.bs
  have HLQ := Lib.hid hLE
  clear hLE
  cases D
  · have hz : ¬ s.left = 0 := by simpa using hD
    rw [if_neg hz] at hds hes
    have had : ∀ w : World, (Op.stringOp .add (strL s.bs) (strL LE)).run Tryd.prog w = .ok (.string (strL s.bs ++ strL LE)) w := fun w => run_string_add_sum _ _ _ (by omega)
    rw [strL_app] at had
    have hs1 : Own w0 (LgO p hv { lgStep s with bs := s.bs ++ LE } * (EvSl (.slice ad5 n5 cp5) (s.h ++ [((a : Int), (b : Int), (c : Int))]) * (EvO b1 ((a : Int), (b : Int), (c : Int)) * R))) (w3.setCell ⟨p, 1, none⟩ (.string (strL (s.bs ++ LE)))) := ho.lg_set 1 _ rfl rfl (by simp [Array.setIfInBounds])
    obtain ⟨w4, hw4⟩ : ∃ x, x = w3.setCell ⟨p, 1, none⟩ (.string (strL (s.bs ++ LE))) := ⟨_, rfl⟩
    rw [← hw4] at hs1
    obtain ⟨f0, _, _, _, _, ff⟩ := hs1.lg_facts
    have hs2 := hs1.lg_next
    rw [show ({ ({ lgStep s with bs := s.bs ++ LE } : Lg) with h := s.h ++ [((a : Int), (b : Int), (c : Int))] } : Lg) = { s with st := false, left := dec1 s.left, bs := s.bs ++ LE, h := s.h ++ [((a : Int), (b : Int), (c : Int))] } by unfold lgStep; rw [hD]] at hs2
    have HS2 := Lib.hid hs2
    obtain ⟨B, hB⟩ : ∃ x, x = strL s.bs := ⟨_, rfl⟩
    obtain ⟨T, hT⟩ : ∃ x, x = strL LE := ⟨_, rfl⟩
    obtain ⟨U, hU⟩ : ∃ x, x = strL (s.bs ++ LE) := ⟨_, rfl⟩
    rw [← hB] at had e1'
    rw [← hT] at had ⊢
    rw [← hU] at had hw4
    clear hs1 hs2 hB hT hU ho e1 hLs hbs
    have HDS := Lib.hid hds; have HES := Lib.hid hes; have HD := Lib.hid hD; have HZ := Lib.hid hz; have HLN := Lib.hid hln
    clear hds hes hD hz hln
    go_upto_region 12 with fail
    rw [← hw4]
    clear hw4 e0 e1' e2 e3 e4 ef
    go_wp2
    go_ret
    exact ⟨by rw [HES.out]; rfl, by rw [HDS.out]; exact (HS2.out.perm (star_left_comm _ _ _)).drop⟩
  · have hz : s.left = 0 := by simpa using hD
    rw [if_pos hz] at hds hes
    have hd1 : dec1 s.left = -1 := by rw [hz]; rfl
    obtain ⟨K, hK, hK9⟩ : ∃ K : Nat, K = LE.length / 2 ∧ K ≤ LE.length := ⟨_, rfl, by omega⟩
    rw [← hK] at hds
    have hTs := strL_size (LE.take K)
    rw [List.length_take] at hTs
    have had : ∀ w : World, (Op.stringOp .add (strL s.bs) (strL (LE.take K))).run Tryd.prog w = .ok (.string (strL s.bs ++ strL (LE.take K))) w := fun w => run_string_add_sum _ _ _ (by omega)
    have hsl : ∀ w : World, (Instr.slice 9 (.string (strL LE)) none (some (.int .i64 (K : Int))) none).run Tryd.prog w = .ok (.string (strL (LE.take K))) w := fun w => by
      rw [run_slice_string_h w 9 (strL LE) Tryd.underlying9 .i64 _ (by omega) (by rw [hLs]; omega), Int.toNat_natCast, strL_take]
    rw [strL_app] at had
    have hs1 : Own w0 (LgO p hv { lgStep s with bs := s.bs ++ LE.take K } * (EvSl (.slice ad5 n5 cp5) (s.h ++ [((a : Int), (b : Int), (c : Int))]) * (EvO b1 ((a : Int), (b : Int), (c : Int)) * R))) (w3.setCell ⟨p, 1, none⟩ (.string (strL (s.bs ++ LE.take K)))) := ho.lg_set 1 _ rfl rfl (by simp [Array.setIfInBounds])
    rw [show ({ lgStep s with bs := s.bs ++ LE.take K } : Lg) = { s with st := true, left := -1, bs := s.bs ++ LE.take K } by unfold lgStep; rw [hD, hd1]] at hs1
    have HS2 : Hid (Own w0 (LgP p (lgDo s ((a : Int), (b : Int), (c : Int))) * R) ((w3.setCell ⟨p, 1, none⟩ (.string (strL (s.bs ++ LE.take K)))).drew)) := Lib.hid (by
      rw [hds]
      exact Own.drew (Own.lg_close (hs1.perm (show _ = EvSl (.slice ad5 n5 cp5) (s.h ++ [((a : Int), (b : Int), (c : Int))]) * (EvO b1 ((a : Int), (b : Int), (c : Int)) * (LgO p hv { s with st := true, left := -1, bs := s.bs ++ LE.take K } * R)) by ac_rfl)).drop.drop))
    obtain ⟨B, hB⟩ : ∃ x, x = strL s.bs := ⟨_, rfl⟩
    obtain ⟨T, hT⟩ : ∃ x, x = strL LE := ⟨_, rfl⟩
    obtain ⟨V, hV⟩ : ∃ x, x = strL (LE.take K) := ⟨_, rfl⟩
    obtain ⟨U, hU⟩ : ∃ x, x = strL (s.bs ++ LE.take K) := ⟨_, rfl⟩
    rw [← hB] at had e1'
    rw [← hT] at hsl hLs ⊢
    rw [← hV] at had hsl
    rw [← hU] at had HS2
    obtain ⟨KI, hKI⟩ : ∃ x : Int, (K : Int) = x := ⟨_, rfl⟩
    rw [hKI] at hsl
    have hn4 : (T.size = 6 ∧ KI = 3) ∨ (T.size = 7 ∧ KI = 3) ∨ (T.size = 8 ∧ KI = 4) ∨ (T.size = 9 ∧ KI = 4) := by omega
    clear hs1 hB hT hU hV ho e1 hbs hTs hK hK9 hd1 hKI
    have hln' := hln
    have HDS := Lib.hid hds; have HES := Lib.hid hes; have HD := Lib.hid hD; have HZ := Lib.hid hz; have HLN := Lib.hid hln; have HLS := Lib.hid hLs; have HLN' := Lib.hid hln'
    clear hds hes hD hz hln hLs hln'
    have hw3 : IntKind.i64.wrap 3 = 3 := by decide
    have hw4 : IntKind.i64.wrap 4 = 4 := by decide
    rcases hn4 with ⟨n1, rfl⟩ | ⟨n1, rfl⟩ | ⟨n1, rfl⟩ | ⟨n1, rfl⟩
    all_goals
      go_upto_region 9 with fail
      refine wp_region_planH 12 [] [(true, 0), (true, 1), (true, 2), (true, 3), (true, 4), (true, 5), (true, 6), (true, 7), (true, 8), (true, 9), (true, 10), (true, 11)] [12] (fun wS => wS = w3.drew) (by kernel_rfl) (by kernel_rfl) (rfl) ?_
      simp only [pickH, pick, List.getElem?_cons_succ, List.getElem?_cons_zero, Option.toList, Option.map_some, List.cons_append, List.nil_append]
      repeat (refine wpPure_step ?_ rfl ?_ ?_; rotate_left; (focus (intro _; first | with_reducible rfl | (go_simp; done) | (go_simp; with_reducible rfl) | rfl)); go_simp)
      refine wpPure_nil ?_
      repeat (refine wpMix_read ?_ rfl ?_ ?_; rotate_left; (focus (intro _ hS; obtain rfl := hS; first | with_reducible rfl | (go_simp; done) | (go_simp; with_reducible rfl) | rfl)); go_simp)
      refine wpMix_nil ?_
      go_wp2_with fail
      refine NoPanic.normal ?_
      go_wp2
      go_ret
      exact ⟨by rw [HES.out]; rfl, HS2.out⟩
end Go.Proofs.YtljlnhbndkdlcaaDoor
/- The reference's Heard, At. -/
namespace Go.Proofs.YtljlnhbndkdlcaaDoor
set_option linter.unusedVariables false
set_option linter.unusedSimpArgs false
open Go.RowKit
theorem fc_whereIs (p : Int → Bool) : ∀ l : List Int, whereIs p l = whereI p l
  | [] => rfl
  | x :: r => by
    unfold whereIs whereI
    rw [fc_whereIs p r]
set_option maxRecDepth 100000 in
set_option maxHeartbeats 4000000 in
theorem refAt_any (v : Value) (l : List Int) (x : Int) (w : World) (hv : Ints w v l) (hl : l.length ≤ 100000) :
    Calls Tryd.prog 11 #[v, .int .i64 x] w fun e w' => e = .returned (.int .i64 (idxI l x)) ∧ w = w' := by
  obtain ⟨ad, cap, rfl, hlc, hcap⟩ := hv.shape
  have hcap' : cap ≤ 9223372036854775807 := hcap
  obtain ⟨n, hn⟩ : ∃ n, n = l.length := ⟨_, rfl⟩
  rw [← hn] at hv hlc hl ⊢
  have HV := Lib.hid hv; have HN := Lib.hid hn
  clear hv hn
  go_enter Tryd.func11, Tryd.ntmps11
  go_wp2_with fail
  go_loop [5] (fun iv => ∃ i : Nat, i ≤ n ∧ iv = .int .i64 i ∧ Hid (∀ j (_ : j < i) (h : j < l.length), l[j] ≠ x)) (fun iv => n - (intOf iv).toNat)
  case atStart => exact ⟨0, Nat.zero_le _, rfl, Lib.hid (fun j hj => by omega)⟩
  case round =>
    obtain ⟨i, hi, rfl, HP⟩ := hrel
    by_cases hlt : i < n
    rotate_left
    · have hm : idxI l x = -1 := by
        unfold idxI
        rw [fc_whereIs]
        exact whereI_miss _ l (fun j hj => by simpa using HP.out j (by rw [← HN.out] at hj; omega) hj)
      have HM := Lib.hid hm
      clear hm
      go_wp2
      go_ret
      exact ⟨by rw [HM.out]; rfl, rfl⟩
    have hil : i < l.length := by rw [← HN.out]; exact hlt
    obtain ⟨a, ha, hc⟩ := HV.out.at i hil
    subst ha
    obtain ⟨y, hy⟩ : ∃ y, y = l[i] := ⟨_, rfl⟩
    rw [← hy] at hc
    have i0 : (0 : Int) ≤ (i : Int) := by omega
    have i1 : (i : Int) < (n : Int) := by omega
    by_cases he : y = x
    · have hm : idxI l x = i := by
        unfold idxI
        rw [fc_whereIs]
        exact whereI_hit _ l i hil (fun j hj => by simpa using HP.out j hj (by omega)) (by rw [← hy, he]; simp)
      subst he
      have HM := Lib.hid hm; have HY := Lib.hid hy
      clear hm hy
      go_wp2
      go_ret
      exact ⟨by rw [HM.out]; rfl, rfl⟩
    · have t1 : (y == x) = false := by rw [beq_eq_false_iff_ne]; exact he
      have HP2 : Hid (∀ j (_ : j < i + 1) (h : j < l.length), l[j] ≠ x) := Lib.hid (fun j h1 h2 => by
        by_cases e : j = i
        · subst e; rw [← hy]; exact he
        · exact HP.out j (by omega) h2)
      have HY := Lib.hid hy; have HE := Lib.hid he
      clear hy he
      go_wp2
      go_round
      case rel => exact ⟨i + 1, by omega, by go_num, HP2⟩
      case measure => simp [intOf]; omega
end Go.Proofs.YtljlnhbndkdlcaaDoor
/- errors.As at a number of api, and what plain.Told makes of an error: its number. (After the guide's Toyas example, at a target that is a number.) -/
namespace Go.Proofs.YtljlnhbndkdlcaaDoor
open Go.RowKit Go.Extern.Stop Go.Stop Go.Extern
set_option linter.unusedVariables false
namespace As
/-- The variable errors.errorType holds the handle of the type error. -/
def Handle (w : World) : Prop := w.cell? ⟨0, 0, none⟩ = some (.iface 135 (.agg #[.pointer (some ⟨5, 25, none⟩)]))
theorem valueOfT (t : Addr) (w : World) : (ReflectliteValue.unpack (.iface 83 (.pointer (some t)))).run Tryd.prog w
    = .ok (.agg #[.pointer (some ⟨5, 83, none⟩), .pointer (some ⟨w.heap.size, 0, none⟩), .int .u64 150]) (w.alloc (.cells #[.pointer (some t)] 83)) := by kernel_rfl
theorem typeT (a : Addr) (w : World) : (ReflectliteValue.methodAny (ReflectliteValue.valueError "reflectlite.Value.Type" 0) (fun t _ _ _ => ReflectliteType.toType t) #[.agg #[.pointer (some ⟨5, 83, none⟩), .pointer (some a), .int .u64 150]]).run Tryd.prog w
    = .ok (.iface 135 (.agg #[.pointer (some ⟨5, 83, none⟩)])) w := by kernel_rfl
theorem methodKind (h : Value) (w : World) : (Go.method 289 135 (.agg #[h]) "Kind").run Tryd.prog w = .ok (132, h) w := by kernel_rfl
theorem kindT (w : World) : ((ReflectliteType.abiMethod fun t => (fun a : Nat => Value.int IntKind.u8 (a : Int)) <$> Rtype.kind t) #[.pointer (some ⟨5, 83, none⟩)]).run Tryd.prog w = .ok (.int .u8 22) w := by kernel_rfl
theorem kindE (w : World) : ((ReflectliteType.abiMethod fun t => (fun a : Nat => Value.int IntKind.u8 (a : Int)) <$> Rtype.kind t) #[.pointer (some ⟨5, 61, none⟩)]).run Tryd.prog w = .ok (.int .u8 2) w := by kernel_rfl
theorem rlm (z : Sem Value) (f : TypeId → Addr → Nat → Nat → Sem Value) (v : Value) :
    ReflectliteValue.method z f #[v] = (do match ← ReflectliteValue.parts v with | none => z | some (t, a, fl) => f t a fl (fl % 32)) := rfl
theorem partsT (a : Addr) (w : World) : (ReflectliteValue.parts (.agg #[.pointer (some ⟨5, 83, none⟩), .pointer (some a), .int .u64 150])).run Tryd.prog w = .ok (some (83, a, 150)) w := by kernel_rfl
theorem isNilT (a p : Addr) (W : World) (ha : W.cell? a = some (.pointer (some p))) :
    (ReflectliteValue.method (ReflectliteValue.valueError "reflectlite.Value.IsNil" 0) ReflectliteValue.isNil #[.agg #[.pointer (some ⟨5, 83, none⟩), .pointer (some a), .int .u64 150]]).run Tryd.prog W = .ok (.bool false) W := by
  rw [rlm]
  simp only [Sem.run_bind, partsT, Result.andThen]
  simp [ReflectliteValue.isNil, loadVar, isAgg, underlying, Tryd.underlying83, ha, Result.andThen]
theorem methodElem (h : Value) (w : World) : (Go.method 289 135 (.agg #[h]) "Elem").run Tryd.prog w = .ok (142, .agg #[h]) w := by kernel_rfl
theorem methodImplements (h : Value) (w : World) : (Go.method 289 135 (.agg #[h]) "Implements").run Tryd.prog w = .ok (143, .agg #[h]) w := by kernel_rfl
theorem methodAssignableTo (h : Value) (w : World) : (Go.method 289 135 (.agg #[h]) "AssignableTo").run Tryd.prog w = .ok (140, .agg #[h]) w := by kernel_rfl
theorem elemT (w : World) : (ReflectliteType.method ReflectliteType.elem #[.agg #[.pointer (some ⟨5, 83, none⟩)]]).run Tryd.prog w = .ok (.iface 135 (.agg #[.pointer (some ⟨5, 61, none⟩)])) w := by kernel_rfl
theorem implementsE (w : World) : (ReflectliteType.relation "Implements" ReflectliteType.implements_ #[.agg #[.pointer (some ⟨5, 61, none⟩)], .iface 135 (.agg #[.pointer (some ⟨5, 25, none⟩)])]).run Tryd.prog w = .ok (.bool true) w := by kernel_rfl
theorem typeOfE (v : Value) (w : World) : (ReflectliteType.typeOf #[.iface 61 v]).run Tryd.prog w = .ok (.iface 135 (.agg #[.pointer (some ⟨5, 61, none⟩)])) w := by kernel_rfl
theorem assignableE (w : World) : (ReflectliteType.relation "AssignableTo" ReflectliteType.assignableTo #[.agg #[.pointer (some ⟨5, 61, none⟩)], .iface 135 (.agg #[.pointer (some ⟨5, 61, none⟩)])]).run Tryd.prog w = .ok (.bool true) w := by kernel_rfl
theorem valueOfE (n : Int) (w : World) : (ReflectliteValue.unpack (.iface 61 (.int .i64 n))).run Tryd.prog w
    = .ok (.agg #[.pointer (some ⟨5, 61, none⟩), .pointer (some ⟨w.heap.size, 0, none⟩), .int .u64 130]) (w.alloc (.cells #[.int .i64 n] 61)) := by kernel_rfl
theorem elemOfT (w : World) : (Rtype.elem? 83).run Tryd.prog w = .ok (some 61) w := by kernel_rfl
theorem mkE (p : Addr) (w : World) : (ReflectliteValue.mk 61 p ReflectliteValue.flagAddr).run Tryd.prog w = .ok (.agg #[.pointer (some ⟨5, 61, none⟩), .pointer (some p), .int .u64 386]) w := by kernel_rfl
theorem elemVT (a p : Addr) (W : World) (ha : W.cell? a = some (.pointer (some p))) :
    (ReflectliteValue.method (ReflectliteValue.valueError "reflectlite.Value.Elem" 0) ReflectliteValue.elem #[.agg #[.pointer (some ⟨5, 83, none⟩), .pointer (some a), .int .u64 150]]).run Tryd.prog W
      = .ok (.agg #[.pointer (some ⟨5, 61, none⟩), .pointer (some p), .int .u64 386]) W := by
  rw [rlm]
  simp only [Sem.run_bind, partsT, Result.andThen]
  simp [ReflectliteValue.elem, loadVar, isAgg, underlying, Tryd.underlying83, ha, Result.andThen, elemOfT, mkE]
theorem rls (v x : Value) : ReflectliteValue.set #[v, x] = (do
    let (some (dst, a, fl), some (src, b, _)) := (← ReflectliteValue.parts v, ← ReflectliteValue.parts x)
      | unsupported (.noEntry "extern/(internal/reflectlite.Value).Set.zeroValue")
    if fl / ReflectliteValue.flagAddr % 2 == 0 then unsupported (.noEntry "extern/(internal/reflectlite.Value).Set.unaddressable")
    let val ← loadVar src b
    if ← Rtype.directlyAssignable dst src then storeVar dst a val
    else if ← Rtype.implements dst src then
      if (← Rtype.kind src) == 20 then
        match val with
        | .nilIface => unsupported (.noEntry "extern/reflectlite: a nil value of one interface type handed on as a value of another")
        | _ => storeVar dst a val
      else storeVar dst a (.iface src val)
    else panicString ("reflectlite.Set: value of type " ++ (← Rtype.spelt src) ++ " is not assignable to type " ++ (← Rtype.spelt dst))
    pure (.tuple #[])) := rfl
theorem partsEa (a : Addr) (w : World) : (ReflectliteValue.parts (.agg #[.pointer (some ⟨5, 61, none⟩), .pointer (some a), .int .u64 386])).run Tryd.prog w = .ok (some (61, a, 386)) w := by kernel_rfl
theorem partsE (a : Addr) (w : World) : (ReflectliteValue.parts (.agg #[.pointer (some ⟨5, 61, none⟩), .pointer (some a), .int .u64 130])).run Tryd.prog w = .ok (some (61, a, 130)) w := by kernel_rfl
theorem directE (w : World) : (Rtype.directlyAssignable 61 61).run Tryd.prog w = .ok true w := by kernel_rfl
theorem sizeE (w : World) : (sizeOf 61).run Tryd.prog w = .ok 1 w := by kernel_rfl
theorem setE (ta b : Addr) (n : Int) (old : Value) (W : World) (hb : W.cell? b = some (.int .i64 n)) (ht : W.cell? ta = some old) (hf : W.frozen? ta = false) :
    (ReflectliteValue.set #[.agg #[.pointer (some ⟨5, 61, none⟩), .pointer (some ta), .int .u64 386], .agg #[.pointer (some ⟨5, 61, none⟩), .pointer (some b), .int .u64 130]]).run Tryd.prog W
      = .ok (.tuple #[]) (W.setCell ta (.int .i64 n)) := by
  rw [rls]
  simp only [Sem.run_bind, partsEa, partsE, Result.andThen]
  simp [ReflectliteValue.flagAddr, loadVar, isAgg, underlying, Tryd.underlying61, hb, Result.andThen, directE, storeVar, Value.cells, storeCells, Addr.add]
  rw [run_store Tryd.prog W ta _ _ (by rfl)]
  simp [ht, hf]
set_option maxHeartbeats 4000000 in
theorem as_hit (n : Int) (t : Addr) (old : Value) (w : World) (hg : Handle w) (ht0 : w.cell? t = some old) (hf0 : w.frozen? t = false) :
    Calls Tryd.prog 50 #[.iface 61 (.int .i64 n), .iface 83 (.pointer (some t))] w fun ev w' => ev = .returned (.bool true) ∧ w' = ((((w.alloc (.cells #[.pointer (some t)] 83)).alloc (.cells #[.pointer (some ⟨5, 83, none⟩), .pointer (some ⟨w.heap.size, 0, none⟩), .int .u64 150] 103)).alloc (.cells #[.pointer (some ⟨5, 83, none⟩), .pointer (some ⟨w.heap.size, 0, none⟩), .int .u64 150] 103)).alloc (.cells #[.int .i64 n] 61)).setCell t (.int .i64 n) := by
  have hg : w.cell? ⟨0, 0, none⟩ = some (.iface 135 (.agg #[.pointer (some ⟨5, 25, none⟩)])) := hg
  have h6 := @run_callFunc_extern Tryd.prog 71 _ (fun args => ReflectliteValue.unpack (args.getD 0 (.tuple #[]))) Tryd.func71 (by kernel_rfl) (by kernel_rfl) (by kernel_rfl) (by kernel_rfl)
  have h7 := @run_callFunc_extern Tryd.prog 72 _ (ReflectliteValue.methodAny (ReflectliteValue.valueError "reflectlite.Value.Type" 0) (fun t _ _ _ => ReflectliteType.toType t)) Tryd.func72 (by kernel_rfl) (by kernel_rfl) (by kernel_rfl) (by kernel_rfl)
  have h8 := @run_callFunc_extern Tryd.prog 73 _ (ReflectliteValue.method (ReflectliteValue.valueError "reflectlite.Value.IsNil" 0) ReflectliteValue.isNil) Tryd.func73 (by kernel_rfl) (by kernel_rfl) (by kernel_rfl) (by kernel_rfl)
  have h27 := @run_callFunc_extern Tryd.prog 132 _ (ReflectliteType.abiMethod fun t => do pure (.int .u8 (← Rtype.kind t))) Tryd.func132 (by kernel_rfl) (by kernel_rfl) (by kernel_rfl) (by kernel_rfl)
  have h37 := @run_callFunc_extern Tryd.prog 142 _ (ReflectliteType.method ReflectliteType.elem) Tryd.func142 (by kernel_rfl) (by kernel_rfl) (by kernel_rfl) (by kernel_rfl)
  have h38 := @run_callFunc_extern Tryd.prog 143 _ (ReflectliteType.relation "Implements" ReflectliteType.implements_) Tryd.func143 (by kernel_rfl) (by kernel_rfl) (by kernel_rfl) (by kernel_rfl)
  have h10 := @run_callFunc_extern Tryd.prog 97 _ ReflectliteType.typeOf Tryd.func97 (by kernel_rfl) (by kernel_rfl) (by kernel_rfl) (by kernel_rfl)
  have h35 := @run_callFunc_extern Tryd.prog 140 _ (ReflectliteType.relation "AssignableTo" ReflectliteType.assignableTo) Tryd.func140 (by kernel_rfl) (by kernel_rfl) (by kernel_rfl) (by kernel_rfl)
  have h11 := @run_callFunc_extern Tryd.prog 98 _ (ReflectliteValue.method (ReflectliteValue.valueError "reflectlite.Value.Elem" 0) ReflectliteValue.elem) Tryd.func98 (by kernel_rfl) (by kernel_rfl) (by kernel_rfl) (by kernel_rfl)
  have h12 := @run_callFunc_extern Tryd.prog 99 _ ReflectliteValue.set Tryd.func99 (by kernel_rfl) (by kernel_rfl) (by kernel_rfl) (by kernel_rfl)
  have tO := typeOfE
  have mA := methodAssignableTo
  have a25 := assignableE
  have v25 := valueOfE
  have f6 := valueOfT
  have f7 := typeT
  have mK := methodKind
  have mE := methodElem
  have mI := methodImplements
  have k27 := kindT
  have k25 := kindE
  have e27 := elemT
  have i25 := implementsE
  have n8 := isNilT ⟨w.heap.size, 0, none⟩ t ((w.alloc (.cells #[.pointer (some t)] 83)).alloc (.cells #[.pointer (some ⟨5, 83, none⟩), .pointer (some ⟨w.heap.size, 0, none⟩), .int .u64 150] 103)) (by simp)
  have hlt : 0 < w.heap.size := by
    rcases Nat.eq_zero_or_pos w.heap.size with h0 | h
    · simp [World.cell?, h0] at hg
    · exact h
  have hg2 : ((w.alloc (.cells #[.pointer (some t)] 83)).alloc (.cells #[.pointer (some ⟨5, 83, none⟩), .pointer (some ⟨w.heap.size, 0, none⟩), .int .u64 150] 103)).cell? ⟨0, 0, none⟩ = some (.iface 135 (.agg #[.pointer (some ⟨5, 25, none⟩)])) := by
    rw [World.cell?_alloc_lt _ _ ⟨0, 0, none⟩ (by simp), World.cell?_alloc_lt _ _ ⟨0, 0, none⟩ hlt]; exact hg
  have htl : t.block < w.heap.size := by
    rcases Nat.lt_or_ge t.block w.heap.size with h | h
    · exact h
    · simp [World.cell?, Array.getElem?_eq_none h] at ht0
  have el := elemVT ⟨w.heap.size, 0, none⟩ t (((w.alloc (.cells #[.pointer (some t)] 83)).alloc (.cells #[.pointer (some ⟨5, 83, none⟩), .pointer (some ⟨w.heap.size, 0, none⟩), .int .u64 150] 103)).alloc (.cells #[.pointer (some ⟨5, 83, none⟩), .pointer (some ⟨w.heap.size, 0, none⟩), .int .u64 150] 103)) (by rw [World.cell?_alloc_lt _ _ ⟨w.heap.size, 0, none⟩ (by simp; omega)]; simp)
  have st := setE t ⟨w.heap.size + 1 + 1 + 1, 0, none⟩ n old ((((w.alloc (.cells #[.pointer (some t)] 83)).alloc (.cells #[.pointer (some ⟨5, 83, none⟩), .pointer (some ⟨w.heap.size, 0, none⟩), .int .u64 150] 103)).alloc (.cells #[.pointer (some ⟨5, 83, none⟩), .pointer (some ⟨w.heap.size, 0, none⟩), .int .u64 150] 103)).alloc (.cells #[.int .i64 n] 61))
    (by rw [World.cell?_alloc_at _ _ _ _ (by simp)]; rfl)
    (by rw [World.cell?_alloc_lt _ _ t (by simp; omega), World.cell?_alloc_lt _ _ t (by simp; omega), World.cell?_alloc_lt _ _ t (by simp; omega), World.cell?_alloc_lt _ _ t htl]; exact ht0)
    (by rw [World.frozen?_alloc_old _ _ t (by simp; omega), World.frozen?_alloc_old _ _ t (by simp; omega), World.frozen?_alloc_old _ _ t (by simp; omega), World.frozen?_alloc_old _ _ t (Nat.ne_of_lt htl)]; exact hf0)
  go_enter Tryd.func50, Tryd.ntmps50
  go_wp2
  refine wp_loop_rounds 1 ?_
  rw [rounds_succ]
  go_wp2
  go_ret
  exact ⟨rfl, rfl⟩
end As
end Go.Proofs.YtljlnhbndkdlcaaDoor
/- What plain.Told makes of an error: its number. -/
namespace Go.Proofs.YtljlnhbndkdlcaaDoor
open Go.RowKit
set_option linter.unusedVariables false
/-- What plain.Told makes of an error. -/
theorem tell_any {w0 w : World} {R : HProp} (hg : As.Handle w0) (n : Nat) (h : Own w0 R w) :
    Calls Tryd.prog 33 #[errV n] w fun e w' => e = .returned (.int .i64 n) ∧ Own w0 R w' := by
  have HH := Lib.hid h
  cases n with
  | zero =>
    rw [errV0]
    go_enter Tryd.func33, Tryd.ntmps33
    go_wp2
    go_ret
    exact ⟨rfl, HH.out⟩
  | succ n =>
    rw [show errV (n + 1) = .iface 61 (.int .i64 ((n : Int) + 1)) from rfl]
    have hlt : (⟨0, 0, none⟩ : Addr).block < w0.heap.size := World.block_lt_of_cell? _ _ hg
    have hw : As.Handle w := by unfold As.Handle; rw [h.below.cell (p := ⟨0, 0, none⟩) hlt]; exact hg
    have hlw : (⟨0, 0, none⟩ : Addr).block < w.heap.size := World.block_lt_of_cell? _ _ hw
    have hw1 : As.Handle (w.alloc (.cells #[.int .i64 0] 61)) := by unfold As.Handle; rw [World.cell?_alloc_lt _ _ _ hlw]; exact hw
    have HW1 := Lib.hid hw1
    have g1 := (h.alloc (.cells #[.int .i64 0] 61))
    have HC := Lib.hid (g1.cell 0); have HF := Lib.hid (g1.free 0 none)
    clear hw hw1 hlw hlt h g1 hg
    go_enter Tryd.func33, Tryd.ntmps33
    go_wp2_with fail
    refine (As.as_hit _ ⟨w.heap.size, 0, none⟩ (.int .i64 0) _ HW1.out HC.out HF.out).mono ?_
    rintro e w' ⟨rfl, rfl⟩
    go_wp2
    go_ret
    exact ⟨by simp, ((((HH.out.alloc' _).alloc' _).alloc' _).alloc' _).alloc' _⟩
/-- Is an error the one told? -/
theorem sameErr_any {w0 w : World} {R : HProp} (hg : As.Handle w0) (n : Nat) (m : Int) (h : Own w0 R w) :
    Calls Tryd.prog 9 #[errV n, .int .i64 m] w fun e w' => e = .returned (.bool ((n : Int) == m)) ∧ Own w0 R w' := by
  have T := Lib.hid (tell_any hg n h)
  clear hg h
  go_enter Tryd.func9, Tryd.ntmps9
  go_wp2_with fail
  refine (T.out).mono ?_
  rintro e w' ⟨rfl, ho⟩
  have HO := Lib.hid ho
  clear ho
  go_wp2
  go_ret
  exact ⟨rfl, HO.out⟩
end Go.Proofs.YtljlnhbndkdlcaaDoor
/- The package-level variable errors.errorType as the rows list it: what a walk has of it; a world that meets it. (After the guide's Toyas example.) -/
namespace Go.Proofs.YtljlnhbndkdlcaaDoor
set_option linter.unusedVariables false
set_option linter.unusedSimpArgs false
open Go.ChangeShapes Go.WideShapes Go.RowKit
theorem errt : Tryd.prog.globalNamed "errors.errorType" = some 0 := by kernel_rfl
theorem rtt : (Tryd.prog.cutTypes.find? (·.1 == "internal/reflectlite.rtype")).map (·.2) = some 135 := by kernel_rfl
theorem oneRow : ((List.range 189).filter fun t => Tryd.prog.rowNamed t [101, 114, 114, 111, 114]) = [25] := by kernel_rfl
theorem typesSize : Tryd.prog.types.size = 189 := by kernel_rfl
def theLaid : List (String × DataW Unit) := [("errors.errorType", Rows.laid_errors_errorType)]
theorem handle_of_laid {W : World} (h : laidMetH Tryd.prog theLaid W) : As.Handle W := by
  have h' : laidMet Tryd.prog [] W ∧ handlesMet Tryd.prog theLaid W := h
  obtain ⟨name, u, ty, e1, e2, e3, e4, e5⟩ := h'.2 _ (List.mem_singleton.2 rfl)
  have en : name = [101, 114, 114, 111, 114] := (Option.some.inj e1).symm
  subst en
  obtain rfl := Option.some.inj (rtt.symm.trans e2)
  have hm : ty ∈ (List.range 189).filter fun t => Tryd.prog.rowNamed t [101, 114, 114, 111, 114] := List.mem_filter.2 ⟨List.mem_range.2 (by rw [← typesSize]; exact e3), e4⟩
  rw [oneRow] at hm
  obtain rfl := List.mem_singleton.1 hm
  have hh : typeHandle Tryd.prog 25 = .pointer (some ⟨5, 25, none⟩) := by kernel_rfl
  rw [hh] at e5
  unfold As.Handle
  simpa using World.var?_cell errt e5 0
def laidWorld (P : Program) (os : Os) : World :=
  { World.holding P os ⟨#[], #[], []⟩ with heap := (World.holding P os ⟨#[], #[], []⟩).heap.setIfInBounds 0 (.cells #[.iface 135 (.agg #[.pointer (some ⟨5, 25, none⟩)])] 106 (0, 0)) }
theorem laidWorld_met (os : Os) (args : Array Value) : laidMetH Tryd.prog theLaid ((laidWorld Tryd.prog os).forCall (fun _ _ => 0) ⟨#[], args, []⟩).memory :=
  laidMetH_of_parts (laidMet_nil _ _) (by kernel_rfl)
end Go.Proofs.YtljlnhbndkdlcaaDoor
