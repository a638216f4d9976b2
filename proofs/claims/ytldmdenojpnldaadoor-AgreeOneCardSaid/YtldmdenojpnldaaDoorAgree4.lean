/- Contracts of package agree, continued: hear. -/
import Derived.Test.YtldmdenojpnldaaDoorAgree3
namespace Go.Proofs.YtldmdenojpnldaaDoor
set_option linter.unusedVariables false
set_option linter.unusedSimpArgs false
open Go.RowKit Go.Maps
theorem Apart.del {W : List (Int × Wt)} (hn : (W.map (·.1)).Nodup) (h : Apart W) (f : Int) : Apart (mdel W f) := fun w y w' y' h1 h2 e => by
  rw [mget_mdel _ hn] at h1 h2
  by_cases e1 : f = w
  · rw [if_pos e1] at h1; cases h1
  by_cases e2 : f = w'
  · rw [if_pos e2] at h2; cases h2
  rw [if_neg e1] at h1
  rw [if_neg e2] at h2
  exact h w y w' y' h1 h2 e
theorem words_del {W : List (Int × Wt)} (hn : (W.map (·.1)).Nodup) (h : ∀ k y, mget W k = some y → isWord k = true) (f : Int) : ∀ k y, mget (mdel W f) k = some y → isWord k = true := fun k y h1 => by
  rw [mget_mdel _ hn] at h1
  by_cases e1 : f = k
  · rw [if_pos e1] at h1; cases h1
  · rw [if_neg e1] at h1; exact h k y h1
theorem agHear_stop {W : List (Int × Wt)} (h : agGo W = false) : agHear W.length W = (W, []) := by
  cases hl : W.length with
  | zero => rfl
  | succ n => unfold agHear; rw [h, if_neg (by simp)]
theorem agHear_go {W : List (Int × Wt)} {x : Wt} (h : agGo W = true) (hx : mget W (agFirst W) = some x) :
    agHear W.length W = ((agHear (mdel W (agFirst W)).length (mdel W (agFirst W))).1, agFirst W :: (agHear (mdel W (agFirst W)).length (mdel W (agFirst W))).2) := by
  have hlen := mdel_len hx
  rw [← hlen]
  conv => lhs; unfold agHear
  rw [h, if_pos rfl]
theorem agGo_none {W : List (Int × Wt)} (h : agFirst W = 0) : agGo W = false := by unfold agGo; rw [h]; rfl
theorem agGo_some {W : List (Int × Wt)} {x : Wt} (h : agFirst W ≠ 0) (hx : mget W (agFirst W) = some x) : agGo W = x.2 := by
  unfold agGo
  rw [hx, decide_eq_true h]; rfl
theorem agFirst_has {W : List (Int × Wt)} (hn : (W.map (·.1)).Nodup) (h : agFirst W ≠ 0) : ∃ x, mget W (agFirst W) = some x := agFirst_key hn (fun e => h (agFirst_nil e))
theorem wt_settled (xa xb : Int) (b : Bool) (w : World) : (Instr.field 172 (.agg #[.int .i64 xa, .int .i64 xb, .bool b]) 1).run Tryd.prog w = .ok (.bool b) w := by kernel_rfl
theorem ag_hear_end {w0 w : World} {p mb1 mb2 L M : Nat} {n : Int} {hv ov v' : Value} {W : List (Int × Wt)} {K H O : List Int} {R : HProp} (hL : L = H.length) (hM : M = O.length)
    (h : Own w0 (Sl 3 1 v' (L + M) (H.map (Value.int .i64) ++ O.map (Value.int .i64)) * (agBlk p mb1 mb2 n hv * (IMp mb1 (mvals wtV W) * (IMp mb2 (setM K) * (IntSl ov O * R))))) w) :
    Own w0 (IntSl ov O * (agM ⟨p, mb1, mb2, v', ⟨n, W, K, H ++ O⟩⟩ * R)) (w.setCell ⟨p, 3, none⟩ v') := by
  subst hL; subst hM
  have h1 := h.second.setCell (i := 3) (v := v')
  refine h1.perm ?_
  unfold agM IntSl agBlk
  dsimp only
  rw [List.length_append, List.map_append]
  show (blk p (.cells #[.int .i64 n, .map (some mb1), .map (some mb2), v'] 167 (0, 0)) * _ : HProp) = _
  ac_rfl
set_option maxRecDepth 100000 in
set_option maxHeartbeats 4000000 in
theorem agHear_any {w0 w : World} {R : HProp} (r : AgR) (hw : ∀ k y, mget r.m.waits k = some y → isWord k = true) (ha : Apart r.m.waits) (hlen : r.m.heard.length + r.m.waits.length ≤ 1000) (h : Own w0 (agM r * R) w) :
    Calls Tryd.prog 83 #[.pointer (some ⟨r.p, 0, none⟩)] w fun e w' => ∃ v' hv', e = .returned v' ∧ Own w0 (IntSl v' (agHear r.m.waits.length r.m.waits).2 * (agM ⟨r.p, r.mb1, r.mb2, hv', agHearM r.m⟩ * R)) w' := by
  obtain ⟨p, mb1, mb2, hv, ⟨n, W0, K, H⟩⟩ := r
  dsimp only at hw ha hlen ⊢
  obtain ⟨ad, cap, hs⟩ := h.agm_heard.int_shape
  dsimp only at hs
  subst hs
  have h0 : Own w0 (IMp mb1 (mvals wtV W0) * (IntSl (.slice none 0 0) [] * (agBlk p mb1 mb2 n (.slice ad H.length cap) * (IMp mb2 (setM K) * (IntSl (.slice ad H.length cap) H * R))))) w := (h.agm_waits.sl_nil 3 1).second.perm (by unfold IntSl; simp only [List.length_nil, List.map_nil])
  obtain ⟨L, hL⟩ : ∃ L, L = H.length := ⟨_, rfl⟩
  rw [← hL] at h0 hlen
  obtain ⟨RES, hRES⟩ : ∃ x, x = agHear W0.length W0 := ⟨_, rfl⟩
  have hfin : ∀ (W' : List (Int × Wt)) (O : List Int) (ov v' : Value) (w' : World), W' = RES.1 → O = RES.2 → Own w0 (IntSl ov O * (agM ⟨p, mb1, mb2, v', ⟨n, W', K, H ++ O⟩⟩ * R)) w' → ∃ vv hv', ov = vv ∧ Own w0 (IntSl vv (agHear W0.length W0).2 * (agM ⟨p, mb1, mb2, hv', agHearM ⟨n, W0, K, H⟩⟩ * R)) w' := by
    rintro W' O ov v' w' rfl rfl ho
    refine ⟨ov, v', rfl, ?_⟩
    unfold agHearM
    rw [← hRES]
    exact ho
  have HST : Hid (∃ (W : List (Int × Wt)) (O : List Int), True) := Lib.hid ⟨W0, [], trivial⟩
  clear HST
  have HI0 : Hid ((∀ k y, mget W0 k = some y → isWord k = true) ∧ Apart W0 ∧ [] ++ (agHear W0.length W0).2 = RES.2 ∧ (agHear W0.length W0).1 = RES.1 ∧ L + ([] : List Int).length + W0.length ≤ 1000) := Lib.hid ⟨hw, ha, by rw [hRES]; rfl, by rw [hRES], by simpa using hlen⟩
  have H0 := Lib.hid h0
  clear h h0 hw ha hlen
  have HL := Lib.hid hL; have HRES := Lib.hid hRES; have HFIN := Lib.hid hfin
  clear hL hRES hfin
  go_enter Tryd.func83, Tryd.ntmps83
  go_wp2_with fail
  go_loopg [3] (W0.length) (fun g ov wr => ∃ (W : List (Int × Wt)) (O : List Int), W.length ≤ g ∧ Hid ((∀ k y, mget W k = some y → isWord k = true) ∧ Apart W ∧ O ++ (agHear W.length W).2 = RES.2 ∧ (agHear W.length W).1 = RES.1 ∧ L + O.length + W.length ≤ 1000) ∧ Hid (Own w0 (IMp mb1 (mvals wtV W) * (IntSl ov O * (agBlk p mb1 mb2 n (.slice ad L cap) * (IMp mb2 (setM K) * (IntSl (.slice ad L cap) H * R))))) wr))
  case atStart => exact ⟨W0, [], Nat.le_refl _, HI0, H0⟩
  case round =>
    clear HI0 H0
    obtain ⟨W, O, hg, HI, HP⟩ := hrel
    obtain ⟨oad, ocap, hos⟩ := HP.out.second.int_shape
    subst hos
    have hnd : (W.map (·.1)).Nodup := by
      have := HP.out.map_nodup
      unfold mvals at this
      rw [List.map_map] at this
      exact this
    have HCC : Hid (∀ w', Own w0 (IntSl (.slice oad O.length ocap) O * (agBlk p mb1 mb2 n (.slice ad L cap) * (IMp mb2 (setM K) * (IntSl (.slice ad L cap) H * R)))) w' → w'.cell? ⟨p, 1, none⟩ = some (.map (some mb1))) := Lib.hid (fun w' h' => (h'.second.cell 1).trans rfl)
    have hbound := HI.out.2.2.2.2
    have HND := Lib.hid hnd
    clear hnd
    go_wp2_with fail
    refine (agFirst_any p mb1 W HI.out.1 HI.out.2.1 HCC HP.out).mono ?_
    rintro e w1 ⟨rfl, ho1⟩
    obtain ⟨f, hf⟩ : ∃ f, f = agFirst W := ⟨_, rfl⟩
    rw [← hf]
    have c1 := HCC.out _ ho1.drop
    have c3 : w1.cell? ⟨p, 3, none⟩ = some (.slice ad L cap) := (ho1.third.cell 3).trans rfl
    obtain ⟨hi1, hi2, hi3, hi4, hi5⟩ := HI.out
    by_cases hf0 : f = 0
    · have HGO : agGo W = false := agGo_none (by rw [← hf]; exact hf0)
      subst hf0
      have hst := agHear_stop HGO
      rw [hst] at hi3 hi4
      have HSTOP := Lib.hid (HFIN.out W O (.slice oad O.length ocap))
      have hb1 : O.length ≤ 1000 := by omega
      have hL1 : L ≤ 1000 := by omega
      rw [List.append_nil] at hi3
      have HOA : Hid (Own w0 (Sl 3 1 (.slice ad L cap) L (H.map (Value.int .i64)) * (agBlk p mb1 mb2 n (.slice ad L cap) * (IMp mb1 (mvals wtV W) * (IMp mb2 (setM K) * (IntSl (.slice oad O.length ocap) O * R))))) w1) := Lib.hid (ho1.perm (by unfold IntSl; rw [← HL.out]; ac_rfl))
      obtain ⟨M, hM⟩ : ∃ M, M = O.length := ⟨_, rfl⟩
      rw [← hM] at HOA HSTOP ⊢
      have hrd := Own.rd HOA.out.fifth
      unfold IntSl at hrd
      rw [← hM] at hrd
      rw [← hM] at hb1
      have hml : (O.map (Value.int .i64)).length = M * 1 := by rw [List.length_map, hM]; omega
      have c3' : w1.cell? ⟨p, 3, none⟩ = some (.slice ad L cap) := c3
      clear c3 ho1
      have HST := Lib.hid hst; have HI1 := Lib.hid hi1; have HI2 := Lib.hid hi2; have HI3 := Lib.hid hi3; have HI4 := Lib.hid hi4; have HF := Lib.hid hf; have HM := Lib.hid hM; have HRD := Lib.hid hrd; have HML := Lib.hid hml
      clear hst hi1 hi2 hi3 hi4 hf hM hrd hml
      go_wp2_with (at_builtin; refine wpList_app rfl _ _ 36 rfl 3 1 8 _ int_info Tryd.underlying36 rfl (by decide) rfl HOA.out rfl HML.out HRD.out (int_one _) (by unfold maxLen; omega) (by omega) ?_; intro v2 w2 ho2; obtain ⟨ad2, cp2, hv2, _⟩ := Own.rd ho2; subst hv2; clear c1 c3'; have c3 : w2.cell? ⟨p, 3, none⟩ = some (.slice ad L cap) := (ho2.second.cell 3).trans rfl; have f3 := ho2.second.free 3 none; have HE := Lib.hid (ag_hear_end HL.out HM.out ho2); clear ho2)
      go_ret
      obtain ⟨vv, hv', e1, e2⟩ := HSTOP.out _ _ HI4.out.symm.symm HI3.out HE.out
      exact ⟨vv, hv', by rw [← e1]; rfl, e2⟩
    obtain ⟨x, hx⟩ := agFirst_has HND.out (by rw [← hf]; exact hf0)
    have hgo := agGo_some (by rw [← hf]; exact hf0) hx
    rw [← hf] at hx
    have tf : (f == 0) = false := by rw [beq_eq_false_iff_ne]; exact hf0
    have hfI : I64 f := isWord_I64 (hi1 f x hx)
    have hlk := ho1.map_look (int_ke int_kind) mapwt_kind wt_zero hfI false
    rw [mget_mvals, hx, if_neg (by simp)] at hlk
    obtain ⟨⟨xa, xb⟩, xd⟩ := x
    unfold wtV at hlk
    simp only [Option.map_some, Option.getD_some] at hlk
    have hfl := fun w => wt_settled xa xb xd w
    cases xd
    · have HGO : agGo W = false := hgo
      have hst := agHear_stop HGO
      rw [hst] at hi3 hi4
      have HSTOP := Lib.hid (HFIN.out W O (.slice oad O.length ocap))
      have hb1 : O.length ≤ 1000 := by omega
      have hL1 : L ≤ 1000 := by omega
      rw [List.append_nil] at hi3
      have HOA : Hid (Own w0 (Sl 3 1 (.slice ad L cap) L (H.map (Value.int .i64)) * (agBlk p mb1 mb2 n (.slice ad L cap) * (IMp mb1 (mvals wtV W) * (IMp mb2 (setM K) * (IntSl (.slice oad O.length ocap) O * R))))) w1) := Lib.hid (ho1.perm (by unfold IntSl; rw [← HL.out]; ac_rfl))
      obtain ⟨M, hM⟩ : ∃ M, M = O.length := ⟨_, rfl⟩
      rw [← hM] at HOA HSTOP ⊢
      have hrd := Own.rd HOA.out.fifth
      unfold IntSl at hrd
      rw [← hM] at hrd
      rw [← hM] at hb1
      have hml : (O.map (Value.int .i64)).length = M * 1 := by rw [List.length_map, hM]; omega
      have c3' : w1.cell? ⟨p, 3, none⟩ = some (.slice ad L cap) := c3
      clear c3 ho1
      have HST := Lib.hid hst; have HI1 := Lib.hid hi1; have HI2 := Lib.hid hi2; have HI3 := Lib.hid hi3; have HI4 := Lib.hid hi4; have HF := Lib.hid hf; have HM := Lib.hid hM; have HRD := Lib.hid hrd; have HML := Lib.hid hml; have HF0 := Lib.hid hf0; have HX := Lib.hid hx; have HFI := Lib.hid hfI; have HGO := Lib.hid hgo
      clear hst hi1 hi2 hi3 hi4 hf hM hrd hml hf0 hx hfI hgo
      go_wp2_with (at_builtin; refine wpList_app rfl _ _ 36 rfl 3 1 8 _ int_info Tryd.underlying36 rfl (by decide) rfl HOA.out rfl HML.out HRD.out (int_one _) (by unfold maxLen; omega) (by omega) ?_; intro v2 w2 ho2; obtain ⟨ad2, cp2, hv2, _⟩ := Own.rd ho2; subst hv2; clear c1 c3'; have c3 : w2.cell? ⟨p, 3, none⟩ = some (.slice ad L cap) := (ho2.second.cell 3).trans rfl; have f3 := ho2.second.free 3 none; have HE := Lib.hid (ag_hear_end HL.out HM.out ho2); clear ho2)
      go_ret
      obtain ⟨vv, hv', e1, e2⟩ := HSTOP.out _ _ HI4.out.symm.symm HI3.out HE.out
      exact ⟨vv, hv', by rw [← e1]; rfl, e2⟩
    have HGO : agGo W = true := hgo
    have hg2 := agHear_go HGO (by rw [← hf]; exact hx)
    rw [hg2] at hi3 hi4
    have hlen2 := mdel_len hx
    rw [← hf] at hi3 hi4
    have hwd := words_del HND.out hi1 f
    have had := hi2.del HND.out f
    have HNEW : Hid ((∀ k y, mget (mdel W f) k = some y → isWord k = true) ∧ Apart (mdel W f) ∧ (O ++ [f]) ++ (agHear (mdel W f).length (mdel W f)).2 = RES.2 ∧ (agHear (mdel W f).length (mdel W f)).1 = RES.1 ∧ L + (O ++ [f]).length + (mdel W f).length ≤ 1000) := Lib.hid ⟨hwd, had, by rw [List.append_assoc]; exact hi3, hi4, by rw [List.length_append, List.length_singleton]; omega⟩
    have hOL : O.length ≤ 1000 := by omega
    obtain ⟨M, hM⟩ : ∃ M, M = O.length := ⟨_, rfl⟩
    have HO1 := Lib.hid ho1
    have c1' := c1
    rw [← hM] at hOL
    rw [← hM]
    clear c1' ho1
    have HI1 := Lib.hid hi1; have HI2 := Lib.hid hi2; have HI3 := Lib.hid hi3; have HI4 := Lib.hid hi4; have HI5 := Lib.hid hi5; have HG2 := Lib.hid hg2; have HLEN2 := Lib.hid hlen2; have HWD := Lib.hid hwd; have HAD := Lib.hid had; have HF := Lib.hid hf; have HF0 := Lib.hid hf0; have HX := Lib.hid hx; have HFI := Lib.hid hfI; have HM := Lib.hid hM; have HGO := Lib.hid hgo; have HG := Lib.hid hg
    clear hi1 hi2 hi3 hi4 hi5 hg2 hlen2 hwd had hf hf0 hx hfI hM hgo hg
    go_upto_region 7 with (at_delete; refine wpList_del (int_ke int_kind) mapwt_kind HO1.out HFI.out rfl _ _ rfl rfl rfl ?_; intro w2 ho2; rw [mdel_mvals] at ho2; have HO2 := Lib.hid ho2; clear ho2)
    have HOB : Hid (Own w0 (Sl 3 1 (.slice oad M ocap) M (O.map (Value.int .i64)) * (IMp mb1 (mvals wtV (mdel W f)) * (agBlk p mb1 mb2 n (.slice ad L cap) * (IMp mb2 (setM K) * (IntSl (.slice ad L cap) H * R))))) w2) := Lib.hid (HO2.out.second.perm (by unfold IntSl IMp; rw [← HM.out]))
    clear c1 c3 hlk hfl
    go_wp2_with (at_builtin; refine wpList_app rfl _ _ 36 rfl 3 1 8 _ int_info Tryd.underlying36 rfl (by decide) rfl (HOB.out.alloc' _) rfl (by rfl) (Rd_lit (by simp) (by unfold maxLen; omega)) (by intro u hu; simp at hu; subst hu; rfl) (by unfold maxLen; omega) (by omega) ?_; intro v3 w3 ho3; have HO3 : Hid (Own w0 (IMp mb1 (mvals wtV (mdel W f)) * (IntSl v3 (O ++ [f]) * (agBlk p mb1 mb2 n (.slice ad L cap) * (IMp mb2 (setM K) * (IntSl (.slice ad L cap) H * R))))) w3) := Lib.hid (ho3.second.perm (by unfold IntSl; rw [List.length_append, List.map_append, ← HM.out]; rfl)); clear ho3)
    go_roundg ((mdel W f).length)
    case measure => have := HLEN2.out; have := HG.out; omega
    case rel => exact ⟨mdel W f, O ++ [f], Nat.le_refl _, HNEW, HO3⟩
end Go.Proofs.YtldmdenojpnldaaDoor
