/- Contracts of package agree, continued: first. -/
import Derived.Test.YtiipldlggjjlnaaMTopTotal12
import Derived.Test.YtiipldlggjjlnaaMTopTotal9
namespace Go.Proofs.Ytiipldlggjjlnaa
set_option linter.unusedVariables false
set_option linter.unusedSimpArgs false
open Go.RowKit Go.Maps
theorem mapwt_kind : Try.prog.underlying 81 = some (.map 3 97) := by kernel_rfl
theorem wt_zero : ∀ w, (zeroValue 97).run Try.prog w = .ok (wtV ((0, 0), false)) w := fun _ => by kernel_rfl
/-- The first among those that were seen. -/
def SoFar (W : List (Int × Wt)) (left : List Int) (f : Int) : Prop :=
  (f = 0 ∧ ∀ w y, mget W w = some y → w ∈ left) ∨ (f ≠ 0 ∧ ∃ x, mget W f = some x ∧ ∀ w y, mget W w = some y → w ∉ left → ¬ stLt y.1 x.1)
theorem SoFar.start (W : List (Int × Wt)) : SoFar W (W.map (·.1)) 0 := .inl ⟨rfl, fun w y h => List.mem_map.2 ⟨_, mget_mem h, rfl⟩⟩
theorem SoFar.done {W : List (Int × Wt)} {f : Int} (hn : (W.map (·.1)).Nodup) (ha : Apart W) (h : SoFar W [] f) : f = agFirst W := by
  rcases h with ⟨rfl, h⟩ | ⟨_, x, hx, h⟩
  · cases W with
    | nil => rfl
    | cons p r =>
      have h1 : mget (p :: r) p.1 = some p.2 := by unfold mget; rw [if_pos rfl]
      cases h _ _ h1
  · exact (agFirst_of hn ha ⟨x, hx, fun w y hy => h w y hy (by simp)⟩).symm
theorem SoFar.first {W : List (Int × Wt)} {left : List Int} {k : Int} {y : Wt} (h : SoFar W left 0) (hk : mget W k = some y) (hk0 : k ≠ 0) : SoFar W (dropKey left k) k := by
  rcases h with ⟨_, h⟩ | ⟨h0, _⟩
  · refine .inr ⟨hk0, y, hk, fun w z hz hn => ?_⟩
    have h1 := h w z hz
    have : w = k := by
      rcases Classical.em (w = k) with e | e
      · exact e
      · exact absurd (mem_dropKey.2 ⟨h1, e⟩) hn
    subst this
    rw [hk] at hz; cases hz
    exact stLt_irr _
  · exact absurd rfl h0
theorem SoFar.less {W : List (Int × Wt)} {left : List Int} {f k : Int} {x y : Wt} (h : SoFar W left f) (hf : f ≠ 0) (hx : mget W f = some x) (hk : mget W k = some y) (hk0 : k ≠ 0) (hl : stLess y.1 x.1 = true) : SoFar W (dropKey left k) k := by
  rcases h with ⟨h0, _⟩ | ⟨_, x', hx', h⟩
  · exact absurd h0 hf
  · rw [hx] at hx'; cases hx'
    refine .inr ⟨hk0, y, hk, fun w z hz hn => ?_⟩
    by_cases e : w = k
    · subst e; rw [hk] at hz; cases hz; exact stLt_irr _
    · have h1 := h w z hz (fun hc => hn (mem_dropKey.2 ⟨hc, e⟩))
      exact fun hc => h1 (stLt_trans hc (stLess_iff.1 hl))
theorem SoFar.more {W : List (Int × Wt)} {left : List Int} {f k : Int} {x y : Wt} (h : SoFar W left f) (hf : f ≠ 0) (hx : mget W f = some x) (hk : mget W k = some y) (hl : stLess y.1 x.1 = false) : SoFar W (dropKey left k) f := by
  rcases h with ⟨h0, _⟩ | ⟨_, x', hx', h⟩
  · exact absurd h0 hf
  · rw [hx] at hx'; cases hx'
    refine .inr ⟨hf, x, hx, fun w z hz hn => ?_⟩
    by_cases e : w = k
    · subst e; rw [hk] at hz; cases hz; exact stLess_no.1 hl
    · exact h w z hz (fun hc => hn (mem_dropKey.2 ⟨hc, e⟩))
theorem SoFar.has {W : List (Int × Wt)} {left : List Int} {f : Int} (h : SoFar W left f) (hf : f ≠ 0) : ∃ x, mget W f = some x := by
  rcases h with ⟨h0, _⟩ | ⟨_, x, hx, _⟩
  · exact absurd h0 hf
  · exact ⟨x, hx⟩
theorem stamp_sz (h : 52 < Try.prog.types.size) : (Try.prog.types[52]'h).size = 2 := by kernel_rfl
set_option maxRecDepth 100000 in
set_option maxHeartbeats 4000000 in
theorem agFirst_any {w0 w : World} {R : HProp} (p mb : Nat) (W : List (Int × Wt)) (hw : ∀ k y, mget W k = some y → isWord k = true) (ha : Apart W) (HC : Hid (∀ w', Own w0 R w' → w'.cell? ⟨p, 1, none⟩ = some (.map (some mb)))) (h : Own w0 (IMp mb (mvals wtV W) * R) w) :
    Calls Try.prog 54 #[.pointer (some ⟨p, 0, none⟩)] w fun e w' => e = .returned (.int .i64 (agFirst W)) ∧ Own w0 (IMp mb (mvals wtV W) * R) w' := by
  have hnd : (W.map (·.1)).Nodup := by
    have := h.map_nodup
    unfold mvals at this
    rw [List.map_map] at this
    exact this
  have c1 := HC.out _ h.drop
  obtain ⟨rb, hrb⟩ : ∃ rb, rb = w.heap.size := ⟨_, rfl⟩
  have hk : (mvals wtV W).map (·.1) = W.map (·.1) := by unfold mvals; rw [List.map_map]; rfl
  have HW := Lib.hid hw; have HA := Lib.hid ha; have H := Lib.hid h; have HRB := Lib.hid hrb; have HND := Lib.hid hnd; have HK := Lib.hid hk
  clear hw ha h hrb hnd hk
  go_enter Try.func54, Try.ntmps54
  go_wp2_with (refine wpList_range mapwt_kind H.out rfl _ rfl rfl ?_; intro w1 ho1; rw [← HRB.out] at ho1 ⊢; have HW1 := Lib.hid ho1; clear ho1)
  go_simp
  go_loopg [3] (W.length) (fun g fv wr => ∃ (left : List Int) (last : Option Int) (f : Int), left.length ≤ g ∧ fv = .int .i64 f ∧ Hid (SoFar W left f) ∧ Hid (Own w0 (MpIt (fun n : Int => Value.int .i64 n) I64 mb rb (mvals wtV W) left last * R) wr))
  case atStart =>
    refine ⟨(mvals wtV W).map (·.1), none, 0, by simp [mvals], rfl, Lib.hid ?_, HW1⟩
    rw [HK.out]
    exact SoFar.start W
  case round =>
    clear HW1 c1
    obtain ⟨left, last, f, hlen, rfl, HS, HP⟩ := hrel
    go_wp2_with (refine wpList_next (int_ke int_kind) HP.out rfl _ rfl rfl ?_ ?_)
    · intro hnil
      subst hnil
      have hf := HS.out.done HND.out HA.out
      have HF := Lib.hid HP.out.it_end
      subst hf
      go_wp2
      go_ret
      exact ⟨rfl, HF.out⟩
    · intro k v w2 hmem hkl hent ho
      have hlt := dropKey_lt hkl
      obtain ⟨y, rfl, hy⟩ : ∃ y, v = wtV y ∧ mget W k = some y := by
        unfold mvals at hmem
        obtain ⟨q, hq, e⟩ := List.mem_map.1 hmem
        obtain ⟨j, hj, rfl⟩ := List.getElem_of_mem hq
        cases e
        exact ⟨_, rfl, mget_at HND.out (j := j) (by rw [List.getElem?_eq_getElem hj])⟩
      have hk0 := word_ne0 (HW.out k y hy)
      have c1 := HC.out _ ho.drop
      obtain ⟨⟨ya, yb⟩, yd⟩ := y
      unfold wtV at hent ⊢
      dsimp only at hent ⊢
      obtain ⟨b3, hb_b3⟩ : ∃ zz_, zz_ = (w2).heap.size := ⟨_, rfl⟩
      obtain ⟨w3, hw_w3⟩ : ∃ zz_, zz_ = (w2).alloc (.cells #[.int .i64 ya, .int .i64 yb, .bool yd] 97 (0, 0)) := ⟨_, rfl⟩
      have h_H3 := (ho).alloc (.cells #[.int .i64 ya, .int .i64 yb, .bool yd] 97 (0, 0))
      rw [← hb_b3, ← hw_w3] at h_H3
      have H3 := Lib.hid h_H3
      clear h_H3
      clear ho
      by_cases hf0 : f = 0
      · subst hf0
        have HSN := Lib.hid (HS.out.first hy hk0)
        have HMEM := Lib.hid hmem; have HKL := Lib.hid hkl; have HY := Lib.hid hy; have HK0 := Lib.hid hk0; have HLT := Lib.hid hlt
        clear hmem hkl hy hk0 hlt
        go_upto_region 5 with fail
        rw [← hb_b3, ← hw_w3]
        clear hb_b3 hw_w3
        go_wp2_with fail
        go_quiet (fail)
        go_wp2_with fail
        go_roundg ((dropKey left k).length)
        case measure => have := HLT.out; omega
        case rel => exact ⟨dropKey left k, some k, k, Nat.le_refl _, rfl, HSN, Lib.hid (H3.out.drewN _).drop⟩
      obtain ⟨x, hx⟩ := HS.out.has hf0
      obtain ⟨D, hD⟩ : ∃ D, D = stLess (ya, yb) x.1 := ⟨_, rfl⟩
      have tf : (f == 0) = false := by rw [beq_eq_false_iff_ne]; exact hf0
      have HO3 : Hid (Own w0 (MpIt (fun n : Int => Value.int .i64 n) I64 mb rb (mvals wtV W) (dropKey left k) (some k) * (blk b3 (.cells #[.int .i64 ya, .int .i64 yb, .bool yd] 97 (0, 0)) * R)) w3) := Lib.hid H3.out.second
      have hfI : I64 f := isWord_I64 (HW.out f x hx)
      have hlk := HO3.out.drew.it_look (int_ke int_kind) mapwt_kind wt_zero hfI false
      rw [mget_mvals, hx, if_neg (by simp)] at hlk
      have c2 := HC.out _ HO3.out.drew.drop.drop
      have y0 : w3.drew.cell? ⟨b3, 0, none⟩ = some (.int .i64 ya) := (HO3.out.drew.second.cell 0).trans rfl
      have y1 : w3.drew.cell? ⟨b3, 1, none⟩ = some (.int .i64 yb) := (HO3.out.drew.second.cell 1).trans rfl
      have y2 : w3.drew.cell? ⟨b3, 2, none⟩ = some (.bool yd) := (HO3.out.drew.second.cell 2).trans rfl
      have HSL : Hid (D = true → SoFar W (dropKey left k) k) := Lib.hid (fun h => HS.out.less hf0 hx hy hk0 (by rw [← hD]; exact h))
      have HSM : Hid (D = false → SoFar W (dropKey left k) f) := Lib.hid (fun h => HS.out.more hf0 hx hy (by rw [← hD]; exact h))
      obtain ⟨⟨xa, xb⟩, xd⟩ := x
      unfold wtV at hlk
      simp only [Option.map_some, Option.getD_some] at hlk
      have HMEM := Lib.hid hmem; have HKL := Lib.hid hkl; have HY := Lib.hid hy; have HK0 := Lib.hid hk0; have HLT := Lib.hid hlt; have HF0 := Lib.hid hf0; have HX := Lib.hid hx; have HD := Lib.hid hD; have HFI := Lib.hid hfI
      clear hmem hkl hy hk0 hlt hf0 hx hD hfI
      clear H3
      go_upto_region 5 with fail
      rw [← hb_b3, ← hw_w3]
      clear hb_b3 hw_w3
      clear c1
      refine wp_region_planH 13 [] [(true, 0), (true, 1), (true, 2), (true, 3), (true, 4), (true, 5), (true, 6), (true, 7), (true, 8), (true, 9), (true, 10), (true, 11), (false, 12)] [13] (fun wS => wS.cell? ⟨p, 1, none⟩ = some (.map (some mb)) ∧ wS.cell? ⟨b3, 0, none⟩ = some (.int .i64 ya) ∧ wS.cell? ⟨b3, 1, none⟩ = some (.int .i64 yb) ∧ (Instr.lookup 81 (.map (some mb)) (.int .i64 f) false).run Try.prog wS = .ok (.agg #[.int .i64 xa, .int .i64 xb, .bool xd]) wS) (by kernel_rfl) (by kernel_rfl) (⟨c2, y0, y1, hlk⟩) ?_
      simp only [pickH, pick, List.getElem?_cons_succ, List.getElem?_cons_zero, Option.toList, Option.map_some, List.cons_append, List.nil_append]
      repeat (refine wpPure_step ?_ rfl ?_ ?_; rotate_left; (focus (intro _; first | with_reducible rfl | (go_simp; done) | (go_simp; with_reducible rfl) | rfl)); go_simp)
      refine wpPure_nil ?_
      repeat (first | (refine wpMix_read ?_ rfl ?_ ?_; rotate_left; (focus (intro _ hS; obtain ⟨s1, s2, s3, s4⟩ := hS; first | with_reducible rfl | (go_simp; done) | (go_simp; with_reducible rfl) | rfl)); go_simp) | (refine wpMix_readW ?_ ?_ ?_ ?_; rotate_left; (focus (first | rfl | (go_simp; done))); (focus (intro _ hS; obtain ⟨s1, s2, s3, s4⟩ := hS; first | with_reducible rfl | (go_simp; done) | (go_simp; with_reducible rfl) | rfl)); go_simp))
      refine wpMix_write (fun K hK => ?_)
      go_simp
      rw [stamp_sz]
      simp only [List.take_succ_cons, List.take_zero]
      refine (less_any (ya, yb) (xa, xb) HO3.out.drew).mono ?_
      rintro e w5 ⟨rfl, ho5⟩
      rw [← HD.out]
      clear c2 y0 y1 y2 hlk
      have hlk := ho5.it_look (int_ke int_kind) mapwt_kind wt_zero HFI.out false
      rw [mget_mvals, HX.out, if_neg (by simp)] at hlk
      unfold wtV at hlk
      simp only [Option.map_some, Option.getD_some] at hlk
      have c2 := HC.out _ ho5.drop.drop
      have y0 : w5.cell? ⟨b3, 0, none⟩ = some (.int .i64 ya) := (ho5.second.cell 0).trans rfl
      have y1 : w5.cell? ⟨b3, 1, none⟩ = some (.int .i64 yb) := (ho5.second.cell 1).trans rfl
      have HO5 := Lib.hid ho5.second.drop
      clear ho5
      refine hK _ _ ⟨⟨c2, y0, y1, hlk⟩, ?_⟩
      clear hK K
      go_simp
      refine wpMix_nil ?_
      clear y0 y1 hlk c2
      cases D
      · have HSN := Lib.hid (HSM.out rfl)
        clear HSL HSM
        go_wp2_with fail
        refine NoPanic.normal ?_
        go_wp2_with fail
        go_roundg ((dropKey left k).length)
        case measure => have := HLT.out; omega
        case rel => exact ⟨dropKey left k, some k, f, Nat.le_refl _, rfl, HSN, HO5⟩
      · have HSN := Lib.hid (HSL.out rfl)
        clear HSL HSM
        go_wp2_with fail
        refine NoPanic.normal ?_
        go_wp2_with fail
        go_roundg ((dropKey left k).length)
        case measure => have := HLT.out; omega
        case rel => exact ⟨dropKey left k, some k, k, Nat.le_refl _, rfl, HSN, HO5⟩
end Go.Proofs.Ytiipldlggjjlnaa
/- Contracts of package agree, continued: hear. -/
namespace Go.Proofs.Ytiipldlggjjlnaa
set_option linter.unusedVariables false
set_option linter.unusedSimpArgs false
open Go.RowKit Go.Maps
theorem Apart.del {W : List (Int × Wt)} (hn : (W.map (·.1)).Nodup) (h : Apart W) (f : Int) : Apart (mdel W f) := fun w y w' y' h1 h2 e => by
  rw [mget_mdel _ hn] at h1 h2
  by_cases e1 : f = w
  · rw [if_pos e1] at h1; cases h1
  by_cases e2 : f = w'
  · rw [if_pos e2] at h2; cases h2
  rw [if_neg e1] at h1
  rw [if_neg e2] at h2
  exact h w y w' y' h1 h2 e
theorem words_del {W : List (Int × Wt)} (hn : (W.map (·.1)).Nodup) (h : ∀ k y, mget W k = some y → isWord k = true) (f : Int) : ∀ k y, mget (mdel W f) k = some y → isWord k = true := fun k y h1 => by
  rw [mget_mdel _ hn] at h1
  by_cases e1 : f = k
  · rw [if_pos e1] at h1; cases h1
  · rw [if_neg e1] at h1; exact h k y h1
theorem agHear_stop {W : List (Int × Wt)} (h : agGo W = false) : agHear W.length W = (W, []) := by
  cases hl : W.length with
  | zero => rfl
  | succ n => unfold agHear; rw [h, if_neg (by simp)]
theorem agHear_go {W : List (Int × Wt)} {x : Wt} (h : agGo W = true) (hx : mget W (agFirst W) = some x) :
    agHear W.length W = ((agHear (mdel W (agFirst W)).length (mdel W (agFirst W))).1, agFirst W :: (agHear (mdel W (agFirst W)).length (mdel W (agFirst W))).2) := by
  have hlen := mdel_len hx
  rw [← hlen]
  conv => lhs; unfold agHear
  rw [h, if_pos rfl]
theorem agGo_none {W : List (Int × Wt)} (h : agFirst W = 0) : agGo W = false := by unfold agGo; rw [h]; rfl
theorem agGo_some {W : List (Int × Wt)} {x : Wt} (h : agFirst W ≠ 0) (hx : mget W (agFirst W) = some x) : agGo W = x.2 := by
  unfold agGo
  rw [hx, decide_eq_true h]; rfl
theorem agFirst_has {W : List (Int × Wt)} (hn : (W.map (·.1)).Nodup) (h : agFirst W ≠ 0) : ∃ x, mget W (agFirst W) = some x := agFirst_key hn (fun e => h (agFirst_nil e))
theorem wt_settled (xa xb : Int) (b : Bool) (w : World) : (Instr.field 97 (.agg #[.int .i64 xa, .int .i64 xb, .bool b]) 1).run Try.prog w = .ok (.bool b) w := by kernel_rfl
theorem ag_hear_end {w0 w : World} {p mb1 mb2 L M : Nat} {n : Int} {hv ov v' : Value} {W : List (Int × Wt)} {K H O : List Int} {R : HProp} (hL : L = H.length) (hM : M = O.length)
    (h : Own w0 (Sl 3 1 v' (L + M) (H.map (Value.int .i64) ++ O.map (Value.int .i64)) * (agBlk p mb1 mb2 n hv * (IMp mb1 (mvals wtV W) * (IMp mb2 (setM K) * (IntSl ov O * R))))) w) :
    Own w0 (IntSl ov O * (agM ⟨p, mb1, mb2, v', ⟨n, W, K, H ++ O⟩⟩ * R)) (w.setCell ⟨p, 3, none⟩ v') := by
  subst hL; subst hM
  have h1 := h.second.setCell (i := 3) (v := v')
  refine h1.perm ?_
  unfold agM IntSl agBlk
  dsimp only
  rw [List.length_append, List.map_append]
  show (blk p (.cells #[.int .i64 n, .map (some mb1), .map (some mb2), v'] 84 (0, 0)) * _ : HProp) = _
  ac_rfl
set_option maxRecDepth 100000 in
set_option maxHeartbeats 4000000 in
theorem agHear_any {w0 w : World} {R : HProp} (r : AgR) (hw : ∀ k y, mget r.m.waits k = some y → isWord k = true) (ha : Apart r.m.waits) (hlen : r.m.heard.length + r.m.waits.length ≤ 1000) (h : Own w0 (agM r * R) w) :
    Calls Try.prog 40 #[.pointer (some ⟨r.p, 0, none⟩)] w fun e w' => ∃ v' hv', e = .returned v' ∧ Own w0 (IntSl v' (agHear r.m.waits.length r.m.waits).2 * (agM ⟨r.p, r.mb1, r.mb2, hv', agHearM r.m⟩ * R)) w' := by
  obtain ⟨p, mb1, mb2, hv, ⟨n, W0, K, H⟩⟩ := r
  dsimp only at hw ha hlen ⊢
  obtain ⟨ad, cap, hs⟩ := h.agm_heard.int_shape
  dsimp only at hs
  subst hs
  have h0 : Own w0 (IMp mb1 (mvals wtV W0) * (IntSl (.slice none 0 0) [] * (agBlk p mb1 mb2 n (.slice ad H.length cap) * (IMp mb2 (setM K) * (IntSl (.slice ad H.length cap) H * R))))) w := (h.agm_waits.sl_nil 3 1).second.perm (by unfold IntSl; simp only [List.length_nil, List.map_nil])
  obtain ⟨L, hL⟩ : ∃ L, L = H.length := ⟨_, rfl⟩
  rw [← hL] at h0 hlen
  obtain ⟨RES, hRES⟩ : ∃ x, x = agHear W0.length W0 := ⟨_, rfl⟩
  have hfin : ∀ (W' : List (Int × Wt)) (O : List Int) (ov v' : Value) (w' : World), W' = RES.1 → O = RES.2 → Own w0 (IntSl ov O * (agM ⟨p, mb1, mb2, v', ⟨n, W', K, H ++ O⟩⟩ * R)) w' → ∃ vv hv', ov = vv ∧ Own w0 (IntSl vv (agHear W0.length W0).2 * (agM ⟨p, mb1, mb2, hv', agHearM ⟨n, W0, K, H⟩⟩ * R)) w' := by
    rintro W' O ov v' w' rfl rfl ho
    refine ⟨ov, v', rfl, ?_⟩
    unfold agHearM
    rw [← hRES]
    exact ho
  have HST : Hid (∃ (W : List (Int × Wt)) (O : List Int), True) := Lib.hid ⟨W0, [], trivial⟩
  clear HST
  have HI0 : Hid ((∀ k y, mget W0 k = some y → isWord k = true) ∧ Apart W0 ∧ [] ++ (agHear W0.length W0).2 = RES.2 ∧ (agHear W0.length W0).1 = RES.1 ∧ L + ([] : List Int).length + W0.length ≤ 1000) := Lib.hid ⟨hw, ha, by rw [hRES]; rfl, by rw [hRES], by simpa using hlen⟩
  have H0 := Lib.hid h0
  clear h h0 hw ha hlen
  have HL := Lib.hid hL; have HRES := Lib.hid hRES; have HFIN := Lib.hid hfin
  clear hL hRES hfin
  go_enter Try.func40, Try.ntmps40
  go_wp2_with fail
  go_loopg [3] (W0.length) (fun g ov wr => ∃ (W : List (Int × Wt)) (O : List Int), W.length ≤ g ∧ Hid ((∀ k y, mget W k = some y → isWord k = true) ∧ Apart W ∧ O ++ (agHear W.length W).2 = RES.2 ∧ (agHear W.length W).1 = RES.1 ∧ L + O.length + W.length ≤ 1000) ∧ Hid (Own w0 (IMp mb1 (mvals wtV W) * (IntSl ov O * (agBlk p mb1 mb2 n (.slice ad L cap) * (IMp mb2 (setM K) * (IntSl (.slice ad L cap) H * R))))) wr))
  case atStart => exact ⟨W0, [], Nat.le_refl _, HI0, H0⟩
  case round =>
    clear HI0 H0
    obtain ⟨W, O, hg, HI, HP⟩ := hrel
    obtain ⟨oad, ocap, hos⟩ := HP.out.second.int_shape
    subst hos
    have hnd : (W.map (·.1)).Nodup := by
      have := HP.out.map_nodup
      unfold mvals at this
      rw [List.map_map] at this
      exact this
    have HCC : Hid (∀ w', Own w0 (IntSl (.slice oad O.length ocap) O * (agBlk p mb1 mb2 n (.slice ad L cap) * (IMp mb2 (setM K) * (IntSl (.slice ad L cap) H * R)))) w' → w'.cell? ⟨p, 1, none⟩ = some (.map (some mb1))) := Lib.hid (fun w' h' => (h'.second.cell 1).trans rfl)
    have hbound := HI.out.2.2.2.2
    have HND := Lib.hid hnd
    clear hnd
    go_wp2_with fail
    refine (agFirst_any p mb1 W HI.out.1 HI.out.2.1 HCC HP.out).mono ?_
    rintro e w1 ⟨rfl, ho1⟩
    obtain ⟨f, hf⟩ : ∃ f, f = agFirst W := ⟨_, rfl⟩
    rw [← hf]
    have c1 := HCC.out _ ho1.drop
    have c3 : w1.cell? ⟨p, 3, none⟩ = some (.slice ad L cap) := (ho1.third.cell 3).trans rfl
    obtain ⟨hi1, hi2, hi3, hi4, hi5⟩ := HI.out
    by_cases hf0 : f = 0
    · have HGO : agGo W = false := agGo_none (by rw [← hf]; exact hf0)
      subst hf0
      have hst := agHear_stop HGO
      rw [hst] at hi3 hi4
      have HSTOP := Lib.hid (HFIN.out W O (.slice oad O.length ocap))
      have hb1 : O.length ≤ 1000 := by omega
      have hL1 : L ≤ 1000 := by omega
      rw [List.append_nil] at hi3
      have HOA : Hid (Own w0 (Sl 3 1 (.slice ad L cap) L (H.map (Value.int .i64)) * (agBlk p mb1 mb2 n (.slice ad L cap) * (IMp mb1 (mvals wtV W) * (IMp mb2 (setM K) * (IntSl (.slice oad O.length ocap) O * R))))) w1) := Lib.hid (ho1.perm (by unfold IntSl; rw [← HL.out]; ac_rfl))
      obtain ⟨M, hM⟩ : ∃ M, M = O.length := ⟨_, rfl⟩
      rw [← hM] at HOA HSTOP ⊢
      have hrd := Own.rd HOA.out.fifth
      unfold IntSl at hrd
      rw [← hM] at hrd
      rw [← hM] at hb1
      have hml : (O.map (Value.int .i64)).length = M * 1 := by rw [List.length_map, hM]; omega
      have c3' : w1.cell? ⟨p, 3, none⟩ = some (.slice ad L cap) := c3
      clear c3 ho1
      have HST := Lib.hid hst; have HI1 := Lib.hid hi1; have HI2 := Lib.hid hi2; have HI3 := Lib.hid hi3; have HI4 := Lib.hid hi4; have HF := Lib.hid hf; have HM := Lib.hid hM; have HRD := Lib.hid hrd; have HML := Lib.hid hml
      clear hst hi1 hi2 hi3 hi4 hf hM hrd hml
      go_wp2_with (at_builtin; refine wpList_app rfl _ _ 25 rfl 3 1 8 _ int_info Try.underlying25 rfl (by decide) rfl HOA.out rfl HML.out HRD.out (int_one _) (by unfold maxLen; omega) (by omega) ?_; intro v2 w2 ho2; obtain ⟨ad2, cp2, hv2, _⟩ := Own.rd ho2; subst hv2; clear c1 c3'; have c3 : w2.cell? ⟨p, 3, none⟩ = some (.slice ad L cap) := (ho2.second.cell 3).trans rfl; have f3 := ho2.second.free 3 none; have HE := Lib.hid (ag_hear_end HL.out HM.out ho2); clear ho2)
      go_ret
      obtain ⟨vv, hv', e1, e2⟩ := HSTOP.out _ _ HI4.out.symm.symm HI3.out HE.out
      exact ⟨vv, hv', by rw [← e1]; rfl, e2⟩
    obtain ⟨x, hx⟩ := agFirst_has HND.out (by rw [← hf]; exact hf0)
    have hgo := agGo_some (by rw [← hf]; exact hf0) hx
    rw [← hf] at hx
    have tf : (f == 0) = false := by rw [beq_eq_false_iff_ne]; exact hf0
    have hfI : I64 f := isWord_I64 (hi1 f x hx)
    have hlk := ho1.map_look (int_ke int_kind) mapwt_kind wt_zero hfI false
    rw [mget_mvals, hx, if_neg (by simp)] at hlk
    obtain ⟨⟨xa, xb⟩, xd⟩ := x
    unfold wtV at hlk
    simp only [Option.map_some, Option.getD_some] at hlk
    have hfl := fun w => wt_settled xa xb xd w
    cases xd
    · have HGO : agGo W = false := hgo
      have hst := agHear_stop HGO
      rw [hst] at hi3 hi4
      have HSTOP := Lib.hid (HFIN.out W O (.slice oad O.length ocap))
      have hb1 : O.length ≤ 1000 := by omega
      have hL1 : L ≤ 1000 := by omega
      rw [List.append_nil] at hi3
      have HOA : Hid (Own w0 (Sl 3 1 (.slice ad L cap) L (H.map (Value.int .i64)) * (agBlk p mb1 mb2 n (.slice ad L cap) * (IMp mb1 (mvals wtV W) * (IMp mb2 (setM K) * (IntSl (.slice oad O.length ocap) O * R))))) w1) := Lib.hid (ho1.perm (by unfold IntSl; rw [← HL.out]; ac_rfl))
      obtain ⟨M, hM⟩ : ∃ M, M = O.length := ⟨_, rfl⟩
      rw [← hM] at HOA HSTOP ⊢
      have hrd := Own.rd HOA.out.fifth
      unfold IntSl at hrd
      rw [← hM] at hrd
      rw [← hM] at hb1
      have hml : (O.map (Value.int .i64)).length = M * 1 := by rw [List.length_map, hM]; omega
      have c3' : w1.cell? ⟨p, 3, none⟩ = some (.slice ad L cap) := c3
      clear c3 ho1
      have HST := Lib.hid hst; have HI1 := Lib.hid hi1; have HI2 := Lib.hid hi2; have HI3 := Lib.hid hi3; have HI4 := Lib.hid hi4; have HF := Lib.hid hf; have HM := Lib.hid hM; have HRD := Lib.hid hrd; have HML := Lib.hid hml; have HF0 := Lib.hid hf0; have HX := Lib.hid hx; have HFI := Lib.hid hfI; have HGO := Lib.hid hgo
      clear hst hi1 hi2 hi3 hi4 hf hM hrd hml hf0 hx hfI hgo
      go_wp2_with (at_builtin; refine wpList_app rfl _ _ 25 rfl 3 1 8 _ int_info Try.underlying25 rfl (by decide) rfl HOA.out rfl HML.out HRD.out (int_one _) (by unfold maxLen; omega) (by omega) ?_; intro v2 w2 ho2; obtain ⟨ad2, cp2, hv2, _⟩ := Own.rd ho2; subst hv2; clear c1 c3'; have c3 : w2.cell? ⟨p, 3, none⟩ = some (.slice ad L cap) := (ho2.second.cell 3).trans rfl; have f3 := ho2.second.free 3 none; have HE := Lib.hid (ag_hear_end HL.out HM.out ho2); clear ho2)
      go_ret
      obtain ⟨vv, hv', e1, e2⟩ := HSTOP.out _ _ HI4.out.symm.symm HI3.out HE.out
      exact ⟨vv, hv', by rw [← e1]; rfl, e2⟩
    have HGO : agGo W = true := hgo
    have hg2 := agHear_go HGO (by rw [← hf]; exact hx)
    rw [hg2] at hi3 hi4
    have hlen2 := mdel_len hx
    rw [← hf] at hi3 hi4
    have hwd := words_del HND.out hi1 f
    have had := hi2.del HND.out f
    have HNEW : Hid ((∀ k y, mget (mdel W f) k = some y → isWord k = true) ∧ Apart (mdel W f) ∧ (O ++ [f]) ++ (agHear (mdel W f).length (mdel W f)).2 = RES.2 ∧ (agHear (mdel W f).length (mdel W f)).1 = RES.1 ∧ L + (O ++ [f]).length + (mdel W f).length ≤ 1000) := Lib.hid ⟨hwd, had, by rw [List.append_assoc]; exact hi3, hi4, by rw [List.length_append, List.length_singleton]; omega⟩
    have hOL : O.length ≤ 1000 := by omega
    obtain ⟨M, hM⟩ : ∃ M, M = O.length := ⟨_, rfl⟩
    have HO1 := Lib.hid ho1
    have c1' := c1
    rw [← hM] at hOL
    rw [← hM]
    clear c1' ho1
    have HI1 := Lib.hid hi1; have HI2 := Lib.hid hi2; have HI3 := Lib.hid hi3; have HI4 := Lib.hid hi4; have HI5 := Lib.hid hi5; have HG2 := Lib.hid hg2; have HLEN2 := Lib.hid hlen2; have HWD := Lib.hid hwd; have HAD := Lib.hid had; have HF := Lib.hid hf; have HF0 := Lib.hid hf0; have HX := Lib.hid hx; have HFI := Lib.hid hfI; have HM := Lib.hid hM; have HGO := Lib.hid hgo; have HG := Lib.hid hg
    clear hi1 hi2 hi3 hi4 hi5 hg2 hlen2 hwd had hf hf0 hx hfI hM hgo hg
    go_upto_region 7 with (at_delete; refine wpList_del (int_ke int_kind) mapwt_kind HO1.out HFI.out rfl _ _ rfl rfl rfl ?_; intro w2 ho2; rw [mdel_mvals] at ho2; have HO2 := Lib.hid ho2; clear ho2)
    have HOB : Hid (Own w0 (Sl 3 1 (.slice oad M ocap) M (O.map (Value.int .i64)) * (IMp mb1 (mvals wtV (mdel W f)) * (agBlk p mb1 mb2 n (.slice ad L cap) * (IMp mb2 (setM K) * (IntSl (.slice ad L cap) H * R))))) w2) := Lib.hid (HO2.out.second.perm (by unfold IntSl IMp; rw [← HM.out]))
    clear c1 c3 hlk hfl
    go_wp2_with (at_builtin; refine wpList_app rfl _ _ 25 rfl 3 1 8 _ int_info Try.underlying25 rfl (by decide) rfl (HOB.out.alloc' _) rfl (by rfl) (Rd_lit (by simp) (by unfold maxLen; omega)) (by intro u hu; simp at hu; subst hu; rfl) (by unfold maxLen; omega) (by omega) ?_; intro v3 w3 ho3; have HO3 : Hid (Own w0 (IMp mb1 (mvals wtV (mdel W f)) * (IntSl v3 (O ++ [f]) * (agBlk p mb1 mb2 n (.slice ad L cap) * (IMp mb2 (setM K) * (IntSl (.slice ad L cap) H * R))))) w3) := Lib.hid (ho3.second.perm (by unfold IntSl; rw [List.length_append, List.map_append, ← HM.out]; rfl)); clear ho3)
    go_roundg ((mdel W f).length)
    case measure => have := HLEN2.out; have := HG.out; omega
    case rel => exact ⟨mdel W f, O ++ [f], Nat.le_refl _, HNEW, HO3⟩
end Go.Proofs.Ytiipldlggjjlnaa
/- Contracts of package agree, continued: check, Say, Heard. -/
namespace Go.Proofs.Ytiipldlggjjlnaa
set_option linter.unusedVariables false
set_option linter.unusedSimpArgs false
open Go.RowKit Go.Maps
theorem mapgv_kind : Try.prog.underlying 75 = some (.map 3 93) := by kernel_rfl
theorem mapwho_kind : Try.prog.underlying 76 = some (.map 3 25) := by kernel_rfl
theorem stamps_zero : ∀ w, (zeroValue 93).run Try.prog w = .ok (.slice none 0 0) w := fun _ => by kernel_rfl
section
variable {w0 w : World} {p rb off cap gb wb : Nat} {rs : List AgR} {gs : List GRow} {ws : List WRow} {g : Ag} {R : HProp}
theorem Own.ag_gvlook (h : Own w0 (AgO p rb off cap gb wb rs gs ws * R) w) (x : Int) (hx : I64 x) (c : Bool) :
    (Instr.lookup 75 (.map (some gb)) (.int .i64 x) c).run Try.prog w = .ok (if c then .tuple #[((mget gs x).getD nilSt).1, .bool (mget gs x).isSome] else ((mget gs x).getD nilSt).1) w := by
  have h1 := (h.ag_gv.perm (show _ = Mp iK I64 gb (mvals Prod.fst gs) * _ by unfold MpS; rw [star_assoc])).map_look (int_ke int_kind) mapgv_kind stamps_zero hx c
  have h2 := mget_val Prod.fst gs x nilSt
  rw [show (nilSt).1 = Value.slice none 0 0 from rfl] at h2
  rw [h2, mget_mvals, Option.isSome_map] at h1
  exact h1
theorem agIs_some (he : agIs rs gs ws g) (x : Int) : (mget gs x).isSome = (mget g.given x).isSome := by
  rw [← he.2.1, mget_mvals, Option.isSome_map]
theorem agIs_len (he : agIs rs gs ws g) : rs.length = g.mem.length := by rw [← he.1, List.length_map]
theorem agIs_gv (he : agIs rs gs ws g) (x : Int) : ((mget gs x).getD nilSt).2 = gvOf g x := by
  unfold gvOf; rw [← he.2.1, mget_mvals]; cases mget gs x <;> rfl
end
theorem inR_iff {i : Int} {n : Nat} : inR i n = true ↔ 0 ≤ i ∧ i < n := by unfold inR; simp
set_option maxRecDepth 100000 in
set_option maxHeartbeats 4000000 in
theorem agCheck_any {w0 w : World} {R : HProp} (p : Nat) (g : Ag) (who word : Int) (h : Own w0 (AgP p g * R) w) :
    Calls Try.prog 38 #[.pointer (some ⟨p, 0, none⟩), .int .i64 who, .int .i64 word] w fun e w' => e = .returned (errV (agChk g who word)) ∧ w = w' := by
  obtain ⟨rb, off, cap, gb, wb, rs, gs, ws, he, ho⟩ := h.ag_open
  obtain ⟨c0, c1, c2, _, _, _, _⟩ := ho.ag_facts
  obtain ⟨n, hn⟩ : ∃ n, n = rs.length := ⟨_, rfl⟩
  have hgl : g.mem.length = n := by rw [hn, agIs_len he]
  rw [← hn] at c0
  obtain ⟨E, hE⟩ : ∃ E, E = agChk g who word := ⟨_, rfl⟩
  rw [← hE]
  unfold agChk at hE
  rw [hgl, ← agIs_some he] at hE
  cases hin : inR who n
  · rw [hin, if_pos rfl] at hE
    subst hE
    by_cases h0 : who < 0
    · have t0 : decide (who < 0) = true := by simpa using h0
      have H := Lib.hid h; have HO := Lib.hid ho; have HE := Lib.hid he; have HN := Lib.hid hn; have HGL := Lib.hid hgl; have HIN := Lib.hid hin; have H0 := Lib.hid h0
      clear h ho he hn hgl hin h0
      go_enter Try.func38, Try.ntmps38
      go_wp2
      go_ret
      exact ⟨rfl, rfl⟩
    · have t0 : decide (who < 0) = false := by simpa using h0
      have t1 : decide ((n : Int) ≤ who) = true := decide_eq_true (by have := mt (inR_iff (i := who) (n := n)).2 (by rw [hin]; simp); omega)
      have H := Lib.hid h; have HO := Lib.hid ho; have HE := Lib.hid he; have HN := Lib.hid hn; have HGL := Lib.hid hgl; have HIN := Lib.hid hin; have H0 := Lib.hid h0
      clear h ho he hn hgl hin h0
      go_enter Try.func38, Try.ntmps38
      go_wp2
      go_ret
      exact ⟨rfl, rfl⟩
  obtain ⟨i0, i1⟩ := inR_iff.1 hin
  have t0 : decide (who < 0) = false := decide_eq_false (by omega)
  have t1 : decide ((n : Int) ≤ who) = false := decide_eq_false (by omega)
  rw [hin, if_neg (show ¬ true = false by simp)] at hE
  cases hw : isWord word
  · rw [hw, if_pos rfl] at hE
    subst hE
    have H := Lib.hid h; have HO := Lib.hid ho; have HE := Lib.hid he; have HN := Lib.hid hn; have HGL := Lib.hid hgl; have HIN := Lib.hid hin; have HW := Lib.hid hw; have I0 := Lib.hid i0; have I1 := Lib.hid i1
    clear h ho he hn hgl hin hw i0 i1
    go_enter Try.func38, Try.ntmps38
    go_wp2_with fail
    refine (word_any _ _).mono ?_
    rintro e w' ⟨rfl, rfl⟩
    rw [HW.out]
    go_wp2
    go_ret
    exact ⟨rfl, rfl⟩
  rw [hw, if_neg (show ¬ true = false by simp)] at hE
  have hlk := ho.ag_gvlook word (isWord_I64 hw) true
  rw [if_pos rfl] at hlk
  obtain ⟨V, hV⟩ : ∃ V, V = ((mget gs word).getD nilSt).1 := ⟨_, rfl⟩
  obtain ⟨D, hD⟩ : ∃ D, D = (mget gs word).isSome := ⟨_, rfl⟩
  rw [← hV, ← hD] at hlk
  rw [← hD] at hE
  cases D
  · rw [if_pos rfl] at hE
    subst hE
    have H := Lib.hid h; have HO := Lib.hid ho; have HE := Lib.hid he; have HN := Lib.hid hn; have HGL := Lib.hid hgl; have HIN := Lib.hid hin; have HW := Lib.hid hw; have I0 := Lib.hid i0; have I1 := Lib.hid i1; have HV := Lib.hid hV; have HD := Lib.hid hD
    clear h ho he hn hgl hin hw i0 i1 hV hD
    go_enter Try.func38, Try.ntmps38
    go_wp2_with fail
    refine (word_any _ _).mono ?_
    rintro e w' ⟨rfl, rfl⟩
    rw [HW.out]
    go_wp2
    go_ret
    exact ⟨rfl, rfl⟩
  · rw [if_neg (show ¬ true = false by simp)] at hE
    subst hE
    have H := Lib.hid h; have HO := Lib.hid ho; have HE := Lib.hid he; have HN := Lib.hid hn; have HGL := Lib.hid hgl; have HIN := Lib.hid hin; have HW := Lib.hid hw; have I0 := Lib.hid i0; have I1 := Lib.hid i1; have HV := Lib.hid hV; have HD := Lib.hid hD
    clear h ho he hn hgl hin hw i0 i1 hV hD
    go_enter Try.func38, Try.ntmps38
    go_wp2_with fail
    refine (word_any _ _).mono ?_
    rintro e w' ⟨rfl, rfl⟩
    rw [HW.out]
    go_wp2
    go_ret
    exact ⟨rfl, rfl⟩
set_option maxRecDepth 100000 in
set_option maxHeartbeats 4000000 in
theorem agSay_any {w0 w : World} {R : HProp} (p : Nat) (g : Ag) (word : Int) (h : Own w0 (AgP p g * R) w) :
    Calls Try.prog 16 #[.pointer (some ⟨p, 0, none⟩), .int .i64 word] w fun e w' => e = .returned (errV (agSayErr g word)) ∧ Own w0 (AgP p (agSay g word) * R) w' := by
  obtain ⟨rb, off, cap, gb, wb, rs, gs, ws, he, ho⟩ := h.ag_open
  obtain ⟨c0, c1, c2, _, _, _, _⟩ := ho.ag_facts
  obtain ⟨E, hE⟩ : ∃ E, E = agSayErr g word := ⟨_, rfl⟩
  obtain ⟨S, hS⟩ : ∃ S, S = agSay g word := ⟨_, rfl⟩
  rw [← hE, ← hS]
  unfold agSay at hS
  rw [← hE] at hS
  unfold agSayErr at hE
  rw [← agIs_some he] at hE
  cases hw : isWord word
  · rw [hw, if_pos rfl] at hE
    subst hE
    rw [if_neg (by decide)] at hS
    subst hS
    have H := Lib.hid h; have HO := Lib.hid ho; have HE := Lib.hid he; have HW := Lib.hid hw
    clear h ho he hw
    go_enter Try.func16, Try.ntmps16
    go_wp2_with fail
    refine (word_any _ _).mono ?_
    rintro e w' ⟨rfl, rfl⟩
    rw [HW.out]
    go_wp2
    go_ret
    exact ⟨rfl, H.out⟩
  rw [hw, if_neg (show ¬ true = false by simp)] at hE
  have hwI := isWord_I64 hw
  have hlk := ho.ag_gvlook word hwI true
  rw [if_pos rfl] at hlk
  obtain ⟨V, hV⟩ : ∃ V, V = ((mget gs word).getD nilSt).1 := ⟨_, rfl⟩
  obtain ⟨D, hD⟩ : ∃ D, D = (mget gs word).isSome := ⟨_, rfl⟩
  rw [← hV, ← hD] at hlk
  rw [← hD] at hE
  cases D
  rotate_left
  · rw [if_pos rfl] at hE
    subst hE
    rw [if_neg (by decide)] at hS
    subst hS
    have H := Lib.hid h; have HO := Lib.hid ho; have HE := Lib.hid he; have HW := Lib.hid hw; have HV := Lib.hid hV; have HD := Lib.hid hD; have HWI := Lib.hid hwI
    clear h ho he hw hV hD hwI
    go_enter Try.func16, Try.ntmps16
    go_wp2_with fail
    refine (word_any _ _).mono ?_
    rintro e w' ⟨rfl, rfl⟩
    rw [HW.out]
    go_wp2
    go_ret
    exact ⟨rfl, H.out⟩
  rw [if_neg (show ¬ false = true by simp)] at hE
  subst hE
  rw [if_pos rfl] at hS
  have hnone : mget gs word = none := by
    cases hg : mget gs word with
    | none => rfl
    | some x => rw [hg] at hD; cases hD
  have HGV : Hid (Own w0 (Mp iK I64 gb (mvals Prod.fst gs) * (starL (fun q : GRow => stP q.2) gs * (agHd p rb off rs.length cap gb wb * (TabO agM agV 80 rb off cap rs * (MpS iK I64 rowP Prod.fst wb ws * R))))) w) := Lib.hid (ho.ag_gv.perm (by unfold MpS; ac_rfl))
  have hclose : ∀ w', Own w0 (Mp iK I64 gb (mput (mvals Prod.fst gs) word (.slice none 0 0)) * (starL (fun q : GRow => stP q.2) gs * (agHd p rb off rs.length cap gb wb * (TabO agM agV 80 rb off cap rs * (MpS iK I64 rowP Prod.fst wb ws * R))))) w' → Own w0 (AgP p S * R) w' := fun w' h' => by
    have hm : mput gs word nilSt = gs ++ [(word, nilSt)] := mput_new (mget_none.1 hnone)
    have hmv : mput (mvals Prod.fst gs) word (.slice none 0 0) = mvals Prod.fst (mput gs word nilSt) := by rw [← mput_mvals]; rfl
    refine Own.ag_close (rb := rb) (off := off) (cap := cap) (gb := gb) (wb := wb) (rs := rs) (gs := mput gs word nilSt) (ws := ws) ?_ (h'.perm ?_)
    · rw [hS]
      refine ⟨he.1, ?_, he.2.2⟩
      show mvals Prod.snd (mput gs word nilSt) = mput g.given word []
      rw [← mput_mvals, he.2.1]; rfl
    · rw [hmv]
      unfold AgO MpS
      rw [hm, starL_snoc, show stP (((word, nilSt) : GRow)).2 = emp from stP_nil, emp_star]
      ac_rfl
  have H := Lib.hid h; have HO := Lib.hid ho; have HE := Lib.hid he; have HW := Lib.hid hw; have HV := Lib.hid hV; have HD := Lib.hid hD; have HWI := Lib.hid hwI; have HS := Lib.hid hS; have HNONE := Lib.hid hnone; have HCLOSE := Lib.hid hclose
  clear h ho he hw hV hD hwI hS hnone hclose
  go_enter Try.func16, Try.ntmps16
  go_wp2_with fail
  refine (word_any _ _).mono ?_
  rintro e w' ⟨rfl, rfl⟩
  rw [HW.out]
  go_wp2_with (at_mapUpdate; refine wpList_put (v := .slice none 0 0) (x := word) (int_ke int_kind) mapgv_kind HGV.out HWI.out rfl _ _ _ rfl rfl rfl rfl ?_; intro w1 ho1; have HO1 := Lib.hid (HCLOSE.out _ ho1); clear ho1)
  go_ret
  exact ⟨rfl, HO1.out⟩
set_option maxRecDepth 100000 in
set_option maxHeartbeats 4000000 in
theorem agHeard_any {w0 w : World} {R : HProp} (p : Nat) (g : Ag) (who : Int) (hI : ∀ k : Nat, k < g.mem.length → (agGet g k).heard.length ≤ 1000 ∧ ∀ x ∈ (agGet g k).heard, I64 x) (h : Own w0 (AgP p g * R) w) :
    Calls Try.prog 19 #[.pointer (some ⟨p, 0, none⟩), .int .i64 who] w fun e w' => ∃ v', e = .returned (.tuple #[v', errV (agHeardErr g who)]) ∧ Own w0 (IntSl v' (agHeard g who) * (AgP p g * R)) w' := by
  obtain ⟨rb, off, cap, gb, wb, rs, gs, ws, he, ho⟩ := h.ag_open
  obtain ⟨c0, c1, c2, _, cm, hc1, hc2⟩ := ho.ag_facts
  have hgl := agIs_len he
  unfold maxLen at hc2
  cases hin : inR who rs.length
  · have hE : agHeardErr g who = 1 := by unfold agHeardErr; rw [← hgl, hin]; rfl
    have hS : agHeard g who = [] := by unfold agHeard; rw [← hgl, hin]; rfl
    rw [hE, hS]
    have HR := Lib.hid (h.sl_nil 3 1)
    obtain ⟨n, hn⟩ : ∃ n, n = rs.length := ⟨_, rfl⟩
    rw [← hn] at c0 hin hc1
    by_cases h0 : who < 0
    · have t0 : decide (who < 0) = true := by simpa using h0
      have H := Lib.hid h; have HO := Lib.hid ho; have HE := Lib.hid he; have HN := Lib.hid hn; have HGL := Lib.hid hgl; have HIN := Lib.hid hin; have H0 := Lib.hid h0; have HE := Lib.hid hE; have HS := Lib.hid hS; have HI := Lib.hid hI; have CM := Lib.hid cm
      clear h ho he hn hgl hin h0 hE hS hI cm
      go_enter Try.func19, Try.ntmps19
      go_wp2
      go_ret2
      exact ⟨_, rfl, HR.out⟩
    · have t0 : decide (who < 0) = false := by simpa using h0
      have t1 : decide ((n : Int) ≤ who) = true := decide_eq_true (by have := mt (inR_iff (i := who) (n := n)).2 (by rw [hin]; simp); omega)
      have H := Lib.hid h; have HO := Lib.hid ho; have HE := Lib.hid he; have HN := Lib.hid hn; have HGL := Lib.hid hgl; have HIN := Lib.hid hin; have H0 := Lib.hid h0; have HE := Lib.hid hE; have HS := Lib.hid hS; have HI := Lib.hid hI; have CM := Lib.hid cm
      clear h ho he hn hgl hin h0 hE hS hI cm
      go_enter Try.func19, Try.ntmps19
      go_wp2
      go_ret2
      exact ⟨_, rfl, HR.out⟩
  obtain ⟨i0, i1⟩ := inR_iff.1 hin
  obtain ⟨k, rfl⟩ : ∃ k : Nat, who = (k : Int) := ⟨who.toNat, by omega⟩
  have hk : k < rs.length := by omega
  have hkg : k < g.mem.length := by omega
  have hmk : g.mem[k] = rs[k].m := by
    have e : g.mem[k]? = some rs[k].m := by rw [← he.1, List.getElem?_map, List.getElem?_eq_getElem hk]; rfl
    exact (List.getElem?_eq_some_iff.1 e).2
  have hE : agHeardErr g k = 0 := by unfold agHeardErr; rw [← hgl, hin]; rfl
  have hS : agHeard g k = rs[k].m.heard := by unfold agHeard; rw [← hgl, hin, agGet_at hkg, hmk]; rfl
  obtain ⟨hb1, hb2⟩ := hI k hkg
  rw [agGet_at hkg, hmk] at hb1 hb2
  rw [hE, hS]
  have c5 := cm k rs[k] (by simp [hk])
  have ht := ho.ag_take hk
  obtain ⟨_, _, _, d3, _⟩ := ht.agm_facts
  have hrd : Ints w rs[k].hv rs[k].m.heard := IntSl_reads hb2 _ ht.agm_heard
  obtain ⟨r, hr⟩ : ∃ r, r = rs[k] := ⟨_, rfl⟩
  rw [← hr] at c5 d3 hrd hb1 hb2 ⊢
  obtain ⟨rp, hrp⟩ : ∃ x, x = r.p := ⟨_, rfl⟩
  unfold agV at c5
  rw [← hrp] at c5 d3
  obtain ⟨ad, cp, hs, _, _⟩ := hrd.shape
  rw [hs] at d3 hrd
  obtain ⟨L, hL⟩ : ∃ L, L = r.m.heard := ⟨_, rfl⟩
  rw [← hL] at hrd hb1 d3 ⊢
  obtain ⟨n, hn⟩ : ∃ n, n = rs.length := ⟨_, rfl⟩
  rw [← hn] at c0 hk hc1 i1
  have t0 : decide ((k : Int) < 0) = false := decide_eq_false (by omega)
  have t1 : decide (n ≤ k) = false := decide_eq_false (by omega)
  have t1' : decide ((n : Int) ≤ (k : Int)) = false := decide_eq_false (by omega)
  have H := Lib.hid h; have HO := Lib.hid ho; have HE := Lib.hid he; have HN := Lib.hid hn; have HGL := Lib.hid hgl; have HIN := Lib.hid hin; have HE := Lib.hid hE; have HS := Lib.hid hS; have HI := Lib.hid hI; have CM := Lib.hid cm; have HT := Lib.hid ht; have HR := Lib.hid hr; have HRP := Lib.hid hrp; have HS := Lib.hid hs; have HL := Lib.hid hL; have HB2 := Lib.hid hb2; have HMK := Lib.hid hmk; have HRD := Lib.hid hrd
  clear h ho he hn hgl hin hE hS hI cm ht hr hrp hs hL hb2 hmk hrd
  go_enter Try.func19, Try.ntmps19
  go_wp2_with fail
  refine (cloneInts_any H.out _ L HRD.out (by omega)).mono ?_
  rintro e w2 ⟨v', rfl, ho2⟩
  have HO2 := Lib.hid ho2
  clear ho2
  go_wp2
  go_ret2
  exact ⟨v', rfl, HO2.out⟩
end Go.Proofs.Ytiipldlggjjlnaa
