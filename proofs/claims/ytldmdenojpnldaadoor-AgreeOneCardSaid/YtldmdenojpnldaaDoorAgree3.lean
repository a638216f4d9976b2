/- Contracts of package agree, continued: first. -/
import Derived.Test.YtldmdenojpnldaaDoorAgree2
import Derived.Test.YtldmdenojpnldaaDoorRange
namespace Go.Proofs.YtldmdenojpnldaaDoor
set_option linter.unusedVariables false
set_option linter.unusedSimpArgs false
open Go.RowKit Go.Maps
theorem mapwt_kind : Tryd.prog.underlying 164 = some (.map 3 172) := by kernel_rfl
theorem wt_zero : ∀ w, (zeroValue 172).run Tryd.prog w = .ok (wtV ((0, 0), false)) w := fun _ => by kernel_rfl
/-- The first among those that were seen. -/
def SoFar (W : List (Int × Wt)) (left : List Int) (f : Int) : Prop :=
  (f = 0 ∧ ∀ w y, mget W w = some y → w ∈ left) ∨ (f ≠ 0 ∧ ∃ x, mget W f = some x ∧ ∀ w y, mget W w = some y → w ∉ left → ¬ stLt y.1 x.1)
theorem SoFar.start (W : List (Int × Wt)) : SoFar W (W.map (·.1)) 0 := .inl ⟨rfl, fun w y h => List.mem_map.2 ⟨_, mget_mem h, rfl⟩⟩
theorem SoFar.done {W : List (Int × Wt)} {f : Int} (hn : (W.map (·.1)).Nodup) (ha : Apart W) (h : SoFar W [] f) : f = agFirst W := by
  rcases h with ⟨rfl, h⟩ | ⟨_, x, hx, h⟩
  · cases W with
    | nil => rfl
    | cons p r =>
      have h1 : mget (p :: r) p.1 = some p.2 := by unfold mget; rw [if_pos rfl]
      cases h _ _ h1
  · exact (agFirst_of hn ha ⟨x, hx, fun w y hy => h w y hy (by simp)⟩).symm
theorem SoFar.first {W : List (Int × Wt)} {left : List Int} {k : Int} {y : Wt} (h : SoFar W left 0) (hk : mget W k = some y) (hk0 : k ≠ 0) : SoFar W (dropKey left k) k := by
  rcases h with ⟨_, h⟩ | ⟨h0, _⟩
  · refine .inr ⟨hk0, y, hk, fun w z hz hn => ?_⟩
    have h1 := h w z hz
    have : w = k := by
      rcases Classical.em (w = k) with e | e
      · exact e
      · exact absurd (mem_dropKey.2 ⟨h1, e⟩) hn
    subst this
    rw [hk] at hz; cases hz
    exact stLt_irr _
  · exact absurd rfl h0
theorem SoFar.less {W : List (Int × Wt)} {left : List Int} {f k : Int} {x y : Wt} (h : SoFar W left f) (hf : f ≠ 0) (hx : mget W f = some x) (hk : mget W k = some y) (hk0 : k ≠ 0) (hl : stLess y.1 x.1 = true) : SoFar W (dropKey left k) k := by
  rcases h with ⟨h0, _⟩ | ⟨_, x', hx', h⟩
  · exact absurd h0 hf
  · rw [hx] at hx'; cases hx'
    refine .inr ⟨hk0, y, hk, fun w z hz hn => ?_⟩
    by_cases e : w = k
    · subst e; rw [hk] at hz; cases hz; exact stLt_irr _
    · have h1 := h w z hz (fun hc => hn (mem_dropKey.2 ⟨hc, e⟩))
      exact fun hc => h1 (stLt_trans hc (stLess_iff.1 hl))
theorem SoFar.more {W : List (Int × Wt)} {left : List Int} {f k : Int} {x y : Wt} (h : SoFar W left f) (hf : f ≠ 0) (hx : mget W f = some x) (hk : mget W k = some y) (hl : stLess y.1 x.1 = false) : SoFar W (dropKey left k) f := by
  rcases h with ⟨h0, _⟩ | ⟨_, x', hx', h⟩
  · exact absurd h0 hf
  · rw [hx] at hx'; cases hx'
    refine .inr ⟨hf, x, hx, fun w z hz hn => ?_⟩
    by_cases e : w = k
    · subst e; rw [hk] at hz; cases hz; exact stLess_no.1 hl
    · exact h w z hz (fun hc => hn (mem_dropKey.2 ⟨hc, e⟩))
theorem SoFar.has {W : List (Int × Wt)} {left : List Int} {f : Int} (h : SoFar W left f) (hf : f ≠ 0) : ∃ x, mget W f = some x := by
  rcases h with ⟨h0, _⟩ | ⟨_, x, hx, _⟩
  · exact absurd h0 hf
  · exact ⟨x, hx⟩
theorem stamp_sz (h : 108 < Tryd.prog.types.size) : (Tryd.prog.types[108]'h).size = 2 := by kernel_rfl
set_option maxRecDepth 100000 in
set_option maxHeartbeats 4000000 in
theorem agFirst_any {w0 w : World} {R : HProp} (p mb : Nat) (W : List (Int × Wt)) (hw : ∀ k y, mget W k = some y → isWord k = true) (ha : Apart W) (HC : Hid (∀ w', Own w0 R w' → w'.cell? ⟨p, 1, none⟩ = some (.map (some mb)))) (h : Own w0 (IMp mb (mvals wtV W) * R) w) :
    Calls Tryd.prog 104 #[.pointer (some ⟨p, 0, none⟩)] w fun e w' => e = .returned (.int .i64 (agFirst W)) ∧ Own w0 (IMp mb (mvals wtV W) * R) w' := by
  have hnd : (W.map (·.1)).Nodup := by
    have := h.map_nodup
    unfold mvals at this
    rw [List.map_map] at this
    exact this
  have c1 := HC.out _ h.drop
  obtain ⟨rb, hrb⟩ : ∃ rb, rb = w.heap.size := ⟨_, rfl⟩
  have hk : (mvals wtV W).map (·.1) = W.map (·.1) := by unfold mvals; rw [List.map_map]; rfl
  have HW := Lib.hid hw; have HA := Lib.hid ha; have H := Lib.hid h; have HRB := Lib.hid hrb; have HND := Lib.hid hnd; have HK := Lib.hid hk
  clear hw ha h hrb hnd hk
  go_enter Tryd.func104, Tryd.ntmps104
  go_wp2_with (refine wpList_range mapwt_kind H.out rfl _ rfl rfl ?_; intro w1 ho1; rw [← HRB.out] at ho1 ⊢; have HW1 := Lib.hid ho1; clear ho1)
  go_simp
  go_loopg [3] (W.length) (fun g fv wr => ∃ (left : List Int) (last : Option Int) (f : Int), left.length ≤ g ∧ fv = .int .i64 f ∧ Hid (SoFar W left f) ∧ Hid (Own w0 (MpIt (fun n : Int => Value.int .i64 n) I64 mb rb (mvals wtV W) left last * R) wr))
  case atStart =>
    refine ⟨(mvals wtV W).map (·.1), none, 0, by simp [mvals], rfl, Lib.hid ?_, HW1⟩
    rw [HK.out]
    exact SoFar.start W
  case round =>
    clear HW1 c1
    obtain ⟨left, last, f, hlen, rfl, HS, HP⟩ := hrel
    go_wp2_with (refine wpList_next (int_ke int_kind) HP.out rfl _ rfl rfl ?_ ?_)
    · intro hnil
      subst hnil
      have hf := HS.out.done HND.out HA.out
      have HF := Lib.hid HP.out.it_end
      subst hf
      go_wp2
      go_ret
      exact ⟨rfl, HF.out⟩
    · intro k v w2 hmem hkl hent ho
      have hlt := dropKey_lt hkl
      obtain ⟨y, rfl, hy⟩ : ∃ y, v = wtV y ∧ mget W k = some y := by
        unfold mvals at hmem
        obtain ⟨q, hq, e⟩ := List.mem_map.1 hmem
        obtain ⟨j, hj, rfl⟩ := List.getElem_of_mem hq
        cases e
        exact ⟨_, rfl, mget_at HND.out (j := j) (by rw [List.getElem?_eq_getElem hj])⟩
      have hk0 := word_ne0 (HW.out k y hy)
      have c1 := HC.out _ ho.drop
      obtain ⟨⟨ya, yb⟩, yd⟩ := y
      unfold wtV at hent ⊢
      dsimp only at hent ⊢
      obtain ⟨b3, hb_b3⟩ : ∃ zz_, zz_ = (w2).heap.size := ⟨_, rfl⟩
      obtain ⟨w3, hw_w3⟩ : ∃ zz_, zz_ = (w2).alloc (.cells #[.int .i64 ya, .int .i64 yb, .bool yd] 172 (0, 0)) := ⟨_, rfl⟩
      have h_H3 := (ho).alloc (.cells #[.int .i64 ya, .int .i64 yb, .bool yd] 172 (0, 0))
      rw [← hb_b3, ← hw_w3] at h_H3
      have H3 := Lib.hid h_H3
      clear h_H3
      clear ho
      by_cases hf0 : f = 0
      · subst hf0
        have HSN := Lib.hid (HS.out.first hy hk0)
        have HMEM := Lib.hid hmem; have HKL := Lib.hid hkl; have HY := Lib.hid hy; have HK0 := Lib.hid hk0; have HLT := Lib.hid hlt
        clear hmem hkl hy hk0 hlt
        go_upto_region 5 with fail
        rw [← hb_b3, ← hw_w3]
        clear hb_b3 hw_w3
        go_wp2_with fail
        go_quiet (fail)
        go_wp2_with fail
        go_roundg ((dropKey left k).length)
        case measure => have := HLT.out; omega
        case rel => exact ⟨dropKey left k, some k, k, Nat.le_refl _, rfl, HSN, Lib.hid (H3.out.drewN _).drop⟩
      obtain ⟨x, hx⟩ := HS.out.has hf0
      obtain ⟨D, hD⟩ : ∃ D, D = stLess (ya, yb) x.1 := ⟨_, rfl⟩
      have tf : (f == 0) = false := by rw [beq_eq_false_iff_ne]; exact hf0
      have HO3 : Hid (Own w0 (MpIt (fun n : Int => Value.int .i64 n) I64 mb rb (mvals wtV W) (dropKey left k) (some k) * (blk b3 (.cells #[.int .i64 ya, .int .i64 yb, .bool yd] 172 (0, 0)) * R)) w3) := Lib.hid H3.out.second
      have hfI : I64 f := isWord_I64 (HW.out f x hx)
      have hlk := HO3.out.drew.it_look (int_ke int_kind) mapwt_kind wt_zero hfI false
      rw [mget_mvals, hx, if_neg (by simp)] at hlk
      have c2 := HC.out _ HO3.out.drew.drop.drop
      have y0 : w3.drew.cell? ⟨b3, 0, none⟩ = some (.int .i64 ya) := (HO3.out.drew.second.cell 0).trans rfl
      have y1 : w3.drew.cell? ⟨b3, 1, none⟩ = some (.int .i64 yb) := (HO3.out.drew.second.cell 1).trans rfl
      have y2 : w3.drew.cell? ⟨b3, 2, none⟩ = some (.bool yd) := (HO3.out.drew.second.cell 2).trans rfl
      have HSL : Hid (D = true → SoFar W (dropKey left k) k) := Lib.hid (fun h => HS.out.less hf0 hx hy hk0 (by rw [← hD]; exact h))
      have HSM : Hid (D = false → SoFar W (dropKey left k) f) := Lib.hid (fun h => HS.out.more hf0 hx hy (by rw [← hD]; exact h))
      obtain ⟨⟨xa, xb⟩, xd⟩ := x
      unfold wtV at hlk
      simp only [Option.map_some, Option.getD_some] at hlk
      have HMEM := Lib.hid hmem; have HKL := Lib.hid hkl; have HY := Lib.hid hy; have HK0 := Lib.hid hk0; have HLT := Lib.hid hlt; have HF0 := Lib.hid hf0; have HX := Lib.hid hx; have HD := Lib.hid hD; have HFI := Lib.hid hfI
      clear hmem hkl hy hk0 hlt hf0 hx hD hfI
      clear H3
      go_upto_region 5 with fail
      rw [← hb_b3, ← hw_w3]
      clear hb_b3 hw_w3
      clear c1
      refine wp_region_planH 13 [] [(true, 0), (true, 1), (true, 2), (true, 3), (true, 4), (true, 5), (true, 6), (true, 7), (true, 8), (true, 9), (true, 10), (true, 11), (false, 12)] [13] (fun wS => wS.cell? ⟨p, 1, none⟩ = some (.map (some mb)) ∧ wS.cell? ⟨b3, 0, none⟩ = some (.int .i64 ya) ∧ wS.cell? ⟨b3, 1, none⟩ = some (.int .i64 yb) ∧ (Instr.lookup 164 (.map (some mb)) (.int .i64 f) false).run Tryd.prog wS = .ok (.agg #[.int .i64 xa, .int .i64 xb, .bool xd]) wS) (by kernel_rfl) (by kernel_rfl) (⟨c2, y0, y1, hlk⟩) ?_
      simp only [pickH, pick, List.getElem?_cons_succ, List.getElem?_cons_zero, Option.toList, Option.map_some, List.cons_append, List.nil_append]
      repeat (refine wpPure_step ?_ rfl ?_ ?_; rotate_left; (focus (intro _; first | with_reducible rfl | (go_simp; done) | (go_simp; with_reducible rfl) | rfl)); go_simp)
      refine wpPure_nil ?_
      repeat (first | (refine wpMix_read ?_ rfl ?_ ?_; rotate_left; (focus (intro _ hS; obtain ⟨s1, s2, s3, s4⟩ := hS; first | with_reducible rfl | (go_simp; done) | (go_simp; with_reducible rfl) | rfl)); go_simp) | (refine wpMix_readW ?_ ?_ ?_ ?_; rotate_left; (focus (first | rfl | (go_simp; done))); (focus (intro _ hS; obtain ⟨s1, s2, s3, s4⟩ := hS; first | with_reducible rfl | (go_simp; done) | (go_simp; with_reducible rfl) | rfl)); go_simp))
      refine wpMix_write (fun K hK => ?_)
      go_simp
      rw [stamp_sz]
      simp only [List.take_succ_cons, List.take_zero]
      refine (less_any (ya, yb) (xa, xb) HO3.out.drew).mono ?_
      rintro e w5 ⟨rfl, ho5⟩
      rw [← HD.out]
      clear c2 y0 y1 y2 hlk
      have hlk := ho5.it_look (int_ke int_kind) mapwt_kind wt_zero HFI.out false
      rw [mget_mvals, HX.out, if_neg (by simp)] at hlk
      unfold wtV at hlk
      simp only [Option.map_some, Option.getD_some] at hlk
      have c2 := HC.out _ ho5.drop.drop
      have y0 : w5.cell? ⟨b3, 0, none⟩ = some (.int .i64 ya) := (ho5.second.cell 0).trans rfl
      have y1 : w5.cell? ⟨b3, 1, none⟩ = some (.int .i64 yb) := (ho5.second.cell 1).trans rfl
      have HO5 := Lib.hid ho5.second.drop
      clear ho5
      refine hK _ _ ⟨⟨c2, y0, y1, hlk⟩, ?_⟩
      clear hK K
      go_simp
      refine wpMix_nil ?_
      clear y0 y1 hlk c2
      cases D
      · have HSN := Lib.hid (HSM.out rfl)
        clear HSL HSM
        go_wp2_with fail
        refine NoPanic.normal ?_
        go_wp2_with fail
        go_roundg ((dropKey left k).length)
        case measure => have := HLT.out; omega
        case rel => exact ⟨dropKey left k, some k, f, Nat.le_refl _, rfl, HSN, HO5⟩
      · have HSN := Lib.hid (HSL.out rfl)
        clear HSL HSM
        go_wp2_with fail
        refine NoPanic.normal ?_
        go_wp2_with fail
        go_roundg ((dropKey left k).length)
        case measure => have := HLT.out; omega
        case rel => exact ⟨dropKey left k, some k, k, Nat.le_refl _, rfl, HSN, HO5⟩
end Go.Proofs.YtldmdenojpnldaaDoor
