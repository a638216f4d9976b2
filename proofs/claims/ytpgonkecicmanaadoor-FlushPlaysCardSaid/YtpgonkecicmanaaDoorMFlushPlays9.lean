/- The reference's Flush: Say. -/
import Derived.Test.YtpgonkecicmanaaDoorMFlushPlays8
import Derived.Test.YtpgonkecicmanaaDoorMFlushPlays4
namespace Go.Proofs.YtpgonkecicmanaaDoor
set_option linter.unusedVariables false
set_option linter.unusedSimpArgs false
open Go.RowKit Go.Maps
theorem flSayErr_chk {s : Fl} {who word : Int} (h : flChk s who word ≠ 0) : flSayErr s who word = flChk s who word := by unfold flSayErr; rw [if_pos h]
theorem rfChk0 {s : Fl} {who word : Int} (h : flChk s who word = 0) : isMember who = true ∧ isWord word = true ∧ who ∈ s.has := by
  unfold flChk at h
  cases h1 : isMember who
  · rw [if_pos h1] at h; cases h
  rw [if_neg (by rw [h1]; simp)] at h
  cases h2 : isWord word
  · rw [if_pos h2] at h; cases h
  rw [if_neg (by rw [h2]; simp)] at h
  by_cases h3 : who ∈ s.has
  · exact ⟨rfl, rfl, h3⟩
  · rw [if_pos (decide_eq_false h3)] at h; cases h
theorem rf_shape {w0 w : World} {ty : TypeId} {size : Nat} {v : Value} {n : Nat} {xs : List Value} {R : HProp} (h : Own w0 (Sl ty size v n xs * R) w) : ∃ a b c, v = .slice a b c := by
  obtain ⟨a, c, e, _⟩ := Own.rd h
  exact ⟨a, _, c, e⟩
set_option maxRecDepth 100000 in
set_option maxHeartbeats 4000000 in
theorem rfSay_any {w0 w : World} {R : HProp} (q : Nat) (s : Fl) (who word : Int) (hg : flInv s) (h : Own w0 (RfP q s * R) w) :
    Calls Tryd.prog 33 #[.pointer (some ⟨q, 0, none⟩), .int .i64 who, .int .i64 word] w fun e w' => e = .returned (.int .i64 (flSayErr s who word : Nat)) ∧ Own w0 (RfP q (flSay s who word) * R) w' := by
  have hok : flOk s := hg.1.ok
  have HCK := Lib.hid (rfCheck_any q s who word hok h)
  by_cases hc : flChk s who word = 0
  rotate_left
  · have hE : flSayErr s who word = flChk s who word := flSayErr_chk hc
    have hS : flSay s who word = s := by unfold flSay; rw [hE, if_neg hc]
    obtain ⟨E, hEE⟩ : ∃ E, E = flChk s who word := ⟨_, rfl⟩
    rw [hE, hS, ← hEE]
    rw [← hEE] at HCK
    have t1 : (((E : Nat) : Int) != 0) = true := by rw [bne_iff_ne]; omega
    have HE := Lib.hid hE; have HS := Lib.hid hS; have HC := Lib.hid hc; have HG := Lib.hid hg; have HOK := Lib.hid hok; have HEE := Lib.hid hEE; have H := Lib.hid h
    clear hE hS hc hg hok hEE h
    go_enter Tryd.func33, Tryd.ntmps33
    go_wp2_with fail
    refine HCK.out.mono ?_
    rintro e w' ⟨rfl, rfl⟩
    go_wp2
    go_ret
    exact ⟨rfl, H.out⟩
  obtain ⟨hmem, hword, hin⟩ := rfChk0 hc
  rw [hc] at HCK
  obtain ⟨m, rfl, hm5⟩ := member_nat hmem
  have hwb : 1 ≤ word ∧ word ≤ 30 := by simpa [isWord] using hword
  obtain ⟨v, rfl⟩ : ∃ v : Nat, word = (v : Int) := ⟨word.toNat, by omega⟩
  have hv : v < 31 := by omega
  obtain ⟨cs, hv', sv, dv, N, rows, he, ho⟩ := h.rf_open
  obtain ⟨_, _, _, _, cw, cf⟩ := ho.rf_cells he.c
  have e1 := cw v hv
  obtain ⟨D, hD⟩ : ∃ D, D = decide ((v : Int) ∈ s.all) := ⟨_, rfl⟩
  rw [← hD] at e1
  have hE : flSayErr s (m : Int) (v : Int) = if D = true then 7 else 0 := by
    unfold flSayErr
    rw [if_neg (by rw [hc]; simp), hD]
    by_cases hx : (v : Int) ∈ s.all
    · rw [if_pos hx, decide_eq_true hx]; rfl
    · rw [if_neg hx, decide_eq_false hx]; rfl
  have v0 : (0 : Int) ≤ (v : Int) := by omega
  have v31 : (v : Int) < 31 := by omega
  have m0 : (0 : Int) ≤ (m : Int) := by omega
  have m5 : (m : Int) < 5 := by omega
  cases D
  rotate_left
  · rw [if_pos rfl] at hE
    have hS : flSay s (m : Int) (v : Int) = s := by unfold flSay; rw [hE]; rfl
    rw [hE, hS]
    clear cw cf
    have HE := Lib.hid hE; have HS := Lib.hid hS; have HC := Lib.hid hc; have HG := Lib.hid hg; have HOK := Lib.hid hok; have H := Lib.hid h; have HO := Lib.hid ho; have HE := Lib.hid he; have HD := Lib.hid hD; have HMEM := Lib.hid hmem; have HWORD := Lib.hid hword; have HIN := Lib.hid hin
    clear hE hS hc hg hok h ho he hD hmem hword hin
    go_enter Tryd.func33, Tryd.ntmps33
    go_wp2_with fail
    refine HCK.out.mono ?_
    rintro e w' ⟨rfl, rfl⟩
    go_wp2
    go_ret
    exact ⟨rfl, H.out⟩
  rw [if_neg (by simp)] at hE
  have hS : flSay s (m : Int) (v : Int) = flHear { s with all := setPut s.all (v : Int), said := s.said ++ [(v : Int)] } (m : Int) (v : Int) := by unfold flSay; rw [if_pos hE]
  have hN0 : s.n = (N : Int) := he.n
  have hNb : (N : Int) ≤ 1000000 := by have := hg.1.1.2; omega
  have f1 := cf (2 + v) none
  -- the word was said
  have ho1 : Own w0 (rfBlk q (cs.setIfInBounds (2 + v) (.bool true)) * (IntSl hv' s.has * (IntSl sv s.said * (dSl dv N rows * (starL rowP rows * R))))) (w.setCell ⟨q, 2 + v, none⟩ (.bool true)) := Own.setCell (i := 2 + v) (v := .bool true) ho
  have hc1 := he.c.setWas hv
  obtain ⟨w1, hw1⟩ : ∃ x, x = w.setCell ⟨q, 2 + v, none⟩ (.bool true) := ⟨_, rfl⟩
  obtain ⟨cs1, hcs1⟩ : ∃ x, x = cs.setIfInBounds (2 + v) (.bool true) := ⟨_, rfl⟩
  rw [← hw1, ← hcs1] at ho1
  rw [← hcs1, hN0] at hc1
  obtain ⟨sad, scap, hs⟩ := Own.int_shape ho1.third
  obtain ⟨SL, hSL⟩ : ∃ L, L = s.said.length := ⟨_, rfl⟩
  have hSLb : SL ≤ 900 := by rw [hSL]; exact hg.1.few
  rw [← hSL] at hs
  subst hs
  have H1 : Hid (Own w0 (Sl 3 1 (.slice sad SL scap) SL (s.said.map (Value.int .i64)) * (rfBlk q cs1 * (IntSl hv' s.has * (dSl dv N rows * (starL rowP rows * R))))) w1) := Lib.hid (ho1.perm (by unfold IntSl; rw [← hSL]; ac_rfl))
  have e2 : w1.cell? ⟨q, 33, none⟩ = some (.slice sad SL scap) := (Own.cell H1.out.second 33).trans hc1.said
  -- the row of the member
  obtain ⟨hl, hrow⟩ := he.r.get (Nat.le_refl N) hm5
  obtain ⟨X, hX⟩ : ∃ X, X = flRow s ((N : Int), (m : Int)) := ⟨_, rfl⟩
  rw [← hX] at hrow
  have hXl : X.length ≤ 1000 := by rw [hX]; exact (hok.2.2.2 _).1
  have HIS : Hid (∀ v9 sv9 cs9, RfC cs9 hv' sv9 dv (N : Int) (setPut s.all (v : Int)) → RfIs cs9 hv' sv9 dv N (rows.set (N * 5 + m) (v9, X ++ [(v : Int)])) (flHear { s with all := setPut s.all (v : Int), said := s.said ++ [(v : Int)] } (m : Int) (v : Int))) := Lib.hid (fun v9 sv9 cs9 h9 => by
    have h10 : RfRows N rows { s with all := setPut s.all (v : Int), said := s.said ++ [(v : Int)] } := ⟨he.r.len, he.r.at_⟩
    have h11 := h10.hear hN0 hm5 (v : Int) v9
    have h12 : flRow { s with all := setPut s.all (v : Int), said := s.said ++ [(v : Int)] } ((N : Int), (m : Int)) = X := by rw [hX]; rfl
    rw [h12] at h11
    refine ⟨hN0, ?_, h11⟩
    show RfC cs9 hv' sv9 dv s.n (setPut s.all (v : Int))
    rw [hN0]; exact h9)
  have HRL := Lib.hid he.r.len
  rw [hE, hS]
  clear cw cf ho1
  have HE := Lib.hid hE; have HS := Lib.hid hS; have HC := Lib.hid hc; have HG := Lib.hid hg; have HOK := Lib.hid hok; have H := Lib.hid h; have HO := Lib.hid ho; have HE := Lib.hid he; have HD := Lib.hid hD; have HMEM := Lib.hid hmem; have HWORD := Lib.hid hword; have HIN := Lib.hid hin; have HX := Lib.hid hX; have HCS1 := Lib.hid hcs1; have HSL := Lib.hid hSL; have HN0 := Lib.hid hN0
  clear hE hS hc hg hok h ho he hD hmem hword hin hX hcs1 hSL hN0
  have HC1 := Lib.hid hc1
  have HROW := Lib.hid hrow
  have HLI := Lib.hid hl
  clear hc1 hrow
  go_enter Tryd.func33, Tryd.ntmps33
  go_wp2_with fail
  refine HCK.out.mono ?_
  rintro e w' ⟨rfl, rfl⟩
  go_upto_region 7 with fail
  rw [← hw1]
  clear hw1 e1 f1
  go_upto_region 8 with (at_builtin; refine wpList_app rfl _ _ 38 rfl 3 1 8 _ int_info Tryd.underlying38 rfl (by decide) rfl (H1.out.alloc' _) rfl (by rfl) (Rd_lit (by simp) (by unfold maxLen; omega)) (by intro u hu; simp at hu; subst hu; rfl) (by unfold maxLen; omega) (by omega) ?_; intro v3 w3 ho3; obtain ⟨ad3, n3, cp3, hv3⟩ := rf_shape ho3; have e3 : w3.cell? ⟨q, 33, none⟩ = some (.slice sad SL scap) := (Own.cell ho3.second 33).trans HC1.out.said; have f3 : w3.frozen? ⟨q, 33, none⟩ = false := Own.free ho3.second 33 none; have HO3 := Lib.hid ho3; subst hv3; clear ho3 e2)
  obtain ⟨sv4, hsv4⟩ : ∃ x, x = Value.slice ad3 n3 cp3 := ⟨_, rfl⟩
  rw [← hsv4] at HO3 ⊢
  have h4 : Own w0 (rfBlk q (cs1.setIfInBounds 33 sv4) * (Sl 3 1 sv4 (SL + 1) (s.said.map (Value.int .i64) ++ [.int .i64 (v : Int)]) * (IntSl hv' s.has * (dSl dv N rows * (starL rowP rows * R))))) (w3.setCell ⟨q, 33, none⟩ sv4) := by
    have h9 : Own w0 (rfBlk q (cs1.setIfInBounds 33 sv4) * _) (w3.setCell ⟨q, 33, none⟩ sv4) := Own.setCell (i := 33) (v := sv4) HO3.out.second
    exact h9.perm (by ac_rfl)
  have hc4 := HC1.out.setSaid sv4
  obtain ⟨cs4, hcs4⟩ : ∃ x, x = cs1.setIfInBounds 33 sv4 := ⟨_, rfl⟩
  obtain ⟨w4, hw4⟩ : ∃ x, x = w3.setCell ⟨q, 33, none⟩ sv4 := ⟨_, rfl⟩
  rw [← hcs4, ← hw4] at h4
  rw [← hcs4] at hc4
  rw [← hw4]
  have e1' : Sl 3 1 sv4 (SL + 1) (s.said.map (Value.int .i64) ++ [.int .i64 (v : Int)]) = IntSl sv4 (s.said ++ [(v : Int)]) := by
    unfold IntSl
    rw [List.length_append, List.map_append, ← HSL.out]
    rfl
  rw [e1'] at h4
  obtain ⟨db, off, dc, hdv, h5⟩ := Own.rf_at HRL.out (h4.perm (show _ = dSl dv N rows * (rfBlk q cs4 * (IntSl sv4 (s.said ++ [(v : Int)]) * (IntSl hv' s.has * (starL rowP rows * R)))) by ac_rfl))
  obtain ⟨ad, cap, hr1, h6⟩ := Own.rf_take HLI.out (h5.perm (show _ = starL rowP rows * (dAt db off dc N rows * (rfBlk q cs4 * (IntSl sv4 (s.said ++ [(v : Int)]) * (IntSl hv' s.has * R)))) by ac_rfl))
  rw [HROW.out] at hr1 h6
  obtain ⟨L, hL⟩ : ∃ L, L = X.length := ⟨_, rfl⟩
  rw [← hL] at hr1 hXl
  have H6 : Hid (Own w0 (Sl 3 1 (.slice ad L cap) L (X.map (Value.int .i64)) * (rfBlk q cs4 * (dAt db off dc N rows * (IntSl sv4 (s.said ++ [(v : Int)]) * (IntSl hv' s.has * (starL rowP (rows.eraseIdx (N * 5 + m)) * R)))))) w4) := Lib.hid (by
    unfold IntSl at h6
    rw [← hL] at h6
    refine h6.perm ?_
    unfold IntSl
    ac_rfl)
  have hr2 : rows[N * 5 + m]? = some (.slice ad L cap, X) := by rw [List.getElem?_eq_getElem HLI.out, hr1]
  subst hdv
  have HDC : Hid (N + 1 ≤ dc ∧ dc ≤ maxLen) := Lib.hid ⟨(Own.rf_tab h5).1, (Own.rf_tab h5).2.1⟩
  have HFX : Hid (∀ w' T, Own w0 (T * (rfBlk q cs4 * (dAt db off dc N rows * (IntSl sv4 (s.said ++ [(v : Int)]) * (IntSl hv' s.has * (starL rowP (rows.eraseIdx (N * 5 + m)) * R)))))) w' → w'.cell? ⟨q, 34, none⟩ = some (.slice (some ⟨db, off, none⟩) (N + 1) dc) ∧ w'.cell? ⟨q, 0, none⟩ = some (.int .i64 (N : Int)) ∧ w'.cell? ⟨db, off + N * 5 + m, none⟩ = some (.slice ad L cap)) := Lib.hid (fun w' T h => by
    obtain ⟨c0, _, _, c34, _⟩ := h.second.rf_cells hc4
    refine ⟨c34, c0, ?_⟩
    have h9 := (Own.rf_tab h.third).2.2.1 (N * 5 + m) _ hr2
    rw [Nat.add_assoc]; exact h9)
  obtain ⟨e34, e0, e5⟩ := HFX.out _ _ H6.out
  have HC4 := Lib.hid hc4
  have hdc1 := HDC.out.1
  have hdc2 : dc ≤ 9223372036854775807 := by have := HDC.out.2; unfold maxLen at this; omega
  have N0 : (0 : Int) ≤ (N : Int) := by omega
  have N1 : (N : Int) < (N : Int) + 1 := by omega
  clear h4 h5 h6 e3 f3 hw4 hcs4 hsv4 hr1 hr2 hc4 e1' HO3 H1
  have HLL := Lib.hid hL
  clear hL
  refine wp_region_planH 28 [] [(true, 0), (true, 1), (true, 2), (true, 3), (true, 4), (true, 5), (true, 6), (true, 7), (true, 8), (true, 9), (true, 10), (true, 11), (true, 12), (true, 13), (true, 14), (true, 15), (true, 16), (true, 17), (true, 18), (true, 19), (true, 20), (true, 21), (true, 22), (true, 23), (true, 26), (false, 24), (false, 25), (true, 27)] [28] (fun wS => wS.cell? ⟨q, 34, none⟩ = some (.slice (some ⟨db, off, none⟩) (N + 1) dc) ∧ wS.cell? ⟨q, 0, none⟩ = some (.int .i64 (N : Int)) ∧ wS.cell? ⟨db, off + N * 5 + m, none⟩ = some (.slice ad L cap)) (by kernel_rfl) (by kernel_rfl) (⟨e34, e0, e5⟩) ?_
  simp only [pickH, pick, List.getElem?_cons_succ, List.getElem?_cons_zero, Option.toList, Option.map_some, List.cons_append, List.nil_append]
  repeat (refine wpPure_step ?_ rfl ?_ ?_; rotate_left; (focus (intro _; first | with_reducible rfl | (go_simp; done) | (go_simp; with_reducible rfl) | rfl)); go_simp)
  refine wpPure_nil ?_
  repeat (refine wpMix_read ?_ rfl ?_ ?_; rotate_left; (focus (intro _ hS; obtain ⟨s1, s2, s3⟩ := hS; first | with_reducible rfl | (go_simp; done) | (go_simp; with_reducible rfl) | rfl)); go_simp)
  refine wpMix_write (fun K hK => ?_)
  go_simp
  obtain ⟨b3, hb_b3⟩ : ∃ zz_, zz_ = (w4).heap.size := ⟨_, rfl⟩
  obtain ⟨w8, hw_w8⟩ : ∃ zz_, zz_ = (w4).alloc (.cells #[.int .i64 (v : Int)] 3 (0, 0)) := ⟨_, rfl⟩
  have h_HB3 := (H6.out).alloc (.cells #[.int .i64 (v : Int)] 3 (0, 0))
  rw [← hb_b3, ← hw_w8] at h_HB3
  have HB3 := Lib.hid h_HB3
  clear h_HB3
  rw [← hb_b3, ← hw_w8]
  clear hb_b3 hw_w8
  have HB5 : Hid (Own w0 (Sl 3 1 (.slice ad L cap) L (X.map (Value.int .i64)) * (rfBlk q cs4 * (dAt db off dc N rows * (IntSl sv4 (s.said ++ [(v : Int)]) * (IntSl hv' s.has * (starL rowP (rows.eraseIdx (N * 5 + m)) * ((blk b3 (.cells #[.int .i64 (v : Int)] 3 (0, 0))) * R))))))) w8.drew) := Lib.hid (HB3.out.drew.perm (by ac_rfl))
  clear HB3 H6 e34 e0 e5
  have HFY : Hid (∀ w' T, Own w0 (T * (rfBlk q cs4 * (dAt db off dc N rows * (IntSl sv4 (s.said ++ [(v : Int)]) * (IntSl hv' s.has * (starL rowP (rows.eraseIdx (N * 5 + m)) * ((blk b3 (.cells #[.int .i64 (v : Int)] 3 (0, 0))) * R))))))) w' → w'.cell? ⟨q, 34, none⟩ = some (.slice (some ⟨db, off, none⟩) (N + 1) dc) ∧ w'.cell? ⟨q, 0, none⟩ = some (.int .i64 (N : Int)) ∧ w'.cell? ⟨db, off + N * 5 + m, none⟩ = some (.slice ad L cap)) := Lib.hid (fun w' T h => HFX.out w' (T * (blk b3 (.cells #[.int .i64 (v : Int)] 3 (0, 0)))) (h.perm (by ac_rfl)))
  obtain ⟨e34, e0, e5⟩ := HFY.out _ _ HB5.out
  refine hK _ _ ⟨⟨e34, e0, e5⟩, ?_⟩
  clear hK K
  go_simp
  refine wpMix_write (fun K hK => ?_)
  have hsrc : Rd w8.drew (.slice (some ⟨b3, 0, none⟩) 1 1) 1 [.int .i64 (v : Int)] := Rd_one (fun i u hi => by
    rw [Own.cell (HB5.out.perm (show _ = (blk b3 (.cells #[.int .i64 (v : Int)] 3 (0, 0))) * (Sl 3 1 (.slice ad L cap) L (X.map (Value.int .i64)) * (rfBlk q cs4 * (dAt db off dc N rows * (IntSl sv4 (s.said ++ [(v : Int)]) * (IntSl hv' s.has * (starL rowP (rows.eraseIdx (N * 5 + m)) * R)))))) by ac_rfl))]
    match i, hi with
    | 0, hi => exact hi) (Nat.le_refl _) (by unfold maxLen; omega)
  refine step_app rfl _ _ 38 rfl 3 1 8 _ int_info Tryd.underlying38 rfl (by decide) (by rfl) HB5.out (by rfl) (by rfl) hsrc (by intro u hu; simp at hu; subst hu; rfl) (by unfold maxLen; omega) (by omega) ?_
  intro v9 w9 ho9
  clear e34 e0 e5
  obtain ⟨e34, e0, e5⟩ := HFY.out _ _ ho9
  have ef : w9.frozen? ⟨db, off + N * 5 + m, none⟩ = false := (Own.rf_tab ho9.third).2.2.2 _ none
  obtain ⟨ad9, n9, cp9, hv9⟩ := rf_shape ho9
  have e1 : Sl 3 1 v9 (L + 1) (X.map (Value.int .i64) ++ [.int .i64 (v : Int)]) = IntSl v9 (X ++ [(v : Int)]) := by
    unfold IntSl
    rw [List.length_append, List.map_append, ← HLL.out]
    rfl
  rw [e1] at ho9
  have hset := Own.rf_tabset HLI.out v9 (X ++ [(v : Int)]) ho9.third
  rw [← Nat.add_assoc] at hset
  have HFIN : Hid (Own w0 (RfP q (flHear { s with all := setPut s.all (v : Int), said := s.said ++ [(v : Int)] } (m : Int) (v : Int)) * R) (w9.setCell ⟨db, off + N * 5 + m, none⟩ v9)) := Lib.hid (by
    have h1 := rf_put HLI.out (hset.perm (show _ = IntSl v9 (X ++ [(v : Int)]) * (starL rowP (rows.eraseIdx (N * 5 + m)) * (dAt db off dc N (rows.set (N * 5 + m) (v9, X ++ [(v : Int)])) * (rfBlk q cs4 * (IntSl sv4 (s.said ++ [(v : Int)]) * (IntSl hv' s.has * ((blk b3 (.cells #[.int .i64 (v : Int)] 3 (0, 0))) * R)))))) by ac_rfl))
    have h2 : Own w0 (dSl (.slice (some ⟨db, off, none⟩) (N + 1) dc) N (rows.set (N * 5 + m) (v9, X ++ [(v : Int)])) * _) (w9.setCell ⟨db, off + N * 5 + m, none⟩ v9) := (h1.perm (show _ = dAt db off dc N (rows.set (N * 5 + m) (v9, X ++ [(v : Int)])) * (starL rowP (rows.set (N * 5 + m) (v9, X ++ [(v : Int)])) * (rfBlk q cs4 * (IntSl sv4 (s.said ++ [(v : Int)]) * (IntSl hv' s.has * ((blk b3 (.cells #[.int .i64 (v : Int)] 3 (0, 0))) * R))))) by ac_rfl)).sl_of_at
    refine Own.rf_close (HIS.out v9 sv4 cs4 HC4.out) ?_
    exact (h2.perm (show _ = (blk b3 (.cells #[.int .i64 (v : Int)] 3 (0, 0))) * (rfBlk q cs4 * (IntSl hv' s.has * (IntSl sv4 (s.said ++ [(v : Int)]) * (dSl (.slice (some ⟨db, off, none⟩) (N + 1) dc) N (rows.set (N * 5 + m) (v9, X ++ [(v : Int)])) * (starL rowP (rows.set (N * 5 + m) (v9, X ++ [(v : Int)])) * R))))) by ac_rfl)).drop)
  subst hv9
  clear hsrc ho9 hset HB5 e1
  refine hK _ _ ⟨⟨e34, e0, e5⟩, ?_⟩
  clear hK K
  go_simp
  repeat (refine wpMix_read ?_ rfl ?_ ?_; rotate_left; (focus (intro _ hS; obtain ⟨s1, s2, s3⟩ := hS; first | with_reducible rfl | (go_simp; done) | (go_simp; with_reducible rfl) | rfl)); go_simp)
  refine wpMix_nil ?_
  go_wp2_with fail
  refine NoPanic.normal ?_
  go_wp2
  go_ret
  exact ⟨rfl, HFIN.out⟩
end Go.Proofs.YtpgonkecicmanaaDoor
/- The reference's Flush: Give. -/
namespace Go.Proofs.YtpgonkecicmanaaDoor
set_option linter.unusedVariables false
set_option linter.unusedSimpArgs false
open Go.RowKit Go.Maps
set_option maxRecDepth 100000 in
set_option maxHeartbeats 4000000 in
theorem rfGive_any {w0 w : World} {R : HProp} (q : Nat) (s : Fl) (who word : Int) (hg : flInv s) (h : Own w0 (RfP q s * R) w) :
    Calls Tryd.prog 35 #[.pointer (some ⟨q, 0, none⟩), .int .i64 who, .int .i64 word] w fun e w' => e = .returned (.int .i64 (flGiveErr s who word : Nat)) ∧ Own w0 (RfP q (flGive s who word) * R) w' := by
  have hok : flOk s := hg.1.ok
  have HCK := Lib.hid (rfCheck_any q s who word hok h)
  by_cases hc : flChk s who word = 0
  rotate_left
  · have hE : flGiveErr s who word = flChk s who word := by unfold flGiveErr; rw [if_pos hc]
    have hS : flGive s who word = s := by unfold flGive; rw [hE, if_neg hc]
    obtain ⟨E, hEE⟩ : ∃ E, E = flChk s who word := ⟨_, rfl⟩
    rw [hE, hS, ← hEE]
    rw [← hEE] at HCK
    have t1 : (((E : Nat) : Int) != 0) = true := by rw [bne_iff_ne]; omega
    have HE := Lib.hid hE; have HS := Lib.hid hS; have HC := Lib.hid hc; have HG := Lib.hid hg; have HOK := Lib.hid hok; have HEE := Lib.hid hEE; have H := Lib.hid h
    clear hE hS hc hg hok hEE h
    go_enter Tryd.func35, Tryd.ntmps35
    go_wp2_with fail
    refine HCK.out.mono ?_
    rintro e w' ⟨rfl, rfl⟩
    go_wp2
    go_ret
    exact ⟨rfl, H.out⟩
  obtain ⟨hmem, hword, hin⟩ := rfChk0 hc
  rw [hc] at HCK
  obtain ⟨m, rfl, hm5⟩ := member_nat hmem
  have hwb : 1 ≤ word ∧ word ≤ 30 := by simpa [isWord] using hword
  obtain ⟨v, rfl⟩ : ∃ v : Nat, word = (v : Int) := ⟨word.toNat, by omega⟩
  have m0 : (0 : Int) ≤ (m : Int) := by omega
  have m5 : (m : Int) < 5 := by omega
  obtain ⟨cs4, hv', sv4, dv, N, rows, he, ho⟩ := h.rf_open
  have hN0 : s.n = (N : Int) := he.n
  have hNb : (N : Int) ≤ 1000000 := by have := hg.1.1.2; omega
  have HIN0 : Ints w sv4 s.said := IntSl_reads hok.2.2.1.2 _ ho.third
  obtain ⟨sad, scap, hs⟩ := Own.int_shape ho.third
  obtain ⟨SL, hSL⟩ : ∃ L, L = s.said.length := ⟨_, rfl⟩
  rw [← hSL] at hs
  have hc4 : RfC cs4 hv' sv4 dv (N : Int) s.all := by have := he.c; rw [hN0] at this; exact this
  have c33 := (ho.rf_cells hc4).2.2.1
  rw [hs] at c33 HIN0
  obtain ⟨D, hD⟩ : ∃ D, D = decide ((v : Int) ∈ s.said) := ⟨_, rfl⟩
  obtain ⟨B, hB⟩ : ∃ D, D = flHas s (m : Int) (v : Int) := ⟨_, rfl⟩
  have hE : flGiveErr s (m : Int) (v : Int) = if D = false then 5 else if B = true then 7 else 0 := by
    unfold flGiveErr
    rw [if_neg (by rw [hc]; simp), hD, hB]
  have HIN1 := Lib.hid (refIn_any (.slice sad SL scap) s.said (v : Int) w HIN0)
  rw [← hD] at HIN1
  cases D
  · rw [if_pos rfl] at hE
    have hS : flGive s (m : Int) (v : Int) = s := by unfold flGive; rw [hE]; rfl
    rw [hE, hS]
    clear HIN0
    have HE := Lib.hid hE; have HS := Lib.hid hS; have HC := Lib.hid hc; have HG := Lib.hid hg; have HOK := Lib.hid hok; have H := Lib.hid h; have HO := Lib.hid ho; have HE := Lib.hid he; have HD := Lib.hid hD; have HB := Lib.hid hB; have HMEM := Lib.hid hmem; have HWORD := Lib.hid hword; have HIN := Lib.hid hin; have HS := Lib.hid hs; have HSL := Lib.hid hSL; have HN0 := Lib.hid hN0; have HC4 := Lib.hid hc4
    clear hE hS hc hg hok h ho he hD hB hmem hword hin hs hSL hN0 hc4
    go_enter Tryd.func35, Tryd.ntmps35
    go_wp2_with fail
    refine HCK.out.mono ?_
    rintro e w' ⟨rfl, rfl⟩
    go_wp2_with fail
    refine HIN1.out.mono ?_
    rintro e w' ⟨rfl, rfl⟩
    go_wp2
    go_ret
    exact ⟨rfl, H.out⟩
  rw [if_neg (by simp)] at hE
  obtain ⟨hl, hrow⟩ := he.r.get (Nat.le_refl N) hm5
  obtain ⟨X, hX⟩ : ∃ X, X = flRow s ((N : Int), (m : Int)) := ⟨_, rfl⟩
  rw [← hX] at hrow
  have hXl : X.length ≤ 1000 := by rw [hX]; exact (hok.2.2.2 _).1
  have hXI : ∀ x ∈ X, I64 x := by rw [hX]; exact (hok.2.2.2 _).2
  have hBX : decide ((v : Int) ∈ X) = B := by rw [hB, hX]; unfold flHas; rw [hN0]
  have HRL := Lib.hid he.r.len
  have HLI := Lib.hid hl
  have HROW := Lib.hid hrow
  have HC1 := Lib.hid hc4
  have h4 : Own w0 (rfBlk q cs4 * (IntSl sv4 s.said * (IntSl hv' s.has * (dSl dv N rows * (starL rowP rows * R))))) w := ho.perm (by ac_rfl)
  clear hrow HIN0
  obtain ⟨db, off, dc, hdv, h5⟩ := Own.rf_at HRL.out (h4.perm (show _ = dSl dv N rows * (rfBlk q cs4 * (IntSl sv4 s.said * (IntSl hv' s.has * (starL rowP rows * R)))) by ac_rfl))
  obtain ⟨ad, cap, hr1, h6⟩ := Own.rf_take HLI.out (h5.perm (show _ = starL rowP rows * (dAt db off dc N rows * (rfBlk q cs4 * (IntSl sv4 s.said * (IntSl hv' s.has * R)))) by ac_rfl))
  rw [HROW.out] at hr1 h6
  obtain ⟨L, hL⟩ : ∃ L, L = X.length := ⟨_, rfl⟩
  rw [← hL] at hr1 hXl
  have H6 : Hid (Own w0 (Sl 3 1 (.slice ad L cap) L (X.map (Value.int .i64)) * (rfBlk q cs4 * (dAt db off dc N rows * (IntSl sv4 s.said * (IntSl hv' s.has * (starL rowP (rows.eraseIdx (N * 5 + m)) * R)))))) w) := Lib.hid (by
    unfold IntSl at h6
    rw [← hL] at h6
    refine h6.perm ?_
    unfold IntSl
    ac_rfl)
  have hr2 : rows[N * 5 + m]? = some (.slice ad L cap, X) := by rw [List.getElem?_eq_getElem HLI.out, hr1]
  subst hdv
  have HDC : Hid (N + 1 ≤ dc ∧ dc ≤ maxLen) := Lib.hid ⟨(Own.rf_tab h5).1, (Own.rf_tab h5).2.1⟩
  have HFX : Hid (∀ w' T, Own w0 (T * (rfBlk q cs4 * (dAt db off dc N rows * (IntSl sv4 s.said * (IntSl hv' s.has * (starL rowP (rows.eraseIdx (N * 5 + m)) * R)))))) w' → w'.cell? ⟨q, 34, none⟩ = some (.slice (some ⟨db, off, none⟩) (N + 1) dc) ∧ w'.cell? ⟨q, 0, none⟩ = some (.int .i64 (N : Int)) ∧ w'.cell? ⟨db, off + N * 5 + m, none⟩ = some (.slice ad L cap)) := Lib.hid (fun w' T h => by
    obtain ⟨c0, _, _, c34, _⟩ := h.second.rf_cells hc4
    refine ⟨c34, c0, ?_⟩
    have h9 := (Own.rf_tab h.third).2.2.1 (N * 5 + m) _ hr2
    rw [Nat.add_assoc]; exact h9)
  have hrd : Ints w (.slice ad L cap) X := by
    have h9 := IntSl_reads hXI _ (show Own w0 (IntSl (.slice ad L cap) X * _) w from H6.out.perm (by unfold IntSl; rw [← hL]))
    exact h9
  have HIN2 := Lib.hid (refIn_any (.slice ad L cap) X (v : Int) w.drew (hrd.heap rfl))
  rw [hBX] at HIN2
  obtain ⟨e34, e0, e5⟩ := HFX.out _ _ H6.out
  have hdc1 := HDC.out.1
  have hdc2 : dc ≤ 9223372036854775807 := by have := HDC.out.2; unfold maxLen at this; omega
  have N0 : (0 : Int) ≤ (N : Int) := by omega
  have N1 : (N : Int) < (N : Int) + 1 := by omega
  cases B
  rotate_left
  · rw [if_pos rfl] at hE
    have hS : flGive s (m : Int) (v : Int) = s := by unfold flGive; rw [hE]; rfl
    rw [hE, hS]
    clear h4 h5 h6 hrd
    have HE := Lib.hid hE; have HS := Lib.hid hS; have HC := Lib.hid hc; have HG := Lib.hid hg; have HOK := Lib.hid hok; have H := Lib.hid h; have HO := Lib.hid ho; have HE := Lib.hid he; have HD := Lib.hid hD; have HB := Lib.hid hB; have HMEM := Lib.hid hmem; have HWORD := Lib.hid hword; have HIN := Lib.hid hin; have HS := Lib.hid hs; have HSL := Lib.hid hSL; have HN0 := Lib.hid hN0; have HC4 := Lib.hid hc4; have HX := Lib.hid hX; have HXI := Lib.hid hXI; have HBX := Lib.hid hBX; have HR1 := Lib.hid hr1; have HR2 := Lib.hid hr2; have HL := Lib.hid hL
    clear hE hS hc hg hok h ho he hD hB hmem hword hin hs hSL hN0 hc4 hX hXI hBX hr1 hr2 hL
    go_enter Tryd.func35, Tryd.ntmps35
    go_wp2_with fail
    refine HCK.out.mono ?_
    rintro e w' ⟨rfl, rfl⟩
    go_wp2_with fail
    refine HIN1.out.mono ?_
    rintro e w' ⟨rfl, rfl⟩
    go_upto_region 7 with fail
    refine wp_region_tail 14 (by kernel_rfl) (by kernel_rfl) ?_
    simp only [List.take_succ_cons, List.take_zero, List.drop_succ_cons, List.drop_zero]
    repeat still_step
    refine wpStill_nil ?_
    go_wp2_with fail
    refine HIN2.out.mono ?_
    rintro e w' ⟨rfl, rfl⟩
    go_wp2
    go_ret
    exact ⟨rfl, H.out.drew⟩
  rw [if_neg (by simp)] at hE
  have hS : flGive s (m : Int) (v : Int) = flHear s (m : Int) (v : Int) := by unfold flGive; rw [if_pos hE]
  have HIS : Hid (∀ v9, RfIs cs4 hv' sv4 (.slice (some ⟨db, off, none⟩) (N + 1) dc) N (rows.set (N * 5 + m) (v9, X ++ [(v : Int)])) (flHear s (m : Int) (v : Int))) := Lib.hid (fun v9 => by
    have h11 := he.r.hear hN0 hm5 (v : Int) v9
    rw [← hX] at h11
    exact ⟨hN0, he.c, h11⟩)
  rw [hE, hS]
  clear h4 h5 h6 hrd
  have HDRW := Lib.hid H6.out.drew
  have HLL := Lib.hid hL
  clear hL
  have HE := Lib.hid hE; have HS := Lib.hid hS; have HC := Lib.hid hc; have HG := Lib.hid hg; have HOK := Lib.hid hok; have H := Lib.hid h; have HO := Lib.hid ho; have HE := Lib.hid he; have HD := Lib.hid hD; have HB := Lib.hid hB; have HMEM := Lib.hid hmem; have HWORD := Lib.hid hword; have HIN := Lib.hid hin; have HS := Lib.hid hs; have HSL := Lib.hid hSL; have HN0 := Lib.hid hN0; have HX := Lib.hid hX; have HXI := Lib.hid hXI; have HBX := Lib.hid hBX; have HR1 := Lib.hid hr1; have HR2 := Lib.hid hr2
  clear hE hS hc hg hok h ho he hD hB hmem hword hin hs hSL hN0 hX hXI hBX hr1 hr2
  have HC4 := Lib.hid hc4
  clear hc4
  go_enter Tryd.func35, Tryd.ntmps35
  go_wp2_with fail
  refine HCK.out.mono ?_
  rintro e w' ⟨rfl, rfl⟩
  go_wp2_with fail
  refine HIN1.out.mono ?_
  rintro e w' ⟨rfl, rfl⟩
  go_upto_region 7 with fail
  refine wp_region_tail 14 (by kernel_rfl) (by kernel_rfl) ?_
  simp only [List.take_succ_cons, List.take_zero, List.drop_succ_cons, List.drop_zero]
  repeat still_step
  refine wpStill_nil ?_
  go_wp2_with fail
  refine HIN2.out.mono ?_
  rintro e w' ⟨rfl, rfl⟩
  go_upto_region 10 with fail
  obtain ⟨w4, hw4⟩ : ∃ w', w' = w.drew := ⟨_, rfl⟩
  rw [← hw4] at HDRW ⊢
  clear hw4 e34 e0 e5 c33 H6
  obtain ⟨e34, e0, e5⟩ := HFX.out _ _ HDRW.out
  have H6 := HDRW
  refine wp_region_planH 28 [] [(true, 0), (true, 1), (true, 2), (true, 3), (true, 4), (true, 5), (true, 6), (true, 7), (true, 8), (true, 9), (true, 10), (true, 11), (true, 12), (true, 13), (true, 14), (true, 15), (true, 16), (true, 17), (true, 18), (true, 19), (true, 20), (true, 21), (true, 22), (true, 23), (true, 26), (false, 24), (false, 25), (true, 27)] [28] (fun wS => wS.cell? ⟨q, 34, none⟩ = some (.slice (some ⟨db, off, none⟩) (N + 1) dc) ∧ wS.cell? ⟨q, 0, none⟩ = some (.int .i64 (N : Int)) ∧ wS.cell? ⟨db, off + N * 5 + m, none⟩ = some (.slice ad L cap)) (by kernel_rfl) (by kernel_rfl) (⟨e34, e0, e5⟩) ?_
  simp only [pickH, pick, List.getElem?_cons_succ, List.getElem?_cons_zero, Option.toList, Option.map_some, List.cons_append, List.nil_append]
  repeat (refine wpPure_step ?_ rfl ?_ ?_; rotate_left; (focus (intro _; first | with_reducible rfl | (go_simp; done) | (go_simp; with_reducible rfl) | rfl)); go_simp)
  refine wpPure_nil ?_
  repeat (refine wpMix_read ?_ rfl ?_ ?_; rotate_left; (focus (intro _ hS; obtain ⟨s1, s2, s3⟩ := hS; first | with_reducible rfl | (go_simp; done) | (go_simp; with_reducible rfl) | rfl)); go_simp)
  refine wpMix_write (fun K hK => ?_)
  go_simp
  clear HDRW
  obtain ⟨b3, hb_b3⟩ : ∃ zz_, zz_ = (w4).heap.size := ⟨_, rfl⟩
  obtain ⟨w8, hw_w8⟩ : ∃ zz_, zz_ = (w4).alloc (.cells #[.int .i64 (v : Int)] 3 (0, 0)) := ⟨_, rfl⟩
  have h_HB3 := (H6.out).alloc (.cells #[.int .i64 (v : Int)] 3 (0, 0))
  rw [← hb_b3, ← hw_w8] at h_HB3
  have HB3 := Lib.hid h_HB3
  clear h_HB3
  rw [← hb_b3, ← hw_w8]
  clear hb_b3 hw_w8
  have HB5 : Hid (Own w0 (Sl 3 1 (.slice ad L cap) L (X.map (Value.int .i64)) * (rfBlk q cs4 * (dAt db off dc N rows * (IntSl sv4 s.said * (IntSl hv' s.has * (starL rowP (rows.eraseIdx (N * 5 + m)) * ((blk b3 (.cells #[.int .i64 (v : Int)] 3 (0, 0))) * R))))))) w8.drew) := Lib.hid (HB3.out.drew.perm (by ac_rfl))
  clear HB3 H6 e34 e0 e5
  have HFY : Hid (∀ w' T, Own w0 (T * (rfBlk q cs4 * (dAt db off dc N rows * (IntSl sv4 s.said * (IntSl hv' s.has * (starL rowP (rows.eraseIdx (N * 5 + m)) * ((blk b3 (.cells #[.int .i64 (v : Int)] 3 (0, 0))) * R))))))) w' → w'.cell? ⟨q, 34, none⟩ = some (.slice (some ⟨db, off, none⟩) (N + 1) dc) ∧ w'.cell? ⟨q, 0, none⟩ = some (.int .i64 (N : Int)) ∧ w'.cell? ⟨db, off + N * 5 + m, none⟩ = some (.slice ad L cap)) := Lib.hid (fun w' T h => HFX.out w' (T * (blk b3 (.cells #[.int .i64 (v : Int)] 3 (0, 0)))) (h.perm (by ac_rfl)))
  obtain ⟨e34, e0, e5⟩ := HFY.out _ _ HB5.out
  refine hK _ _ ⟨⟨e34, e0, e5⟩, ?_⟩
  clear hK K
  go_simp
  refine wpMix_write (fun K hK => ?_)
  have hsrc : Rd w8.drew (.slice (some ⟨b3, 0, none⟩) 1 1) 1 [.int .i64 (v : Int)] := Rd_one (fun i u hi => by
    rw [Own.cell (HB5.out.perm (show _ = (blk b3 (.cells #[.int .i64 (v : Int)] 3 (0, 0))) * (Sl 3 1 (.slice ad L cap) L (X.map (Value.int .i64)) * (rfBlk q cs4 * (dAt db off dc N rows * (IntSl sv4 s.said * (IntSl hv' s.has * (starL rowP (rows.eraseIdx (N * 5 + m)) * R)))))) by ac_rfl))]
    match i, hi with
    | 0, hi => exact hi) (Nat.le_refl _) (by unfold maxLen; omega)
  refine step_app rfl _ _ 38 rfl 3 1 8 _ int_info Tryd.underlying38 rfl (by decide) (by rfl) HB5.out (by rfl) (by rfl) hsrc (by intro u hu; simp at hu; subst hu; rfl) (by unfold maxLen; omega) (by omega) ?_
  intro v9 w9 ho9
  clear e34 e0 e5
  obtain ⟨e34, e0, e5⟩ := HFY.out _ _ ho9
  have ef : w9.frozen? ⟨db, off + N * 5 + m, none⟩ = false := (Own.rf_tab ho9.third).2.2.2 _ none
  obtain ⟨ad9, n9, cp9, hv9⟩ := rf_shape ho9
  have e1 : Sl 3 1 v9 (L + 1) (X.map (Value.int .i64) ++ [.int .i64 (v : Int)]) = IntSl v9 (X ++ [(v : Int)]) := by
    unfold IntSl
    rw [List.length_append, List.map_append, ← HLL.out]
    rfl
  rw [e1] at ho9
  have hset := Own.rf_tabset HLI.out v9 (X ++ [(v : Int)]) ho9.third
  rw [← Nat.add_assoc] at hset
  have HFIN : Hid (Own w0 (RfP q (flHear s (m : Int) (v : Int)) * R) (w9.setCell ⟨db, off + N * 5 + m, none⟩ v9)) := Lib.hid (by
    have h1 := rf_put HLI.out (hset.perm (show _ = IntSl v9 (X ++ [(v : Int)]) * (starL rowP (rows.eraseIdx (N * 5 + m)) * (dAt db off dc N (rows.set (N * 5 + m) (v9, X ++ [(v : Int)])) * (rfBlk q cs4 * (IntSl sv4 s.said * (IntSl hv' s.has * ((blk b3 (.cells #[.int .i64 (v : Int)] 3 (0, 0))) * R)))))) by ac_rfl))
    have h2 : Own w0 (dSl (.slice (some ⟨db, off, none⟩) (N + 1) dc) N (rows.set (N * 5 + m) (v9, X ++ [(v : Int)])) * _) (w9.setCell ⟨db, off + N * 5 + m, none⟩ v9) := (h1.perm (show _ = dAt db off dc N (rows.set (N * 5 + m) (v9, X ++ [(v : Int)])) * (starL rowP (rows.set (N * 5 + m) (v9, X ++ [(v : Int)])) * (rfBlk q cs4 * (IntSl sv4 s.said * (IntSl hv' s.has * ((blk b3 (.cells #[.int .i64 (v : Int)] 3 (0, 0))) * R))))) by ac_rfl)).sl_of_at
    refine Own.rf_close (HIS.out v9) ?_
    exact (h2.perm (show _ = (blk b3 (.cells #[.int .i64 (v : Int)] 3 (0, 0))) * (rfBlk q cs4 * (IntSl hv' s.has * (IntSl sv4 s.said * (dSl (.slice (some ⟨db, off, none⟩) (N + 1) dc) N (rows.set (N * 5 + m) (v9, X ++ [(v : Int)])) * (starL rowP (rows.set (N * 5 + m) (v9, X ++ [(v : Int)])) * R))))) by ac_rfl)).drop)
  subst hv9
  clear hsrc ho9 hset HB5 e1
  refine hK _ _ ⟨⟨e34, e0, e5⟩, ?_⟩
  clear hK K
  go_simp
  repeat (refine wpMix_read ?_ rfl ?_ ?_; rotate_left; (focus (intro _ hS; obtain ⟨s1, s2, s3⟩ := hS; first | with_reducible rfl | (go_simp; done) | (go_simp; with_reducible rfl) | rfl)); go_simp)
  refine wpMix_nil ?_
  go_wp2_with fail
  refine NoPanic.normal ?_
  go_wp2
  go_ret
  exact ⟨rfl, HFIN.out⟩
end Go.Proofs.YtpgonkecicmanaaDoor
/- Pieces of a function's text, found by their numbers. -/
namespace Go.Proofs.YtpgonkecicmanaaDoor
set_option linter.unusedVariables false
set_option linter.unusedSimpArgs false
open Go.RowKit
def findIf (t : Nat) : Code → Option Code
  | .cond (.tmp k) a b => if k = t then some (.cond (.tmp k) a b) else match findIf t a with
    | some c => some c
    | none => findIf t b
  | .seq a b => match findIf t a with
    | some c => some c
    | none => findIf t b
  | .block _ c => findIf t c
  | .loop c => findIf t c
  | .scope c => findIf t c
  | _ => none
def findBlock (t : Nat) : Code → Option Code
  | .cond _ a b => match findBlock t a with
    | some c => some c
    | none => findBlock t b
  | .seq a b => match findBlock t a with
    | some c => some c
    | none => findBlock t b
  | .block k c => if k = t then some (.block k c) else findBlock t c
  | .loop c => findBlock t c
  | .scope c => findBlock t c
  | _ => none
def findRegion (t : Nat) : Code → Option Code
  | .cond _ a b => match findRegion t a with
    | some c => some c
    | none => findRegion t b
  | .seq a b => match findRegion t a with
    | some c => some c
    | none => findRegion t b
  | .region k o d => if k = t then some (.region k o d) else none
  | .block _ c => findRegion t c
  | .loop c => findRegion t c
  | .scope c => findRegion t c
  | _ => none
end Go.Proofs.YtpgonkecicmanaaDoor
