/- ViewAll: all may go on: the same members are the next view, again and again. -/
import Derived.Test.YtdeeephdojflpaaDoorView6
import Derived.Test.YtdeeephdojflpaaDoorTold
import Derived.Deep.DeepCutAuto
import Derived.Deep.CutBlock
namespace Go.Proofs.YtdeeephdojflpaaDoor
set_option linter.unusedVariables false
set_option linter.unusedSimpArgs false
open Go.RowKit
theorem info_view : (Tryd.prog.info? 68).map (fun i => (i.zero, i.size, i.bytes)) = some (some (.agg #[.int .i64 0, .slice none 0 0]), 2, 32) := by kernel_rfl
def VwSl (v : Value) (L : List Vw) : HProp := Sl 68 2 v L.length (L.flatMap vwCells)
def goOn (va : Value) (A : List Int) (vs : List Value) : List Vw := (0, va, A) :: vs.mapIdx fun i v => ((i : Int) + 1, v, A)
theorem goOn_len (va : Value) (A : List Int) (vs : List Value) : (goOn va A vs).length = vs.length + 1 := by simp [goOn]
theorem goOn_snoc (va : Value) (A : List Int) (vs : List Value) (v : Value) : goOn va A (vs ++ [v]) = goOn va A vs ++ [((vs.length : Int) + 1, v, A)] := by
  unfold goOn; rw [List.mapIdx_append]; simp
theorem goOn_get (va : Value) (A : List Int) (vs : List Value) (i : Nat) (hi : i < (goOn va A vs).length) : ((goOn va A vs)[i]).1 = i ∧ ((goOn va A vs)[i]).2.2 = A := by
  cases i with
  | zero => simp [goOn]
  | succ i => simp [goOn]
theorem keepB_self (A : List Int) : keepB A A = A := List.filter_eq_self.2 (fun x hx => by simpa using hx)
theorem viewErr_up {A : List Int} {i : Nat} (h : viewErr 0 A = 0) (hi : i ≤ 1000) : viewErr (i : Int) A = 0 := by
  obtain ⟨_, h2⟩ := viewErr0 h
  unfold viewErr
  rw [if_neg (by simp [isCount]; omega)]
  exact h2
theorem mostB_self {A : List Int} (h : viewErr 0 A = 0) : mostB A A = true := by
  have := (memErr_len (viewErr0 h).2).1
  unfold mostB
  rw [keepB_self]
  simp only [decide_eq_true_eq]; omega
theorem nextErr_on {A : List Int} {i : Nat} (h : viewErr 0 A = 0) (hi : i ≤ 1000) : nextErr (i : Int) A A = 0 := by
  unfold nextErr
  rw [if_neg (by simpa using viewErr_up h hi), if_neg (by omega), if_neg (by simpa using (viewErr0 h).2), if_neg (by simp [mostB_self h])]
theorem chainGo_on {A : List Int} (h : viewErr 0 A = 0) : ∀ (L : List Vw) (i : Nat) (p : Vw), i + L.length ≤ 1000 → 1 ≤ i → p.1 = (i : Int) - 1 → p.2.2 = A → (∀ j (hj : j < L.length), (L[j]).1 = (i : Int) + j ∧ (L[j]).2.2 = A) → chainGo (some p) i L = (0, 0)
  | [], i, p, _, _, _, _, _ => rfl
  | x :: r, i, p, hl, hi1, hp1, hp2, hx => by
    have h0 := hx 0 (by simp)
    simp only [List.getElem_cons_zero] at h0
    have e1 : x.1 = (i : Int) := by omega
    simp only [List.length_cons] at hl
    rw [chainGo_some, e1, h0.2, hp2, if_neg (by simpa using viewErr_up h (by omega)), if_neg (by omega), if_neg (by simp [mostB_self h])]
    refine chainGo_on h r (i + 1) x (by omega) (by omega) (by omega) h0.2 (fun j hj => ?_)
    have := hx (j + 1) (by simp; omega)
    simp only [List.getElem_cons_succ] at this
    exact ⟨by omega, this.2⟩
theorem chain_on {va : Value} {A : List Int} {vs : List Value} (h : viewErr 0 A = 0) (hl : vs.length ≤ 50) : chainR (goOn va A vs) = (0, 0) := by
  unfold chainR
  rw [if_neg (by rw [goOn_len]; omega)]
  unfold goOn
  rw [chainGo_none, if_neg (by simpa using h)]
  refine chainGo_on h _ 1 _ (by simp; omega) (by omega) (by simp) rfl (fun j hj => by simp; omega)
theorem VwSl_reads {w0 : World} {A : List Int} {va lv : Value} {vs : List Value} {R : HProp} (hA : ∀ x ∈ A, I64 x) (hva : ∀ R', Reads w0 R' va A) : ReadsV w0 (VwSl lv (goOn va A vs) * (starL (fun v => IntSl v A) vs * R)) lv (goOn va A vs) := by
  refine ⟨fun w ho => Own.rd ho, fun x hx => ?_⟩
  obtain ⟨i, hi, rfl⟩ := List.getElem_of_mem hx
  rw [(goOn_get va A vs i hi).2]
  cases i with
  | zero => exact hva _
  | succ i =>
    have hi' : i < vs.length := by rw [goOn_len] at hi; omega
    have : ((goOn va A vs)[i + 1]).2.1 = vs[i] := by simp [goOn]
    rw [this]
    intro w ho
    exact IntSl_reads hA w (ho.perm (show _ = IntSl vs[i] A * (starL (fun v => IntSl v A) (vs.eraseIdx i) * (VwSl lv (goOn va A vs) * R)) by rw [starL_split (fun v => IntSl v A) vs i hi']; ac_rfl))
set_option maxRecDepth 100000 in
set_option maxHeartbeats 4000000 in
theorem viewAll_law (w : World) (hg : As.Handle w) (va : Value) (A : List Int) (hA : Ints w va A) (n : Int) (_hn : I64 n) :
    Calls Tryd.prog 8 #[va, .int .i64 n] w fun e w' => e = .returned (.bool true) ∧ Below w.heap.size w w' := by
  obtain ⟨ad, acap, rfl, hac, hac2⟩ := hA.shape
  have hAI := hA.2
  have hAR : ∀ R', Reads w R' (.slice ad A.length acap) A := fun R' => hA.reads
  obtain ⟨al, hal⟩ : ∃ al, al = A.length := ⟨_, rfl⟩
  rw [← hal] at hac hA hAR ⊢
  obtain ⟨vb, hb_vb⟩ : ∃ zz_, zz_ = (w).heap.size := ⟨_, rfl⟩
  obtain ⟨w1, hw_w1⟩ : ∃ zz_, zz_ = (w).alloc (.cells #[.int .i64 0, .slice ad al acap] 68 (0, 0)) := ⟨_, rfl⟩
  have h_HO1 := (Own.start w).alloc (.cells #[.int .i64 0, .slice ad al acap] 68 (0, 0))
  rw [← hb_vb, ← hw_w1] at h_HO1
  have HO1 := Lib.hid h_HO1
  clear h_HO1
  have HV1 : Hid (Own w (VwO vb 0 (.slice ad al acap) * emp) w1) := HO1
  clear HO1
  obtain ⟨c0, c1, _⟩ := HV1.out.vw
  have hE5 : nextErr 0 [] [] = 5 := by decide
  have hN5 : nextN 0 [] [] = 0 := by decide
  obtain ⟨E, hE⟩ : ∃ E, E = viewErr 0 A := ⟨_, rfl⟩
  have HG := Lib.hid hg
  have HAR := Lib.hid hAR
  have HA := Lib.hid hA; have HAI := Lib.hid hAI; have HAL := Lib.hid hal
  clear hA hAI hal
  clear hg hAR
  by_cases h0 : E = 0
  rotate_left
  · have hee := errV_pos h0
    have HE := Lib.hid hE; have H0 := Lib.hid h0; have HEE := Lib.hid hee
    clear hE h0 hee
    go_enter Tryd.func8, Tryd.ntmps8
    go_upto_region 2 with fail
    rw [← hb_vb, ← hw_w1]
    clear hb_vb hw_w1
    go_wp2_with fail
    refine (viewCheck_any 0 _ A HV1.out (HAR.out _)).mono ?_
    rintro e w2 ⟨rfl, ho⟩
    rw [← HE.out, HEE.out]
    have HO2 := Lib.hid ho
    clear ho c0 c1
    go_wp2_with fail
    refine (viewNext_any 0 (.slice none 0 0) (.slice none 0 0) [] [] (Ints_nil _).reads (Ints_nil _).reads HO2.out).mono ?_
    rintro e w3 ⟨v3, rfl, ho⟩
    rw [hN5, hE5]
    obtain ⟨ad3, cap3, hv3, _⟩ := Own.rd ho
    subst hv3
    obtain ⟨xb, hb_xb⟩ : ∃ zz_, zz_ = (w3).heap.size := ⟨_, rfl⟩
    obtain ⟨w4, hw_w4⟩ : ∃ zz_, zz_ = (w3).alloc (.cells #[.int .i64 0, .slice ad3 (nextHas 0 [] []).length cap3] 68 (0, 0)) := ⟨_, rfl⟩
    have h_HO4 := (ho).alloc (.cells #[.int .i64 0, .slice ad3 (nextHas 0 [] []).length cap3] 68 (0, 0))
    rw [← hb_xb, ← hw_w4] at h_HO4
    have HO4 := Lib.hid h_HO4
    clear h_HO4
    clear ho
    go_upto_region 4 with fail
    rw [← hb_xb, ← hw_w4]
    clear hb_xb hw_w4
    go_wp2_with fail
    refine (sameErr_any HG.out 5 5 HO4.out).mono ?_
    rintro e w5 ⟨rfl, ho⟩
    have HO5 := Lib.hid ho
    clear ho
    go_wp2
    go_ret
    exact ⟨rfl, HO5.out.below⟩
  have hee : errV E = .nilIface := by rw [h0]; rfl
  have hv0 : viewErr 0 A = 0 := by rw [← hE]; exact h0
  by_cases h1 : n < 0
  · have t1 : decide (n < 0) = true := by simpa using h1
    have HE := Lib.hid hE; have H0 := Lib.hid h0; have HEE := Lib.hid hee; have H1 := Lib.hid h1; have HV0 := Lib.hid hv0
    clear hE h0 hee h1 hv0
    go_enter Tryd.func8, Tryd.ntmps8
    go_upto_region 2 with fail
    rw [← hb_vb, ← hw_w1]
    clear hb_vb hw_w1
    go_wp2_with fail
    refine (viewCheck_any 0 _ A HV1.out (HAR.out _)).mono ?_
    rintro e w2 ⟨rfl, ho⟩
    rw [← HE.out, HEE.out]
    have HO2 := Lib.hid ho
    clear ho c0 c1
    go_wp2_with fail
    refine (viewNext_any 0 (.slice none 0 0) (.slice none 0 0) [] [] (Ints_nil _).reads (Ints_nil _).reads HO2.out).mono ?_
    rintro e w3 ⟨v3, rfl, ho⟩
    rw [hN5, hE5]
    obtain ⟨ad3, cap3, hv3, _⟩ := Own.rd ho
    subst hv3
    obtain ⟨xb, hb_xb⟩ : ∃ zz_, zz_ = (w3).heap.size := ⟨_, rfl⟩
    obtain ⟨w4, hw_w4⟩ : ∃ zz_, zz_ = (w3).alloc (.cells #[.int .i64 0, .slice ad3 (nextHas 0 [] []).length cap3] 68 (0, 0)) := ⟨_, rfl⟩
    have h_HO4 := (ho).alloc (.cells #[.int .i64 0, .slice ad3 (nextHas 0 [] []).length cap3] 68 (0, 0))
    rw [← hb_xb, ← hw_w4] at h_HO4
    have HO4 := Lib.hid h_HO4
    clear h_HO4
    clear ho
    go_upto_region 4 with fail
    rw [← hb_xb, ← hw_w4]
    clear hb_xb hw_w4
    go_wp2_with fail
    refine (sameErr_any HG.out 5 5 HO4.out).mono ?_
    rintro e w5 ⟨rfl, ho⟩
    have HO5 := Lib.hid ho
    clear ho
    go_wp2
    go_ret
    exact ⟨rfl, HO5.out.below⟩
  have t1 : decide (n < 0) = false := by simpa using h1
  by_cases h2 : 50 < n
  · have t2 : decide (50 < n) = true := by simpa using h2
    have HE := Lib.hid hE; have H0 := Lib.hid h0; have HEE := Lib.hid hee; have H1 := Lib.hid h1; have H2 := Lib.hid h2; have HV0 := Lib.hid hv0
    clear hE h0 hee h1 h2 hv0
    go_enter Tryd.func8, Tryd.ntmps8
    go_upto_region 2 with fail
    rw [← hb_vb, ← hw_w1]
    clear hb_vb hw_w1
    go_wp2_with fail
    refine (viewCheck_any 0 _ A HV1.out (HAR.out _)).mono ?_
    rintro e w2 ⟨rfl, ho⟩
    rw [← HE.out, HEE.out]
    have HO2 := Lib.hid ho
    clear ho c0 c1
    go_wp2_with fail
    refine (viewNext_any 0 (.slice none 0 0) (.slice none 0 0) [] [] (Ints_nil _).reads (Ints_nil _).reads HO2.out).mono ?_
    rintro e w3 ⟨v3, rfl, ho⟩
    rw [hN5, hE5]
    obtain ⟨ad3, cap3, hv3, _⟩ := Own.rd ho
    subst hv3
    obtain ⟨xb, hb_xb⟩ : ∃ zz_, zz_ = (w3).heap.size := ⟨_, rfl⟩
    obtain ⟨w4, hw_w4⟩ : ∃ zz_, zz_ = (w3).alloc (.cells #[.int .i64 0, .slice ad3 (nextHas 0 [] []).length cap3] 68 (0, 0)) := ⟨_, rfl⟩
    have h_HO4 := (ho).alloc (.cells #[.int .i64 0, .slice ad3 (nextHas 0 [] []).length cap3] 68 (0, 0))
    rw [← hb_xb, ← hw_w4] at h_HO4
    have HO4 := Lib.hid h_HO4
    clear h_HO4
    clear ho
    go_upto_region 4 with fail
    rw [← hb_xb, ← hw_w4]
    clear hb_xb hw_w4
    go_wp2_with fail
    refine (sameErr_any HG.out 5 5 HO4.out).mono ?_
    rintro e w5 ⟨rfl, ho⟩
    have HO5 := Lib.hid ho
    clear ho
    go_wp2
    go_ret
    exact ⟨rfl, HO5.out.below⟩
  have t2 : decide (50 < n) = false := by simpa using h2
  obtain ⟨N, rfl⟩ : ∃ N : Nat, n = (N : Int) := ⟨n.toNat, by omega⟩
  have hN : N ≤ 50 := by omega
  have hal5 := (memErr_len (viewErr0 hv0).2).2
  rw [← HAL.out] at hal5
  have HE := Lib.hid hE; have H0 := Lib.hid h0; have HEE := Lib.hid hee; have H1 := Lib.hid h1; have H2 := Lib.hid h2; have HV0 := Lib.hid hv0
  clear hE h0 hee h1 h2 hv0
  go_enter Tryd.func8, Tryd.ntmps8
  go_upto_region 2 with fail
  rw [← hb_vb, ← hw_w1]
  clear hb_vb hw_w1
  go_wp2_with fail
  refine (viewCheck_any 0 _ A HV1.out (HAR.out _)).mono ?_
  rintro e w2 ⟨rfl, ho⟩
  rw [← HE.out, HEE.out]
  have HO2 := Lib.hid ho
  clear ho c0 c1
  obtain ⟨c0, c1, _⟩ := HO2.out.vw
  obtain ⟨lb, hb_lb⟩ : ∃ zz_, zz_ = (w2).heap.size := ⟨_, rfl⟩
  obtain ⟨w3, hw_w3⟩ : ∃ zz_, zz_ = (w2).alloc (.cells #[.int .i64 0, .slice ad al acap] 68 (0, 0)) := ⟨_, rfl⟩
  have h_HO3 := (HO2.out).alloc (.cells #[.int .i64 0, .slice ad al acap] 68 (0, 0))
  rw [← hb_lb, ← hw_w3] at h_HO3
  have HO3 := Lib.hid h_HO3
  clear h_HO3
  have HL3 : Hid (Own w (VwSl (.slice (some ⟨lb, 0, none⟩) 1 1) (goOn (.slice ad al acap) A []) * (starL (fun v => IntSl v A) [] * (VwO vb 0 (.slice ad al acap) * emp))) w3) := Lib.hid (by
    have h9 := Own.sl_mk (ty := 68) (size := 2) (n := 1) (cap := 1) (off := 0) (xs := [.int .i64 0, .slice ad al acap]) (Nat.le_refl _) (by decide) rfl (by simp) (fun i hi => by simp) HO3.out
    exact h9.perm (by rw [show starL (fun v => IntSl v A) [] = emp from rfl, emp_star]; rfl))
  clear HO3 HO2
  go_upto_region 6 with fail
  rw [← hb_lb, ← hw_w3]
  clear hb_lb hw_w3
  clear c0 c1
  go_wp2_with fail
  go_loopw [9, 8] (fun iv lv wr => ∃ (k : Nat) (vs : List Value) (cv : Value), k ≤ N ∧ iv = .int .i64 k ∧ Hid (vs.length = k) ∧ Hid (∀ R', Reads w (starL (fun v => IntSl v A) vs * R') cv A) ∧ Hid (Own w (VwSl lv (goOn (.slice ad al acap) A vs) * (starL (fun v => IntSl v A) vs * (VwO vb (k : Int) cv * emp))) wr)) (fun iv _ _ => N - (intOf iv).toNat)
  case atStart => exact ⟨0, [], _, Nat.zero_le _, rfl, Lib.hid rfl, Lib.hid (fun R' => HAR.out _), HL3⟩
  case round =>
    clear HL3
    obtain ⟨k, vs, cv, hk, rfl, HVL, HCV, HO⟩ := hrel
    by_cases hlt : k < N
    · have hp1 := HO.out.perm (show _ = VwO vb (k : Int) cv * (VwSl u8 (goOn (.slice ad al acap) A vs) * (starL (fun v => IntSl v A) vs * emp)) by ac_rfl)
      obtain ⟨c0, c1, _⟩ := hp1.vw
      have HCR : Hid (Reads w (VwSl u8 (goOn (.slice ad al acap) A vs) * (starL (fun v => IntSl v A) vs * (VwO vb (k : Int) cv * emp))) cv A) := Lib.hid (HCV.out _).more
      obtain ⟨cad, ccap, hcv, hcc1, hcc2⟩ := (HCR.out _ HO.out).shape
      rw [← HAL.out] at hcv hcc1
      subst hcv
      have he_x := nextErr_on HV0.out (show k ≤ 1000 by omega)
      have hxn : nextN (k : Int) A A = (k : Int) + 1 := by unfold nextN; rw [if_pos he_x]
      have hxh : nextHas (k : Int) A A = A := by unfold nextHas; rw [if_pos he_x]
      have HE_X := Lib.hid he_x; have HXN := Lib.hid hxn; have HXH := Lib.hid hxh
      clear he_x hxn hxh
      clear hp1
      go_wp2_with fail
      refine (viewNext_any (k : Int) _ _ A A HCR.out (HAR.out _) HO.out).mono ?_
      rintro e w4 ⟨v4, rfl, ho⟩
      rw [HXN.out, HE_X.out, errV0]
      rw [HXH.out] at ho
      obtain ⟨xad, xcap, hv4, _⟩ := Own.rd ho
      rw [← HAL.out] at hv4
      subst hv4
      obtain ⟨xb, hb_xb⟩ : ∃ zz_, zz_ = (w4).heap.size := ⟨_, rfl⟩
      obtain ⟨w5, hw_w5⟩ : ∃ zz_, zz_ = (w4).alloc (.cells #[.int .i64 ((k : Int) + 1), .slice xad al xcap] 68 (0, 0)) := ⟨_, rfl⟩
      have h_HO5 := (ho).alloc (.cells #[.int .i64 ((k : Int) + 1), .slice xad al xcap] 68 (0, 0))
      rw [← hb_xb, ← hw_w5] at h_HO5
      have HO5 := Lib.hid h_HO5
      clear h_HO5
      clear ho c0 c1
      have HX5 : Hid (Own w (VwO xb ((k : Int) + 1) (.slice xad al xcap) * (IntSl (.slice xad al xcap) A * (VwSl u8 (goOn (.slice ad al acap) A vs) * (starL (fun v => IntSl v A) vs * (VwO vb (k : Int) (.slice cad al ccap) * emp))))) w5) := HO5
      clear HO5
      obtain ⟨d0, d1, _⟩ := HX5.out.vw
      have hvp := HX5.out.perm (show _ = VwO vb (k : Int) (.slice cad al ccap) * (VwO xb ((k : Int) + 1) (.slice xad al xcap) * (IntSl (.slice xad al xcap) A * (VwSl u8 (goOn (.slice ad al acap) A vs) * (starL (fun v => IntSl v A) vs * emp)))) by ac_rfl)
      obtain ⟨g0, g1, g4⟩ := hvp.vw
      have g40 := g4 0 none
      have g41 := g4 1 none
      have hput := hvp.vw_put ((k : Int) + 1) (.slice xad al xcap)
      obtain ⟨w6, hw6⟩ : ∃ w6, w6 = (w5.setCell ⟨vb, 0, none⟩ (.int .i64 ((k : Int) + 1))).setCell ⟨vb, 1, none⟩ (.slice xad al xcap) := ⟨_, rfl⟩
      rw [← hw6] at hput
      have HP6 := Lib.hid hput
      have tne : ((k : Int) + 1 != (k : Int) + 1) = false := by simp
      clear hput hvp g4
      go_upto_region 10 with fail
      rw [← hb_xb, ← hw_w5]
      clear hb_xb hw_w5
      go_upto_region 13 with fail
      rw [← hw6]
      clear hw6 d0 d1 g0 g1 g40 g41
      obtain ⟨c0, c1, _⟩ := HP6.out.vw
      have HA6 : Hid (Own w (Sl 68 2 u8 (k + 1) ((goOn (.slice ad al acap) A vs).flatMap vwCells) * (VwO vb ((k : Int) + 1) (.slice xad al xcap) * (VwO xb ((k : Int) + 1) (.slice xad al xcap) * (IntSl (.slice xad al xcap) A * (starL (fun v => IntSl v A) vs * emp))))) w6) := Lib.hid (HP6.out.perm (by unfold VwSl; rw [goOn_len, HVL.out]; ac_rfl))
      go_wp2_with (at_builtin; refine wpList_app rfl _ _ 72 rfl 68 2 32 _ info_view Tryd.underlying72 rfl (by decide) rfl (HA6.out.alloc' _) rfl (by rfl) (Rd_lit (by simp) (by unfold maxLen; omega)) (by intro u hu; simp at hu; rcases hu with rfl | rfl <;> rfl) (by unfold maxLen; omega) (by omega) ?_; intro v' w7 hown; have HO7 := Lib.hid hown; clear hown)
      have HF : Hid (Own w (VwSl v' (goOn (.slice ad al acap) A (vs ++ [.slice xad al xcap])) * (starL (fun v => IntSl v A) (vs ++ [.slice xad al xcap]) * (VwO vb ((k : Int) + 1) (.slice xad al xcap) * emp))) w7) := Lib.hid (by
        have h9 := HO7.out.perm (show _ = VwO xb ((k : Int) + 1) (.slice xad al xcap) * (Sl 68 2 v' (k + 1 + 1) ((goOn (.slice ad al acap) A vs).flatMap vwCells ++ [.int .i64 ((k : Int) + 1), .slice xad al xcap]) * ((IntSl (.slice xad al xcap) A * starL (fun v => IntSl v A) vs) * (VwO vb ((k : Int) + 1) (.slice xad al xcap) * emp))) by ac_rfl)
        refine h9.drop.perm ?_
        rw [starL_snoc, goOn_snoc]
        unfold VwSl
        rw [List.length_append, goOn_len, List.flatMap_append, HVL.out]
        rfl)
      have HCV2 : Hid (∀ R', Reads w (starL (fun v => IntSl v A) (vs ++ [.slice xad al xcap]) * R') (.slice xad al xcap) A) := Lib.hid (fun R' w' ho => IntSl_reads HAI.out w' (ho.perm (show _ = IntSl (.slice xad al xcap) A * (starL (fun v => IntSl v A) vs * R') by rw [starL_snoc]; ac_rfl)))
      go_roundw
      case rel => exact ⟨k + 1, _, _, by omega, by go_num, Lib.hid (by simp [HVL.out]), HCV2, HF⟩
      case measure => simp [intOf]; omega
    have hkN : k = N := by omega
    have HRV : Hid (ReadsV w (VwSl u8 (goOn (.slice ad al acap) A vs) * (starL (fun v => IntSl v A) vs * (VwO vb (k : Int) cv * emp))) u8 (goOn (.slice ad al acap) A vs)) := Lib.hid (VwSl_reads HAI.out HAR.out)
    have hch := chain_on (va := .slice ad al acap) (vs := vs) HV0.out (by rw [HVL.out]; omega)
    have HCH := Lib.hid hch
    clear hch
    go_wp2_with fail
    refine (viewChain_any _ _ HRV.out HO.out).mono ?_
    rintro e w5 ⟨rfl, ho⟩
    rw [HCH.out]
    simp only [errV0]
    have HO5 := Lib.hid ho
    clear ho
    go_wp2
    go_ret
    exact ⟨rfl, HO5.out.below⟩
end Go.Proofs.YtdeeephdojflpaaDoor
