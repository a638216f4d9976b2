/- Contracts of the reference's Joiner: Take. -/
import Derived.Test.YtbfiahdddbcebaaDoorJoin3
import Derived.Test.YtbfiahdddbcebaaDoorWireRef
namespace Go.Proofs.YtbfiahdddbcebaaDoor
open Go.RowKit Go.Maps
set_option linter.unusedVariables false
def jrB (m : List (Int × ByteArray)) (i : Nat) : Value := .bool (mget m (i : Int)).isSome
def jrT (m : List (Int × ByteArray)) (i : Nat) : Value := .string (joGet m i)
def jrCells (N : Nat) (m : List (Int × ByteArray)) : List Value := .int .i64 N :: ((List.range 60).map (jrB m) ++ (List.range 60).map (jrT m))
def JrP (q N : Nat) (m : List (Int × ByteArray)) : HProp := blk q (.cells (jrCells N m).toArray 46 (0, 0))
theorem jr_len (N : Nat) (m : List (Int × ByteArray)) : (jrCells N m).length = 121 := by simp [jrCells]
theorem jr_b (N : Nat) (m : List (Int × ByteArray)) (i : Nat) (hi : i < 60) : (jrCells N m)[1 + i]? = some (jrB m i) := by
  unfold jrCells
  rw [Nat.add_comm, List.getElem?_cons_succ, List.getElem?_append_left (by simp; omega)]
  simp [hi]
theorem jr_t (N : Nat) (m : List (Int × ByteArray)) (i : Nat) (hi : i < 60) : (jrCells N m)[61 + i]? = some (jrT m i) := by
  unfold jrCells
  rw [show 61 + i = (60 + i) + 1 by omega, List.getElem?_cons_succ, List.getElem?_append_right (by simp)]
  simp [hi]
theorem jr_end (N : Nat) (m : List (Int × ByteArray)) (i : Nat) (hi : 121 ≤ i) : (jrCells N m)[i]? = none := List.getElem?_eq_none (by rw [jr_len]; exact hi)
theorem jrB_put (m : List (Int × ByteArray)) (k i : Nat) (s : ByteArray) : jrB (mput m (k : Int) s) i = if k = i then .bool true else jrB m i := by
  unfold jrB
  rw [mget_mput]
  by_cases h : k = i
  · rw [if_pos (by omega), if_pos h]; rfl
  · rw [if_neg (by omega), if_neg h]
theorem jrT_put (m : List (Int × ByteArray)) (k i : Nat) (s : ByteArray) : jrT (mput m (k : Int) s) i = if k = i then .string s else jrT m i := by
  unfold jrT joGet
  rw [mget_mput]
  by_cases h : k = i
  · rw [if_pos (by omega), if_pos h]; rfl
  · rw [if_neg (by omega), if_neg h]
theorem jr_put (N N' : Nat) (m : List (Int × ByteArray)) (k : Nat) (hk : k < 60) (s : ByteArray) :
    (((jrCells N m).set 0 (.int .i64 N')).set (1 + k) (.bool true)).set (61 + k) (.string s) = jrCells N' (mput m (k : Int) s) := by
  apply List.ext_getElem?
  intro i
  rw [List.getElem?_set, List.getElem?_set, List.getElem?_set]
  simp only [List.length_set, jr_len]
  by_cases h0 : i = 0
  · subst h0
    rw [if_neg (by omega), if_neg (by omega), if_pos rfl, if_pos (by omega)]
    rfl
  by_cases h1 : i < 61
  · obtain ⟨j, rfl⟩ : ∃ j, i = 1 + j := ⟨i - 1, by omega⟩
    rw [if_neg (by omega), if_neg (show ¬ 0 = 1 + j by omega), jr_b _ _ j (by omega), jr_b _ _ j (by omega), jrB_put]
    by_cases hj : k = j
    · subst hj
      rw [if_pos rfl, if_pos (by omega), if_pos rfl]
    · rw [if_neg (by omega), if_neg hj]
  by_cases h2 : i < 121
  · obtain ⟨j, rfl⟩ : ∃ j, i = 61 + j := ⟨i - 61, by omega⟩
    rw [if_neg (show ¬ 1 + k = 61 + j by omega), if_neg (show ¬ 0 = 61 + j by omega), jr_t _ _ j (by omega), jr_t _ _ j (by omega), jrT_put]
    by_cases hj : k = j
    · subst hj
      rw [if_pos rfl, if_pos (by omega), if_pos rfl]
    · rw [if_neg (by omega), if_neg hj]
  · rw [if_neg (by omega), if_neg (by omega), if_neg (by omega), jr_end _ _ _ (by omega), jr_end _ _ _ (by omega)]
theorem jr_zero : jrCells 0 [] = .int .i64 0 :: (List.replicate 60 (.bool false) ++ List.replicate 60 (.string ⟨#[]⟩)) := by
  unfold jrCells
  congr 1
theorem Own.jr_facts {w0 w : World} {q N : Nat} {m : List (Int × ByteArray)} {R : HProp} (h : Own w0 (JrP q N m * R) w) : w.cell? ⟨q, 0, none⟩ = some (.int .i64 N) ∧ (∀ i, i < 60 → w.cell? ⟨q, 1 + i, none⟩ = some (.bool (mget m (i : Int)).isSome)) ∧ (∀ i, i < 60 → w.cell? ⟨q, 61 + i, none⟩ = some (.string (joGet m i))) ∧ (∀ i s, w.frozen? ⟨q, i, s⟩ = false) := by
  refine ⟨(h.cell 0).trans ?_, fun i hi => (h.cell _).trans ?_, fun i hi => (h.cell _).trans ?_, fun i s => h.free i s⟩
  · rw [List.getElem?_toArray]; rfl
  · rw [List.getElem?_toArray]; exact jr_b N m i hi
  · rw [List.getElem?_toArray]; exact jr_t N m i hi
def JrC (q : Nat) (cs : List Value) : HProp := blk q (.cells cs.toArray 46 (0, 0))
theorem Own.jrc_set {w0 w : World} {q : Nat} {cs : List Value} {R : HProp} (i : Nat) (v : Value) (h : Own w0 (JrC q cs * R) w) : Own w0 (JrC q (cs.set i v) * R) (w.setCell ⟨q, i, none⟩ v) := by
  have h1 := Own.setCell (i := i) (v := v) h
  rw [List.setIfInBounds_toArray] at h1
  exact h1
theorem Own.jrc_free {w0 w : World} {q : Nat} {cs : List Value} {R : HProp} (h : Own w0 (JrC q cs * R) w) (i : Nat) (s : Option Nat) : w.frozen? ⟨q, i, s⟩ = false := h.free i s
theorem Own.jrc_some {w0 w : World} {q : Nat} {cs : List Value} {R : HProp} (h : Own w0 (JrC q cs * R) w) (hc : cs.length = 121) (i : Nat) (hi : i < 121) : ∃ v, w.cell? ⟨q, i, none⟩ = some v := by
  refine ⟨cs[i], (h.cell i).trans ?_⟩
  rw [List.getElem?_toArray, List.getElem?_eq_getElem (by omega)]
theorem pcV_hid (x : Pc) : pcV x = .agg #[.int .i64 x.at', .int .i64 x.of, .string x.text] := rfl
set_option maxRecDepth 100000 in
set_option maxHeartbeats 4000000 in
theorem jrTake_any {w0 w : World} {R : HProp} (q N : Nat) (hN : N ≤ 60) (m : List (Int × ByteArray)) (x : Pc) (h : Own w0 (JrP q N m * R) w) :
    Calls Tryd.prog 15 #[.pointer (some ⟨q, 0, none⟩), pcV x] w fun e w' => e = .returned (.tuple #[.bool (decide (joErr N m x = 0) && (mget m x.at').isNone), .int .i64 (joErr N m x : Nat)]) ∧ Own w0 (JrP q (joN N m x) (joM N m x) * R) w' := by
  obtain ⟨b1, hb_b1⟩ : ∃ zz_, zz_ = (w).heap.size := ⟨_, rfl⟩
  obtain ⟨w1, hw_w1⟩ : ∃ zz_, zz_ = (w).alloc (.cells #[.int .i64 x.at', .int .i64 x.of, .string x.text] 50 (0, 0)) := ⟨_, rfl⟩
  have h_HO := (h).alloc (.cells #[.int .i64 x.at', .int .i64 x.of, .string x.text] 50 (0, 0))
  rw [← hb_b1, ← hw_w1] at h_HO
  have HO := Lib.hid h_HO
  clear h_HO
  have HO1 : Hid (Own w0 (PiO b1 x * (JrP q N m * R)) w1) := HO
  obtain ⟨x0, x1, x2⟩ := HO1.out.pi
  have hV := pcV_hid x
  rw [hV]
  obtain ⟨E, hE⟩ : ∃ E, E = joErr N m x := ⟨_, rfl⟩
  obtain ⟨N', hN'⟩ : ∃ E, E = joN N m x := ⟨_, rfl⟩
  obtain ⟨M', hM'⟩ : ∃ E, E = joM N m x := ⟨_, rfl⟩
  rw [← hE, ← hN', ← hM']
  unfold joN at hN'
  unfold joM at hM'
  rw [← hE] at hN' hM'
  unfold joErr at hE
  cases hp : pcRight x
  · rw [if_pos hp] at hE
    subst hE
    rw [if_neg (by simp)] at hN' hM'
    rw [hN', hM']
    clear hN' hM'
    have H := Lib.hid h; have HP := Lib.hid hp; have HN := Lib.hid hN; have HV := Lib.hid hV
    clear h hp hN hV
    clear HO
    go_enter Tryd.func15, Tryd.ntmps15
    go_upto_region 1 with fail
    rw [← hb_b1, ← hw_w1]
    clear hb_b1 hw_w1
    go_wp2_with fail
    rw [← HV.out]
    refine (refPiece_any x HO1.out).mono ?_
    rintro e w2 ⟨rfl, ho⟩
    rw [HP.out]
    have HO2 := Lib.hid ho.drop
    clear ho
    go_wp2
    go_ret2
    exact ⟨rfl, HO2.out⟩
  rw [if_neg (by simp [hp])] at hE
  have hr : 0 ≤ x.at' ∧ x.at' < x.of ∧ 1 ≤ x.of ∧ x.of ≤ 60 := by
    unfold pcRight at hp
    simp only [Bool.and_eq_true, decide_eq_true_eq] at hp
    omega
  obtain ⟨k, ha⟩ := Int.eq_ofNat_of_zero_le hr.1
  obtain ⟨o, hoo⟩ := Int.eq_ofNat_of_zero_le (show 0 ≤ x.of by omega)
  obtain ⟨t, htt⟩ : ∃ t, t = x.text := ⟨_, rfl⟩
  have hk60 : k < 60 := by omega
  have hk0 : (0 : Int) ≤ (k : Int) := by omega
  have hki : (k : Int) < 60 := by omega
  obtain ⟨X, hX⟩ : ∃ X : Bool, X = (decide (N ≠ 0) && decide (N ≠ o)) := ⟨_, rfl⟩
  obtain ⟨D, hD⟩ : ∃ D, D = (mget m (k : Int)).isSome := ⟨_, rfl⟩
  obtain ⟨s, hs⟩ : ∃ s, s = joGet m k := ⟨_, rfl⟩
  obtain ⟨Q, hQ⟩ : ∃ Q : Bool, Q = (D && !(s.toList == t.toList)) := ⟨_, rfl⟩
  have hbad : joBad m x = Q := by
    unfold joBad
    rw [hQ, hD, hs, htt, ha]
    unfold joGet
    cases hg : mget m (k : Int) <;> simp
  have hEX : E = if X = true then 3 else if Q = true then 7 else 0 := by
    rw [hE, hbad, hX, hoo]
    by_cases h1 : N ≠ 0 ∧ (N : Int) ≠ (o : Int)
    · rw [if_pos h1, if_pos (by simp [h1.1]; omega)]
    · have hc : (decide (N ≠ 0) && decide (N ≠ o)) = false := by
        rw [Bool.and_eq_false_iff, decide_eq_false_iff_not, decide_eq_false_iff_not]
        omega
      rw [if_neg h1, hc, if_neg (by simp : ¬ false = true)]
  have hnone : (mget m x.at').isNone = !D := by rw [hD, ha]; cases mget m (k : Int) <;> rfl
  rw [hnone]
  rw [ha, hoo, ← htt] at hV hw_w1
  rw [ha] at x0
  rw [hoo] at x1
  rw [← htt] at x2
  rw [ha, hoo, ← htt]
  rw [ha, ← htt] at hM'
  rw [hoo] at hN'
  have H := Lib.hid h; have HP := Lib.hid hp; have HN := Lib.hid hN; have HV := Lib.hid hV; have HA := Lib.hid ha; have HOO := Lib.hid hoo; have HTT := Lib.hid htt; have HR := Lib.hid hr; have HX := Lib.hid hX; have HD := Lib.hid hD; have HS := Lib.hid hs; have HQ := Lib.hid hQ; have HE := Lib.hid hE; have HEX := Lib.hid hEX; have HBAD := Lib.hid hbad; have HNONE := Lib.hid hnone; have HN' := Lib.hid hN'; have HM' := Lib.hid hM'
  clear h hp hN hV ha hoo htt hr hX hD hs hQ hE hEX hbad hnone hN' hM'
  clear HO
  go_enter Tryd.func15, Tryd.ntmps15
  go_upto_region 1 with fail
  rw [← hb_b1, ← hw_w1]
  clear hb_b1 hw_w1
  go_wp2_with fail
  rw [← HV.out]
  refine (refPiece_any x HO1.out).mono ?_
  rintro e w2 ⟨rfl, ho⟩
  rw [HP.out]
  have HO2 := Lib.hid (ho.perm (star_left_comm _ _ _))
  obtain ⟨y0, y1, y2⟩ := ho.pi
  rw [HA.out] at y0
  rw [HOO.out] at y1
  rw [← HTT.out] at y2
  obtain ⟨c0, cB, cT, cf⟩ := HO2.out.jr_facts
  clear ho x0 x1 x2
  have CB := Lib.hid cB; have CT := Lib.hid cT; have CF := Lib.hid cf
  clear cB cT cf
  go_upto_region 4 with fail
  go_cut [25] (fun c wx => joCut w0 (JrP q N m * (PiO b1 x * R)) X c wx)
  case first =>
    by_cases h0 : N = 0
    · subst h0
      have hx : X = false := by rw [HX.out]; simp
      have HX2 := Lib.hid hx
      clear hx
      go_wp2_with fail
      go_quiet (fail)
      go_wp2_with fail
      go_meet
      exact ⟨by rw [HX2.out], HO2.out.drewN _⟩
    have t0 : ((N : Int) != 0) = true := by rw [bne_iff_ne]; omega
    obtain ⟨Z, hZ⟩ : ∃ Z : Bool, ((N : Int) != (o : Int)) = Z := ⟨_, rfl⟩
    have hx : X = Z := by
      rw [HX.out, ← hZ, decide_eq_true h0, Bool.true_and]
      by_cases h1 : N = o
      · simp [h1]
      · simp [h1]; omega
    have HX2 := Lib.hid hx
    clear hx
    go_wp2_with fail
    go_quiet (fail)
    go_wp2_with fail
    go_meet
    exact ⟨by rw [HX2.out], HO2.out.drewN _⟩
  case rest =>
  obtain ⟨rfl, ho⟩ := hcut
  have HO4 := Lib.hid ho
  clear ho c0 y0 y1 y2 CB CT CF HO2
  obtain ⟨c0, cB, cT, cf⟩ := HO4.out.jr_facts
  obtain ⟨y0, y1, y2⟩ := (HO4.out.perm (star_left_comm _ _ _)).pi
  rw [HA.out] at y0
  rw [HOO.out] at y1
  rw [← HTT.out] at y2
  cases X
  rotate_left
  · have hE3 : E = 3 := by rw [HEX.out, if_pos rfl]
    have hn3 : N' = N := by rw [HN'.out, if_neg (by rw [hE3]; decide)]
    have hm3 : M' = m := by rw [HM'.out, if_neg (by rw [hE3]; decide)]
    have HF : Hid (Own w0 (JrP q N m * R) wc) := Lib.hid (HO4.out.perm (by ac_rfl : _ = PiO b1 x * (JrP q N m * R))).drop
    clear cf cB cT
    have HE3 := Lib.hid hE3; have HN3 := Lib.hid hn3; have HM3 := Lib.hid hm3
    clear hE3 hn3 hm3
    go_wp2
    go_ret2
    exact ⟨by rw [HE3.out]; rfl, by rw [HN3.out, HM3.out]; exact HF.out⟩
  have hEQ : E = if Q = true then 7 else 0 := by rw [HEX.out, if_neg (by simp)]
  obtain ⟨Y, hY⟩ : ∃ Y : Bool, (s.toList == t.toList) = Y := ⟨_, rfl⟩
  have hQY : Q = (D && !Y) := by rw [HQ.out, hY]
  have d1 := cB k hk60
  have d2 := cT k hk60
  rw [← HD.out] at d1
  rw [← HS.out] at d2
  clear cB cT cf
  have HEQ := Lib.hid hEQ; have HQY := Lib.hid hQY
  clear hEQ hQY
  go_upto_region 6 with fail
  go_cut [44] (fun c wx => joCut w0 (JrP q N m * (PiO b1 x * R)) Q c wx)
  case first =>
    cases D
    · have hq : Q = false := by rw [HQY.out]; rfl
      have HQ3 := Lib.hid hq
      clear hq
      go_wp2_with fail
      go_quiet (fail)
      go_wp2_with fail
      go_meet
      exact ⟨by rw [HQ3.out], HO4.out.drewN _⟩
    · have hq : Q = !Y := by rw [HQY.out]; simp
      have HQ3 := Lib.hid hq
      clear hq
      go_wp2_with fail
      go_quiet (fail)
      go_wp2_with fail
      go_meet
      exact ⟨by rw [HQ3.out], HO4.out.drewN _⟩
  case rest =>
  obtain ⟨rfl, ho⟩ := hcut
  have HO5 := Lib.hid ho
  clear ho c0 y0 y1 y2 d1 d2 HO4
  have HYY := Lib.hid hY
  clear hY
  cases Q
  rotate_left
  · have hE3 : E = 7 := by rw [HEQ.out, if_pos rfl]
    have hn3 : N' = N := by rw [HN'.out, if_neg (by rw [hE3]; decide)]
    have hm3 : M' = m := by rw [HM'.out, if_neg (by rw [hE3]; decide)]
    have HF : Hid (Own w0 (JrP q N m * R) wc) := Lib.hid (HO5.out.perm (by ac_rfl : _ = PiO b1 x * (JrP q N m * R))).drop
    have HE3 := Lib.hid hE3; have HN3 := Lib.hid hn3; have HM3 := Lib.hid hm3
    clear hE3 hn3 hm3
    go_wp2
    go_ret2
    exact ⟨by rw [HE3.out]; rfl, by rw [HN3.out, HM3.out]; exact HF.out⟩
  have hE3 : E = 0 := by rw [HEQ.out, if_neg (by simp)]
  have hn3 : N' = o := by rw [HN'.out, if_pos hE3]; rfl
  have hm3 : M' = mput m (k : Int) t := by rw [HM'.out, if_pos hE3]
  obtain ⟨c0, cB, cT, cf⟩ := HO5.out.jr_facts
  obtain ⟨y0, y1, y2⟩ := (HO5.out.perm (star_left_comm _ _ _)).pi
  rw [HA.out] at y0
  rw [HOO.out] at y1
  rw [← HTT.out] at y2
  have d1 := cB k hk60
  rw [← HD.out] at d1
  have f0 := cf 0 none
  clear cB cT cf
  have HE3 := Lib.hid hE3; have HN3 := Lib.hid hn3; have HM3 := Lib.hid hm3
  clear hE3 hn3 hm3
  go_upto_region 8 with fail
  go_quiet (fail)
  go_upto_region 10 with fail
  generalize hw5 : (World.setCell (World.drewN wc _) _ _) = w5
  have HO6 : Hid (Own w0 (JrC q ((jrCells N m).set 0 (.int .i64 (o : Int))) * (PiO b1 x * R)) w5) := Lib.hid (by rw [← hw5]; exact Own.jrc_set 0 _ (HO5.out.drewN _))
  clear hw5 c0 y0 y1 y2 d1 f0 HO5
  obtain ⟨y0, y1, y2⟩ := (HO6.out.perm (star_left_comm _ _ _)).pi
  rw [HA.out] at y0
  rw [HOO.out] at y1
  rw [← HTT.out] at y2
  obtain ⟨v1, d1⟩ := HO6.out.jrc_some (by rw [List.length_set, jr_len]) (1 + k) (by omega)
  have f1 : w5.drew.frozen? ⟨q, 1 + k, none⟩ = false := HO6.out.jrc_free _ _
  have d1' : w5.drew.cell? ⟨q, 1 + k, none⟩ = some v1 := d1
  refine wp_region_planH 6 [] [(true, 0), (true, 1), (true, 2), (true, 3), (true, 4), (true, 5)] [6] (fun wS => wS = w5.drew) (by kernel_rfl) (by kernel_rfl) (rfl) ?_
  simp only [pickH, pick, List.getElem?_cons_succ, List.getElem?_cons_zero, Option.toList, Option.map_some, List.cons_append, List.nil_append]
  repeat (refine wpPure_step ?_ rfl ?_ ?_; rotate_left; (focus (intro _; first | with_reducible rfl | (go_simp; done) | (go_simp; with_reducible rfl) | rfl)); go_simp)
  refine wpPure_nil ?_
  repeat (refine wpMix_read ?_ rfl ?_ ?_; rotate_left; (focus (intro _ hS; obtain rfl := hS; first | with_reducible rfl | (go_simp; done) | (go_simp; with_reducible rfl) | rfl)); go_simp)
  refine wpMix_nil ?_
  go_wp2_with fail
  refine NoPanic.normal ?_
  generalize hw7 : (World.drew (World.setCell _ _ _)) = w7
  have HO7 : Hid (Own w0 (JrC q (((jrCells N m).set 0 (.int .i64 (o : Int))).set (1 + k) (.bool true)) * (PiO b1 x * R)) w7) := Lib.hid (by rw [← hw7]; exact (Own.jrc_set (1 + k) _ HO6.out).drew)
  clear hw7 y0 y1 y2 d1 d1' f1 HO6
  obtain ⟨y0, y1, y2⟩ := (HO7.out.perm (star_left_comm _ _ _)).pi
  rw [HA.out] at y0
  rw [HOO.out] at y1
  rw [← HTT.out] at y2
  obtain ⟨v2, d2⟩ := HO7.out.jrc_some (by rw [List.length_set, List.length_set, jr_len]) (61 + k) (by omega)
  have f2 : w7.drew.frozen? ⟨q, 61 + k, none⟩ = false := HO7.out.jrc_free _ _
  have d2' : w7.drew.cell? ⟨q, 61 + k, none⟩ = some v2 := d2
  go_upto_region 11 with fail
  refine wp_region_planH 8 [] [(true, 0), (true, 1), (true, 2), (true, 3), (true, 4), (true, 5), (true, 6), (true, 7)] [8] (fun wS => wS = w7.drew) (by kernel_rfl) (by kernel_rfl) (rfl) ?_
  simp only [pickH, pick, List.getElem?_cons_succ, List.getElem?_cons_zero, Option.toList, Option.map_some, List.cons_append, List.nil_append]
  repeat (refine wpPure_step ?_ rfl ?_ ?_; rotate_left; (focus (intro _; first | with_reducible rfl | (go_simp; done) | (go_simp; with_reducible rfl) | rfl)); go_simp)
  refine wpPure_nil ?_
  repeat (refine wpMix_read ?_ rfl ?_ ?_; rotate_left; (focus (intro _ hS; obtain rfl := hS; first | with_reducible rfl | (go_simp; done) | (go_simp; with_reducible rfl) | rfl)); go_simp)
  refine wpMix_nil ?_
  go_wp2_with fail
  refine NoPanic.normal ?_
  generalize hw9 : (World.drew (World.setCell _ _ _)) = w9
  have HO9 : Hid (Own w0 (JrP q o (mput m (k : Int) t) * (PiO b1 x * R)) w9) := Lib.hid (by rw [← hw9]; have := (Own.jrc_set (61 + k) (.string t) HO7.out).drew; rw [jr_put N o m k hk60 t] at this; exact this)
  clear hw9 y0 y1 y2 d2 d2' f2 HO7
  go_wp2_with fail
  go_ret2
  refine ⟨by rw [HE3.out]; rfl, ?_⟩
  rw [HN3.out, HM3.out]
  exact (HO9.out.perm (by ac_rfl : _ = PiO b1 x * (JrP q o (mput m (k : Int) t) * R))).drop
end Go.Proofs.YtbfiahdddbcebaaDoor
