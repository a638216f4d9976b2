/- The reference's vectors: each counts who is ahead. -/
import Derived.Test.YtdfjbnfdknpahaaGreatDoorMRunAnswers31
import Derived.Test.YtdfjbnfdknpahaaGreatDoorMRunAnswers32
import Derived.Test.YtdfjbnfdknpahaaGreatDoorMRunAnswers12
import Derived.Test.YtdfjbnfdknpahaaGreatDoorMRunAnswers30
namespace Go.Proofs.YtdfjbnfdknpahaaGreatDoor
set_option linter.unusedVariables false
set_option linter.unusedSimpArgs false
open Go.RowKit
def rowV (h : List Ev) (k i : Nat) : List Int := (List.range 5).map fun (m : Nat) => ((pastN h k (m : Int) i : Nat) : Int)
theorem rowV_len (h : List Ev) (k i : Nat) : (rowV h k i).length = 5 := by simp [rowV]
theorem rowV_get (h : List Ev) (k i : Nat) {m : Nat} (hm : m < 5) : (rowV h k i)[m]? = some ((pastN h k (m : Int) i : Nat) : Int) := by
  unfold rowV; rw [List.getElem?_map, List.getElem?_range hm]; rfl
theorem rowV_zero (h : List Ev) (k : Nat) : rowV h k 0 = zero5 := rfl
theorem rowV_skip {h : List Ev} {k i : Nat} (hb : (decide (i = k) || bef h k i) = false) : rowV h k (i + 1) = rowV h k i := by
  unfold rowV
  refine List.map_congr_left fun m _ => ?_
  rw [pastN_succ]
  have : inPast h k (m : Int) i = false := by unfold inPast; rw [hb, Bool.and_false]
  rw [this]; simp
theorem rowV_step {h : List Ev} {k i q : Nat} (hw : (evAt h i).1 = (q : Int)) (hq : q < 5) (hb : (decide (i = k) || bef h k i) = true) : rowV h k (i + 1) = (rowV h k i).set q ((pastN h k (q : Int) i : Nat) + 1) := by
  refine List.ext_getElem? fun m => ?_
  by_cases hm : m < 5
  · rw [rowV_get h k (i + 1) hm, List.getElem?_set, pastN_succ]
    have hi : inPast h k (m : Int) i = decide (q = m) := by
      unfold inPast; rw [hb, Bool.and_true, hw]
      by_cases e : q = m
      · simp [e]
      · have : ¬ (q : Int) = (m : Int) := by omega
        simp [e, this]
    rw [hi]
    by_cases e : q = m
    · subst e
      rw [if_pos rfl, if_pos (show q < (rowV h k i).length by rw [rowV_len]; exact hm), decide_eq_true rfl, if_pos rfl]; rfl
    · rw [if_neg e, rowV_get h k i hm]; simp [e]
  · rw [List.getElem?_eq_none (by rw [rowV_len]; omega), List.getElem?_eq_none (by rw [List.length_set, rowV_len]; omega)]
theorem rowV_end {h : List Ev} (hr : RightH h) {k : Nat} (hk : k < h.length) : rowV h k (k + 1) = vecAt h k := by
  have hl := (vecAt_in hr hk).1
  refine List.ext_getElem? fun m => ?_
  by_cases hm : m < 5
  · rw [rowV_get h k (k + 1) hm]
    have h1 := vecAt_get hr hk hm
    rw [List.getD_eq_getElem?_getD, List.getElem?_eq_getElem (by omega)] at h1
    rw [List.getElem?_eq_getElem (by omega)]
    simp only [Option.getD_some] at h1
    rw [h1]
    unfold vcN
    rw [pastN_stop h k (m : Int) (show k + 1 ≤ h.length by omega)]
  · rw [List.getElem?_eq_none (by rw [rowV_len]; omega), List.getElem?_eq_none (by omega)]
theorem pastN_le (h : List Ev) (k : Nat) (m : Int) (i : Nat) : pastN h k m i ≤ i := by
  unfold pastN
  exact Nat.le_trans (List.length_filter_le _ _) (by simp)
theorem vecsR_all {h : List Ev} : vecsR h = (List.range h.length).map (vecAt h) := by
  have hl := (vecState_len h h.length).1
  refine List.ext_getElem (by simp [vecsR, hl]) fun i h1 h2 => ?_
  rw [List.getElem_map, List.getElem_range]
  unfold vecAt vecsR
  rw [List.getD_eq_getElem?_getD, List.getElem?_eq_getElem]; rfl
set_option maxRecDepth 100000 in
set_option maxHeartbeats 4000000 in
theorem refVectors_any {w0 w : World} {R : HProp} (v : Value) (hs : List Ev) (h : Own w0 R w) (hv : ReadsE w0 R v hs) (hr : RightH hs) :
    Calls Tryz.prog 27 #[v] w fun e w' => ∃ v' rs, e = .returned v' ∧ rs.map (·.2) = vecsR hs ∧ Own w0 (LSl v' rs * R) w' := by
  obtain ⟨ad, cap, rfl, hlc, hcap⟩ := (hv _ h).shape
  have hlen := hr.1
  have hcap' : cap ≤ 9223372036854775807 := hcap
  obtain ⟨n, hn⟩ : ∃ n, n = hs.length := ⟨_, rfl⟩
  rw [← hn] at hv hlc hlen ⊢
  have hlenh : hs.length ≤ 60 := hr.1
  have H := Lib.hid h; have HV := Lib.hid hv; have HR := Lib.hid hr
  clear h hv hr
  have HN := Lib.hid hn
  clear hn
  go_enter Tryz.func27, Tryz.ntmps27
  go_wp2_with fail
  refine (refBefores_any _ hs H.out HV.out hlenh).mono ?_
  rintro e w2 ⟨rfl, ho⟩
  have HO3 := Lib.hid ho
  clear ho H
  rename_i hK9
  refine hK9 _ _ ?_
  clear hK9
  refine wp_keep60 (fun i k => bef hs k i) 3 9 rfl rfl rfl rfl rfl rfl (fun _ => rfl) (fun _ => rfl) HO3.out (fun fb w3 ho => ?_)
  have HO4 : Hid (Own w0 (LSl (.slice none 0 0) [] * (T60 fb (fun i k => bef hs k i) * R)) w3) := Lib.hid (by rw [LSl_nil, emp_star]; exact ho)
  clear ho HO3
  go_wp2_with fail
  go_loopw [5, 4] (fun kv ov wr => ∃ (k : Nat) (ro : List (Value × List Int)), k ≤ n ∧ kv = .int .i64 k ∧ Hid (ro.map (·.2) = (List.range k).map (vecAt hs)) ∧ Hid (Own w0 (LSl ov ro * (T60 fb (fun i k => bef hs k i) * R)) wr)) (fun kv _ _ => n - (intOf kv).toNat)
  case atStart => exact ⟨0, [], Nat.zero_le _, rfl, Lib.hid rfl, HO4⟩
  case round =>
    clear HO4
    obtain ⟨k, ro, hk, rfl, HRO, HO⟩ := hrel
    by_cases hlt : k < n
    rotate_left
    · have hkn : k = n := by omega
      have hro := HRO.out
      rw [hkn, HN.out, ← vecsR_all] at hro
      have HRO := Lib.hid hro
      clear hro
      go_wp2
      go_ret
      exact ⟨_, ro, rfl, HRO.out, (HO.out.perm (star_left_comm _ _ _)).drop⟩
    have hkl : k < hs.length := by rw [← HN.out]; exact hlt
    go_wp2_with (at_make; refine wpList_mk rfl _ _ 57 rfl 3 8 (.int .i64 0) Tryz.underlying57 info_int rfl 5 rfl rfl (by omega) (by decide) HO.out ?_; intro mb w5 ho; have HO5 : Hid (Own w0 (IntSl (.slice (some ⟨mb, 0, none⟩) 5 5) (rowV hs k 0) * (LSl u4 ro * (T60 fb (fun i k => bef hs k i) * R))) w5) := Lib.hid (by rw [rowV_zero]; exact ho.sl_of_at); clear ho)
    go_loopw [7] (fun iv wr => ∃ i : Nat, i ≤ k + 1 ∧ iv = .int .i64 i ∧ Hid (Own w0 (IntSl (.slice (some ⟨mb, 0, none⟩) 5 5) (rowV hs k i) * (LSl u4 ro * (T60 fb (fun i k => bef hs k i) * R))) wr)) (fun iv _ => k + 1 - (intOf iv).toNat)
    case atStart => exact ⟨0, Nat.zero_le _, rfl, HO5⟩
    case round =>
      clear HO HO5
      obtain ⟨i, hi, rfl, HO⟩ := hrel
      by_cases hik : i ≤ k
      rotate_left
      · have hin : i = k + 1 := by omega
        subst hin
        have hrol : ro.length = k := by rw [← List.length_map (f := (·.2)), HRO.out]; simp
        have hvl : (vecAt hs k).length = 5 := (vecAt_in HR.out hkl).1
        have HA : Hid (Own w0 (Sl 57 1 u4 ro.length (ro.map (·.1)) * (IntSl (.slice (some ⟨mb, 0, none⟩) 5 5) (vecAt hs k) * (starL rowP ro * (T60 fb (fun i k => bef hs k i) * R)))) wr) := Lib.hid (HO.out.perm (by rw [rowV_end HR.out hkl]; unfold LSl; ac_rfl))
        have HRO2 : Hid ((ro ++ [((Value.slice (some ⟨mb, 0, none⟩) 5 5), vecAt hs k)]).map (·.2) = (List.range (k + 1)).map (vecAt hs)) := Lib.hid (by rw [List.map_append, HRO.out, List.range_succ, List.map_append]; rfl)
        have HVL := Lib.hid hvl
        clear hvl
        clear HO
        go_wp2_with (at_builtin; refine wpList_app rfl _ _ 82 rfl 57 1 24 _ info_ints Tryz.underlying82 rfl (by decide) rfl (HA.out.alloc' _) rfl (by rfl) (Rd_lit (by simp) (by unfold maxLen; omega)) (by intro u hu; simp at hu; subst hu; rfl) (by unfold maxLen; omega) (by omega) ?_; intro v' w7 hown; have HO7 : Hid (Own w0 (LSl v' (ro ++ [(.slice (some ⟨mb, 0, none⟩) 5 5, vecAt hs k)]) * (T60 fb (fun i k => bef hs k i) * R)) w7) := Lib.hid hown.ls_snoc; clear hown)
        go_wp2_with fail
        go_roundw
        case rel => exact ⟨k + 1, _, by omega, by go_num, HRO2, HO7⟩
        case measure => simp [intOf]; omega
      have hil : i < hs.length := by omega
      have b0 := (HO.out.perm (show _ = T60 fb (fun i k => bef hs k i) * (IntSl (.slice (some ⟨mb, 0, none⟩) 5 5) (rowV hs k i) * (LSl u4 ro * R)) by ac_rfl)).t60 (i := i) (k := k) (by omega) (by omega)
      try simp only at b0
      obtain ⟨X, hX⟩ : ∃ X, X = bef hs k i := ⟨_, rfl⟩
      rw [← hX] at b0
      have i0 : (0 : Int) ≤ (i : Int) := by omega
      have k0 : (0 : Int) ≤ (k : Int) := by omega
      have i6 : (i : Int) < 60 := by omega
      have k6 : (k : Int) < 60 := by omega
      have ik : (i : Int) ≤ (k : Int) := by omega
      have iN : (i : Int) < (n : Int) := by omega
      by_cases hb : (decide (i = k) || bef hs k i) = true
      rotate_left
      · have hb0 : (decide (i = k) || bef hs k i) = false := by simpa using hb
        have HO2 : Hid (Own w0 (IntSl (.slice (some ⟨mb, 0, none⟩) 5 5) (rowV hs k (i + 1)) * (LSl u4 ro * (T60 fb (fun i k => bef hs k i) * R))) wr) := Lib.hid (by rw [rowV_skip hb0]; exact HO.out)
        have hne : i ≠ k := by rintro rfl; simp at hb0
        have t1 : ((i : Int) == (k : Int)) = false := by rw [beq_eq_false_iff_ne]; omega
        have hX0 : X = false := by rw [hX]; simpa [hne] using hb0
        subst hX0
        have HB := Lib.hid hb; have HB0 := Lib.hid hb0; have HX := Lib.hid hX; have HNE := Lib.hid hne
        clear hb hb0 hX hne
        go_wp2_with fail
        go_roundw
        case rel => exact ⟨i + 1, by omega, by go_num, HO2⟩
        case measure => simp [intOf]; omega
      have hwho := HR.out.who hil
      obtain ⟨aa, pb, po, ps, rfl, hea, hcs, _⟩ := ReadsE.at (R := IntSl (.slice (some ⟨mb, 0, none⟩) 5 5) (rowV hs k i) * (LSl u4 ro * (T60 fb (fun i k => bef hs k i) * R))) (fun wq hq => HV.out wq hq.drop.drop.drop) HO.out i hil
      obtain ⟨c0, c1, c2⟩ := hcs _ HO.out
      obtain ⟨q, hq⟩ : ∃ q : Nat, (evAt hs i).1 = (q : Int) := ⟨(evAt hs i).1.toNat, by omega⟩
      rw [hq] at c0 hwho
      have hq5 : q < 5 := by omega
      obtain ⟨mb', off, mcap, e1, _, _, hcell, hfz, _, _, hset⟩ := HO.out.ints_at (by rw [rowV_len]; omega)
      rw [rowV_len] at e1
      cases e1
      obtain ⟨y, hy⟩ : ∃ y : Int, y = ((pastN hs k (q : Int) i : Nat) : Int) := ⟨_, rfl⟩
      have hcq := hcell q (by rw [rowV_len]; exact hq5)
      have hyq : (rowV hs k i)[q]'(by rw [rowV_len]; exact hq5) = y := by
        have h1 := rowV_get hs k i hq5
        rw [List.getElem?_eq_getElem (by rw [rowV_len]; exact hq5)] at h1
        rw [hy]; exact Option.some.inj h1
      rw [hyq] at hcq
      have hle := pastN_le hs k (q : Int) i
      have hy0 : 0 ≤ y := by omega
      have hy60 : y ≤ 60 := by omega
      have hst := hset q (y + 1) (by rw [rowV_len]; exact hq5)
      have hnew : rowV hs k (i + 1) = (rowV hs k i).set q (y + 1) := by rw [hy]; exact rowV_step hq hq5 hb
      rw [← hnew] at hst
      have hf := hfz q none
      simp only [Nat.zero_add] at hcq hst
      have q0 : (0 : Int) ≤ (q : Int) := by omega
      have q5 : (q : Int) < 5 := by omega
      obtain ⟨ws, hws⟩ : ∃ ws, ws = wr.setCell ⟨mb, q, none⟩ (.int .i64 (y + 1)) := ⟨_, rfl⟩
      rw [← hws] at hst
      have HST := Lib.hid hst
      have HY := Lib.hid hy; have HYQ := Lib.hid hyq; have HNEW := Lib.hid hnew; have HLE := Lib.hid hle
      clear hy hyq hnew hle
      clear hcell hfz hset hst
      by_cases hek : i = k
      · subst hek
        have HB := Lib.hid hb; have HX := Lib.hid hX
        clear hb hX
        go_upto_region 9 with fail
        rw [← hws]
        clear hws hf hcq c0 c1 c2 b0
        go_wp2_with fail
        go_roundw
        case rel => exact ⟨i + 1, by omega, by go_num, HST⟩
        case measure => simp [intOf]
      · have t1 : ((i : Int) == (k : Int)) = false := by rw [beq_eq_false_iff_ne]; omega
        have hX1 : X = true := by rw [hX]; simpa [hek] using hb
        subst hX1
        have HB := Lib.hid hb; have HX := Lib.hid hX
        clear hb hX
        go_upto_region 9 with fail
        rw [← hws]
        clear hws hf hcq c0 c1 c2 b0
        go_wp2_with fail
        go_roundw
        case rel => exact ⟨i + 1, by omega, by go_num, HST⟩
        case measure => simp [intOf]; omega
end Go.Proofs.YtdfjbnfdknpahaaGreatDoor
/- Plain law of FacesTell: the reference's faces are the program's. -/
namespace Go.Proofs.YtdfjbnfdknpahaaGreatDoor
set_option linter.unusedVariables false
set_option linter.unusedSimpArgs false
open Go.RowKit
/-- Nobody's list has a word twice. -/
theorem heardL_nodup {h : List Ev} (hr : RightH h) (who : Int) : ∀ n, n ≤ h.length → (heardL (h.take n) who).Nodup
  | 0, _ => by simp [heardL]
  | n + 1, hn => by
    have ih := heardL_nodup hr who n (by omega)
    rw [heardL_step h who n (by omega)]
    by_cases hb : heardB who (evAt h n) = true
    · rw [if_pos hb]
      have hb' := hb
      unfold heardB at hb'
      simp only [Bool.and_eq_true, decide_eq_true_eq, Bool.not_eq_true', decide_eq_false_iff_not] at hb'
      have hf := hr.fresh (show n < h.length by omega) hb'.2
      rw [hb'.1] at hf
      refine List.nodup_append.2 ⟨ih, by simp, fun a ha b hb2 => ?_⟩
      rw [List.mem_singleton.1 hb2]
      rintro rfl
      exact hf ha
    · rw [if_neg hb]; exact ih
theorem idx_nodup {l : List Int} (hn : l.Nodup) {i : Nat} (hi : i < l.length) : idxI l l[i] = i :=
  idx_mk hi rfl (fun j hj e => by
    have := (List.nodup_iff_pairwise_ne.1 hn)
    rw [List.pairwise_iff_getElem] at this
    exact this j i (by omega) hi hj e)
/-- Who hears a word later heard another one ahead just if it had it. -/
theorem hasAhead_iff {h : List Ev} (hr : RightH h) {j : Nat} (hj : j < h.length) (hw : (evAt h j).2.1 ≠ 1) {a : Int} (ha : a ≠ (evAt h j).2.2) : hasAhead h a (evAt h j).2.2 (evAt h j).1 = decide (a ∈ heardL (h.take j) (evAt h j).1) := by
  obtain ⟨who, hwho⟩ : ∃ who, who = (evAt h j).1 := ⟨_, rfl⟩
  obtain ⟨b, hb⟩ : ∃ b, b = (evAt h j).2.2 := ⟨_, rfl⟩
  have hf := hr.fresh hj hw
  have hst := heardL_step h who j hj
  rw [if_pos (by unfold heardB; simp [hwho, hw])] at hst
  rw [← hwho, ← hb] at hf ⊢
  rw [← hb] at hst ha
  have hsp := heardL_split h (j + 1) who
  rw [hst] at hsp
  have hidx : idxI (heardL h who) b = (heardL (h.take j) who).length := by
    have hlt : (heardL (h.take j) who).length < (heardL h who).length := by rw [hsp]; simp
    refine idx_mk hlt ?_ (fun i hi => ?_)
    · simp only [hsp, List.append_assoc]
      rw [List.getElem_append_right (Nat.le_refl _)]
      simp
    · simp only [hsp, List.append_assoc]
      rw [List.getElem_append_left hi]
      intro e
      exact hf (e ▸ List.getElem_mem _)
  unfold hasAhead
  rw [hidx]
  by_cases hin : a ∈ heardL (h.take j) who
  · rw [decide_eq_true hin]
    obtain ⟨k, hk, h1, _⟩ := idx_mem (r := [b] ++ heardL (h.drop (j + 1)) who) hin
    rw [← List.append_assoc, ← hsp] at h1
    rw [h1]
    simp; omega
  · rw [decide_eq_false hin]
    rcases idx_cases (heardL h who) a with ⟨h1, _⟩ | ⟨k, hk, h1, h2, _⟩
    · rw [h1]; simp
    · rw [h1]
      rw [Bool.and_eq_false_iff]
      right
      rw [decide_eq_false_iff_not]
      intro hle
      have hkl : k ≤ (heardL (h.take j) who).length := by omega
      simp only [hsp, List.append_assoc] at h2
      by_cases hk2 : k < (heardL (h.take j) who).length
      · rw [List.getElem_append_left hk2] at h2
        exact hin (h2 ▸ List.getElem_mem _)
      · have : k = (heardL (h.take j) who).length := by omega
        subst this
        rw [List.getElem_append_right (Nat.le_refl _)] at h2
        simp at h2
        exact ha h2.symm
def okJ (h : List Ev) (i k j : Nat) : Bool := !(hearsB (evAt h k).2.2 (evAt h j)) || decide ((evAt h i).2.2 ∈ heardL (h.take j) (evAt h j).1)
def rowJ (h : List Ev) (i k j0 : Nat) : Bool := upTo (fun j => decide (j ≤ k) || okJ h i k j) j0
theorem rowJ_low (h : List Ev) (i k : Nat) : rowJ h i k (k + 1) = true := (upTo_iff _ _).2 fun j hj => by rw [decide_eq_true (by omega)]; rfl
theorem rowJ_step (h : List Ev) (i k j : Nat) (hj : k < j) : rowJ h i k (j + 1) = (rowJ h i k j && okJ h i k j) := by
  unfold rowJ
  rw [upTo_step, decide_eq_false (show ¬ j ≤ k by omega), Bool.false_or]
theorem rowJ_all {h : List Ev} (hr : RightH h) {i k : Nat} (hk : k < h.length) (hi : i < k) (h1 : (evAt h i).2.1 = 2) (h2 : (evAt h k).2.1 = 2) : rowJ h i k h.length = aheadB h (evAt h i).2.2 (evAt h k).2.2 := by
  have hne : (evAt h i).2.2 ≠ (evAt h k).2.2 := fun e => by
    have := hr.once (show i < h.length by omega) hk h1 h2 e
    omega
  have key : ∀ j, j < h.length → (decide (j ≤ k) || okJ h i k j) = (!hearsB (evAt h k).2.2 (evAt h j) || hasAhead h (evAt h i).2.2 (evAt h k).2.2 (evAt h j).1) := fun j hj => by
    unfold okJ
    cases hh : hearsB (evAt h k).2.2 (evAt h j)
    · simp
    have hh' := hh
    unfold hearsB at hh'
    simp only [Bool.and_eq_true, decide_eq_true_eq] at hh'
    have hkj : k < j := by
      obtain ⟨m, hm, _, h5, h6, _⟩ := hr.said hj hh'.1
      have := hr.once (show m < h.length by omega) hk h5 h2 (by rw [h6, hh'.2])
      omega
    rw [decide_eq_false (show ¬ j ≤ k by omega)]
    have hia := hasAhead_iff hr hj (a := (evAt h i).2.2) (by omega) (by rw [hh'.2]; exact hne)
    rw [hh'.2] at hia
    rw [hia]; simp
  rw [Bool.eq_iff_iff]
  unfold rowJ aheadB
  rw [upTo_iff, List.all_eq_true]
  constructor
  · intro hh e he
    obtain ⟨j, hj, rfl⟩ := List.getElem_of_mem he
    have := hh j hj
    rw [key j hj, evAt_get hj] at this
    exact this
  · intro hh j hj
    rw [key j hj, evAt_get hj]
    exact hh _ (List.getElem_mem hj)
/-- All pairs, the first one outside. -/
theorem upTo_swap (p : Nat → Nat → Bool) (n : Nat) : upTo (fun i => upTo (fun k => decide (k ≤ i) || p k i) n) n = upTo (fun k => upTo (p k) k) n := by
  rw [Bool.eq_iff_iff, upTo_iff, upTo_iff]
  constructor
  · intro h k hk
    refine (upTo_iff _ _).2 fun i hi => ?_
    have := (upTo_iff _ _).1 (h i (by omega)) k hk
    rw [decide_eq_false (show ¬ k ≤ i by omega)] at this
    simpa using this
  · intro h i hi
    refine (upTo_iff _ _).2 fun k hk => ?_
    by_cases hki : k ≤ i
    · rw [decide_eq_true hki]; rfl
    · rw [(upTo_iff _ _).1 (h k hk) i (by omega)]; simp
theorem two_sorted (R : Int → Int → Prop) (ha : ∀ a b, R a b → R b a → False) : ∀ (X Y : List Int), X.Nodup → Y.Nodup → (∀ x, x ∈ X ↔ x ∈ Y) → X.Pairwise R → Y.Pairwise R → X = Y
  | [], [], _, _, _, _, _ => rfl
  | [], y :: Y, _, _, h, _, _ => by have := (h y).2 (List.mem_cons_self ..); cases this
  | x :: X, [], _, _, h, _, _ => by have := (h x).1 (List.mem_cons_self ..); cases this
  | x :: X, y :: Y, hx, hy, h, px, py => by
    rw [List.nodup_cons] at hx hy
    rw [List.pairwise_cons] at px py
    have e : x = y := by
      apply Decidable.byContradiction
      intro hne
      have h1 : x ∈ Y := by
        rcases List.mem_cons.1 ((h x).1 (List.mem_cons_self ..)) with h1 | h1
        · exact absurd h1 hne
        · exact h1
      have h2 : y ∈ X := by
        rcases List.mem_cons.1 ((h y).2 (List.mem_cons_self ..)) with h2 | h2
        · exact absurd h2.symm hne
        · exact h2
      exact ha _ _ (px.1 y h2) (py.1 x h1)
    subst e
    rw [two_sorted R ha X Y hx.2 hy.2 (fun z => ?_) px.2 py.2]
    constructor
    · intro hz
      rcases List.mem_cons.1 ((h z).1 (List.mem_cons_of_mem _ hz)) with h1 | h1
      · subst h1; exact absurd hz hx.1
      · exact h1
    · intro hz
      rcases List.mem_cons.1 ((h z).2 (List.mem_cons_of_mem _ hz)) with h1 | h1
      · subst h1; exact absurd hz hy.1
      · exact h1
def okT (x y : List Int) (i k : Nat) : Bool := !(decide (0 ≤ idxI y (x.getD i 0)) && (decide (0 ≤ idxI y (x.getD k 0)) && decide (idxI y (x.getD k 0) < idxI y (x.getD i 0))))
def inOrder (x y : List Int) : Bool := upTo (fun i => upTo (fun k => decide (k ≤ i) || okT x y i k) x.length) x.length
theorem idx_pos {l : List Int} {x : Int} : 0 ≤ idxI l x ↔ x ∈ l := by
  rcases idx_cases l x with ⟨h1, h2⟩ | ⟨k, hk, h1, h2, _⟩
  · exact ⟨fun h => by omega, fun h => absurd h h2⟩
  · exact ⟨fun _ => h2 ▸ List.getElem_mem _, fun _ => by omega⟩
theorem alike_iff {x y : List Int} (hx : x.Nodup) (hy : y.Nodup) : alikeB x y = inOrder x y := by
  obtain ⟨R, hR⟩ : ∃ R : Int → Int → Prop, R = fun a b => idxI y a < idxI y b := ⟨_, rfl⟩
  have pY : (keepB x y).Pairwise R := by
    have h1 : y.Pairwise R := by
      rw [List.pairwise_iff_getElem]
      intro i j hi hj hij
      rw [hR]
      show idxI y y[i] < idxI y y[j]
      rw [idx_nodup hy hi, idx_nodup hy hj]
      omega
    exact h1.sublist List.filter_sublist
  have pX : (keepB y x).Pairwise R ↔ inOrder x y = true := by
    unfold keepB
    rw [List.pairwise_filter, List.pairwise_iff_getElem]
    unfold inOrder
    rw [upTo_iff]
    have gx : ∀ i (hi : i < x.length), x.getD i 0 = x[i] := fun i hi => by rw [List.getD_eq_getElem?_getD, List.getElem?_eq_getElem hi]; rfl
    constructor
    · intro h i hi
      refine (upTo_iff _ _).2 fun k hk => ?_
      by_cases hki : k ≤ i
      · rw [decide_eq_true hki]; rfl
      · rw [decide_eq_false hki, Bool.false_or]
        unfold okT
        rw [gx i hi, gx k hk]
        rw [Bool.not_eq_true']
        rw [Bool.eq_false_iff]
        intro hc
        simp only [Bool.and_eq_true, decide_eq_true_eq] at hc
        obtain ⟨c1, c2, c3⟩ := hc
        have h1 := h i k hi hk (by omega) (decide_eq_true (idx_pos.1 c1)) (decide_eq_true (idx_pos.1 c2))
        rw [hR] at h1
        have h2 : idxI y x[i] < idxI y x[k] := h1
        omega
    · intro h i k hi hk hik d1 d2
      have m1 := of_decide_eq_true d1
      have m2 := of_decide_eq_true d2
      have h1 := (upTo_iff _ _).1 (h i hi) k hk
      rw [decide_eq_false (show ¬ k ≤ i by omega), Bool.false_or] at h1
      unfold okT at h1
      rw [gx i hi, gx k hk, decide_eq_true (idx_pos.2 m1), decide_eq_true (idx_pos.2 m2)] at h1
      simp at h1
      rw [hR]
      show idxI y x[i] < idxI y x[k]
      have hne : idxI y x[i] ≠ idxI y x[k] := fun e => by
        rcases idx_cases y x[i] with ⟨_, h3⟩ | ⟨a, ha, h3, h4, _⟩
        · exact h3 m1
        rcases idx_cases y x[k] with ⟨_, h5⟩ | ⟨b, hb, h5, h6, _⟩
        · exact h5 m2
        have hab : a = b := by omega
        subst hab
        have h7 : x[i] = x[k] := h4.symm.trans h6
        have h8 := (List.nodup_iff_pairwise_ne.1 hx)
        rw [List.pairwise_iff_getElem] at h8
        exact h8 i k hi hk hik h7
      omega
  rw [Bool.eq_iff_iff, ← pX]
  unfold alikeB
  rw [beq_iff_eq]
  constructor
  · intro e
    rw [e]; exact pY
  · intro h
    refine two_sorted R (fun a b h1 h2 => by rw [hR] at h1 h2; have h1' : idxI y a < idxI y b := h1; have h2' : idxI y b < idxI y a := h2; omega) _ _ (hx.filter _) (hy.filter _) (fun z => ?_) h pY
    unfold keepB
    rw [List.mem_filter, List.mem_filter]
    simp only [decide_eq_true_eq]
    exact ⟨fun h => ⟨h.2, h.1⟩, fun h => ⟨h.2, h.1⟩⟩
end Go.Proofs.YtdfjbnfdknpahaaGreatDoor
/- The reference's Faces: who had a word, and which pairs are heard in order. -/
namespace Go.Proofs.YtdfjbnfdknpahaaGreatDoor
set_option linter.unusedVariables false
set_option linter.unusedSimpArgs false
open Go.RowKit
def hadB (h : List Ev) (a who : Int) (m : Nat) : Bool := decide (a ∈ heardL (h.take m) who)
theorem hadB_step (h : List Ev) (a who : Int) (m : Nat) (hm : m < h.length) : hadB h a who (m + 1) = (hadB h a who m || (decide ((evAt h m).1 = who) && (decide ((evAt h m).2.2 = a) && !decide ((evAt h m).2.1 = 1)))) := by
  unfold hadB
  rw [heardL_step h who m hm]
  unfold heardB
  by_cases h1 : (evAt h m).1 = who
  · by_cases h2 : (evAt h m).2.1 = 1
    · simp [h1, h2]
    · simp [h1, h2, eq_comm]
  · simp [h1]
noncomputable def rfHad1_code : Code := ((Tryz.f30.body.bind (findRegion 18)).getD .skip)
set_option maxRecDepth 1000000 in
set_option maxHeartbeats 4000000 in
theorem rfHad1 {Q : Exit → Act → World → Prop} {u1 u2 u3 u4 u6 u10 u11 u12 u13 u14 u15 u16 u17 u18 u19 u20 u21 u22 u23 u24 u25 u26 u27 u28 u29 u30 u31 u32 u33 u34 u35 u36 u37 u38 u39 u40 u41 u42 u43 u44 u45 u46 u47 u48 u49 u50 u51 u52 u53 u54 u55 u56 u57 u58 u59 u60 u61 u62 u63 u64 u65 u66 u67 u68 u69 u70 u71 u72 u73 u74 u75 u76 u77 u78 u79 u80 u81 u82 u83 u84 u85 u86 u87 u88 u89 u90 u91 u92 u93 u94 u95 u96 u97 u98 u99 u100 u101 u102 u103 u104 u105 u106 u107 u108 u109 u110 u111 u112 u113 u114 u115 u116 u117 u118 u119 u120 u121 u122 u123 u124 u125 u126 u127 u128 u129 u130 u131 u132 u133 u134 u135 u136 u137 u138 u139 u140 u141 u142 u143 u144 u145 u146 u147 u148 u149 u150 u151 u152 u153 u154 u155 u156 u157 u158 u159 u160 u161 u162 u163 u164 u165 u166 u167 u168 u169 u170 u171 u172 u173 u174 u175 u176 u177 u178 u179 u180 u181 u182 u183 u184 u185 u186 u187 u188 u189 u190 u191 u192 : Value} {w1 : World} (w : World) (n i j m hcap : Nat) (aa : Addr) (y1 y2 y3 wj wa : Int) (B B2 : Bool) (hi : i < n) (hj : j < n) (hm : m < j) (hn : n ≤ 60) (hc1 : n ≤ hcap) (hc2 : hcap ≤ 9223372036854775807) (HST : Hid (B2 = (B || (decide (y1 = wj) && (decide (y3 = wa) && !decide (y2 = 1)))))) {pb po qb qo rb ro : Nat} {ps qs rs : Option Nat} (hea : aa.add (m * 3) = ⟨pb, po, ps⟩) (heb : aa.add (j * 3) = ⟨qb, qo, qs⟩) (hec : aa.add (i * 3) = ⟨rb, ro, rs⟩) (c0 : w1.cell? ⟨pb, po, ps⟩ = some (.int .i64 y1)) (c1 : w1.cell? ⟨pb, po + 1, none⟩ = some (.int .i64 y2)) (c2 : w1.cell? ⟨pb, po + 2, none⟩ = some (.int .i64 y3)) (d0 : w1.cell? ⟨qb, qo, qs⟩ = some (.int .i64 wj)) (f2 : w1.cell? ⟨rb, ro + 2, none⟩ = some (.int .i64 wa))
    (hK : ∀ (v8 v89 v90 v91 v92 v93 v94 v95 v96 v97 v98 v99 v100 v101 v102 v103 v104 v105 v106 v107 v108 v109 v110 v111 v112 v113 v114 v115 v116 v117 v118 v119 v120 v121 v122 v123 : Value) (wx : World), (v8 = .bool B2 ∧ ∃ q, wx = w1.drewN q) → Q .normal ⟨List.toArray ((.slice (some aa) n hcap) :: u1 :: u2 :: u3 :: u4 :: (.int .i64 (i : Int)) :: u6 :: (.int .i64 (j : Int)) :: v8 :: (.int .i64 (m : Int)) :: u10 :: u11 :: u12 :: u13 :: u14 :: u15 :: u16 :: u17 :: u18 :: u19 :: u20 :: u21 :: u22 :: u23 :: u24 :: u25 :: u26 :: u27 :: u28 :: u29 :: u30 :: u31 :: u32 :: u33 :: u34 :: u35 :: u36 :: u37 :: u38 :: u39 :: u40 :: u41 :: u42 :: u43 :: u44 :: u45 :: u46 :: u47 :: u48 :: u49 :: u50 :: u51 :: u52 :: u53 :: u54 :: u55 :: u56 :: u57 :: u58 :: u59 :: u60 :: u61 :: u62 :: u63 :: u64 :: u65 :: u66 :: u67 :: u68 :: u69 :: u70 :: u71 :: u72 :: u73 :: u74 :: u75 :: u76 :: u77 :: u78 :: u79 :: u80 :: u81 :: u82 :: u83 :: u84 :: u85 :: u86 :: u87 :: u88 :: v89 :: v90 :: v91 :: v92 :: v93 :: v94 :: v95 :: v96 :: v97 :: v98 :: v99 :: v100 :: v101 :: v102 :: v103 :: v104 :: v105 :: v106 :: v107 :: v108 :: v109 :: v110 :: v111 :: v112 :: v113 :: v114 :: v115 :: v116 :: v117 :: v118 :: v119 :: v120 :: v121 :: v122 :: v123 :: u124 :: u125 :: u126 :: u127 :: u128 :: u129 :: u130 :: u131 :: u132 :: u133 :: u134 :: u135 :: u136 :: u137 :: u138 :: u139 :: u140 :: u141 :: u142 :: u143 :: u144 :: u145 :: u146 :: u147 :: u148 :: u149 :: u150 :: u151 :: u152 :: u153 :: u154 :: u155 :: u156 :: u157 :: u158 :: u159 :: u160 :: u161 :: u162 :: u163 :: u164 :: u165 :: u166 :: u167 :: u168 :: u169 :: u170 :: u171 :: u172 :: u173 :: u174 :: u175 :: u176 :: u177 :: u178 :: u179 :: u180 :: u181 :: u182 :: u183 :: u184 :: u185 :: u186 :: u187 :: u188 :: u189 :: u190 :: u191 :: u192 :: []), []⟩ wx) :
    Code.wp Tryz.prog rfHad1_code Q ⟨List.toArray ((.slice (some aa) n hcap) :: u1 :: u2 :: u3 :: u4 :: (.int .i64 (i : Int)) :: u6 :: (.int .i64 (j : Int)) :: (.bool B) :: (.int .i64 (m : Int)) :: u10 :: u11 :: u12 :: u13 :: u14 :: u15 :: u16 :: u17 :: u18 :: u19 :: u20 :: u21 :: u22 :: u23 :: u24 :: u25 :: u26 :: u27 :: u28 :: u29 :: u30 :: u31 :: u32 :: u33 :: u34 :: u35 :: u36 :: u37 :: u38 :: u39 :: u40 :: u41 :: u42 :: u43 :: u44 :: u45 :: u46 :: u47 :: u48 :: u49 :: u50 :: u51 :: u52 :: u53 :: u54 :: u55 :: u56 :: u57 :: u58 :: u59 :: u60 :: u61 :: u62 :: u63 :: u64 :: u65 :: u66 :: u67 :: u68 :: u69 :: u70 :: u71 :: u72 :: u73 :: u74 :: u75 :: u76 :: u77 :: u78 :: u79 :: u80 :: u81 :: u82 :: u83 :: u84 :: u85 :: u86 :: u87 :: u88 :: u89 :: u90 :: u91 :: u92 :: u93 :: u94 :: u95 :: u96 :: u97 :: u98 :: u99 :: u100 :: u101 :: u102 :: u103 :: u104 :: u105 :: u106 :: u107 :: u108 :: u109 :: u110 :: u111 :: u112 :: u113 :: u114 :: u115 :: u116 :: u117 :: u118 :: u119 :: u120 :: u121 :: u122 :: u123 :: u124 :: u125 :: u126 :: u127 :: u128 :: u129 :: u130 :: u131 :: u132 :: u133 :: u134 :: u135 :: u136 :: u137 :: u138 :: u139 :: u140 :: u141 :: u142 :: u143 :: u144 :: u145 :: u146 :: u147 :: u148 :: u149 :: u150 :: u151 :: u152 :: u153 :: u154 :: u155 :: u156 :: u157 :: u158 :: u159 :: u160 :: u161 :: u162 :: u163 :: u164 :: u165 :: u166 :: u167 :: u168 :: u169 :: u170 :: u171 :: u172 :: u173 :: u174 :: u175 :: u176 :: u177 :: u178 :: u179 :: u180 :: u181 :: u182 :: u183 :: u184 :: u185 :: u186 :: u187 :: u188 :: u189 :: u190 :: u191 :: u192 :: []), []⟩ w1 := by
  conv => arg 2; whnf
  have HK := Lib.hid hK
  clear hK
  have i0 : (0 : Int) ≤ (i : Int) := by omega
  have i1 : (i : Int) < (n : Int) := by omega
  have j0 : (0 : Int) ≤ (j : Int) := by omega
  have j1 : (j : Int) < (n : Int) := by omega
  have m0 : (0 : Int) ≤ (m : Int) := by omega
  have m1 : (m : Int) < (n : Int) := by omega
  cases B
  rotate_left
  · have hd : B2 = true := by rw [HST.out]; rfl
    have HD := Lib.hid hd
    clear hd
    go_quiet (fail)
    go_wp2_with fail
    apply HK.out
    exact ⟨by rw [HD.out], _, rfl⟩
  by_cases a1 : y1 = wj
  rotate_left
  · have t1 : (y1 == wj) = false := by rw [beq_eq_false_iff_ne]; exact a1
    have hd : B2 = false := by rw [HST.out]; simp [a1]
    have HD := Lib.hid hd; have A1 := Lib.hid a1
    clear hd a1
    go_quiet (fail)
    go_wp2_with fail
    apply HK.out
    exact ⟨by rw [HD.out], _, rfl⟩
  subst a1
  by_cases a2 : y3 = wa
  rotate_left
  · have t1 : (y3 == wa) = false := by rw [beq_eq_false_iff_ne]; exact a2
    have hd : B2 = false := by rw [HST.out]; simp [a2]
    have HD := Lib.hid hd; have A2 := Lib.hid a2
    clear hd a2
    go_quiet (fail)
    go_wp2_with fail
    apply HK.out
    exact ⟨by rw [HD.out], _, rfl⟩
  subst a2
  by_cases a3 : y2 = 1
  · have t1 : (y2 != 1) = false := by rw [bne_eq_false_iff_eq]; exact a3
    have hd : B2 = false := by rw [HST.out]; simp [a3]
    have HD := Lib.hid hd; have A3 := Lib.hid a3
    clear hd a3
    go_quiet (fail)
    go_wp2_with fail
    apply HK.out
    exact ⟨by rw [HD.out], _, rfl⟩
  · have t1 : (y2 != 1) = true := by rw [bne_iff_ne]; exact a3
    have hd : B2 = true := by rw [HST.out]; simp [a3]
    have HD := Lib.hid hd; have A3 := Lib.hid a3
    clear hd a3
    go_quiet (fail)
    go_wp2_with fail
    apply HK.out
    exact ⟨by rw [HD.out], _, rfl⟩
noncomputable def rfHad_code : Code := ((Tryz.f30.body.bind (findBlock 6)).getD .skip)
set_option maxRecDepth 1000000 in
set_option maxHeartbeats 4000000 in
theorem rfHad {Q : Exit → Act → World → Prop} {u1 u2 u3 u4 u6 u10 u11 u12 u13 u14 u15 u16 u17 u18 u19 u20 u21 u22 u23 u24 u25 u26 u27 u28 u29 u30 u31 u32 u33 u34 u35 u36 u37 u38 u39 u40 u41 u42 u43 u44 u45 u46 u47 u48 u49 u50 u51 u52 u53 u54 u55 u56 u57 u58 u59 u60 u61 u62 u63 u64 u65 u66 u67 u68 u69 u70 u71 u72 u73 u74 u75 u76 u77 u78 u79 u80 u81 u82 u83 u84 u85 u86 u87 u88 u89 u90 u91 u92 u93 u94 u95 u96 u97 u98 u99 u100 u101 u102 u103 u104 u105 u106 u107 u108 u109 u110 u111 u112 u113 u114 u115 u116 u117 u118 u119 u120 u121 u122 u123 u124 u125 u126 u127 u128 u129 u130 u131 u132 u133 u134 u135 u136 u137 u138 u139 u140 u141 u142 u143 u144 u145 u146 u147 u148 u149 u150 u151 u152 u153 u154 u155 u156 u157 u158 u159 u160 u161 u162 u163 u164 u165 u166 u167 u168 u169 u170 u171 u172 u173 u174 u175 u176 u177 u178 u179 u180 u181 u182 u183 u184 u185 u186 u187 u188 u189 u190 u191 u192 : Value} {w1 : World} (w : World) (R : HProp) (n i j hcap : Nat) (had : Option Addr) (hs : List Ev) (hi : i < n) (hj : j < n) (hn : n ≤ 60) (hc1 : n ≤ hcap) (hc2 : hcap ≤ 9223372036854775807) (HLN : Hid (hs.length = n)) (HV : Hid (ReadsE w R (.slice had n hcap) hs)) (HP : Hid (Own w R w1))
    (hK : ∀ (v8 v9 v84 v85 v86 v87 v88 v89 v90 v91 v92 v93 v94 v95 v96 v97 v98 v99 v100 v101 v102 v103 v104 v105 v106 v107 v108 v109 v110 v111 v112 v113 v114 v115 v116 v117 v118 v119 v120 v121 v122 v123 : Value) (wx : World), (v8 = .bool (hadB hs (evAt hs i).2.2 (evAt hs j).1 j) ∧ Own w R wx) → Q .normal ⟨List.toArray ((.slice had n hcap) :: u1 :: u2 :: u3 :: u4 :: (.int .i64 (i : Int)) :: u6 :: (.int .i64 (j : Int)) :: v8 :: v9 :: u10 :: u11 :: u12 :: u13 :: u14 :: u15 :: u16 :: u17 :: u18 :: u19 :: u20 :: u21 :: u22 :: u23 :: u24 :: u25 :: u26 :: u27 :: u28 :: u29 :: u30 :: u31 :: u32 :: u33 :: u34 :: u35 :: u36 :: u37 :: u38 :: u39 :: u40 :: u41 :: u42 :: u43 :: u44 :: u45 :: u46 :: u47 :: u48 :: u49 :: u50 :: u51 :: u52 :: u53 :: u54 :: u55 :: u56 :: u57 :: u58 :: u59 :: u60 :: u61 :: u62 :: u63 :: u64 :: u65 :: u66 :: u67 :: u68 :: u69 :: u70 :: u71 :: u72 :: u73 :: u74 :: u75 :: u76 :: u77 :: u78 :: u79 :: u80 :: u81 :: u82 :: u83 :: v84 :: v85 :: v86 :: v87 :: v88 :: v89 :: v90 :: v91 :: v92 :: v93 :: v94 :: v95 :: v96 :: v97 :: v98 :: v99 :: v100 :: v101 :: v102 :: v103 :: v104 :: v105 :: v106 :: v107 :: v108 :: v109 :: v110 :: v111 :: v112 :: v113 :: v114 :: v115 :: v116 :: v117 :: v118 :: v119 :: v120 :: v121 :: v122 :: v123 :: u124 :: u125 :: u126 :: u127 :: u128 :: u129 :: u130 :: u131 :: u132 :: u133 :: u134 :: u135 :: u136 :: u137 :: u138 :: u139 :: u140 :: u141 :: u142 :: u143 :: u144 :: u145 :: u146 :: u147 :: u148 :: u149 :: u150 :: u151 :: u152 :: u153 :: u154 :: u155 :: u156 :: u157 :: u158 :: u159 :: u160 :: u161 :: u162 :: u163 :: u164 :: u165 :: u166 :: u167 :: u168 :: u169 :: u170 :: u171 :: u172 :: u173 :: u174 :: u175 :: u176 :: u177 :: u178 :: u179 :: u180 :: u181 :: u182 :: u183 :: u184 :: u185 :: u186 :: u187 :: u188 :: u189 :: u190 :: u191 :: u192 :: []), []⟩ wx) :
    Code.wp Tryz.prog rfHad_code Q ⟨List.toArray ((.slice had n hcap) :: u1 :: u2 :: u3 :: u4 :: (.int .i64 (i : Int)) :: u6 :: (.int .i64 (j : Int)) :: (.bool false) :: (.int .i64 0) :: u10 :: u11 :: u12 :: u13 :: u14 :: u15 :: u16 :: u17 :: u18 :: u19 :: u20 :: u21 :: u22 :: u23 :: u24 :: u25 :: u26 :: u27 :: u28 :: u29 :: u30 :: u31 :: u32 :: u33 :: u34 :: u35 :: u36 :: u37 :: u38 :: u39 :: u40 :: u41 :: u42 :: u43 :: u44 :: u45 :: u46 :: u47 :: u48 :: u49 :: u50 :: u51 :: u52 :: u53 :: u54 :: u55 :: u56 :: u57 :: u58 :: u59 :: u60 :: u61 :: u62 :: u63 :: u64 :: u65 :: u66 :: u67 :: u68 :: u69 :: u70 :: u71 :: u72 :: u73 :: u74 :: u75 :: u76 :: u77 :: u78 :: u79 :: u80 :: u81 :: u82 :: u83 :: u84 :: u85 :: u86 :: u87 :: u88 :: u89 :: u90 :: u91 :: u92 :: u93 :: u94 :: u95 :: u96 :: u97 :: u98 :: u99 :: u100 :: u101 :: u102 :: u103 :: u104 :: u105 :: u106 :: u107 :: u108 :: u109 :: u110 :: u111 :: u112 :: u113 :: u114 :: u115 :: u116 :: u117 :: u118 :: u119 :: u120 :: u121 :: u122 :: u123 :: u124 :: u125 :: u126 :: u127 :: u128 :: u129 :: u130 :: u131 :: u132 :: u133 :: u134 :: u135 :: u136 :: u137 :: u138 :: u139 :: u140 :: u141 :: u142 :: u143 :: u144 :: u145 :: u146 :: u147 :: u148 :: u149 :: u150 :: u151 :: u152 :: u153 :: u154 :: u155 :: u156 :: u157 :: u158 :: u159 :: u160 :: u161 :: u162 :: u163 :: u164 :: u165 :: u166 :: u167 :: u168 :: u169 :: u170 :: u171 :: u172 :: u173 :: u174 :: u175 :: u176 :: u177 :: u178 :: u179 :: u180 :: u181 :: u182 :: u183 :: u184 :: u185 :: u186 :: u187 :: u188 :: u189 :: u190 :: u191 :: u192 :: []), []⟩ w1 := by
  conv => arg 2; whnf
  have HK := Lib.hid hK
  clear hK
  go_wp2_with fail
  go_loopw [9, 8] (fun mv bv wr => ∃ m : Nat, m ≤ j ∧ mv = .int .i64 m ∧ bv = .bool (hadB hs (evAt hs i).2.2 (evAt hs j).1 m) ∧ Hid (Own w R wr)) (fun mv _ _ => j - (intOf mv).toNat)
  case atStart => exact ⟨0, Nat.zero_le _, rfl, by simp [hadB, heardL], HP⟩
  case round =>
    clear HP
    obtain ⟨m, hm, rfl, rfl, HO⟩ := hrel
    by_cases hlt : m < j
    rotate_left
    · have hmj : m = j := by omega
      subst hmj
      go_wp2_with fail
      apply HK.out
      exact ⟨rfl, HO.out⟩
    have hml : m < hs.length := by rw [HLN.out]; omega
    have hjl : j < hs.length := by rw [HLN.out]; omega
    have hil : i < hs.length := by rw [HLN.out]; omega
    obtain ⟨aa, pb, po, ps, rfl, hea, hcs, _⟩ := HV.out.at HO.out m hml
    obtain ⟨aa', qb, qo, qs, e1, heb, hcs2, _⟩ := HV.out.at HO.out j hjl
    obtain ⟨aa2, rb, ro, rs, e2, hec, hcs3, _⟩ := HV.out.at HO.out i hil
    injection e1 with e1
    injection e2 with e2
    subst e1 e2
    have hst := hadB_step hs (evAt hs i).2.2 (evAt hs j).1 m hml
    obtain ⟨B, hB⟩ : ∃ B, B = hadB hs (evAt hs i).2.2 (evAt hs j).1 m := ⟨_, rfl⟩
    obtain ⟨B2, hB2⟩ : ∃ B, B = hadB hs (evAt hs i).2.2 (evAt hs j).1 (m + 1) := ⟨_, rfl⟩
    rw [← hB, ← hB2] at hst
    rw [← hB]
    obtain ⟨c0, c1, c2⟩ := hcs _ HO.out
    obtain ⟨d0, _, _⟩ := hcs2 _ HO.out
    obtain ⟨_, _, f2⟩ := hcs3 _ HO.out
    obtain ⟨y, hy⟩ : ∃ y, y = evAt hs m := ⟨_, rfl⟩
    obtain ⟨wj, hwj⟩ : ∃ y, y = (evAt hs j).1 := ⟨_, rfl⟩
    obtain ⟨wa, hwa⟩ : ∃ y, y = (evAt hs i).2.2 := ⟨_, rfl⟩
    rw [← hy] at c0 c1 c2 hst
    rw [← hwj] at d0 hst
    rw [← hwa] at f2 hst
    obtain ⟨y1, y2, y3⟩ := y
    simp only at c0 c1 c2 hst
    have i0 : (0 : Int) ≤ (i : Int) := by omega
    have i1 : (i : Int) < (n : Int) := by omega
    have j0 : (0 : Int) ≤ (j : Int) := by omega
    have j1 : (j : Int) < (n : Int) := by omega
    have m0 : (0 : Int) ≤ (m : Int) := by omega
    have m1 : (m : Int) < (n : Int) := by omega
    have m2 : (m : Int) < (j : Int) := by omega
    clear hcs hcs2 hcs3
    have HST := Lib.hid hst; have HB := Lib.hid hB; have HB2 := Lib.hid hB2; have HY := Lib.hid hy; have HWJ := Lib.hid hwj; have HWA := Lib.hid hwa
    clear hst hB hB2 hy hwj hwa
    go_wp2_with fail
    go_upto_region 18 with fail
    refine rfHad1 w n i j m hcap aa y1 y2 y3 wj wa B B2 hi hj hlt hn hc1 hc2 HST hea heb hec c0 c1 c2 d0 f2 ?_
    intros
    rename_i hcut
    obtain ⟨rfl, q, rfl⟩ := hcut
    have HO3 := Lib.hid (HO.out.drewN q)
    clear HO c0 c1 c2 d0 f2
    go_wp2_with fail
    go_roundw
    case rel => exact ⟨m + 1, by omega, by go_num, by rw [HB2.out], HO3⟩
    case measure => simp [intOf]; omega
end Go.Proofs.YtdfjbnfdknpahaaGreatDoor
