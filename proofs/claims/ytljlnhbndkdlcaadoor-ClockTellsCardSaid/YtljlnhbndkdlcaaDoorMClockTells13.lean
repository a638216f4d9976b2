/- TopCut in plain: the greatest of the taken vectors says whether a cut could have been. -/
import Derived.Test.YtljlnhbndkdlcaaDoorMClockTells9
import Derived.Test.YtljlnhbndkdlcaaDoorMClockTells12
import Derived.Test.YtljlnhbndkdlcaaDoorMClockTells1
import Derived.Test.YtljlnhbndkdlcaaDoorMClockTells10
import Derived.Test.YtljlnhbndkdlcaaDoorMClockTells11
import Derived.Test.YtljlnhbndkdlcaaDoorMClockTells7
namespace Go.Proofs.YtljlnhbndkdlcaaDoor
set_option linter.unusedVariables false
set_option linter.unusedSimpArgs false
open Go.RowKit
/-- The walk has looked at event e: of an earlier member, or of member m ahead of i. -/
def seen (h : List Ev) (m i e : Nat) : Prop := (evAt h e).1 < (m : Int) ∨ ((evAt h e).1 = (m : Int) ∧ e < i)
structure TInv (h : List Ev) (many : List Int) (m i : Nat) (J : List Int) (rows : List (List Int)) : Prop where
  vj : vecErr J = 0
  ok : rowsOk rows
  len : rows.length = 5
  below : ∀ r, r < 5 → ∀ q, q < 5 → (rows.getD r []).getD q 0 ≤ J.getD q 0
  iff : (∀ q, q < 5 → J.getD q 0 ≤ many.getD q 0) ↔ ∀ e, e < h.length → seen h m i e → takenB h many e = true → ∀ q, q < 5 → ((vcN h e q : Nat) : Int) ≤ many.getD q 0
/-- The vector of event i. -/
def vecAt (h : List Ev) (i : Nat) : List Int := (vecState h h.length).1.getD i []
theorem vecAt_in {h : List Ev} (hr : RightH h) {i : Nat} (hi : i < h.length) : vecIn h.length (vecAt h i) := by
  have h1 := (vecState_in hr h.length (Nat.le_refl _)).1
  have h2 := (vecState_len h h.length).1
  refine h1 _ ?_
  unfold vecAt
  rw [List.getD_eq_getElem?_getD, List.getElem?_eq_getElem (by rw [h2]; exact hi)]
  exact List.getElem_mem _
theorem vecAt_ok {h : List Ev} (hr : RightH h) {i : Nat} (hi : i < h.length) : vecErr (vecAt h i) = 0 := by
  have h1 := vecAt_in hr hi
  have := hr.1
  exact vecErr_mk h1.1 fun x hx => by have := h1.2 x hx; omega
theorem vecAt_get {h : List Ev} (hr : RightH h) {i : Nat} (hi : i < h.length) {q : Nat} (hq : q < 5) : (vecAt h i).getD q 0 = ((vcN h i q : Nat) : Int) := (vec_count hr h.length (Nat.le_refl _)).1 i hi q hq
theorem cutErr0 {h : List Ev} {many : List Int} (hc : cutErr h many = 0) : RightH h ∧ many.length = 5 ∧ ∀ m, m < 5 → 0 ≤ many.getD m 0 ∧ many.getD m 0 ≤ 60 := by
  unfold cutErr at hc
  split at hc
  · rename_i h1; exact absurd hc h1
  rename_i h1
  have hr : RightH h := (histR_ok h).1 (by simpa using h1)
  split at hc
  · cases hc
  rename_i h2
  split at hc
  · cases hc
  rename_i h3
  refine ⟨hr, by simpa using h2, fun m hm5 => ?_⟩
  have h4 : cutBadAt h many m = false := by
    cases hb : cutBadAt h many m
    · rfl
    · exact absurd (List.any_eq_true.2 ⟨m, List.mem_range.2 hm5, hb⟩) h3
  unfold cutBadAt at h4
  simp only [Bool.or_eq_false_iff, decide_eq_false_iff_not] at h4
  have := cnt_le h (m : Int) h.length
  have := hr.1
  omega
theorem TInv.start {h : List Ev} {many : List Int} (hr : RightH h) (hc : cutErr h many = 0) : TInv h many 0 0 zero5 (List.replicate 5 zero5) where
  vj := vecErr_zero5
  ok := rowsOk_zero 5
  len := by simp
  below := fun r hr q hq => by
    rw [List.getD_eq_getElem?_getD (l := List.replicate 5 zero5), List.getElem?_replicate, if_pos hr]; exact Int.le_refl _
  iff := by
    constructor
    · intro _ e he hs
      have := hr.who he
      unfold seen at hs; omega
    · intro _ q hq
      rw [zero5_getD hq]; exact ((cutErr0 hc).2.2 q hq).1
theorem seen_step {h : List Ev} {m i e : Nat} : seen h m (i + 1) e ↔ seen h m i e ∨ ((evAt h i).1 = (m : Int) ∧ e = i) := by
  unfold seen
  constructor
  · rintro (h1 | ⟨h1, h2⟩)
    · exact .inl (.inl h1)
    · by_cases he : e = i
      · subst he; exact .inr ⟨h1, rfl⟩
      · exact .inl (.inr ⟨h1, by omega⟩)
  · rintro ((h1 | ⟨h1, h2⟩) | ⟨h1, rfl⟩)
    · exact .inl h1
    · exact .inr ⟨h1, by omega⟩
    · exact .inr ⟨h1, by omega⟩
theorem TInv.skip {h : List Ev} {many : List Int} {m i : Nat} {J : List Int} {rows : List (List Int)} (t : TInv h many m i J rows) (hs : (evAt h i).1 ≠ (m : Int) ∨ takenB h many i = false) : TInv h many m (i + 1) J rows where
  vj := t.vj
  ok := t.ok
  len := t.len
  below := t.below
  iff := by
    rw [t.iff]
    constructor
    · intro h1 e he h2 h3
      rcases seen_step.1 h2 with h2 | ⟨h2, rfl⟩
      · exact h1 e he h2 h3
      · rcases hs with hs | hs
        · exact absurd h2 hs
        · rw [hs] at h3; cases h3
    · intro h1 e he h2 h3
      exact h1 e he (seen_step.2 (.inl h2)) h3
theorem TInv.next {h : List Ev} {many : List Int} {m : Nat} {J : List Int} {rows : List (List Int)} (t : TInv h many m h.length J rows) : TInv h many (m + 1) 0 J rows where
  vj := t.vj
  ok := t.ok
  len := t.len
  below := t.below
  iff := by
    rw [t.iff]
    have key : ∀ e, e < h.length → (seen h m h.length e ↔ seen h (m + 1) 0 e) := by
      intro e he; unfold seen; constructor <;> (intro h1; omega)
    constructor
    · intro h1 e he h2 h3; exact h1 e he ((key e he).2 h2) h3
    · intro h1 e he h2 h3; exact h1 e he ((key e he).1 h2) h3
theorem TInv.take {h : List Ev} {many : List Int} {m i : Nat} {J : List Int} {rows : List (List Int)} (t : TInv h many m i J rows) (hr : RightH h) (hi : i < h.length) (hm : m < 5) (hw : (evAt h i).1 = (m : Int)) (ht : takenB h many i = true) :
    bothErr J (vecAt h i) = 0 ∧ toldErr rows.length (m : Int) (vecAt h i) = 0 ∧ TInv h many m (i + 1) (zipMax J (vecAt h i)) (toldRows rows (m : Int) (vecAt h i)) := by
  have hV := vecAt_ok hr hi
  have hJ5 := (vecErr0 t.vj).1
  have hV5 := (vecErr0 hV).1
  have hte : toldErr rows.length (m : Int) (vecAt h i) = 0 := by
    unfold toldErr
    rw [if_neg (by simp [inR, t.len]; omega)]; exact hV
  refine ⟨by unfold bothErr; rw [if_pos t.vj]; exact hV, hte, ?_⟩
  have hg := toldRows_get (by rw [t.len]; exact hm) hte
  refine ⟨vecErr_zipMax t.vj hV, toldRows_ok t.ok _ _, by rw [toldRows_len, t.len], ?_, ?_⟩
  · intro r hr5 q hq
    rw [zipMax_getD hJ5 hV5 hq, hg]
    have hb := t.below r hr5 q hq
    have hl := t.len
    by_cases hrm : r = m
    · subst hrm
      rw [show (rows.set r (zipMax (rows.getD r []) (vecAt h i))).getD r [] = zipMax (rows.getD r []) (vecAt h i) from by
        rw [List.getD_eq_getElem?_getD, List.getElem?_set, if_pos rfl, if_pos (by omega)]; rfl]
      have hrow : (rows.getD r []).length = 5 := by
        rw [List.getD_eq_getElem?_getD, List.getElem?_eq_getElem (by omega)]
        exact rowsOk_len t.ok _ (List.getElem_mem _)
      rw [zipMax_getD hrow hV5 hq]
      rw [Int.max_def, Int.max_def]; split <;> split <;> omega
    · rw [show (rows.set m (zipMax (rows.getD m []) (vecAt h i))).getD r [] = rows.getD r [] from by
        rw [List.getD_eq_getElem?_getD, List.getElem?_set, if_neg (fun e => hrm e.symm), ← List.getD_eq_getElem?_getD]]
      rw [Int.max_def]; split <;> omega
  · have hsplit : (∀ q, q < 5 → (zipMax J (vecAt h i)).getD q 0 ≤ many.getD q 0) ↔ (∀ q, q < 5 → J.getD q 0 ≤ many.getD q 0) ∧ ∀ q, q < 5 → ((vcN h i q : Nat) : Int) ≤ many.getD q 0 := by
      constructor
      · intro h1
        constructor
        · intro q hq
          have h2 := h1 q hq
          rw [zipMax_getD hJ5 hV5 hq, Int.max_def] at h2
          split at h2 <;> omega
        · intro q hq
          have h2 := h1 q hq
          rw [zipMax_getD hJ5 hV5 hq, vecAt_get hr hi hq, Int.max_def] at h2
          split at h2 <;> omega
      · rintro ⟨h1, h3⟩ q hq
        have h2 := h1 q hq
        have h4 := h3 q hq
        rw [zipMax_getD hJ5 hV5 hq, vecAt_get hr hi hq, Int.max_def]
        split <;> omega
    rw [hsplit, t.iff]
    constructor
    · rintro ⟨h1, h5⟩ e he h2 h3
      rcases seen_step.1 h2 with h2 | ⟨h2, rfl⟩
      · exact h1 e he h2 h3
      · exact h5
    · intro h1
      exact ⟨fun e he h2 h3 => h1 e he (seen_step.2 (.inl h2)) h3, h1 i hi (seen_step.2 (.inr ⟨hw, rfl⟩)) ht⟩
theorem getD_at {l : List Int} {k : Nat} (hk : k < l.length) : l.getD k 0 = l[k] := by
  rw [List.getD_eq_getElem?_getD, List.getElem?_eq_getElem hk]; rfl
theorem TInv.done {h : List Ev} {many : List Int} {J : List Int} {rows : List (List Int)} (t : TInv h many 5 0 J rows) (hc : cutErr h many = 0) :
    (bothErr J many = 0 ∧ leq J many = cutB h many) ∧ vecErr (leastOf rows) = 0 ∧ bothErr (leastOf rows) J = 0 ∧ leq (leastOf rows) J = true := by
  obtain ⟨hr, hm5, hmb⟩ := cutErr0 hc
  have hJ5 := (vecErr0 t.vj).1
  have hne : 0 < rows.length := by rw [t.len]; omega
  have hmv : vecErr many = 0 := vecErr_mk hm5 fun x hx => by
    obtain ⟨k, hk, rfl⟩ := List.getElem_of_mem hx
    have := hmb k (by omega)
    rw [getD_at hk] at this
    omega
  have hl := vecErr_least t.ok hne
  have hl5 := (vecErr0 hl).1
  refine ⟨⟨by unfold bothErr; rw [if_pos t.vj]; exact hmv, ?_⟩, hl, by unfold bothErr; rw [if_pos hl]; exact t.vj, ?_⟩
  · have h1 : leq J many = true ↔ cutB h many = true := by
      rw [leq_iff J many (by omega), cut_iff hr hm5 hc]
      have h2 : (∀ i (h : i < J.length) (h' : i < many.length), J[i] ≤ many[i]) ↔ ∀ q, q < 5 → J.getD q 0 ≤ many.getD q 0 := by
        constructor
        · intro h q hq
          rw [getD_at (by omega), getD_at (by omega)]; exact h q (by omega) (by omega)
        · intro h q h1 h2
          have := h q (by omega)
          rw [getD_at h1, getD_at h2] at this
          exact this
      rw [h2, t.iff]
      constructor
      · intro h3 e he h4
        refine h3 e he (.inl ?_) h4
        have := hr.who he; omega
      · intro h3 e he _ h4; exact h3 e he h4
    cases h3 : leq J many <;> cases h4 : cutB h many <;> simp_all
  · refine leq_of_get (by omega) fun q h1 h2 => ?_
    have hq : q < 5 := by omega
    have h3 := leastOf_le t.ok rows[0] (List.getElem_mem hne) q h1 (by rw [rowsOk_len t.ok _ (List.getElem_mem hne)]; exact hq)
    have h4 := t.below 0 (by omega) q hq
    rw [show rows.getD 0 [] = rows[0] from by rw [List.getD_eq_getElem?_getD, List.getElem?_eq_getElem hne]; rfl] at h4
    rw [getD_at (by rw [rowsOk_len t.ok _ (List.getElem_mem hne)]; exact hq), getD_at h2] at h4
    omega
end Go.Proofs.YtljlnhbndkdlcaaDoor
/- The reference's vectors: each counts who is ahead. -/
namespace Go.Proofs.YtljlnhbndkdlcaaDoor
set_option linter.unusedVariables false
set_option linter.unusedSimpArgs false
open Go.RowKit
def rowV (h : List Ev) (k i : Nat) : List Int := (List.range 5).map fun (m : Nat) => ((pastN h k (m : Int) i : Nat) : Int)
theorem rowV_len (h : List Ev) (k i : Nat) : (rowV h k i).length = 5 := by simp [rowV]
theorem rowV_get (h : List Ev) (k i : Nat) {m : Nat} (hm : m < 5) : (rowV h k i)[m]? = some ((pastN h k (m : Int) i : Nat) : Int) := by
  unfold rowV; rw [List.getElem?_map, List.getElem?_range hm]; rfl
theorem rowV_zero (h : List Ev) (k : Nat) : rowV h k 0 = zero5 := rfl
theorem rowV_skip {h : List Ev} {k i : Nat} (hb : (decide (i = k) || bef h k i) = false) : rowV h k (i + 1) = rowV h k i := by
  unfold rowV
  refine List.map_congr_left fun m _ => ?_
  rw [pastN_succ]
  have : inPast h k (m : Int) i = false := by unfold inPast; rw [hb, Bool.and_false]
  rw [this]; simp
theorem rowV_step {h : List Ev} {k i q : Nat} (hw : (evAt h i).1 = (q : Int)) (hq : q < 5) (hb : (decide (i = k) || bef h k i) = true) : rowV h k (i + 1) = (rowV h k i).set q ((pastN h k (q : Int) i : Nat) + 1) := by
  refine List.ext_getElem? fun m => ?_
  by_cases hm : m < 5
  · rw [rowV_get h k (i + 1) hm, List.getElem?_set, pastN_succ]
    have hi : inPast h k (m : Int) i = decide (q = m) := by
      unfold inPast; rw [hb, Bool.and_true, hw]
      by_cases e : q = m
      · simp [e]
      · have : ¬ (q : Int) = (m : Int) := by omega
        simp [e, this]
    rw [hi]
    by_cases e : q = m
    · subst e
      rw [if_pos rfl, if_pos (show q < (rowV h k i).length by rw [rowV_len]; exact hm), decide_eq_true rfl, if_pos rfl]; rfl
    · rw [if_neg e, rowV_get h k i hm]; simp [e]
  · rw [List.getElem?_eq_none (by rw [rowV_len]; omega), List.getElem?_eq_none (by rw [List.length_set, rowV_len]; omega)]
theorem rowV_end {h : List Ev} (hr : RightH h) {k : Nat} (hk : k < h.length) : rowV h k (k + 1) = vecAt h k := by
  have hl := (vecAt_in hr hk).1
  refine List.ext_getElem? fun m => ?_
  by_cases hm : m < 5
  · rw [rowV_get h k (k + 1) hm]
    have h1 := vecAt_get hr hk hm
    rw [List.getD_eq_getElem?_getD, List.getElem?_eq_getElem (by omega)] at h1
    rw [List.getElem?_eq_getElem (by omega)]
    simp only [Option.getD_some] at h1
    rw [h1]
    unfold vcN
    rw [pastN_stop h k (m : Int) (show k + 1 ≤ h.length by omega)]
  · rw [List.getElem?_eq_none (by rw [rowV_len]; omega), List.getElem?_eq_none (by omega)]
theorem pastN_le (h : List Ev) (k : Nat) (m : Int) (i : Nat) : pastN h k m i ≤ i := by
  unfold pastN
  exact Nat.le_trans (List.length_filter_le _ _) (by simp)
theorem vecsR_all {h : List Ev} : vecsR h = (List.range h.length).map (vecAt h) := by
  have hl := (vecState_len h h.length).1
  refine List.ext_getElem (by simp [vecsR, hl]) fun i h1 h2 => ?_
  rw [List.getElem_map, List.getElem_range]
  unfold vecAt vecsR
  rw [List.getD_eq_getElem?_getD, List.getElem?_eq_getElem]; rfl
set_option maxRecDepth 100000 in
set_option maxHeartbeats 4000000 in
theorem refVectors_any {w0 w : World} {R : HProp} (v : Value) (hs : List Ev) (h : Own w0 R w) (hv : ReadsE w0 R v hs) (hr : RightH hs) :
    Calls Tryd.prog 18 #[v] w fun e w' => ∃ v' rs, e = .returned v' ∧ rs.map (·.2) = vecsR hs ∧ Own w0 (LSl v' rs * R) w' := by
  obtain ⟨ad, cap, rfl, hlc, hcap⟩ := (hv _ h).shape
  have hlen := hr.1
  have hcap' : cap ≤ 9223372036854775807 := hcap
  obtain ⟨n, hn⟩ : ∃ n, n = hs.length := ⟨_, rfl⟩
  rw [← hn] at hv hlc hlen ⊢
  have hlenh : hs.length ≤ 60 := hr.1
  have H := Lib.hid h; have HV := Lib.hid hv; have HR := Lib.hid hr
  clear h hv hr
  have HN := Lib.hid hn
  clear hn
  go_enter Tryd.func18, Tryd.ntmps18
  go_wp2_with fail
  refine (refBefores_any _ hs H.out HV.out hlenh).mono ?_
  rintro e w2 ⟨rfl, ho⟩
  have HO3 := Lib.hid ho
  clear ho H
  rename_i hK9
  refine hK9 _ _ ?_
  clear hK9
  refine wp_keep60 (fun i k => bef hs k i) 3 9 rfl rfl rfl rfl rfl rfl (fun _ => rfl) (fun _ => rfl) HO3.out (fun fb w3 ho => ?_)
  have HO4 : Hid (Own w0 (LSl (.slice none 0 0) [] * (T60 fb (fun i k => bef hs k i) * R)) w3) := Lib.hid (by rw [LSl_nil, emp_star]; exact ho)
  clear ho HO3
  go_wp2_with fail
  go_loopw [5, 4] (fun kv ov wr => ∃ (k : Nat) (ro : List (Value × List Int)), k ≤ n ∧ kv = .int .i64 k ∧ Hid (ro.map (·.2) = (List.range k).map (vecAt hs)) ∧ Hid (Own w0 (LSl ov ro * (T60 fb (fun i k => bef hs k i) * R)) wr)) (fun kv _ _ => n - (intOf kv).toNat)
  case atStart => exact ⟨0, [], Nat.zero_le _, rfl, Lib.hid rfl, HO4⟩
  case round =>
    clear HO4
    obtain ⟨k, ro, hk, rfl, HRO, HO⟩ := hrel
    by_cases hlt : k < n
    rotate_left
    · have hkn : k = n := by omega
      have hro := HRO.out
      rw [hkn, HN.out, ← vecsR_all] at hro
      have HRO := Lib.hid hro
      clear hro
      go_wp2
      go_ret
      exact ⟨_, ro, rfl, HRO.out, (HO.out.perm (star_left_comm _ _ _)).drop⟩
    have hkl : k < hs.length := by rw [← HN.out]; exact hlt
    go_wp2_with (at_make; refine wpList_mk rfl _ _ 32 rfl 3 8 (.int .i64 0) Tryd.underlying32 info_int rfl 5 rfl rfl (by omega) (by decide) HO.out ?_; intro mb w5 ho; have HO5 : Hid (Own w0 (IntSl (.slice (some ⟨mb, 0, none⟩) 5 5) (rowV hs k 0) * (LSl u4 ro * (T60 fb (fun i k => bef hs k i) * R))) w5) := Lib.hid (by rw [rowV_zero]; exact ho.sl_of_at); clear ho)
    go_loopw [7] (fun iv wr => ∃ i : Nat, i ≤ k + 1 ∧ iv = .int .i64 i ∧ Hid (Own w0 (IntSl (.slice (some ⟨mb, 0, none⟩) 5 5) (rowV hs k i) * (LSl u4 ro * (T60 fb (fun i k => bef hs k i) * R))) wr)) (fun iv _ => k + 1 - (intOf iv).toNat)
    case atStart => exact ⟨0, Nat.zero_le _, rfl, HO5⟩
    case round =>
      clear HO HO5
      obtain ⟨i, hi, rfl, HO⟩ := hrel
      by_cases hik : i ≤ k
      rotate_left
      · have hin : i = k + 1 := by omega
        subst hin
        have hrol : ro.length = k := by rw [← List.length_map (f := (·.2)), HRO.out]; simp
        have hvl : (vecAt hs k).length = 5 := (vecAt_in HR.out hkl).1
        have HA : Hid (Own w0 (Sl 32 1 u4 ro.length (ro.map (·.1)) * (IntSl (.slice (some ⟨mb, 0, none⟩) 5 5) (vecAt hs k) * (starL rowP ro * (T60 fb (fun i k => bef hs k i) * R)))) wr) := Lib.hid (HO.out.perm (by rw [rowV_end HR.out hkl]; unfold LSl; ac_rfl))
        have HRO2 : Hid ((ro ++ [((Value.slice (some ⟨mb, 0, none⟩) 5 5), vecAt hs k)]).map (·.2) = (List.range (k + 1)).map (vecAt hs)) := Lib.hid (by rw [List.map_append, HRO.out, List.range_succ, List.map_append]; rfl)
        have HVL := Lib.hid hvl
        clear hvl
        clear HO
        go_wp2_with (at_builtin; refine wpList_app rfl _ _ 42 rfl 32 1 24 _ info_ints Tryd.underlying42 rfl (by decide) rfl (HA.out.alloc' _) rfl (by rfl) (Rd_lit (by simp) (by unfold maxLen; omega)) (by intro u hu; simp at hu; subst hu; rfl) (by unfold maxLen; omega) (by omega) ?_; intro v' w7 hown; have HO7 : Hid (Own w0 (LSl v' (ro ++ [(.slice (some ⟨mb, 0, none⟩) 5 5, vecAt hs k)]) * (T60 fb (fun i k => bef hs k i) * R)) w7) := Lib.hid hown.ls_snoc; clear hown)
        go_wp2_with fail
        go_roundw
        case rel => exact ⟨k + 1, _, by omega, by go_num, HRO2, HO7⟩
        case measure => simp [intOf]; omega
      have hil : i < hs.length := by omega
      have b0 := (HO.out.perm (show _ = T60 fb (fun i k => bef hs k i) * (IntSl (.slice (some ⟨mb, 0, none⟩) 5 5) (rowV hs k i) * (LSl u4 ro * R)) by ac_rfl)).t60 (i := i) (k := k) (by omega) (by omega)
      try simp only at b0
      obtain ⟨X, hX⟩ : ∃ X, X = bef hs k i := ⟨_, rfl⟩
      rw [← hX] at b0
      have i0 : (0 : Int) ≤ (i : Int) := by omega
      have k0 : (0 : Int) ≤ (k : Int) := by omega
      have i6 : (i : Int) < 60 := by omega
      have k6 : (k : Int) < 60 := by omega
      have ik : (i : Int) ≤ (k : Int) := by omega
      have iN : (i : Int) < (n : Int) := by omega
      by_cases hb : (decide (i = k) || bef hs k i) = true
      rotate_left
      · have hb0 : (decide (i = k) || bef hs k i) = false := by simpa using hb
        have HO2 : Hid (Own w0 (IntSl (.slice (some ⟨mb, 0, none⟩) 5 5) (rowV hs k (i + 1)) * (LSl u4 ro * (T60 fb (fun i k => bef hs k i) * R))) wr) := Lib.hid (by rw [rowV_skip hb0]; exact HO.out)
        have hne : i ≠ k := by rintro rfl; simp at hb0
        have t1 : ((i : Int) == (k : Int)) = false := by rw [beq_eq_false_iff_ne]; omega
        have hX0 : X = false := by rw [hX]; simpa [hne] using hb0
        subst hX0
        have HB := Lib.hid hb; have HB0 := Lib.hid hb0; have HX := Lib.hid hX; have HNE := Lib.hid hne
        clear hb hb0 hX hne
        go_wp2_with fail
        go_roundw
        case rel => exact ⟨i + 1, by omega, by go_num, HO2⟩
        case measure => simp [intOf]; omega
      have hwho := HR.out.who hil
      obtain ⟨aa, pb, po, ps, rfl, hea, hcs, _⟩ := ReadsE.at (R := IntSl (.slice (some ⟨mb, 0, none⟩) 5 5) (rowV hs k i) * (LSl u4 ro * (T60 fb (fun i k => bef hs k i) * R))) (fun wq hq => HV.out wq hq.drop.drop.drop) HO.out i hil
      obtain ⟨c0, c1, c2⟩ := hcs _ HO.out
      obtain ⟨q, hq⟩ : ∃ q : Nat, (evAt hs i).1 = (q : Int) := ⟨(evAt hs i).1.toNat, by omega⟩
      rw [hq] at c0 hwho
      have hq5 : q < 5 := by omega
      obtain ⟨mb', off, mcap, e1, _, _, hcell, hfz, _, _, hset⟩ := HO.out.ints_at (by rw [rowV_len]; omega)
      rw [rowV_len] at e1
      cases e1
      obtain ⟨y, hy⟩ : ∃ y : Int, y = ((pastN hs k (q : Int) i : Nat) : Int) := ⟨_, rfl⟩
      have hcq := hcell q (by rw [rowV_len]; exact hq5)
      have hyq : (rowV hs k i)[q]'(by rw [rowV_len]; exact hq5) = y := by
        have h1 := rowV_get hs k i hq5
        rw [List.getElem?_eq_getElem (by rw [rowV_len]; exact hq5)] at h1
        rw [hy]; exact Option.some.inj h1
      rw [hyq] at hcq
      have hle := pastN_le hs k (q : Int) i
      have hy0 : 0 ≤ y := by omega
      have hy60 : y ≤ 60 := by omega
      have hst := hset q (y + 1) (by rw [rowV_len]; exact hq5)
      have hnew : rowV hs k (i + 1) = (rowV hs k i).set q (y + 1) := by rw [hy]; exact rowV_step hq hq5 hb
      rw [← hnew] at hst
      have hf := hfz q none
      simp only [Nat.zero_add] at hcq hst
      have q0 : (0 : Int) ≤ (q : Int) := by omega
      have q5 : (q : Int) < 5 := by omega
      obtain ⟨ws, hws⟩ : ∃ ws, ws = wr.setCell ⟨mb, q, none⟩ (.int .i64 (y + 1)) := ⟨_, rfl⟩
      rw [← hws] at hst
      have HST := Lib.hid hst
      have HY := Lib.hid hy; have HYQ := Lib.hid hyq; have HNEW := Lib.hid hnew; have HLE := Lib.hid hle
      clear hy hyq hnew hle
      clear hcell hfz hset hst
      by_cases hek : i = k
      · subst hek
        have HB := Lib.hid hb; have HX := Lib.hid hX
        clear hb hX
        go_upto_region 9 with fail
        rw [← hws]
        clear hws hf hcq c0 c1 c2 b0
        go_wp2_with fail
        go_roundw
        case rel => exact ⟨i + 1, by omega, by go_num, HST⟩
        case measure => simp [intOf]
      · have t1 : ((i : Int) == (k : Int)) = false := by rw [beq_eq_false_iff_ne]; omega
        have hX1 : X = true := by rw [hX]; simpa [hek] using hb
        subst hX1
        have HB := Lib.hid hb; have HX := Lib.hid hX
        clear hb hX
        go_upto_region 9 with fail
        rw [← hws]
        clear hws hf hcq c0 c1 c2 b0
        go_wp2_with fail
        go_roundw
        case rel => exact ⟨i + 1, by omega, by go_num, HST⟩
        case measure => simp [intOf]; omega
end Go.Proofs.YtljlnhbndkdlcaaDoor
/- The reference's history, continued: the words said ahead of an event. -/
namespace Go.Proofs.YtljlnhbndkdlcaaDoor
set_option linter.unusedVariables false
set_option linter.unusedSimpArgs false
open Go.RowKit
noncomputable def rhIn_code : Code := ((Tryd.f37.body.bind (findBlock 2)).getD .skip)
set_option maxRecDepth 1000000 in
set_option maxHeartbeats 4000000 in
theorem rhIn {Q : Exit → Act → World → Prop} {u1 u2 u3 u8 u9 u10 u11 u12 u13 u14 u15 u16 u17 u18 u19 u20 u21 u22 u23 u24 u25 u26 u27 u28 u29 u30 u31 u32 u33 u34 u35 u36 u37 u38 u39 u40 u41 u42 u43 u44 u45 u46 u47 u48 u49 u50 u51 u52 u53 u54 u55 u56 u57 u58 u59 u60 u61 u62 u63 u64 u65 u66 u67 u68 u69 u70 u71 u72 u73 u74 u75 u76 u77 u78 u79 u80 u81 u82 u83 u84 u85 u86 u87 u88 u89 u90 u91 u92 u93 u94 u95 u96 u97 u98 u99 u100 u101 u102 u103 u104 u105 u106 u107 u108 u109 u110 u111 u112 u113 u114 u115 u116 u117 u118 u119 u120 u121 u122 u123 u124 u125 u126 u127 u128 u129 u130 : Value} {w1 : World} (w : World) (R : HProp) (eb n i hcap : Nat) (had : Option Addr) (hs : List Ev) (x : Ev) (hi : i < n) (hn : n ≤ 60) (hc1 : n ≤ hcap) (hc2 : hcap ≤ 9223372036854775807) (HLN : Hid (hs.length = n)) (HX : Hid (x.2.1 = 3 → x ∉ hs.take i)) (HRT : Hid (∀ j, j < i → evErr (hs.take j) (evAt hs j) = 0)) (HV : Hid (ReadsE w R (.slice had n hcap) hs)) (HP : Hid (Own w (EvO eb x * R) w1))
    (hK : ∀ (v2 v3 v6 v7 v67 v68 v69 v70 v71 v72 v73 v74 v75 v76 v77 v78 v79 v80 v81 v82 v83 v84 v85 v86 v87 v88 v89 v90 v91 v92 v93 v94 v95 v96 v97 v98 v99 v100 v101 v102 v103 v104 : Value) (wx : World), (v6 = .int .i64 (byOf (hs.take i) x.2.2) ∧ Own w (EvO eb x * R) wx) → Q .normal ⟨List.toArray ((.slice had n hcap) :: u1 :: v2 :: v3 :: (.int .i64 (i : Int)) :: (.pointer (some ⟨eb, 0, none⟩)) :: v6 :: v7 :: u8 :: u9 :: u10 :: u11 :: u12 :: u13 :: u14 :: u15 :: u16 :: u17 :: u18 :: u19 :: u20 :: u21 :: u22 :: u23 :: u24 :: u25 :: u26 :: u27 :: u28 :: u29 :: u30 :: u31 :: u32 :: u33 :: u34 :: u35 :: u36 :: u37 :: u38 :: u39 :: u40 :: u41 :: u42 :: u43 :: u44 :: u45 :: u46 :: u47 :: u48 :: u49 :: u50 :: u51 :: u52 :: u53 :: u54 :: u55 :: u56 :: u57 :: u58 :: u59 :: u60 :: u61 :: u62 :: u63 :: u64 :: u65 :: u66 :: v67 :: v68 :: v69 :: v70 :: v71 :: v72 :: v73 :: v74 :: v75 :: v76 :: v77 :: v78 :: v79 :: v80 :: v81 :: v82 :: v83 :: v84 :: v85 :: v86 :: v87 :: v88 :: v89 :: v90 :: v91 :: v92 :: v93 :: v94 :: v95 :: v96 :: v97 :: v98 :: v99 :: v100 :: v101 :: v102 :: v103 :: v104 :: u105 :: u106 :: u107 :: u108 :: u109 :: u110 :: u111 :: u112 :: u113 :: u114 :: u115 :: u116 :: u117 :: u118 :: u119 :: u120 :: u121 :: u122 :: u123 :: u124 :: u125 :: u126 :: u127 :: u128 :: u129 :: u130 :: []), []⟩ wx) :
    Code.wp Tryd.prog rhIn_code Q ⟨List.toArray ((.slice had n hcap) :: u1 :: u2 :: u3 :: (.int .i64 (i : Int)) :: (.pointer (some ⟨eb, 0, none⟩)) :: (.int .i64 (-1)) :: (.int .i64 0) :: u8 :: u9 :: u10 :: u11 :: u12 :: u13 :: u14 :: u15 :: u16 :: u17 :: u18 :: u19 :: u20 :: u21 :: u22 :: u23 :: u24 :: u25 :: u26 :: u27 :: u28 :: u29 :: u30 :: u31 :: u32 :: u33 :: u34 :: u35 :: u36 :: u37 :: u38 :: u39 :: u40 :: u41 :: u42 :: u43 :: u44 :: u45 :: u46 :: u47 :: u48 :: u49 :: u50 :: u51 :: u52 :: u53 :: u54 :: u55 :: u56 :: u57 :: u58 :: u59 :: u60 :: u61 :: u62 :: u63 :: u64 :: u65 :: u66 :: u67 :: u68 :: u69 :: u70 :: u71 :: u72 :: u73 :: u74 :: u75 :: u76 :: u77 :: u78 :: u79 :: u80 :: u81 :: u82 :: u83 :: u84 :: u85 :: u86 :: u87 :: u88 :: u89 :: u90 :: u91 :: u92 :: u93 :: u94 :: u95 :: u96 :: u97 :: u98 :: u99 :: u100 :: u101 :: u102 :: u103 :: u104 :: u105 :: u106 :: u107 :: u108 :: u109 :: u110 :: u111 :: u112 :: u113 :: u114 :: u115 :: u116 :: u117 :: u118 :: u119 :: u120 :: u121 :: u122 :: u123 :: u124 :: u125 :: u126 :: u127 :: u128 :: u129 :: u130 :: []), []⟩ w1 := by
  conv => arg 2; whnf
  have HK := Lib.hid hK
  clear hK
  go_wp2_with fail
  go_loopw [7, 6] (fun kv bv wr => ∃ k : Nat, k ≤ i ∧ kv = .int .i64 k ∧ bv = .int .i64 (byOf (hs.take k) x.2.2) ∧ Hid (Own w (EvO eb x * R) wr)) (fun kv _ _ => i - (intOf kv).toNat)
  case atStart => exact ⟨0, Nat.zero_le _, rfl, rfl, HP⟩
  case round =>
    clear HP
    obtain ⟨k, hk, rfl, rfl, HO⟩ := hrel
    by_cases hlt : k < i
    rotate_left
    · have hki : k = i := by omega
      subst hki
      go_wp2_with fail
      apply HK.out
      exact ⟨rfl, HO.out⟩
    have hkl : k < hs.length := by rw [HLN.out]; omega
    have hstep := byOf_step x.2.2 hkl (HRT.out k hlt)
    obtain ⟨B0, hB0⟩ : ∃ B, B = byOf (hs.take k) x.2.2 := ⟨_, rfl⟩
    obtain ⟨B1, hB1⟩ : ∃ B, B = byOf (hs.take (k + 1)) x.2.2 := ⟨_, rfl⟩
    rw [← hB0, ← hB1] at hstep
    rw [← hB0]
    obtain ⟨aa, pb, po, ps, rfl, hea, hcs, _⟩ := HV.out.more.at HO.out k hkl
    have hne : x.2.1 = 3 → evAt hs k ≠ x := fun h3 he => by
      apply HX.out h3
      rw [← he, List.mem_take_iff_getElem]
      refine ⟨k, by omega, ?_⟩
      unfold evAt
      rw [List.getD_eq_getElem?_getD, List.getElem?_eq_getElem hkl]; rfl
    obtain ⟨y, hy⟩ : ∃ y, y = evAt hs k := ⟨_, rfl⟩
    rw [← hy] at hcs hstep hne
    obtain ⟨c0, c1, c2⟩ := hcs _ HO.out
    obtain ⟨e0, e1, e2⟩ := HO.out.ev
    obtain ⟨x1, x2, x3⟩ := x
    obtain ⟨y1, y2, y3⟩ := y
    simp only at c0 c1 c2 e0 e1 e2 hstep hne hB0 hB1
    obtain ⟨S, hS⟩ : ∃ S, S = saysB x3 (y1, y2, y3) := ⟨_, rfl⟩
    have hS2 : S = (decide (y2 = 2) && decide (y3 = x3)) := hS
    rw [← hS] at hstep
    have i0 : (0 : Int) ≤ (k : Int) := by omega
    have i1 : (k : Int) < (n : Int) := by omega
    have i2 : (k : Int) < (i : Int) := by omega
    clear hS
    have HB0 := Lib.hid hB0; have HB1 := Lib.hid hB1; have HCS := Lib.hid hcs; have HY := Lib.hid hy; have HSTEP := Lib.hid hstep; have HS2 := Lib.hid hS2; have HNE := Lib.hid hne
    clear hB0 hB1 hcs hy hstep hS2 hne
    go_wp2_with fail
    go_upto_region 16 with fail
    go_cut [87] from 72 to 87 (fun c wx => c = .bool S ∧ Own w (EvO eb (x1, x2, x3) * R) wx)
    case first =>
      by_cases a1 : y2 = 2
      rotate_left
      · have t1 : (y2 == 2) = false := by rw [beq_eq_false_iff_ne]; exact a1
        have hs1 : S = false := by rw [HS2.out]; simp [a1]
        have A1 := Lib.hid a1; have HS1 := Lib.hid hs1
        clear a1 hs1
        go_wp2_with fail
        go_quiet (fail)
        go_wp2_with fail
        go_meet
        exact ⟨by rw [HS1.out], HO.out.drewN _⟩
      subst a1
      by_cases a2 : y3 = x3
      · have hs1 : S = true := by rw [HS2.out]; simp [a2]
        subst a2
        have HS1 := Lib.hid hs1
        clear hs1
        go_wp2_with fail
        go_quiet (fail)
        go_wp2_with fail
        go_meet
        exact ⟨by rw [HS1.out], HO.out.drewN _⟩
      · have t2 : (y3 == x3) = false := by rw [beq_eq_false_iff_ne]; exact a2
        have hs1 : S = false := by rw [HS2.out]; simp [a2]
        have A2 := Lib.hid a2; have HS1 := Lib.hid hs1
        clear a2 hs1
        go_wp2_with fail
        go_quiet (fail)
        go_wp2_with fail
        go_meet
        exact ⟨by rw [HS1.out], HO.out.drewN _⟩
    case rest =>
    obtain ⟨rfl, ho⟩ := hcut
    clear HO e0 e1 e2 c0 c1 c2
    have HO2 := Lib.hid ho
    clear ho
    obtain ⟨c0, c1, c2⟩ := HCS.out _ HO2.out
    obtain ⟨e0, e1, e2⟩ := HO2.out.ev
    simp only at e0 e1 e2
    go_upto_if 87 with fail
    go_cut [6] from 88 to 92 (fun bv wx => bv = .int .i64 B1 ∧ wx = wc)
    case first =>
      cases S
      · have h1 : B1 = B0 := by rw [HSTEP.out]; rfl
        have H1 := Lib.hid h1
        clear h1
        go_wp2_with fail
        go_meet
        exact ⟨by rw [H1.out], rfl⟩
      · have h1 : B1 = y1 := by rw [HSTEP.out]; rfl
        have H1 := Lib.hid h1
        clear h1
        go_wp2_with fail
        go_meet
        exact ⟨by rw [H1.out], rfl⟩
    case rest =>
    obtain ⟨rfl, rfl⟩ := hcut
    go_upto_region 18 with fail
    go_cut [103] from 93 to 103 (fun c wx => c = .bool false ∧ Own w (EvO eb (x1, x2, x3) * R) wx)
    case first =>
      by_cases a1 : x2 = 3
      rotate_left
      · have t1 : (x2 == 3) = false := by rw [beq_eq_false_iff_ne]; exact a1
        have A1 := Lib.hid a1
        clear a1
        go_wp2_with fail
        go_quiet (fail)
        go_wp2_with fail
        go_meet
        exact ⟨rfl, HO2.out.drewN _⟩
      subst a1
      have hne := HNE.out rfl
      by_cases b1 : y1 = x1
      rotate_left
      · have t1 : (y1 == x1) = false := by rw [beq_eq_false_iff_ne]; exact b1
        have B1 := Lib.hid b1; have HNE := Lib.hid hne
        clear b1 hne
        go_wp2_with fail
        go_quiet (fail)
        go_wp2_with fail
        go_meet
        exact ⟨rfl, HO2.out.drewN _⟩
      by_cases b2 : y2 = 3
      rotate_left
      · have t1 : (y2 == 3) = false := by rw [beq_eq_false_iff_ne]; exact b2
        subst b1
        have B2 := Lib.hid b2; have HNE := Lib.hid hne
        clear b2 hne
        go_wp2_with fail
        go_quiet (fail)
        go_wp2_with fail
        go_meet
        exact ⟨rfl, HO2.out.drewN _⟩
      have b3 : ¬ y3 = x3 := fun b3 => hne (by rw [b1, b2, b3])
      have t1 : (y3 == x3) = false := by rw [beq_eq_false_iff_ne]; exact b3
      subst b1 b2
      have B3 := Lib.hid b3; have HNE := Lib.hid hne
      clear b3 hne
      go_wp2_with fail
      go_quiet (fail)
      go_wp2_with fail
      go_meet
      exact ⟨rfl, HO2.out.drewN _⟩
    case rest =>
    obtain ⟨rfl, ho⟩ := hcut
    have HO3 := Lib.hid ho
    clear ho HO2 e0 e1 e2 c0 c1 c2
    go_wp2_with fail
    go_roundw
    case rel => exact ⟨k + 1, by omega, by go_num, by rw [HB1.out], HO3⟩
    case measure => simp [intOf]; omega
end Go.Proofs.YtljlnhbndkdlcaaDoor
