/- mootsame.Lists at two lists that are the same. -/
import Derived.Test.YtljlnhbndkdlcaaDoorMClockTells10
import Derived.Test.YtljlnhbndkdlcaaDoorMClockTells4
import Derived.Test.YtljlnhbndkdlcaaDoorMClockTells6
import Derived.Test.YtljlnhbndkdlcaaDoorMClockTells1
import Derived.Test.YtljlnhbndkdlcaaDoorMClockTells8
import Derived.Deep.WholeRow
namespace Go.Proofs.YtljlnhbndkdlcaaDoor
set_option linter.unusedVariables false
set_option linter.unusedSimpArgs false
open Go.RowKit
theorem Own.ls_shp {w0 w : World} {v : Value} {rs : List (Value × List Int)} {R : HProp} (h : Own w0 (LSl v rs * R) w) : ∃ ad cap, v = .slice ad rs.length cap ∧ rs.length ≤ cap ∧ cap ≤ 9223372036854775807 := by
  have h1 : Own w0 (Sl 32 1 v rs.length (rs.map (·.1)) * (starL rowP rs * R)) w := h.perm (by unfold LSl; ac_rfl)
  obtain ⟨ad, cap, h2, h3, h4, _⟩ := Own.rd h1
  exact ⟨ad, cap, h2, h3, by have : (maxLen : Nat) = 9223372036854775807 := rfl; omega⟩
theorem rows_at {rs : List (Value × List Int)} {k : Nat} (hk : k < rs.length) : ∃ v, rs[k]? = some (v, (rs.map (·.2))[k]'(by simpa using hk)) := by
  refine ⟨rs[k].1, ?_⟩
  rw [List.getElem?_eq_getElem hk]; simp
set_option maxRecDepth 100000 in
set_option maxHeartbeats 4000000 in
theorem sameLists_any {w0 w : World} {R : HProp} (va vb : Value) (ra rb : List (Value × List Int)) (h : Own w0 (LSl va ra * (LSl vb rb * R)) w) (he : ra.map (·.2) = rb.map (·.2)) (hI : ∀ l ∈ rb.map (·.2), ∀ x ∈ l, I64 x) :
    Calls Tryd.prog 21 #[va, vb] w fun e w' => e = .returned (.bool true) ∧ Own w0 (LSl va ra * (LSl vb rb * R)) w' := by
  obtain ⟨aad, acap, rfl, hac1, hac2⟩ := h.ls_shp
  obtain ⟨bad, bcap, rfl, hbc1, hbc2⟩ := h.drop.ls_shp
  obtain ⟨n, hn⟩ : ∃ n, n = ra.length := ⟨_, rfl⟩
  have hnb : rb.length = n := by rw [hn, ← List.length_map (f := (·.2)), ← he, List.length_map]
  rw [← hn] at h hac1 ⊢
  rw [hnb] at h hbc1 ⊢
  have HN := Lib.hid hn
  have HO0 : Hid (Own w0 (LSl (.slice aad n acap) ra * (LSl (.slice bad n bcap) rb * R)) w) := Lib.hid h
  have H := Lib.hid h; have HNB := Lib.hid hnb; have HE := Lib.hid he; have HI := Lib.hid hI
  clear h hnb he hI
  clear hn
  have hn63 : n ≤ 9223372036854775807 := by omega
  go_enter Tryd.func21, Tryd.ntmps21
  go_wp2_with fail
  go_loopw [5] (fun kv wr => ∃ k : Nat, k ≤ n ∧ kv = .int .i64 k ∧ Hid (Own w0 (LSl (.slice aad n acap) ra * (LSl (.slice bad n bcap) rb * R)) wr)) (fun kv _ => n - (intOf kv).toNat)
  case atStart => exact ⟨0, Nat.zero_le _, rfl, HO0⟩
  case round =>
    clear HO0
    obtain ⟨k, hk, rfl, HO⟩ := hrel
    by_cases hlt : k < n
    rotate_left
    · go_wp2
      go_ret
      exact ⟨rfl, HO.out⟩
    obtain ⟨v1, hv1⟩ := rows_at (rs := ra) (k := k) (by rw [← HN.out]; exact hlt)
    obtain ⟨v2, hv2⟩ := rows_at (rs := rb) (k := k) (by rw [HNB.out]; exact hlt)
    have hkb : k < (rb.map (·.2)).length := by rw [List.length_map, HNB.out]; exact hlt
    obtain ⟨l, hl⟩ : ∃ l, l = (rb.map (·.2))[k]'hkb := ⟨_, rfl⟩
    have hla : (ra.map (·.2))[k]'(by rw [List.length_map, ← HN.out]; exact hlt) = l := by
      rw [hl]
      have h1 : (ra.map (·.2))[k]? = (rb.map (·.2))[k]? := by rw [HE.out]
      rw [List.getElem?_eq_getElem hkb, List.getElem?_eq_getElem (by rw [List.length_map, ← HN.out]; exact hlt)] at h1
      exact Option.some.inj h1
    rw [hla] at hv1
    rw [← hl] at hv2
    have hlI : ∀ x ∈ l, I64 x := HI.out l (by rw [hl]; exact List.getElem_mem _)
    obtain ⟨ab, aoff, ac, e1, _, _, ca, ia⟩ := HO.out.ls_row hv1 hlI
    obtain ⟨bb, boff, bc, e2, _, _, cb, ib⟩ := (HO.out.perm (show _ = LSl (.slice bad n bcap) rb * (LSl (.slice aad n acap) ra * R) by ac_rfl)).ls_row hv2 hlI
    rw [← HN.out] at e1
    rw [HNB.out] at e2
    cases e1
    cases e2
    have IA := Lib.hid ia
    have IB := Lib.hid ib
    have k0 : (0 : Int) ≤ (k : Int) := by omega
    have kN : (k : Int) < (n : Int) := by omega
    obtain ⟨w7, hw7⟩ : ∃ w7, w7 = wr := ⟨_, rfl⟩
    clear hv1 hv2 hl hla hlI ia ib hw7
    go_upto_region 6 with fail
    refine wp_region_planH 8 [] [(true, 0), (true, 1), (true, 2), (true, 3), (true, 4), (true, 5), (true, 6), (true, 7)] [8, 9] (fun wS => wS = wr.drew) (by kernel_rfl) (by kernel_rfl) (rfl) ?_
    simp only [pickH, pick, List.getElem?_cons_succ, List.getElem?_cons_zero, Option.toList, Option.map_some, List.cons_append, List.nil_append]
    repeat (refine wpPure_step ?_ rfl ?_ ?_; rotate_left; (focus (intro _; first | with_reducible rfl | (go_simp; done) | (go_simp; with_reducible rfl) | rfl)); go_simp)
    refine wpPure_nil ?_
    repeat (refine wpMix_read ?_ rfl ?_ ?_; rotate_left; (focus (intro _ hS; obtain rfl := hS; first | with_reducible rfl | (go_simp; done) | (go_simp; with_reducible rfl) | rfl)); go_simp)
    refine wpMix_nil ?_
    go_wp2_with fail
    refine (sameInts_any v1 v2 l l wr.drew (IA.out.heap rfl) (IB.out.heap rfl)).mono ?_
    rintro e w' ⟨rfl, n9, rfl⟩
    rw [show (l == l) = true from beq_iff_eq.2 rfl]
    go_wp2_with fail
    refine NoPanic.normal ?_
    go_wp2_with fail
    go_roundw
    case rel => exact ⟨k + 1, by omega, by go_num, Lib.hid (HO.out.same rfl rfl rfl rfl)⟩
    case measure => simp [intOf]; omega
end Go.Proofs.YtljlnhbndkdlcaaDoor
/- The reference's history: which event is wrong, and how. -/
namespace Go.Proofs.YtljlnhbndkdlcaaDoor
set_option linter.unusedVariables false
set_option linter.unusedSimpArgs false
open Go.RowKit
/-- Who said a word, or nobody. -/
def byOf (l : List Ev) (w : Int) : Int := if 0 ≤ saidAt l w then (evAt l (saidAt l w).toNat).1 else -1
theorem byOf_nil (w : Int) : byOf [] w = -1 := rfl
theorem whereI_snoc_old {α : Type} (p : α → Bool) (l : List α) (x : α) (h : 0 ≤ whereI p l) : whereI p (l ++ [x]) = whereI p l := by
  rcases whereI_cases p l with ⟨h1, _⟩ | ⟨k, hk, h1, h2, h3⟩
  · omega
  · rw [h1]
    refine whereI_hit p _ k (by simp; omega) (fun j hj => ?_) ?_
    · rw [List.getElem_append_left (by omega)]; exact h3 j hj
    · rw [List.getElem_append_left hk]; exact h2
theorem whereI_snoc_new {α : Type} (p : α → Bool) (l : List α) (x : α) (h : whereI p l < 0) : whereI p (l ++ [x]) = if p x = true then (l.length : Int) else -1 := by
  rcases whereI_cases p l with ⟨_, h2⟩ | ⟨k, hk, h1, _⟩
  · by_cases hx : p x = true
    · rw [if_pos hx]
      refine whereI_hit p _ l.length (by simp) (fun j hj => ?_) (by simpa using hx)
      rw [List.getElem_append_left hj]; exact h2 _ (List.getElem_mem hj)
    · rw [if_neg hx]
      refine whereI_miss p _ (fun j hj => ?_)
      rw [List.length_append, List.length_singleton] at hj
      by_cases hjl : j < l.length
      · rw [List.getElem_append_left hjl]; exact h2 _ (List.getElem_mem hjl)
      · have : j = l.length := by omega
        subst this
        simp only [List.getElem_concat_length]
        simpa using hx
  · omega
theorem evAt_snoc (l : List Ev) (x : Ev) (k : Nat) : evAt (l ++ [x]) k = if k < l.length then evAt l k else if k = l.length then x else (0, 0, 0) := by
  unfold evAt
  rw [List.getD_eq_getElem?_getD]
  by_cases h : k < l.length
  · rw [if_pos h, List.getElem?_append_left h, List.getD_eq_getElem?_getD]
  · rw [if_neg h, List.getElem?_append_right (by omega)]
    by_cases h2 : k = l.length
    · rw [if_pos h2]; subst h2; simp
    · rw [if_neg h2, List.getElem?_eq_none (by simp; omega)]; rfl
theorem saidAt_lt (l : List Ev) (w : Int) (h : 0 ≤ saidAt l w) : (saidAt l w).toNat < l.length := by
  unfold saidAt at h ⊢
  rcases whereI_cases (saysB w) l with ⟨h1, _⟩ | ⟨k, hk, h1, _⟩
  · omega
  · rw [h1]; simpa using hk
theorem byOf_snoc {l : List Ev} {x : Ev} (w : Int) (hr : evErr l x = 0) : byOf (l ++ [x]) w = if saysB w x = true then x.1 else byOf l w := by
  unfold byOf
  by_cases h0 : 0 ≤ saidAt l w
  · have e : saidAt (l ++ [x]) w = saidAt l w := whereI_snoc_old _ l x h0
    have hlt := saidAt_lt l w h0
    rw [e, if_pos h0, if_pos h0, evAt_snoc, if_pos hlt, if_neg]
    intro hs
    unfold saysB at hs
    simp only [Bool.and_eq_true, decide_eq_true_eq] at hs
    unfold evErr at hr
    by_cases h1 : rightB x = false
    · rw [if_pos h1] at hr; cases hr
    rw [if_neg h1, if_pos (.inl ⟨hs.1, by rw [hs.2]; exact h0⟩)] at hr
    cases hr
  · have e : saidAt (l ++ [x]) w = if saysB w x = true then (l.length : Int) else -1 := whereI_snoc_new _ l x (by unfold saidAt at h0; omega)
    rw [e, if_neg h0]
    by_cases hs : saysB w x = true
    · rw [if_pos hs, if_pos hs, if_pos (by omega), evAt_snoc, Int.toNat_natCast, if_neg (by omega), if_pos rfl]
    · rw [if_neg hs, if_neg hs, if_neg (by omega)]
theorem byOf_step {h : List Ev} {k : Nat} (w : Int) (hk : k < h.length) (hr : evErr (h.take k) (evAt h k) = 0) : byOf (h.take (k + 1)) w = if saysB w (evAt h k) = true then (evAt h k).1 else byOf (h.take k) w := by
  have hev : evAt h k = h[k] := by unfold evAt; rw [List.getD_eq_getElem?_getD, List.getElem?_eq_getElem hk]; rfl
  rw [hev] at hr ⊢
  rw [List.take_succ_eq_append_getElem hk]
  exact byOf_snoc w hr
theorem byOf_I64 {h : List Ev} (hg : ∀ e ∈ h, goodEv e) (w : Int) : I64 (byOf h w) := by
  unfold byOf
  by_cases h0 : 0 ≤ saidAt h w
  · rw [if_pos h0]
    have hlt := saidAt_lt h w h0
    unfold evAt
    rw [List.getD_eq_getElem?_getD, List.getElem?_eq_getElem hlt]
    exact (hg _ (List.getElem_mem hlt)).1
  · rw [if_neg h0]; unfold I64; omega
theorem saidAt_neg' {l : List Ev} {w : Int} : ¬ 0 ≤ saidAt l w → saidAt l w = -1 := fun h => by
  unfold saidAt at h ⊢
  rcases whereI_cases (saysB w) l with ⟨h1, _⟩ | ⟨k, hk, h1, _⟩
  · exact h1
  · omega
/-- A right event ahead has its who among the members. -/
theorem byOf_pos {l : List Ev} (hr : ∀ k (hk : k < l.length), rightB l[k] = true) (w : Int) : (0 ≤ byOf l w ↔ 0 ≤ saidAt l w) := by
  unfold byOf
  by_cases h0 : 0 ≤ saidAt l w
  · rw [if_pos h0]
    have hlt := saidAt_lt l w h0
    unfold evAt
    rw [List.getD_eq_getElem?_getD, List.getElem?_eq_getElem hlt]
    have := hr _ hlt
    unfold rightB isMember at this
    simp only [Bool.and_eq_true, decide_eq_true_eq] at this
    exact ⟨fun _ => h0, fun _ => this.1.1⟩
  · rw [if_neg h0]
    exact ⟨fun h => by omega, fun h => absurd h h0⟩
end Go.Proofs.YtljlnhbndkdlcaaDoor
/- The reference's table of befores, plainly: it is what the program's pasts are. -/
namespace Go.Proofs.YtljlnhbndkdlcaaDoor
set_option linter.unusedVariables false
set_option linter.unusedSimpArgs false
open Go.RowKit
/-- The table in the making: direct ones, as far as row i0 and column k0. -/
def tAll (h : List Ev) (i k : Nat) : Bool := decide (k < h.length) && (decide (i < k) && directB (evAt h i) (evAt h k))
def tIni (h : List Ev) (i0 k0 : Nat) (i k : Nat) : Bool := tAll h i k && (decide (i < i0) || (decide (i = i0) && decide (k < k0)))
def tStage (h : List Ev) : Nat → Nat → Nat → Bool
  | 0, i, k => tAll h i k
  | m + 1, i, k => tStage h m i k || (decide (i < m) && (decide (m < k) && (tStage h m i m && tStage h m m k)))
def tMid (h : List Ev) (m i0 k0 : Nat) (i k : Nat) : Bool := tStage h m i k || (decide (i < m) && (decide (m < k) && (tStage h m i m && tStage h m m k)) && (decide (i < i0) || (decide (i = i0) && decide (k < k0))))
theorem tStage_lt (h : List Ev) : ∀ m i k, tStage h m i k = true → k < h.length ∧ i < k
  | 0, i, k, e => by
    unfold tStage tAll at e
    simp only [Bool.and_eq_true, decide_eq_true_eq] at e
    exact ⟨e.1, e.2.1⟩
  | m + 1, i, k, e => by
    unfold tStage at e
    simp only [Bool.or_eq_true, Bool.and_eq_true, decide_eq_true_eq] at e
    rcases e with e | ⟨e1, e2, e3, e4⟩
    · exact tStage_lt h m i k e
    · exact ⟨(tStage_lt h m m k e4).1, by omega⟩
theorem tStage_bef (h : List Ev) : ∀ m i k, tStage h m i k = true → bef h k i = true
  | 0, i, k, e => by
    have hl := tStage_lt h 0 i k e
    unfold tStage tAll at e
    simp only [Bool.and_eq_true, decide_eq_true_eq] at e
    exact (bef_iff h k i hl.1).2 ⟨i, hl.2, e.2.2, .inl rfl⟩
  | m + 1, i, k, e => by
    unfold tStage at e
    simp only [Bool.or_eq_true, Bool.and_eq_true, decide_eq_true_eq] at e
    rcases e with e | ⟨e1, e2, e3, e4⟩
    · exact tStage_bef h m i k e
    · exact bef_trans h k m i (tStage_bef h m m k e4) (tStage_bef h m i m e3)
theorem tStage_mono (h : List Ev) (i k : Nat) : ∀ s t, s ≤ t → tStage h s i k = true → tStage h t i k = true := by
  intro s t hst e
  induction t with
  | zero =>
    have : s = 0 := by omega
    subst this; exact e
  | succ t ih =>
    by_cases hs : s = t + 1
    · subst hs; exact e
    · unfold tStage
      rw [ih (by omega), Bool.true_or]
theorem bef_tStage (h : List Ev) : ∀ k, k < h.length → ∀ i, bef h k i = true → ∀ s, k ≤ s → tStage h s i k = true := by
  intro k
  induction k using Nat.strongRecOn with
  | ind k ih =>
    intro hk i hb s hs
    obtain ⟨m, hm, hd, hc⟩ := (bef_iff h k i hk).1 hb
    have h0 : tStage h 0 m k = true := by
      unfold tStage tAll
      simp only [Bool.and_eq_true, decide_eq_true_eq]
      exact ⟨hk, hm, hd⟩
    rcases hc with rfl | hc
    · exact tStage_mono h m k 0 s (Nat.zero_le _) h0
    · have h1 := ih m hm (by omega) i hc m (Nat.le_refl _)
      have h2 := tStage_mono h m k 0 m (Nat.zero_le _) h0
      have hi := (tStage_lt h m i m h1).2
      refine tStage_mono h i k (m + 1) s (by omega) ?_
      unfold tStage
      rw [h1, h2]
      simp only [Bool.and_self, Bool.and_true, Bool.or_eq_true, Bool.and_eq_true, decide_eq_true_eq]
      exact .inr ⟨hi, hm⟩
theorem tStage_all (h : List Ev) (i k : Nat) : tStage h h.length i k = bef h k i := by
  rw [Bool.eq_iff_iff]
  refine ⟨tStage_bef h _ i k, fun hb => ?_⟩
  by_cases hk : k < h.length
  · exact bef_tStage h k hk i hb _ (by omega)
  · rw [bef_none h k i (by omega)] at hb; cases hb
/-! The tables, step by step -/
theorem tIni_zero (h : List Ev) (i k : Nat) : tIni h 0 0 i k = false := by unfold tIni; simp
theorem tIni_row (h : List Ev) (i0 i k : Nat) : tIni h i0 h.length i k = tIni h (i0 + 1) 0 i k := by
  unfold tIni tAll
  by_cases hk : k < h.length
  · rw [decide_eq_true hk]
    by_cases h1 : i < i0
    · rw [decide_eq_true h1, decide_eq_true (show i < i0 + 1 by omega)]; simp
    · by_cases h2 : i = i0
      · rw [decide_eq_false h1, decide_eq_true h2, decide_eq_true (show i < i0 + 1 by omega)]; simp
      · rw [decide_eq_false h1, decide_eq_false h2, decide_eq_false (show ¬ i < i0 + 1 by omega)]; simp
  · rw [decide_eq_false hk]; simp
theorem tIni_all (h : List Ev) (i k : Nat) : tIni h h.length 0 i k = tStage h 0 i k := by
  unfold tIni tStage
  by_cases hk : tAll h i k = true
  · have := tStage_lt h 0 i k hk
    rw [hk, decide_eq_true (show i < h.length by omega)]; simp
  · rw [Bool.eq_false_iff.2 hk]; simp
theorem tIni_step (h : List Ev) (i0 k0 i k : Nat) : tIni h i0 (k0 + 1) i k = if i = i0 ∧ k = k0 then tAll h i0 k0 else tIni h i0 k0 i k := by
  unfold tIni
  by_cases h1 : i = i0 ∧ k = k0
  · rw [if_pos h1, h1.1, h1.2]; simp
  · rw [if_neg h1]
    congr 2
    by_cases h2 : i = i0
    · rw [decide_eq_true h2, Bool.true_and, Bool.true_and]
      by_cases h3 : k < k0
      · rw [decide_eq_true h3, decide_eq_true (show k < k0 + 1 by omega)]
      · have : k ≠ k0 := fun e => h1 ⟨h2, e⟩
        rw [decide_eq_false h3, decide_eq_false (show ¬ k < k0 + 1 by omega)]
    · rw [decide_eq_false h2, Bool.false_and, Bool.false_and]
theorem tMid_zero (h : List Ev) (m i k : Nat) : tMid h m 0 0 i k = tStage h m i k := by unfold tMid; simp
theorem tMid_row (h : List Ev) (m i0 i k : Nat) : tMid h m i0 h.length i k = tMid h m (i0 + 1) 0 i k := by
  unfold tMid
  by_cases hk : k < h.length
  · rw [decide_eq_true hk]
    by_cases h1 : i < i0
    · rw [decide_eq_true h1, decide_eq_true (show i < i0 + 1 by omega)]; simp
    · by_cases h2 : i = i0
      · rw [decide_eq_false h1, decide_eq_true h2, decide_eq_true (show i < i0 + 1 by omega)]; simp
      · rw [decide_eq_false h1, decide_eq_false h2, decide_eq_false (show ¬ i < i0 + 1 by omega)]; simp
  · cases h3 : tStage h m m k
    · simp
    · exact absurd (tStage_lt h m m k h3).1 hk
theorem tMid_all (h : List Ev) (m i k : Nat) : tMid h m m 0 i k = tStage h (m + 1) i k := by
  unfold tMid
  conv => rhs; unfold tStage
  congr 1
  by_cases h1 : i < m
  · rw [decide_eq_true h1]; simp
  · rw [decide_eq_false h1]; simp
theorem tMid_step (h : List Ev) (m i0 k0 i k : Nat) (hi : i0 < m) (hk : m < k0) (h1 : tStage h m i0 m = true) : tMid h m i0 (k0 + 1) i k = if i = i0 ∧ k = k0 then (tMid h m i0 k0 i0 k0 || tStage h m m k0) else tMid h m i0 k0 i k := by
  unfold tMid
  by_cases h2 : i = i0 ∧ k = k0
  · rw [if_pos h2, h2.1, h2.2, h1]; simp [hi, hk]
  · rw [if_neg h2]
    congr 3
    by_cases h3 : i = i0
    · rw [decide_eq_true h3, Bool.true_and, Bool.true_and]
      by_cases h4 : k < k0
      · rw [decide_eq_true h4, decide_eq_true (show k < k0 + 1 by omega)]
      · have : k ≠ k0 := fun e => h2 ⟨h3, e⟩
        rw [decide_eq_false h4, decide_eq_false (show ¬ k < k0 + 1 by omega)]
    · rw [decide_eq_false h3, Bool.false_and, Bool.false_and]
theorem tMid_low (h : List Ev) (m i0 k0 i k : Nat) (hk : k ≤ m) : tMid h m i0 k0 i k = tStage h m i k := by
  unfold tMid
  rw [decide_eq_false (show ¬ m < k by omega)]; simp
theorem tMid_own (h : List Ev) (m i0 k0 k : Nat) : tMid h m i0 k0 m k = tStage h m m k := by
  unfold tMid
  rw [decide_eq_false (show ¬ m < m by omega)]; simp
theorem tMid_skip (h : List Ev) (m i0 i k : Nat) (h1 : tStage h m i0 m = false) : tMid h m i0 0 i k = tMid h m (i0 + 1) 0 i k := by
  unfold tMid
  by_cases h2 : i = i0
  · rw [h2, h1]; simp
  · by_cases h3 : i < i0
    · rw [decide_eq_true h3, decide_eq_true (show i < i0 + 1 by omega)]; simp
    · rw [decide_eq_false h3, decide_eq_false (show ¬ i < i0 + 1 by omega)]; simp
theorem tMid_first (h : List Ev) (m i0 i k : Nat) : tMid h m i0 (m + 1) i k = tMid h m i0 0 i k := by
  unfold tMid
  by_cases hk : m < k
  · rw [decide_eq_false (show ¬ k < m + 1 by omega)]; simp
  · rw [decide_eq_false hk]; simp
theorem tIni_first (h : List Ev) (i0 i k : Nat) : tIni h i0 (i0 + 1) i k = tIni h i0 0 i k := by
  unfold tIni
  cases ht : tAll h i k
  · simp
  · have h1 := (tStage_lt h 0 i k ht).2
    by_cases h2 : i = i0
    · rw [decide_eq_false (show ¬ k < i0 + 1 by omega)]; simp
    · rw [decide_eq_false h2]; simp
end Go.Proofs.YtljlnhbndkdlcaaDoor
/- The reference's table of who is ahead of whom: [60][60]bool, by value. -/
namespace Go.Proofs.YtljlnhbndkdlcaaDoor
set_option linter.unusedVariables false
set_option linter.unusedSimpArgs false
open Go.RowKit
def cells60 (f : Nat → Nat → Bool) : Array Value := ((List.range 3600).map fun j => Value.bool (f (j / 60) (j % 60))).toArray
theorem cells60_size (f : Nat → Nat → Bool) : (cells60 f).size = 3600 := by simp [cells60]
theorem cells60_get (f : Nat → Nat → Bool) {i k : Nat} (hi : i < 60) (hk : k < 60) : (cells60 f)[i * 60 + k]? = some (.bool (f i k)) := by
  unfold cells60
  rw [List.getElem?_toArray, List.getElem?_map, List.getElem?_range (by omega)]
  simp only [Option.map_some]
  rw [show (i * 60 + k) / 60 = i by omega, show (i * 60 + k) % 60 = k by omega]
theorem cells60_set (f g : Nat → Nat → Bool) {i k : Nat} (hi : i < 60) (hk : k < 60) (v : Bool) (hg : ∀ a b, g a b = if a = i ∧ b = k then v else f a b) : (cells60 f).setIfInBounds (i * 60 + k) (.bool v) = cells60 g := by
  apply Array.ext_getElem?
  intro j
  rw [Array.getElem?_setIfInBounds]
  by_cases hj : j < 3600
  · have e1 : j = (j / 60) * 60 + j % 60 := by omega
    have h1 := cells60_get g (i := j / 60) (k := j % 60) (by omega) (by omega)
    have h2 := cells60_get f (i := j / 60) (k := j % 60) (by omega) (by omega)
    rw [← e1] at h1 h2
    rw [h1, h2, hg, cells60_size]
    by_cases e : i * 60 + k = j
    · rw [if_pos e, if_pos (by omega), if_pos ⟨by omega, by omega⟩]
    · rw [if_neg e, if_neg (fun hh => e (by omega))]
  · rw [if_neg (by omega), Array.getElem?_eq_none (by rw [cells60_size]; omega), Array.getElem?_eq_none (by rw [cells60_size]; omega)]
def T60 (b : Nat) (f : Nat → Nat → Bool) : HProp := blk b (.cells (cells60 f) 72 (0, 0))
theorem Own.t60 {w0 w : World} {b : Nat} {f : Nat → Nat → Bool} {R : HProp} (h : Own w0 (T60 b f * R) w) {i k : Nat} (hi : i < 60) (hk : k < 60) : w.cell? ⟨b, i * 60 + k, none⟩ = some (.bool (f i k)) := (Own.cell h _).trans (cells60_get f hi hk)
theorem Own.t60_free {w0 w : World} {b : Nat} {f : Nat → Nat → Bool} {R : HProp} (h : Own w0 (T60 b f * R) w) (i : Nat) (s : Option Nat) : w.frozen? ⟨b, i, s⟩ = false := Own.free h i s
theorem Own.t60_set {w0 w : World} {b : Nat} {f g : Nat → Nat → Bool} {R : HProp} (h : Own w0 (T60 b f * R) w) {i k : Nat} (hi : i < 60) (hk : k < 60) (v : Bool) (hg : ∀ a b, g a b = if a = i ∧ b = k then v else f a b) : Own w0 (T60 b g * R) (w.setCell ⟨b, i * 60 + k, none⟩ (.bool v)) := by
  have h1 := Own.setCell (i := i * 60 + k) (v := .bool v) h
  rw [cells60_set f g hi hk v hg] at h1
  exact h1
/-- A whole array stored into a block. -/
theorem wp_store_row {P : Program} {o : Oper} {a : Act} {w : World} {K : Act → World → Prop} {Q : Exit → Act → World → Prop} (ty : TypeId) (x y : Operand) (ho : o.op = .store ty x y) (hd : o.dst = none)
    (g : Nat) (hx : a.eval x = .pointer (some ⟨g, 0, none⟩)) (t : TypeId) (old cs : Array Value) (hy : a.eval y = .agg cs) (hg : w.heap[g]? = some (.cells old t (0, 0)))
    (hi : (P.info? ty).map (·.size) = some cs.size) (hs : old.size = cs.size) (h1 : cs.all (·.oneCell') = true)
    (h : K a (w.setRow g cs)) : o.wp P a w K Q := by
  unfold Oper.wp execOp
  simp only [ho, hx, hy, Instr.storeAt, Instr.sureAddr, Sem.run_bind, Sem.run_pure, Result.andThen_ok, run_storeVar_row w g t ty old cs hg hi hs h1, Oper.upon_skip, hd]
  exact h
theorem Own.setRow {w0 w : World} {b : Nat} {cs cs' : Array Value} {t : TypeId} {R : HProp} (h : Own w0 (blk b (.cells cs t (0, 0)) * R) w) : Own w0 (blk b (.cells cs' t (0, 0)) * R) (w.setRow b cs') :=
  h.set rfl rfl rfl (by simp) (fun k _ hk => setRow_other w b k cs' hk) (setRow_heap w b cs cs' t (0, 0) h.blk_at.1)
theorem cells60_one (f : Nat → Nat → Bool) : (cells60 f).all (·.oneCell') = true := by
  rw [Array.all_eq_true_iff_forall_mem]
  intro v hv
  unfold cells60 at hv
  rw [List.mem_toArray] at hv
  obtain ⟨j, _, rfl⟩ := List.mem_map.1 hv
  rfl
theorem info60 (f : Nat → Nat → Bool) : (Tryd.prog.info? 72).map (·.size) = some (cells60 f).size := by
  rw [cells60_size]; kernel_rfl
theorem und60 : Tryd.prog.underlying 72 = some (.array 60 71) := by kernel_rfl
theorem tAll_at (h : List Ev) {i k n : Nat} (hn : h.length = n) (hk : k < n) (hi : i < k) : tAll h i k = directB (evAt h i) (evAt h k) := by
  unfold tAll
  rw [decide_eq_true (by omega), decide_eq_true hi]; simp
noncomputable def rbRow_code : Code := ((Tryd.f38.body.bind (findBlock 2)).getD .skip)
set_option maxRecDepth 1000000 in
set_option maxHeartbeats 4000000 in
theorem rbRow {Q : Exit → Act → World → Prop} {u1 u2 u6 u7 u8 u9 u10 u11 u12 u13 u14 u15 u16 u17 u18 u19 u20 u21 u22 u23 u24 u25 u26 u27 u28 u29 u30 u31 u32 u33 u34 u35 u36 u37 u38 u39 u40 u41 u42 u43 u44 u45 u46 u47 u48 u49 u50 u51 u52 u53 u54 u55 u56 u57 u58 u59 u60 u61 u62 u63 u64 u65 u66 u67 u68 u69 u70 u71 u72 u73 u74 u75 u76 u77 u78 u79 u80 u81 u82 u83 u84 u85 u86 u87 u88 u89 u90 u91 u92 u93 u94 u95 u96 u97 u98 u99 u100 u101 u102 : Value} {w1 : World} (w : World) (R : HProp) (tb n i hcap : Nat) (had : Option Addr) (hs : List Ev) (hi : i < n) (hn : n ≤ 60) (hc1 : n ≤ hcap) (hc2 : hcap ≤ 9223372036854775807) (HLN : Hid (hs.length = n)) (HV : Hid (ReadsE w R (.slice had n hcap) hs)) (HP : Hid (Own w (T60 tb (tIni hs i 0) * R) w1))
    (hK : ∀ (v5 v17 v18 v19 v20 v21 v22 v23 v24 v25 v26 v27 v28 v29 v30 v31 v32 v33 v34 v35 v36 v37 v38 v39 v40 v41 v42 v43 v44 v45 v46 v47 v48 v49 v50 v51 v52 v53 v54 v55 v56 v57 v58 v59 v60 v61 v62 v63 v64 v65 v66 : Value) (wx : World), (Own w (T60 tb (tIni hs i n) * R) wx) → Q .normal ⟨List.toArray ((.slice had n hcap) :: u1 :: u2 :: (.pointer (some ⟨tb, 0, none⟩)) :: (.int .i64 (i : Int)) :: v5 :: u6 :: u7 :: u8 :: u9 :: u10 :: u11 :: u12 :: u13 :: u14 :: u15 :: u16 :: v17 :: v18 :: v19 :: v20 :: v21 :: v22 :: v23 :: v24 :: v25 :: v26 :: v27 :: v28 :: v29 :: v30 :: v31 :: v32 :: v33 :: v34 :: v35 :: v36 :: v37 :: v38 :: v39 :: v40 :: v41 :: v42 :: v43 :: v44 :: v45 :: v46 :: v47 :: v48 :: v49 :: v50 :: v51 :: v52 :: v53 :: v54 :: v55 :: v56 :: v57 :: v58 :: v59 :: v60 :: v61 :: v62 :: v63 :: v64 :: v65 :: v66 :: u67 :: u68 :: u69 :: u70 :: u71 :: u72 :: u73 :: u74 :: u75 :: u76 :: u77 :: u78 :: u79 :: u80 :: u81 :: u82 :: u83 :: u84 :: u85 :: u86 :: u87 :: u88 :: u89 :: u90 :: u91 :: u92 :: u93 :: u94 :: u95 :: u96 :: u97 :: u98 :: u99 :: u100 :: u101 :: u102 :: []), []⟩ wx) :
    Code.wp Tryd.prog rbRow_code Q ⟨List.toArray ((.slice had n hcap) :: u1 :: u2 :: (.pointer (some ⟨tb, 0, none⟩)) :: (.int .i64 (i : Int)) :: (.int .i64 ((i : Int) + 1)) :: u6 :: u7 :: u8 :: u9 :: u10 :: u11 :: u12 :: u13 :: u14 :: u15 :: u16 :: u17 :: u18 :: u19 :: u20 :: u21 :: u22 :: u23 :: u24 :: u25 :: u26 :: u27 :: u28 :: u29 :: u30 :: u31 :: u32 :: u33 :: u34 :: u35 :: u36 :: u37 :: u38 :: u39 :: u40 :: u41 :: u42 :: u43 :: u44 :: u45 :: u46 :: u47 :: u48 :: u49 :: u50 :: u51 :: u52 :: u53 :: u54 :: u55 :: u56 :: u57 :: u58 :: u59 :: u60 :: u61 :: u62 :: u63 :: u64 :: u65 :: u66 :: u67 :: u68 :: u69 :: u70 :: u71 :: u72 :: u73 :: u74 :: u75 :: u76 :: u77 :: u78 :: u79 :: u80 :: u81 :: u82 :: u83 :: u84 :: u85 :: u86 :: u87 :: u88 :: u89 :: u90 :: u91 :: u92 :: u93 :: u94 :: u95 :: u96 :: u97 :: u98 :: u99 :: u100 :: u101 :: u102 :: []), []⟩ w1 := by
  conv => arg 2; whnf
  have HK := Lib.hid hK
  clear hK
  go_wp2_with fail
  go_loopw [5] (fun kv wr => ∃ k : Nat, k ≤ n ∧ i < k ∧ kv = .int .i64 k ∧ Hid (Own w (T60 tb (tIni hs i k) * R) wr)) (fun kv _ => n - (intOf kv).toNat)
  case atStart => exact ⟨i + 1, by omega, by omega, by go_num, Lib.hid (by have := HP.out; rw [show tIni hs i (i + 1) = tIni hs i 0 from funext fun a => funext fun b => tIni_first hs i a b]; exact this)⟩
  case round =>
    clear HP
    obtain ⟨k, hk, hik, rfl, HO⟩ := hrel
    by_cases hlt : k < n
    rotate_left
    · have hkn : k = n := by omega
      subst hkn
      go_wp2_with fail
      apply HK.out
      exact HO.out
    have hkl : k < hs.length := by rw [HLN.out]; exact hlt
    have hil : i < hs.length := by rw [HLN.out]; exact hi
    obtain ⟨aa, pb, po, ps, rfl, hea, hcs, _⟩ := HV.out.more.at HO.out k hkl
    obtain ⟨aa', qb, qo, qs, ea, heb, hcs2, _⟩ := HV.out.more.at HO.out i hil
    injection ea with ea
    subst ea
    have hta := tAll_at hs HLN.out hlt hik
    obtain ⟨y, hy⟩ : ∃ y, y = evAt hs k := ⟨_, rfl⟩
    obtain ⟨x, hx⟩ : ∃ x, x = evAt hs i := ⟨_, rfl⟩
    rw [← hy] at hcs
    rw [← hx] at hcs2
    rw [← hx, ← hy] at hta
    obtain ⟨c0, c1, c2⟩ := hcs _ HO.out
    obtain ⟨d0, d1, d2⟩ := hcs2 _ HO.out
    obtain ⟨x1, x2, x3⟩ := x
    obtain ⟨y1, y2, y3⟩ := y
    simp only at c0 c1 c2 d0 d1 d2
    obtain ⟨D, hD⟩ : ∃ D, D = directB (x1, x2, x3) (y1, y2, y3) := ⟨_, rfl⟩
    rw [← hD] at hta
    have hD2 : D = (decide (x1 = y1) || (decide (y2 = 3) && (decide (x2 = 2) && decide (x3 = y3)))) := hD
    have i0 : (0 : Int) ≤ (k : Int) := by omega
    have i1 : (k : Int) < (n : Int) := by omega
    have j0 : (0 : Int) ≤ (i : Int) := by omega
    have j1 : (i : Int) < (n : Int) := by omega
    have i6 : (k : Int) < 60 := by omega
    have j6 : (i : Int) < 60 := by omega
    clear hD
    have HCS := Lib.hid hcs; have HCS2 := Lib.hid hcs2; have HX := Lib.hid hx; have HY := Lib.hid hy; have HTA := Lib.hid hta; have HD2 := Lib.hid hD2
    clear hcs hcs2 hx hy hta hD2
    go_wp2_with fail
    go_upto_region 8 with fail
    go_cut [62] from 23 to 62 (fun c wx => c = .bool D ∧ Own w (T60 tb (tIni hs i k) * R) wx)
    case first =>
      by_cases a1 : x1 = y1
      · have hd : D = true := by rw [HD2.out]; simp [a1]
        subst a1
        have HD := Lib.hid hd
        clear hd
        go_wp2_with fail
        go_quiet (fail)
        go_wp2_with fail
        go_meet
        exact ⟨by rw [HD.out], HO.out.drewN _⟩
      have t1 : (x1 == y1) = false := by rw [beq_eq_false_iff_ne]; exact a1
      by_cases a2 : x2 = 2
      rotate_left
      · have t2 : (x2 == 2) = false := by rw [beq_eq_false_iff_ne]; exact a2
        have hd : D = false := by rw [HD2.out]; simp [a1, a2]
        have HD := Lib.hid hd; have A1 := Lib.hid a1; have A2 := Lib.hid a2
        clear hd a1 a2
        go_wp2_with fail
        go_quiet (fail)
        go_wp2_with fail
        go_meet
        exact ⟨by rw [HD.out], HO.out.drewN _⟩
      subst a2
      by_cases a3 : y2 = 3
      rotate_left
      · have t2 : (y2 == 3) = false := by rw [beq_eq_false_iff_ne]; exact a3
        have hd : D = false := by rw [HD2.out]; simp [a1, a3]
        have HD := Lib.hid hd; have A1 := Lib.hid a1; have A3 := Lib.hid a3
        clear hd a1 a3
        go_wp2_with fail
        go_quiet (fail)
        go_wp2_with fail
        go_meet
        exact ⟨by rw [HD.out], HO.out.drewN _⟩
      subst a3
      by_cases a4 : x3 = y3
      · have hd : D = true := by rw [HD2.out]; simp [a1, a4]
        subst a4
        have HD := Lib.hid hd; have A1 := Lib.hid a1
        clear hd a1
        go_wp2_with fail
        go_quiet (fail)
        go_wp2_with fail
        go_meet
        exact ⟨by rw [HD.out], HO.out.drewN _⟩
      · have t4 : (x3 == y3) = false := by rw [beq_eq_false_iff_ne]; exact a4
        have hd : D = false := by rw [HD2.out]; simp [a1, a4]
        have HD := Lib.hid hd; have A1 := Lib.hid a1; have A4 := Lib.hid a4
        clear hd a1 a4
        go_wp2_with fail
        go_quiet (fail)
        go_wp2_with fail
        go_meet
        exact ⟨by rw [HD.out], HO.out.drewN _⟩
    case rest =>
    obtain ⟨rfl, ho⟩ := hcut
    have HO2 := Lib.hid ho
    clear ho HO c0 c1 c2 d0 d1 d2
    have b0 := HO2.out.t60 (i := i) (k := k) (by omega) (by omega)
    have b1 := HO2.out.t60_free (i * 60 + k) none
    cases D
    · have hsame : tIni hs i k = tIni hs i (k + 1) := by
        funext a b
        rw [tIni_step]
        by_cases e : a = i ∧ b = k
        · rw [if_pos e, HTA.out, e.1, e.2]; unfold tIni; simp
        · rw [if_neg e]
      have HO3 : Hid (Own w (T60 tb (tIni hs i (k + 1)) * R) wc) := Lib.hid (by rw [← hsame]; exact HO2.out)
      clear hsame
      go_wp2_with fail
      go_roundw
      case rel => exact ⟨k + 1, by omega, by omega, by go_num, HO3⟩
      case measure => simp [intOf]; omega
    · have HO3 := Lib.hid (HO2.out.t60_set (g := tIni hs i (k + 1)) (i := i) (k := k) (by omega) (by omega) true (fun a b => by rw [tIni_step, HTA.out]))
      go_wp2_with fail
      go_roundw
      case rel => exact ⟨k + 1, by omega, by omega, by go_num, HO3⟩
      case measure => simp [intOf]; omega
noncomputable def rbIni_code : Code := ((Tryd.f38.body.bind (findBlock 0)).getD .skip)
set_option maxRecDepth 1000000 in
set_option maxHeartbeats 4000000 in
theorem rbIni {Q : Exit → Act → World → Prop} {u1 u2 u5 u6 u7 u8 u9 u10 u11 u12 u13 u14 u15 u16 u17 u18 u19 u20 u21 u22 u23 u24 u25 u26 u27 u28 u29 u30 u31 u32 u33 u34 u35 u36 u37 u38 u39 u40 u41 u42 u43 u44 u45 u46 u47 u48 u49 u50 u51 u52 u53 u54 u55 u56 u57 u58 u59 u60 u61 u62 u63 u64 u65 u66 u67 u68 u69 u70 u71 u72 u73 u74 u75 u76 u77 u78 u79 u80 u81 u82 u83 u84 u85 u86 u87 u88 u89 u90 u91 u92 u93 u94 u95 u96 u97 u98 u99 u100 u101 u102 : Value} {w1 : World} (w : World) (R : HProp) (tb n hcap : Nat) (had : Option Addr) (hs : List Ev) (hn : n ≤ 60) (hc1 : n ≤ hcap) (hc2 : hcap ≤ 9223372036854775807) (HLN : Hid (hs.length = n)) (HV : Hid (ReadsE w R (.slice had n hcap) hs)) (HP : Hid (Own w (T60 tb (tIni hs 0 0) * R) w1))
    (hK : ∀ (v4 v5 v9 v10 v11 v12 v13 v14 v15 v16 v17 v18 v19 v20 v21 v22 v23 v24 v25 v26 v27 v28 v29 v30 v31 v32 v33 v34 v35 v36 v37 v38 v39 v40 v41 v42 v43 v44 v45 v46 v47 v48 v49 v50 v51 v52 v53 v54 v55 v56 v57 v58 v59 v60 v61 v62 v63 v64 v65 v66 : Value) (wx : World), (Own w (T60 tb (tStage hs 0) * R) wx) → Q .normal ⟨List.toArray ((.slice had n hcap) :: u1 :: u2 :: (.pointer (some ⟨tb, 0, none⟩)) :: v4 :: v5 :: u6 :: u7 :: u8 :: v9 :: v10 :: v11 :: v12 :: v13 :: v14 :: v15 :: v16 :: v17 :: v18 :: v19 :: v20 :: v21 :: v22 :: v23 :: v24 :: v25 :: v26 :: v27 :: v28 :: v29 :: v30 :: v31 :: v32 :: v33 :: v34 :: v35 :: v36 :: v37 :: v38 :: v39 :: v40 :: v41 :: v42 :: v43 :: v44 :: v45 :: v46 :: v47 :: v48 :: v49 :: v50 :: v51 :: v52 :: v53 :: v54 :: v55 :: v56 :: v57 :: v58 :: v59 :: v60 :: v61 :: v62 :: v63 :: v64 :: v65 :: v66 :: u67 :: u68 :: u69 :: u70 :: u71 :: u72 :: u73 :: u74 :: u75 :: u76 :: u77 :: u78 :: u79 :: u80 :: u81 :: u82 :: u83 :: u84 :: u85 :: u86 :: u87 :: u88 :: u89 :: u90 :: u91 :: u92 :: u93 :: u94 :: u95 :: u96 :: u97 :: u98 :: u99 :: u100 :: u101 :: u102 :: []), []⟩ wx) :
    Code.wp Tryd.prog rbIni_code Q ⟨List.toArray ((.slice had n hcap) :: u1 :: u2 :: (.pointer (some ⟨tb, 0, none⟩)) :: (.int .i64 0) :: u5 :: u6 :: u7 :: u8 :: u9 :: u10 :: u11 :: u12 :: u13 :: u14 :: u15 :: u16 :: u17 :: u18 :: u19 :: u20 :: u21 :: u22 :: u23 :: u24 :: u25 :: u26 :: u27 :: u28 :: u29 :: u30 :: u31 :: u32 :: u33 :: u34 :: u35 :: u36 :: u37 :: u38 :: u39 :: u40 :: u41 :: u42 :: u43 :: u44 :: u45 :: u46 :: u47 :: u48 :: u49 :: u50 :: u51 :: u52 :: u53 :: u54 :: u55 :: u56 :: u57 :: u58 :: u59 :: u60 :: u61 :: u62 :: u63 :: u64 :: u65 :: u66 :: u67 :: u68 :: u69 :: u70 :: u71 :: u72 :: u73 :: u74 :: u75 :: u76 :: u77 :: u78 :: u79 :: u80 :: u81 :: u82 :: u83 :: u84 :: u85 :: u86 :: u87 :: u88 :: u89 :: u90 :: u91 :: u92 :: u93 :: u94 :: u95 :: u96 :: u97 :: u98 :: u99 :: u100 :: u101 :: u102 :: []), []⟩ w1 := by
  conv => arg 2; whnf
  have HK := Lib.hid hK
  clear hK
  go_wp2_with fail
  go_loopw [4] (fun iv wr => ∃ i : Nat, i ≤ n ∧ iv = .int .i64 i ∧ Hid (Own w (T60 tb (tIni hs i 0) * R) wr)) (fun iv _ => n - (intOf iv).toNat)
  case atStart => exact ⟨0, Nat.zero_le _, rfl, HP⟩
  case round =>
    clear HP
    obtain ⟨i, hi, rfl, HO⟩ := hrel
    by_cases hlt : i < n
    rotate_left
    · have hin : i = n := by omega
      subst hin
      have HO2 : Hid (Own w (T60 tb (tStage hs 0) * R) wr) := Lib.hid (by
        rw [show tStage hs 0 = tIni hs i 0 from funext fun a => funext fun b => by rw [← tIni_all, HLN.out]]; exact HO.out)
      go_wp2_with fail
      apply HK.out
      exact HO2.out
    go_upto_block 2 with fail
    refine rbRow w R tb n i hcap had hs hlt hn hc1 hc2 HLN HV HO ?_
    intros
    rename_i wq hcut
    have HO2 : Hid (Own w (T60 tb (tIni hs (i + 1) 0) * R) wq) := Lib.hid (by
      rw [show tIni hs (i + 1) 0 = tIni hs i n from funext fun a => funext fun b => by rw [← tIni_row, HLN.out]]; exact hcut)
    clear hcut HO
    go_wp2_with fail
    go_roundw
    case rel => exact ⟨i + 1, by omega, by go_num, HO2⟩
    case measure => simp [intOf]; omega
end Go.Proofs.YtljlnhbndkdlcaaDoor
