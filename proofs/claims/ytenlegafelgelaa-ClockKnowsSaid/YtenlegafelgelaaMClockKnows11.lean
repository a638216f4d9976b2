/- Numbers, plainly: they rise along what is ahead; an order of all events. -/
import Derived.Test.YtenlegafelgelaaMClockKnows10
import Derived.Test.YtenlegafelgelaaMClockKnows5
import Derived.Test.YtenlegafelgelaaMClockKnows2
import Derived.Test.YtenlegafelgelaaMClockKnows7
namespace Go.Proofs.Ytenlegafelgelaa
set_option linter.unusedVariables false
set_option linter.unusedSimpArgs false
open Go.RowKit
def nAt (h : List Ev) (i : Nat) : Int := (numsR h).getD i 0
theorem numState_pre (h : List Ev) : ∀ (d k i : Nat), i < k → (numState h (k + d)).1.getD i 0 = (numState h k).1.getD i 0
  | 0, _, _, _ => rfl
  | d + 1, k, i, hi => by
    rw [← numState_pre h d k i hi]
    show ((numState h (k + d)).1 ++ [_]).getD i 0 = _
    rw [List.getD_eq_getElem?_getD, List.getD_eq_getElem?_getD, List.getElem?_append_left (by rw [(numState_len h (k + d)).1]; omega)]
theorem nAt_state {h : List Ev} {i k : Nat} (hi : i < k) (hk : k ≤ h.length) : nAt h i = (numState h k).1.getD i 0 := by
  obtain ⟨d, hd⟩ : ∃ d, h.length = k + d := ⟨h.length - k, by omega⟩
  unfold nAt numsR
  rw [hd]
  exact numState_pre h d k i hi
theorem nAt_next {h : List Ev} {k : Nat} (hk : k < h.length) : nAt h k = numNext h k (numState h k) := by
  rw [nAt_state (Nat.lt_succ_self k) hk]
  show ((numState h k).1 ++ [_]).getD k 0 = _
  rw [List.getD_eq_getElem?_getD, List.getElem?_append_right (by rw [(numState_len h k).1]; omega), (numState_len h k).1, Nat.sub_self]; rfl
/-- What a member had last is its greatest: it rises. -/
theorem num_last {h : List Ev} (hr : RightH h) : ∀ k, k ≤ h.length → ∀ w : Nat, w < 5 →
    ((∀ j, j < k → (evAt h j).1 ≠ (w : Int)) ∧ (numState h k).2.getD w 0 = 0) ∨ ∃ j, j < k ∧ (evAt h j).1 = (w : Int) ∧ (numState h k).2.getD w 0 = nAt h j ∧ ∀ i, i < k → (evAt h i).1 = (w : Int) → nAt h i ≤ nAt h j
  | 0, _, w, hw => .inl ⟨fun j hj => by omega, by
      match w, hw with
      | 0, _ => rfl
      | 1, _ => rfl
      | 2, _ => rfl
      | 3, _ => rfl
      | 4, _ => rfl⟩
  | k + 1, hk, w, hw => by
    have ih := num_last hr k (by omega) w hw
    have hwho := hr.who (show k < h.length by omega)
    have hlen := (numState_len h k).2
    have hset : (numState h (k + 1)).2.getD w 0 = if (evAt h k).1 = (w : Int) then nAt h k else (numState h k).2.getD w 0 := by
      show ((numState h k).2.set (evAt h k).1.toNat (numNext h k (numState h k))).getD w 0 = _
      rw [List.getD_eq_getElem?_getD, List.getElem?_set]
      by_cases e : (evAt h k).1 = (w : Int)
      · rw [if_pos e, if_pos (by omega), if_pos (by omega), nAt_next (by omega)]; rfl
      · rw [if_neg e, if_neg (by omega), List.getD_eq_getElem?_getD]
    rw [hset]
    by_cases e : (evAt h k).1 = (w : Int)
    · right
      rw [if_pos e]
      refine ⟨k, by omega, e, rfl, fun i hi hiw => ?_⟩
      by_cases e2 : i = k
      · subst e2; exact Int.le_refl _
      rw [nAt_next (show k < h.length by omega)]
      have hge : (numState h k).2.getD (evAt h k).1.toNat 0 ≤ numNext h k (numState h k) := by
        unfold numNext
        split
        · rw [Int.max_def]; split <;> omega
        · omega
      rw [show (evAt h k).1.toNat = w by omega] at hge
      rcases ih with ⟨h1, _⟩ | ⟨j, _, _, h3, h4⟩
      · exact absurd hiw (h1 i (by omega))
      · have := h4 i (by omega) hiw
        rw [h3] at hge
        omega
    · rw [if_neg e]
      rcases ih with ⟨h1, h2⟩ | ⟨j, h1, h2, h3, h4⟩
      · exact .inl ⟨fun j hj => by
          by_cases e2 : j = k
          · subst e2; exact e
          · exact h1 j (by omega), h2⟩
      · exact .inr ⟨j, by omega, h2, h3, fun i hi hiw => by
          by_cases e2 : i = k
          · subst e2; exact absurd hiw e
          · exact h4 i (by omega) hiw⟩
/-- The number of an event: one more than the greatest of those straight ahead of it. -/
theorem num_direct {h : List Ev} (hr : RightH h) {m k : Nat} (hm : m < k) (hk : k < h.length) (hd : directB (evAt h m) (evAt h k) = true) : nAt h m < nAt h k := by
  have hwho := hr.who hk
  obtain ⟨w, hw⟩ : ∃ w : Nat, (evAt h k).1 = (w : Int) := ⟨(evAt h k).1.toNat, by omega⟩
  rw [nAt_next hk]
  unfold directB at hd
  simp only [Bool.or_eq_true, Bool.and_eq_true, decide_eq_true_eq] at hd
  have hwt : (evAt h k).1.toNat = w := by omega
  rcases hd with hd | ⟨h3, h2, hwd⟩
  · have hl := num_last hr k (by omega) w (by omega)
    have : nAt h m ≤ (numState h k).2.getD w 0 := by
      rcases hl with ⟨h1, _⟩ | ⟨j, _, _, h3, h4⟩
      · exact absurd (hd.trans hw) (h1 m hm)
      · rw [h3]; exact h4 m hm (hd.trans hw)
    unfold numNext
    rw [hwt]
    split
    · rw [Int.max_def]; split <;> omega
    · omega
  · obtain ⟨i, hi, hs, h6, h7, _⟩ := hr.said hk h3
    have hij : i = m := hr.once (by omega) (by omega) h6 h2 (by rw [h7, hwd])
    subst hij
    have : nAt h i = (numState h k).1.getD i 0 := nAt_state hi (by omega)
    unfold numNext
    rw [if_pos h3, hs, Int.toNat_natCast, ← this, Int.max_def]
    split <;> omega
theorem num_bef {h : List Ev} (hr : RightH h) : ∀ (k i : Nat), k < h.length → bef h k i = true → nAt h i < nAt h k := by
  intro k
  induction k using Nat.strongRecOn with
  | ind k ih =>
    intro i hk hb
    obtain ⟨m, hm, hd, h3⟩ := (bef_iff h k i hk).1 hb
    have h1 := num_direct hr hm hk hd
    rcases h3 with rfl | h3
    · exact h1
    · have := ih m hm i (by omega) h3
      omega
theorem num_same {h : List Ev} (hr : RightH h) {i k : Nat} (hi : i < h.length) (hk : k < h.length) (hn : nAt h i = nAt h k) (hw : (evAt h i).1 = (evAt h k).1) : i = k := by
  rcases Nat.lt_trichotomy i k with h1 | h1 | h1
  · have := num_direct hr h1 hk (by unfold directB; simp [hw])
    omega
  · exact h1
  · have := num_direct hr h1 hi (by unfold directB; simp [hw])
    omega
/-! ### The order -/
def ordLt (h : List Ev) (a b : Nat) : Prop := nAt h a < nAt h b ∨ (nAt h a = nAt h b ∧ (evAt h a).1 < (evAt h b).1)
theorem ordLt_irr (h : List Ev) (a : Nat) : ¬ ordLt h a a := by unfold ordLt; omega
theorem ordLt_trans {h : List Ev} {a b c : Nat} (h1 : ordLt h a b) (h2 : ordLt h b c) : ordLt h a c := by unfold ordLt at *; omega
theorem ordLt_tri {h : List Ev} (hr : RightH h) {a b : Nat} (ha : a < h.length) (hb : b < h.length) : ordLt h a b ∨ a = b ∨ ordLt h b a := by
  by_cases e : nAt h a = nAt h b ∧ (evAt h a).1 = (evAt h b).1
  · exact .inr (.inl (num_same hr ha hb e.1 e.2))
  · unfold ordLt; omega
/-- All events, sorted. -/
structure OrdL (h : List Ev) (l : List Nat) : Prop where
  perm : l.Perm (List.range h.length)
  sort : l.Pairwise (ordLt h)
theorem OrdL.eq {h : List Ev} {a b : List Nat} (ha : OrdL h a) (hb : OrdL h b) : a = b :=
  (ha.perm.trans hb.perm.symm).eq_of_pairwise (le := ordLt h) (fun _ _ _ _ h1 h2 => absurd (ordLt_trans h1 h2) (ordLt_irr h _)) ha.sort hb.sort
theorem OrdL.mem {h : List Ev} {l : List Nat} (ho : OrdL h l) {i : Nat} (hi : i < h.length) : i ∈ l := ho.perm.mem_iff.2 (List.mem_range.2 hi)
theorem OrdL.nodup {h : List Ev} {l : List Nat} (ho : OrdL h l) : l.Nodup := ho.perm.nodup_iff.2 List.nodup_range
theorem OrdL.len {h : List Ev} {l : List Nat} (ho : OrdL h l) : l.length = h.length := by rw [ho.perm.length_eq, List.length_range]
/-- What is ahead stands ahead. -/
theorem OrdL.ahead {h : List Ev} (hr : RightH h) {l : List Nat} (ho : OrdL h l) {a b : Nat} (ha : a < l.length) (hb : b < l.length) (hl : ordLt h l[a] l[b]) : a < b := by
  rcases Nat.lt_trichotomy a b with h1 | h1 | h1
  · exact h1
  · subst h1; exact absurd hl (ordLt_irr h _)
  · exact absurd (ordLt_trans hl ((List.pairwise_iff_getElem.1 ho.sort) b a hb ha h1)) (ordLt_irr h _)
end Go.Proofs.Ytenlegafelgelaa
/- cmp.Compare, cmp.Or at ints. -/
namespace Go.Proofs.Ytenlegafelgelaa
set_option linter.unusedVariables false
set_option linter.unusedSimpArgs false
open Go.RowKit
def orI (x y : Int) : Int := if x = 0 then y else x
def cmpI (a b : Int) : Int := if a < b then -1 else if b < a then 1 else 0
set_option maxRecDepth 100000 in
set_option maxHeartbeats 4000000 in
theorem isNaN_any (a : Int) (w : World) :
    Calls Try.prog 49 #[.int .i64 a] w fun e w' => e = .returned (.bool false) ∧ w = w' := by
  have t1 : (a != a) = false := by rw [bne_eq_false_iff_eq]
  go_enter Try.func49, Try.ntmps49
  go_wp2
  go_ret
  exact ⟨rfl, rfl⟩
set_option maxRecDepth 100000 in
set_option maxHeartbeats 4000000 in
theorem compare_any (a b : Int) (w : World) :
    Calls Try.prog 28 #[.int .i64 a, .int .i64 b] w fun e w' => e = .returned (.int .i64 (cmpI a b)) ∧ w = w' := by
  by_cases h1 : a < b
  · have hc : cmpI a b = -1 := if_pos h1
    have t1 : decide (a < b) = true := by simpa using h1
    have HC := Lib.hid hc; have H1 := Lib.hid h1
    clear hc h1
    go_enter Try.func28, Try.ntmps28
    go_wp2_with fail
    refine (isNaN_any _ _).mono ?_
    rintro e w' ⟨rfl, rfl⟩
    go_wp2_with fail
    refine (isNaN_any _ _).mono ?_
    rintro e w' ⟨rfl, rfl⟩
    go_wp2
    go_ret
    exact ⟨by rw [show cmpI a b = -1 from HC.out]; rfl, rfl⟩
  have t1 : decide (a < b) = false := by simpa using h1
  by_cases h2 : b < a
  · have hc : cmpI a b = 1 := (if_neg h1).trans (if_pos h2)
    have t2 : decide (b < a) = true := by simpa using h2
    have HC := Lib.hid hc; have H1 := Lib.hid h1; have H2 := Lib.hid h2
    clear hc h1 h2
    go_enter Try.func28, Try.ntmps28
    go_wp2_with fail
    refine (isNaN_any _ _).mono ?_
    rintro e w' ⟨rfl, rfl⟩
    go_wp2_with fail
    refine (isNaN_any _ _).mono ?_
    rintro e w' ⟨rfl, rfl⟩
    go_wp2
    go_ret
    exact ⟨by rw [show cmpI a b = 1 from HC.out]; rfl, rfl⟩
  have hc : cmpI a b = 0 := (if_neg h1).trans (if_neg h2)
  have t2 : decide (b < a) = false := by simpa using h2
  have HC := Lib.hid hc; have H1 := Lib.hid h1; have H2 := Lib.hid h2
  clear hc h1 h2
  go_enter Try.func28, Try.ntmps28
  go_wp2_with fail
  refine (isNaN_any _ _).mono ?_
  rintro e w' ⟨rfl, rfl⟩
  go_wp2_with fail
  refine (isNaN_any _ _).mono ?_
  rintro e w' ⟨rfl, rfl⟩
  go_wp2
  go_ret
  exact ⟨by rw [show cmpI a b = 0 from HC.out]; rfl, rfl⟩
set_option maxRecDepth 100000 in
set_option maxHeartbeats 4000000 in
theorem orInt_any (b : Nat) (x y : Int) (w : World) (c0 : w.cell? ⟨b, 0, none⟩ = some (.int .i64 x)) (c1 : w.cell? ⟨b, 1, none⟩ = some (.int .i64 y)) :
    Calls Try.prog 27 #[.slice (some ⟨b, 0, none⟩) 2 2] w fun e w' => e = .returned (.int .i64 (orI x y)) ∧ w = w' := by
  go_enter Try.func27, Try.ntmps27
  go_wp2_with fail
  go_loopw [8] (fun iv wr => ∃ k : Nat, k ≤ 2 ∧ iv = .int .i64 k ∧ Hid (wr = w ∧ (0 < k → x = 0) ∧ (1 < k → y = 0))) (fun iv _ => 2 - (intOf iv).toNat)
  case atStart => exact ⟨0, by omega, rfl, Lib.hid ⟨rfl, by omega, by omega⟩⟩
  case round =>
    obtain ⟨k, hk, rfl, hp⟩ := hrel
    obtain ⟨rfl, h1, h2⟩ := hp.out
    by_cases h3 : k = 0
    · subst h3
      by_cases hx : x = 0
      · have t1 : (x != 0) = false := by rw [bne_eq_false_iff_eq]; exact hx
        have HX := Lib.hid hx; have H1 := Lib.hid h1; have H2 := Lib.hid h2
        clear hx h1 h2
        go_wp2
        go_roundw
        case rel => exact ⟨1, by omega, rfl, Lib.hid (by refine ⟨?_, fun _ => HX.out, fun h => by omega⟩; first | rfl | trivial)⟩
        case measure => simp [intOf]
      · have t1 : (x != 0) = true := by rw [bne_iff_ne]; exact hx
        have HX := Lib.hid hx; have H1 := Lib.hid h1; have H2 := Lib.hid h2
        clear hx h1 h2
        go_wp2
        go_ret
        exact ⟨by rw [show orI x y = x from if_neg HX.out]; rfl, rfl⟩
    have hx : x = 0 := h1 (by omega)
    by_cases h4 : k = 1
    · subst h4
      by_cases hy : y = 0
      · have t1 : (y != 0) = false := by rw [bne_eq_false_iff_eq]; exact hy
        have HX := Lib.hid hx; have HY := Lib.hid hy; have H1 := Lib.hid h1; have H2 := Lib.hid h2
        clear hx hy h1 h2
        go_wp2
        go_roundw
        case rel => exact ⟨2, by omega, rfl, Lib.hid (by refine ⟨?_, fun _ => HX.out, fun _ => HY.out⟩; first | rfl | trivial)⟩
        case measure => simp [intOf]
      · have t1 : (y != 0) = true := by rw [bne_iff_ne]; exact hy
        have HX := Lib.hid hx; have HY := Lib.hid hy; have H1 := Lib.hid h1; have H2 := Lib.hid h2
        clear hx hy h1 h2
        go_wp2
        go_ret
        exact ⟨by rw [show orI x y = y from if_pos HX.out]; rfl, rfl⟩
    have h5 : k = 2 := by omega
    subst h5
    have hy : y = 0 := h2 (by omega)
    have HX := Lib.hid hx; have HY := Lib.hid hy; have H1 := Lib.hid h1; have H2 := Lib.hid h2; have H3 := Lib.hid h3; have H4 := Lib.hid h4
    clear hx hy h1 h2 h3 h4
    go_wp2
    go_ret
    exact ⟨by rw [show orI x y = 0 from (if_pos HX.out).trans HY.out]; rfl, rfl⟩
end Go.Proofs.Ytenlegafelgelaa
/- Contracts of package clock: numbers. -/
namespace Go.Proofs.Ytenlegafelgelaa
set_option linter.unusedVariables false
set_option linter.unusedSimpArgs false
open Go.RowKit
set_option maxRecDepth 100000 in
set_option maxHeartbeats 4000000 in
theorem numbers_any {w0 w : World} {R : HProp} (v : Value) (hs : List Ev) (h : Own w0 R w) (hv : ReadsE w0 R v hs) (hr : RightH hs) :
    Calls Try.prog 23 #[v] w fun e w' => ∃ v', e = .returned v' ∧ Own w0 (IntSl v' (numsR hs) * R) w' := by
  obtain ⟨had, hcap, rfl, hc1, hc2⟩ := (hv _ h).shape
  obtain ⟨n, hn⟩ : ∃ n, n = hs.length := ⟨_, rfl⟩
  have hlen := hr.1
  rw [← hn] at hc1 hlen hv ⊢
  obtain ⟨lb, hb_lb⟩ : ∃ zz_, zz_ = (w).heap.size := ⟨_, rfl⟩
  obtain ⟨w1, hw_w1⟩ : ∃ zz_, zz_ = (w).alloc (.cells #[.int .i64 0, .int .i64 0, .int .i64 0, .int .i64 0, .int .i64 0] 104 (0, 0)) := ⟨_, rfl⟩
  have h_HO1 := (h).alloc (.cells #[.int .i64 0, .int .i64 0, .int .i64 0, .int .i64 0, .int .i64 0] 104 (0, 0))
  rw [← hb_lb, ← hw_w1] at h_HO1
  have HO1 := Lib.hid h_HO1
  clear h_HO1
  have HO2 : Hid (Own w0 (IntSl (.slice none 0 0) (numState hs 0).1 * (Five lb (numState hs 0).2 * R)) w1) := Lib.hid (Own.sl_nil HO1.out _ _)
  clear HO1
  have H := Lib.hid h; have HV := Lib.hid hv; have HN := Lib.hid hn; have HR := Lib.hid hr
  clear h hv hn hr
  go_enter Try.func23, Try.ntmps23
  go_upto_region 3 with fail
  rw [← hb_lb, ← hw_w1]
  clear hb_lb hw_w1
  go_wp2_with fail
  go_loopw [10, 3] (fun iv ov wr => ∃ k : Nat, k ≤ n ∧ iv = .int .i64 k ∧ Hid (Own w0 (IntSl ov (numState hs k).1 * (Five lb (numState hs k).2 * R)) wr)) (fun iv _ _ => n - (intOf iv).toNat)
  case atStart => exact ⟨0, Nat.zero_le _, rfl, HO2⟩
  case round =>
    clear HO2
    obtain ⟨k, hk, rfl, HO⟩ := hrel
    by_cases hlt : k < n
    rotate_left
    · have hkn : k = n := by omega
      have ho := HO.out
      rw [hkn] at ho
      have HF := Lib.hid ho
      clear ho
      go_wp2
      go_ret
      exact ⟨_, rfl, by unfold numsR; rw [← HN.out]; exact (HF.out.perm (star_left_comm _ _ _)).drop⟩
    have hkl : k < hs.length := by rw [← HN.out]; exact hlt
    obtain ⟨aa, pb, po, ps, rfl, hea, hcs, _⟩ := HV.out.more.more.at HO.out k hkl
    have hwho := HR.out.who hkl
    have hsd := HR.out.said hkl
    have hnx : numNext hs k (numState hs k) = numNext hs k (numState hs k) := rfl
    obtain ⟨N, hN⟩ : ∃ N, N = numNext hs k (numState hs k) - 1 := ⟨_, rfl⟩
    have hnst : numState hs (k + 1) = ((numState hs k).1 ++ [N + 1], (numState hs k).2.set (evAt hs k).1.toNat (N + 1)) := by rw [hN]; simp [numState]
    obtain ⟨hb1, hb2⟩ := numState_bound hs k
    obtain ⟨hl1, hl2⟩ := numState_len hs k
    have hNdef : N = if (evAt hs k).2.1 = 3 then max ((numState hs k).2.getD (evAt hs k).1.toNat 0) ((numState hs k).1.getD (saidAt (hs.take k) (evAt hs k).2.2).toNat 0) else (numState hs k).2.getD (evAt hs k).1.toNat 0 := by rw [hN]; unfold numNext; omega
    have hsaid := fun (w1 : World) (R' : HProp) (word : Int) (ho : Own w0 (R' * R) w1) => said_any (w0 := w0) (w := w1) (R := R' * R) word (.slice (some aa) k hcap) (hs.take k) ho (HV.out.front (by omega)).more
    obtain ⟨out, hout⟩ : ∃ out, out = (numState hs k).1 := ⟨_, rfl⟩
    obtain ⟨last, hlast⟩ : ∃ last, last = (numState hs k).2 := ⟨_, rfl⟩
    have ho := HO.out
    rw [← hout, ← hlast] at ho
    rw [← hout] at hb1 hl1
    rw [← hlast] at hb2 hl2
    rw [← hout, ← hlast] at hNdef hnst
    clear hN hnx
    obtain ⟨x, hx⟩ : ∃ x, x = evAt hs k := ⟨_, rfl⟩
    rw [← hx] at hcs hwho hsd hnst hNdef
    obtain ⟨c0, c1, c2⟩ := hcs _ HO.out
    obtain ⟨x1, x2, x3⟩ := x
    simp only at c0 c1 c2 hwho hsd hnst hNdef
    obtain ⟨q, rfl⟩ : ∃ q : Nat, x1 = (q : Int) := ⟨x1.toNat, by omega⟩
    simp only [Int.toNat_natCast] at hnst hNdef
    have hq5 : q < 5 := by omega
    obtain ⟨n0, hn0⟩ : ∃ n0, n0 = last.getD q 0 := ⟨_, rfl⟩
    have hn0b := getD_bound hb2 (Int.le_refl 0) (Int.natCast_nonneg k) q
    rw [← hn0] at hn0b hNdef
    have hn0a := hn0b.1
    have hn0c := hn0b.2
    have hlq : last[q]? = some n0 := by rw [hn0, List.getD_eq_getElem?_getD, List.getElem?_eq_getElem (by omega)]; rfl
    obtain ⟨eb, hb_eb⟩ : ∃ zz_, zz_ = (wr).heap.size := ⟨_, rfl⟩
    obtain ⟨w2, hw_w2⟩ : ∃ zz_, zz_ = (wr).alloc (.cells #[.int .i64 (q : Int), .int .i64 x2, .int .i64 x3] 24 (0, 0)) := ⟨_, rfl⟩
    have h_HO1 := (ho).alloc (.cells #[.int .i64 (q : Int), .int .i64 x2, .int .i64 x3] 24 (0, 0))
    rw [← hb_eb, ← hw_w2] at h_HO1
    have HO1 := Lib.hid h_HO1
    clear h_HO1
    have HE1 : Hid (Own w0 (EvO eb ((q : Int), x2, x3) * (IntSl u3 out * (Five lb last * R))) w2) := HO1
    have HE2 : Hid (Own w0 (Five lb last * (EvO eb ((q : Int), x2, x3) * (IntSl u3 out * R))) w2) := Lib.hid (HO1.out.perm (by unfold EvO; ac_rfl))
    clear HO1
    obtain ⟨d0, d1, d2⟩ := HE1.out.ev
    simp only at d0 d1 d2
    have e1 := HE2.out.five_cell q _ hlq
    have k0 : (0 : Int) ≤ (k : Int) := by omega
    have kn : (k : Int) ≤ (n : Int) := by omega
    have kc : (k : Int) ≤ (hcap : Int) := by omega
    have hc0 : hcap ≠ 0 := by omega
    have q0 : (0 : Int) ≤ (q : Int) := by omega
    have q5 : (q : Int) < 5 := by omega
    have HNB1 := Lib.hid hb1; have HNB2 := Lib.hid hb2
    have HCS := Lib.hid hcs; have HX := Lib.hid hx; have HWHO := Lib.hid hwho; have HOUT := Lib.hid hout; have HLAST := Lib.hid hlast; have HO := Lib.hid ho; have HN0 := Lib.hid hn0; have HN0B := Lib.hid hn0b; have HLQ := Lib.hid hlq; have HNST := Lib.hid hnst; have HNDEF := Lib.hid hNdef; have HSAID := Lib.hid hsaid; have HSD := Lib.hid hsd
    clear hcs hx hwho hout hlast ho hn0 hn0b hlq hnst hNdef hsaid hsd
    clear hb1 hb2
    go_upto_region 6 with fail
    rw [← hb_eb, ← hw_w2]
    clear hb_eb hw_w2
    clear c0 c1 c2
    go_upto_if 21 with fail
    go_cut [7] (fun nv wx => nv = .int .i64 N ∧ Own w0 (EvO eb ((q : Int), x2, x3) * (IntSl u3 out * (Five lb last * R))) wx)
    case first =>
      by_cases h3 : x2 = 3
      rotate_left
      · have t1 : (x2 == 3) = false := by simpa using h3
        have hNv : N = n0 := by rw [HNDEF.out, if_neg h3]
        subst hNv
        have H3 := Lib.hid h3
        clear h3
        go_wp2_with fail
        go_meet
        exact ⟨rfl, HE1.out⟩
      · subst h3
        obtain ⟨i, hik, hsi, _⟩ := HSD.out rfl
        have hmb := getD_bound HNB1.out (Int.le_refl 0) (Int.natCast_nonneg k) i
        have hNd := HNDEF.out
        rw [if_pos rfl, hsi, Int.toNat_natCast] at hNd
        obtain ⟨m, hm⟩ : ∃ m, m = out.getD i 0 := ⟨_, rfl⟩
        rw [← hm] at hNd hmb
        have hmg : out[i]? = some m := by rw [hm, List.getD_eq_getElem?_getD, List.getElem?_eq_getElem (by omega)]; rfl
        have i0 : (0 : Int) ≤ (i : Int) := by omega
        have ik : (i : Int) < (k : Int) := by omega
        have HSI := Lib.hid hsi; have HM := Lib.hid hm; have HND := Lib.hid hNd
        clear hsi hm hNd
        go_wp2_with fail
        refine wp_region_planX 7 [0, 1] [7, 8, 9, 10, 11] (by kernel_rfl) (by kernel_rfl) ?_
        simp only [List.range_succ, List.range_zero, List.nil_append, List.filter_cons, List.filter_nil, List.filter_append, List.contains_cons, List.contains_nil, Nat.reduceBEq, Bool.or_false, Bool.or_true, Bool.not_false, Bool.not_true, if_true, if_false, Bool.false_eq_true, ↓reduceIte, pick, List.getElem?_cons_succ, List.getElem?_cons_zero, Option.toList, List.cons_append, List.nil_append]
        repeat (refine wpPure_step ?_ rfl ?_ ?_; rotate_left; (focus (intro _; first | with_reducible rfl | (go_simp; done) | (go_simp; with_reducible rfl) | rfl)); go_simp)
        refine wpPure_nil ?_
        repeat still_step
        refine wpStill_nil ?_
        go_wp2_with fail
        refine (HSAID.out _ (EvO eb ((q : Int), 3, x3) * (IntSl u3 out * Five lb last)) x3 (HE1.out.drew.perm (by ac_rfl))).mono ?_
        rintro e w3 ⟨rfl, ho⟩
        rw [HSI.out]
        have HE3 : Hid (Own w0 (IntSl u3 out * (EvO eb ((q : Int), 3, x3) * (Five lb last * R))) w3) := Lib.hid (ho.perm (by ac_rfl))
        clear ho
        obtain ⟨ob, off, ocap, ho1, hoc1, hoc2, hcell, _⟩ := HE3.out.ints_at (by omega)
        subst ho1
        have f1 := hcell i (by omega)
        rw [show out[i]'(by omega) = m from by rw [List.getElem?_eq_getElem (by omega)] at hmg; exact Option.some.inj hmg] at f1
        have il : (i : Int) < (out.length : Int) := by omega
        have hmk : m ≤ (k : Int) := hmb.2
        have hm0 : 0 ≤ m := hmb.1
        clear hcell
        have HMG := Lib.hid hmg; have HMB := Lib.hid hmb; have HL1 := Lib.hid hl1
        clear hmg hmb hl1
        go_wp2_with fail
        all_goals
          refine NoPanic.normal ?_
          go_wp2_with fail
          go_meet
          exact ⟨congrArg (Value.int .i64) (by rw [HND.out, Int.max_def]; split <;> omega), HE3.out.perm (by ac_rfl)⟩
    case rest =>
    obtain ⟨rfl, ho⟩ := hcut
    clear HE1 HE2 d0 d1 d2 e1
    have HE1 := Lib.hid ho
    have HE2 : Hid (Own w0 (Five lb last * (EvO eb ((q : Int), x2, x3) * (IntSl u3 out * R))) wc) := Lib.hid (ho.perm (by ac_rfl))
    clear ho
    obtain ⟨d0, d1, d2⟩ := HE1.out.ev
    simp only at d0 d1 d2
    have e1 := HE2.out.five_cell q _ HLQ.out
    have e2 := HE2.out.five_free
    have hN1 : 0 ≤ N ∧ N ≤ (k : Int) := by
      have h8 := getD_bound HNB1.out (Int.le_refl 0) (Int.natCast_nonneg k) (saidAt (hs.take k) x3).toNat
      rw [HNDEF.out]
      split
      · rw [Int.max_def]; split <;> omega
      · omega
    have hN2 := hN1.1
    have hN3 := hN1.2
    have hst := HE2.out.five_set q (N + 1)
    have HST : Hid (Own w0 (Sl 3 1 u3 out.length (out.map (Value.int .i64)) * (EvO eb ((q : Int), x2, x3) * (Five lb (last.set q (N + 1)) * R))) (wc.setCell ⟨lb, q, none⟩ (.int .i64 (N + 1)))) := Lib.hid (hst.perm (by unfold IntSl; ac_rfl))
    obtain ⟨ws, hws⟩ : ∃ ws, ws = wc.setCell ⟨lb, q, none⟩ (.int .i64 (N + 1)) := ⟨_, rfl⟩
    rw [← hws] at HST
    clear hst hN1
    go_upto_region 10 with fail
    rw [← hws]
    clear hws d0 d1 d2 e1 e2
    go_wp2_with (at_builtin; refine wpList_app rfl _ _ 25 rfl 3 1 8 _ info_int Try.underlying25 rfl (by decide) rfl (HST.out.alloc' _) rfl (by rfl) (Rd_lit (by simp) (by unfold maxLen; omega)) (by intro u hu; simp at hu; subst hu; rfl) (by unfold maxLen; omega) (by omega) ?_; intro v' w4 hown; have HO4 : Hid (Own w0 (IntSl v' (numState hs (k + 1)).1 * (Five lb (numState hs (k + 1)).2 * R)) w4) := Lib.hid (by rw [HNST.out]; have h9 := (hown.perm (show _ = EvO eb ((q : Int), x2, x3) * (IntSl v' (out ++ [N + 1]) * (Five lb (last.set q (N + 1)) * R)) by unfold IntSl; simp; ac_rfl)).drop; exact h9); clear hown)
    go_roundw
    case rel => exact ⟨k + 1, by omega, by go_num, HO4⟩
    case measure => simp [intOf]; omega
end Go.Proofs.Ytenlegafelgelaa
/- Contracts of package clock, continued: vectors. -/
namespace Go.Proofs.Ytenlegafelgelaa
set_option linter.unusedVariables false
set_option linter.unusedSimpArgs false
open Go.RowKit
/-- A row of owned lists of ints: a slice of them. -/
def LSl (v : Value) (rs : List (Value × List Int)) : HProp := Sl 25 1 v rs.length (rs.map (·.1)) * starL rowP rs
/-- The same in an array of five. -/
def L5 (b : Nat) (rs : List (Value × List Int)) : HProp := blk b (.cells (rs.map (·.1)).toArray 106 (0, 0)) * starL rowP rs
theorem rows_one {rs : List (Value × List Int)} {k : Nat} {v : Value} {l : List Int} (h : rs[k]? = some (v, l)) : starL rowP rs = IntSl v l * starL rowP (rs.eraseIdx k) := by
  obtain ⟨hlt, he⟩ := List.getElem?_eq_some_iff.1 h
  rw [starL_split rowP rs k hlt, he]; rfl
theorem Own.l5_cell {w0 w : World} {b k : Nat} {rs : List (Value × List Int)} {v : Value} {l : List Int} {R : HProp} (h : Own w0 (L5 b rs * R) w) (hk : rs[k]? = some (v, l)) : w.cell? ⟨b, k, none⟩ = some v := by
  have h1 : Own w0 (blk b (.cells (rs.map (·.1)).toArray 106 (0, 0)) * (starL rowP rs * R)) w := h.perm (by unfold L5; ac_rfl)
  rw [Own.cell h1]; simp [hk]
theorem Own.l5_free {w0 w : World} {b : Nat} {rs : List (Value × List Int)} {R : HProp} (h : Own w0 (L5 b rs * R) w) : ∀ i, w.frozen? ⟨b, i, none⟩ = false := by
  have h1 : Own w0 (blk b (.cells (rs.map (·.1)).toArray 106 (0, 0)) * (starL rowP rs * R)) w := h.perm (by unfold L5; ac_rfl)
  exact fun i => Own.free h1 i none
theorem Own.l5_row {w0 w : World} {b k : Nat} {rs : List (Value × List Int)} {v : Value} {l : List Int} {R : HProp} (h : Own w0 (L5 b rs * R) w) (hk : rs[k]? = some (v, l)) (hI : ∀ x ∈ l, I64 x) : Ints w v l := by
  have h1 : Own w0 (IntSl v l * (starL rowP (rs.eraseIdx k) * (blk b (.cells (rs.map (·.1)).toArray 106 (0, 0)) * R))) w := h.perm (by unfold L5; rw [rows_one hk]; ac_rfl)
  exact ⟨Own.rd h1, hI⟩
theorem Own.l5_put {w0 w : World} {b k : Nat} {rs : List (Value × List Int)} {v : Value} {l : List Int} {R : HProp} (h : Own w0 (IntSl v l * (L5 b rs * R)) w) (hk : k < rs.length) : Own w0 (L5 b (rs.set k (v, l)) * R) (w.setCell ⟨b, k, none⟩ v) := by
  have h1 : Own w0 (rowP rs[k] * (blk b (.cells (rs.map (·.1)).toArray 106 (0, 0)) * (IntSl v l * (starL rowP (rs.eraseIdx k) * R)))) w := h.perm (by unfold L5; rw [starL_split rowP rs k hk]; ac_rfl)
  have h2 := h1.drop.setCell (i := k) (v := v)
  refine h2.perm ?_
  unfold L5
  rw [starL_set rowP rs k hk]
  show _ = blk b _ * (IntSl v l * starL rowP (rs.eraseIdx k)) * R
  rw [List.map_set, show ((rs.map (·.1)).set k (v, l).1).toArray = (rs.map (·.1)).toArray.setIfInBounds k v by simp]
  ac_rfl
theorem Own.ls_row {w0 w : World} {v rv : Value} {k : Nat} {rs : List (Value × List Int)} {l : List Int} {R : HProp} (h : Own w0 (LSl v rs * R) w) (hk : rs[k]? = some (rv, l)) (hI : ∀ x ∈ l, I64 x) :
    ∃ b off cap, v = .slice (some ⟨b, off, none⟩) rs.length cap ∧ rs.length ≤ cap ∧ cap ≤ 9223372036854775807 ∧ w.cell? ⟨b, off + k, none⟩ = some rv ∧ Ints w rv l := by
  obtain ⟨hlt, _⟩ := List.getElem?_eq_some_iff.1 hk
  have h1 : Own w0 (Sl 25 1 v rs.length (rs.map (·.1)) * (starL rowP rs * R)) w := h.perm (by unfold LSl; ac_rfl)
  obtain ⟨b, off, cap, e1, h2⟩ := h1.slAt (by simp; omega)
  have f := h2.slAt_facts
  have h3 : Own w0 (IntSl rv l * (starL rowP (rs.eraseIdx k) * (Sl 25 1 v rs.length (rs.map (·.1)) * R))) w := h.perm (by unfold LSl; rw [rows_one hk]; ac_rfl)
  exact ⟨b, off, cap, e1, f.1, f.2.1, f.2.2.2.1 k rv (by simp [hk]), Own.rd h3, hI⟩
theorem Own.ls_snoc {w0 w : World} {v x : Value} {rs : List (Value × List Int)} {l : List Int} {R : HProp} (h : Own w0 (Sl 25 1 v (rs.length + 1) (rs.map (·.1) ++ [x]) * (IntSl x l * (starL rowP rs * R))) w) : Own w0 (LSl v (rs ++ [(x, l)]) * R) w := by
  refine h.perm ?_
  unfold LSl
  rw [starL_snoc]
  show _ = Sl 25 1 v (rs ++ [(x, l)]).length ((rs ++ [(x, l)]).map (·.1)) * (IntSl x l * starL rowP rs) * R
  simp only [List.length_append, List.length_cons, List.length_nil, List.map_append, List.map_cons, List.map_nil, Nat.zero_add]
  ac_rfl
theorem LSl_nil : LSl (.slice none 0 0) [] = emp := by
  unfold LSl; rw [show starL rowP ([] : List (Value × List Int)) = emp from rfl, star_emp]; exact Sl_nil _ _
theorem L5_nil {b : Nat} : L5 b (List.replicate 5 (.slice none 0 0, [])) = blk b (.cells #[.slice none 0 0, .slice none 0 0, .slice none 0 0, .slice none 0 0, .slice none 0 0] 106 (0, 0)) := by
  unfold L5
  rw [starL_nils rowP (.slice none 0 0, []) (by unfold rowP IntSl; exact Sl_nil _ _), star_emp]
  rfl
set_option maxRecDepth 100000 in
set_option maxHeartbeats 4000000 in
theorem cloneNil_any (w : World) :
    Calls Try.prog 37 #[.slice none 0 0] w fun e w' => e = .returned (.slice none 0 0) ∧ w = w' := by
  have hnil := fun (w : World) => Lib.run_eql_slice_nil (P := Try.prog) w 25 3 none 0 0 0 0 Try.underlying25
  go_enter Try.func37, Try.ntmps37
  go_wp2
  go_ret
  exact ⟨rfl, rfl⟩
end Go.Proofs.Ytenlegafelgelaa
