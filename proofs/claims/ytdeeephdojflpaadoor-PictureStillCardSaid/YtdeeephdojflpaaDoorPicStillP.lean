/- PictureStill, plainly: where nothing moves, what each step of the marks leaves. -/
import Derived.Test.YtdeeephdojflpaaDoorPicKeepsP
namespace Go.Proofs.YtdeeephdojflpaaDoor
set_option linter.unusedVariables false
set_option linter.unusedSimpArgs false
open Go.RowKit Go.Maps
def wayN (n : Nat) (x y : Int) : Prop := (0 ≤ x ∧ x < n) ∧ (0 ≤ y ∧ y < n) ∧ x ≠ y
instance (n : Nat) (x y : Int) : Decidable (wayN n x y) := by unfold wayN; exact inferInstance
def stV1 (gold : List Int) (who : Int) (k : Int) : PV where
  n := gold.length
  g := gAt gold
  row := fun x y => if wayN gold.length x y then (if x = who then (if y < k then [] else [0]) else if x < k then [0] else []) else []
  W := fun m => if (0 ≤ m ∧ m < gold.length) ∧ (m = who ∨ m < k) then some (gAt gold m) else none
  O := fun x y => if wayN gold.length x y ∧ (y = who ∨ (y < k ∧ x ≠ who)) then some 0 else none
  on := 0
  begun := true
def stV2 (gold : List Int) (who : Int) (i m : Int) : PV where
  n := gold.length
  g := gAt gold
  row := fun x y => if wayN gold.length x y ∧ x ≠ who ∧ ¬ (x < i ∨ (x = i ∧ y < m)) then [0] else []
  W := fun m => if 0 ≤ m ∧ m < gold.length then some (gAt gold m) else none
  O := fun x y => if wayN gold.length x y ∧ x ≠ who ∧ ¬ (x < i ∨ (x = i ∧ y < m)) then some 0 else none
  on := 0
  begun := true
theorem still_begin {gold : List Int} {who : Int} (hw : 0 ≤ who ∧ who < gold.length) : pcBeginErr (pcNew gold) who = 0 ∧ pvOf (pcBegin (pcNew gold) who) = stV1 gold who 0 := by
  have hh : pcHas (pcNew gold) who = true := by unfold pcHas; simp; exact hw
  have he : pcBeginErr (pcNew gold) who = 0 := by
    unfold pcBeginErr
    rw [if_neg (by rw [hh]; simp), if_neg (by show ¬ false = true; simp)]
  refine ⟨he, ?_⟩
  unfold pcBegin
  rw [if_pos he, pv_write (s := { pcNew gold with begun := true }) rfl hh]
  refine pv_ext rfl (fun _ => rfl) (fun x y => ?_) (fun m => ?_) (fun x y => ?_) rfl rfl
  · show (if x = who ∧ wayN gold.length x y then ([] : List Int) ++ [0] else []) = if wayN gold.length x y then (if x = who then (if y < 0 then [] else [0]) else if x < 0 then [0] else []) else []
    by_cases hN : wayN gold.length x y
    · simp only [hN, and_true, true_and, if_true]
      unfold wayN at hN
      repeat' split
      all_goals first | rfl | (exfalso; omega)
    · simp only [hN, and_false, false_and, if_false]
      try (split <;> rfl)
  · show (if m = who then some (gAt gold who) else none) = if (0 ≤ m ∧ m < gold.length) ∧ (m = who ∨ m < 0) then some (gAt gold m) else none
    by_cases h : m = who
    · subst h; rw [if_pos rfl, if_pos ⟨hw, .inl rfl⟩]
    · rw [if_neg h, if_neg (by omega)]
  · show (if y = who ∧ wayN gold.length x y then some (0 : Int) else none) = if wayN gold.length x y ∧ (y = who ∨ (y < 0 ∧ x ≠ who)) then some 0 else none
    by_cases hN : wayN gold.length x y
    · simp only [hN, and_true, true_and, if_true]
      unfold wayN at hN
      repeat' split
      all_goals first | rfl | (exfalso; omega)
    · simp only [hN, and_false, false_and, if_false]
      try (split <;> rfl)
theorem come_mark_of {all : Int} {s : Pic} (h : PcInv all s) {a b : Int} (hr : pcRow s a b = [0]) : pcComeErr s a b = 0 ∧ pcComeVal s a b = 0 ∧ (((mget s.wrote b).isSome = true ∧ pvOf (pcCome s a b) = pvMark (pvOf s) a b) ∨ (mget s.wrote b = none ∧ pvOf (pcCome s a b) = pvMark (pvWrite (pvOf s) b) a b)) := by
  have hway : (pvOf s).way a b := by
    by_cases hw : (pvOf s).way a b
    · exact hw
    · have := h.inv.rIn a b hw
      rw [show (pvOf s).row a b = pcRow s a b from rfl, hr] at this; cases this
  rcases h.come_pv a b with ⟨h0, _⟩ | ⟨n, r, h0, _, hr2, hv, hc⟩
  · exfalso
    apply h0
    unfold pcComeErr
    rw [if_neg (by simpa using pcWay0.2 hway), if_neg (by rw [hr]; simp)]
  · rw [hr] at hr2
    injection hr2 with e1 e2
    subst e1
    refine ⟨h0, hv, ?_⟩
    rcases hc with ⟨hc, _⟩ | ⟨_, hc⟩ | ⟨_, hc⟩
    · exact absurd rfl hc
    · exact .inl hc
    · exact .inr hc
theorem still_one {all : Int} {s : Pic} {gold : List Int} {who k : Int} (h : PcInv all s) (hv : pvOf s = stV1 gold who k) (hw : 0 ≤ who ∧ who < gold.length) (hk : 0 ≤ k ∧ k < gold.length) (hne : k ≠ who) : pcComeErr s who k = 0 ∧ pcComeVal s who k = 0 ∧ pvOf (pcCome s who k) = stV1 gold who (k + 1) := by
  have hr : pcRow s who k = [0] := by
    have : (pvOf s).row who k = [0] := by
      rw [hv]
      show (if wayN gold.length who k then (if who = who then (if k < k then ([] : List Int) else [0]) else if who < k then [0] else []) else []) = [0]
      rw [if_pos ⟨hw, hk, fun e => hne e.symm⟩, if_pos rfl, if_neg (by omega)]
    exact this
  have hWk : mget s.wrote k = none := by
    have : (pvOf s).W k = none := by
      rw [hv]
      show (if (0 ≤ k ∧ k < gold.length) ∧ (k = who ∨ k < k) then some (gAt gold k) else none) = none
      rw [if_neg (by omega)]
    exact this
  obtain ⟨h1, h2, h3⟩ := come_mark_of h hr
  refine ⟨h1, h2, ?_⟩
  rcases h3 with ⟨h3, _⟩ | ⟨_, h3⟩
  · rw [hWk] at h3; cases h3
  rw [h3, hv]
  refine pv_ext rfl (fun _ => rfl) (fun x y => ?_) (fun m => ?_) (fun x y => ?_) ?_ rfl
  · show (if x = who ∧ y = k then (if who = k ∧ wayN gold.length who k then (if wayN gold.length who k then (if who = who then (if k < k then ([] : List Int) else [0]) else if who < k then [0] else []) else []) ++ [0] else (if wayN gold.length who k then (if who = who then (if k < k then [] else [0]) else if who < k then [0] else []) else [])).tail else if x = k ∧ wayN gold.length x y then (if wayN gold.length x y then (if x = who then (if y < k then [] else [0]) else if x < k then [0] else []) else []) ++ [0] else (if wayN gold.length x y then (if x = who then (if y < k then [] else [0]) else if x < k then [0] else []) else [])) = if wayN gold.length x y then (if x = who then (if y < k + 1 then [] else [0]) else if x < k + 1 then [0] else []) else []
    by_cases hc : x = who ∧ y = k
    · rw [if_pos hc, if_neg (by omega), if_pos ⟨hw, hk, fun e => hne e.symm⟩, if_pos rfl, if_neg (by omega)]
      obtain ⟨rfl, rfl⟩ := hc
      rw [if_pos ⟨hw, hk, fun e => hne e.symm⟩, if_pos rfl, if_pos (by omega)]
      rfl
    · rw [if_neg hc]
      by_cases hN : wayN gold.length x y
      · simp only [hN, and_true, true_and, if_true]
        unfold wayN at hN
        repeat' split
        all_goals first | rfl | (exfalso; omega)
      · simp only [hN, and_false, false_and, if_false]
        try (split <;> rfl)
  · show (if m = k then some (gAt gold k) else if (0 ≤ m ∧ m < gold.length) ∧ (m = who ∨ m < k) then some (gAt gold m) else none) = if (0 ≤ m ∧ m < gold.length) ∧ (m = who ∨ m < k + 1) then some (gAt gold m) else none
    by_cases hc : m = k
    · subst hc; rw [if_pos rfl, if_pos ⟨hk, by omega⟩]
    · rw [if_neg hc]
      repeat' split
      all_goals first | rfl | (exfalso; omega)
  · show (if x = who ∧ y = k then none else if y = k ∧ wayN gold.length x y then some (0 : Int) else if wayN gold.length x y ∧ (y = who ∨ (y < k ∧ x ≠ who)) then some 0 else none) = if wayN gold.length x y ∧ (y = who ∨ (y < k + 1 ∧ x ≠ who)) then some 0 else none
    by_cases hN : wayN gold.length x y
    · simp only [hN, and_true, true_and, if_true]
      unfold wayN at hN
      repeat' split
      all_goals first | rfl | (exfalso; omega)
    · simp only [hN, and_false, false_and, if_false]
      try (split <;> rfl)
  · show (0 : Int) + (if k = k ∧ wayN gold.length who k then some (0 : Int) else _).getD 0 = 0
    rw [if_pos ⟨rfl, hw, hk, fun e => hne e.symm⟩]; rfl
theorem still_skip (gold : List Int) (who : Int) : stV1 gold who (who + 1) = stV1 gold who who := by
  refine pv_ext rfl (fun _ => rfl) (fun x y => ?_) (fun m => ?_) (fun x y => ?_) rfl rfl
  · show (if wayN gold.length x y then (if x = who then (if y < who + 1 then ([] : List Int) else [0]) else if x < who + 1 then [0] else []) else []) = if wayN gold.length x y then (if x = who then (if y < who then [] else [0]) else if x < who then [0] else []) else []
    by_cases hN : wayN gold.length x y
    · simp only [hN, and_true, true_and, if_true]
      unfold wayN at hN
      repeat' split
      all_goals first | rfl | (exfalso; omega)
    · simp only [hN, and_false, false_and, if_false]
      try (split <;> rfl)
  · show (if (0 ≤ m ∧ m < gold.length) ∧ (m = who ∨ m < who + 1) then some (gAt gold m) else none) = if (0 ≤ m ∧ m < gold.length) ∧ (m = who ∨ m < who) then some (gAt gold m) else none
    repeat' split
    all_goals first | rfl | (exfalso; omega)
  · show (if wayN gold.length x y ∧ (y = who ∨ (y < who + 1 ∧ x ≠ who)) then some (0 : Int) else none) = if wayN gold.length x y ∧ (y = who ∨ (y < who ∧ x ≠ who)) then some 0 else none
    by_cases hN : wayN gold.length x y
    · simp only [hN, and_true, true_and, if_true]
      unfold wayN at hN
      repeat' split
      all_goals first | rfl | (exfalso; omega)
    · simp only [hN, and_false, false_and, if_false]
      try (split <;> rfl)
theorem still_turn (gold : List Int) (who : Int) : stV1 gold who gold.length = stV2 gold who 0 0 := by
  refine pv_ext rfl (fun _ => rfl) (fun x y => ?_) (fun m => ?_) (fun x y => ?_) rfl rfl
  · show (if wayN gold.length x y then (if x = who then (if y < gold.length then ([] : List Int) else [0]) else if x < gold.length then [0] else []) else []) = if wayN gold.length x y ∧ x ≠ who ∧ ¬ (x < 0 ∨ (x = 0 ∧ y < 0)) then [0] else []
    by_cases hN : wayN gold.length x y
    · simp only [hN, and_true, true_and, if_true]
      unfold wayN at hN
      repeat' split
      all_goals first | rfl | (exfalso; omega)
    · simp only [hN, and_false, false_and, if_false]
      try (split <;> rfl)
  · show (if (0 ≤ m ∧ m < gold.length) ∧ (m = who ∨ m < gold.length) then some (gAt gold m) else none) = if 0 ≤ m ∧ m < gold.length then some (gAt gold m) else none
    repeat' split
    all_goals first | rfl | (exfalso; omega)
  · show (if wayN gold.length x y ∧ (y = who ∨ (y < gold.length ∧ x ≠ who)) then some (0 : Int) else none) = if wayN gold.length x y ∧ x ≠ who ∧ ¬ (x < 0 ∨ (x = 0 ∧ y < 0)) then some 0 else none
    by_cases hN : wayN gold.length x y
    · simp only [hN, and_true, true_and, if_true]
      unfold wayN at hN
      repeat' split
      all_goals first | rfl | (exfalso; omega)
    · simp only [hN, and_false, false_and, if_false]
      try (split <;> rfl)
theorem still_two {all : Int} {s : Pic} {gold : List Int} {who i m : Int} (h : PcInv all s) (hv : pvOf s = stV2 gold who i m) (hi : 0 ≤ i ∧ i < gold.length) (hm : 0 ≤ m ∧ m < gold.length) (hne : i ≠ who) (him : m ≠ i) : pcComeErr s i m = 0 ∧ pcComeVal s i m = 0 ∧ pvOf (pcCome s i m) = stV2 gold who i (m + 1) := by
  have hr : pcRow s i m = [0] := by
    have : (pvOf s).row i m = [0] := by
      rw [hv]
      show (if wayN gold.length i m ∧ i ≠ who ∧ ¬ (i < i ∨ (i = i ∧ m < m)) then [0] else []) = [0]
      rw [if_pos ⟨⟨hi, hm, fun e => him e.symm⟩, hne, by omega⟩]
    exact this
  obtain ⟨h1, h2, h3⟩ := come_mark_of h hr
  refine ⟨h1, h2, ?_⟩
  rcases h3 with ⟨_, h3⟩ | ⟨h3, _⟩
  rotate_left
  · exfalso
    have : (pvOf s).W m = none := h3
    rw [hv] at this
    have h4 : (if 0 ≤ m ∧ m < gold.length then some (gAt gold m) else none) = none := this
    rw [if_pos hm] at h4; cases h4
  rw [h3, hv]
  refine pv_ext rfl (fun _ => rfl) (fun x y => ?_) (fun m => rfl) (fun x y => ?_) ?_ rfl
  · show (if x = i ∧ y = m then (if wayN gold.length i m ∧ i ≠ who ∧ ¬ (i < i ∨ (i = i ∧ m < m)) then [0] else ([] : List Int)).tail else if wayN gold.length x y ∧ x ≠ who ∧ ¬ (x < i ∨ (x = i ∧ y < m)) then [0] else []) = if wayN gold.length x y ∧ x ≠ who ∧ ¬ (x < i ∨ (x = i ∧ y < m + 1)) then [0] else []
    by_cases hc : x = i ∧ y = m
    · rw [if_pos hc, if_pos ⟨⟨hi, hm, fun e => him e.symm⟩, hne, by omega⟩, if_neg (by omega)]; rfl
    · rw [if_neg hc]
      by_cases hN : wayN gold.length x y
      · simp only [hN, and_true, true_and, if_true]
        unfold wayN at hN
        repeat' split
        all_goals first | rfl | (exfalso; omega)
      · simp only [hN, and_false, false_and, if_false]
        try (split <;> rfl)
  · show (if x = i ∧ y = m then none else if wayN gold.length x y ∧ x ≠ who ∧ ¬ (x < i ∨ (x = i ∧ y < m)) then some (0 : Int) else none) = if wayN gold.length x y ∧ x ≠ who ∧ ¬ (x < i ∨ (x = i ∧ y < m + 1)) then some 0 else none
    by_cases hN : wayN gold.length x y
    · simp only [hN, and_true, true_and, if_true]
      unfold wayN at hN
      repeat' split
      all_goals first | rfl | (exfalso; omega)
    · simp only [hN, and_false, false_and, if_false]
      try (split <;> rfl)
  · show (0 : Int) + (if wayN gold.length i m ∧ i ≠ who ∧ ¬ (i < i ∨ (i = i ∧ m < m)) then some (0 : Int) else none).getD 0 = 0
    rw [if_pos ⟨⟨hi, hm, fun e => him e.symm⟩, hne, by omega⟩]; rfl
/-- What is passed over changes nothing. -/
theorem still_pass {gold : List Int} {who i m : Int} (h : i = who ∨ m = i) : stV2 gold who i (m + 1) = stV2 gold who i m := by
  refine pv_ext rfl (fun _ => rfl) (fun x y => ?_) (fun m => rfl) (fun x y => ?_) rfl rfl
  · show (if wayN gold.length x y ∧ x ≠ who ∧ ¬ (x < i ∨ (x = i ∧ y < m + 1)) then [0] else ([] : List Int)) = if wayN gold.length x y ∧ x ≠ who ∧ ¬ (x < i ∨ (x = i ∧ y < m)) then [0] else []
    by_cases hN : wayN gold.length x y
    · simp only [hN, and_true, true_and, if_true]
      unfold wayN at hN
      repeat' split
      all_goals first | rfl | (exfalso; omega)
    · simp only [hN, and_false, false_and, if_false]
      try (split <;> rfl)
  · show (if wayN gold.length x y ∧ x ≠ who ∧ ¬ (x < i ∨ (x = i ∧ y < m + 1)) then some (0 : Int) else none) = if wayN gold.length x y ∧ x ≠ who ∧ ¬ (x < i ∨ (x = i ∧ y < m)) then some 0 else none
    by_cases hN : wayN gold.length x y
    · simp only [hN, and_true, true_and, if_true]
      unfold wayN at hN
      repeat' split
      all_goals first | rfl | (exfalso; omega)
    · simp only [hN, and_false, false_and, if_false]
      try (split <;> rfl)
theorem still_row (gold : List Int) (who i : Int) : stV2 gold who i gold.length = stV2 gold who (i + 1) 0 := by
  refine pv_ext rfl (fun _ => rfl) (fun x y => ?_) (fun m => rfl) (fun x y => ?_) rfl rfl
  · show (if wayN gold.length x y ∧ x ≠ who ∧ ¬ (x < i ∨ (x = i ∧ y < gold.length)) then [0] else ([] : List Int)) = if wayN gold.length x y ∧ x ≠ who ∧ ¬ (x < i + 1 ∨ (x = i + 1 ∧ y < 0)) then [0] else []
    by_cases hN : wayN gold.length x y
    · simp only [hN, and_true, true_and, if_true]
      unfold wayN at hN
      repeat' split
      all_goals first | rfl | (exfalso; omega)
    · simp only [hN, and_false, false_and, if_false]
      try (split <;> rfl)
  · show (if wayN gold.length x y ∧ x ≠ who ∧ ¬ (x < i ∨ (x = i ∧ y < gold.length)) then some (0 : Int) else none) = if wayN gold.length x y ∧ x ≠ who ∧ ¬ (x < i + 1 ∨ (x = i + 1 ∧ y < 0)) then some 0 else none
    by_cases hN : wayN gold.length x y
    · simp only [hN, and_true, true_and, if_true]
      unfold wayN at hN
      repeat' split
      all_goals first | rfl | (exfalso; omega)
    · simp only [hN, and_false, false_and, if_false]
      try (split <;> rfl)
theorem still_end {s : Pic} {gold : List Int} {who : Int} (h : PcInv gold.sum s) (hv : pvOf s = stV2 gold who gold.length 0) (hw : 0 ≤ who ∧ who < gold.length) : pcDone s = true ∧ pcHad s = gold.sum ∧ s.onWay = 0 ∧ pcBeginErr s who = 6 := by
  have hd : pcDone s = true := by
    refine h.done_iff.2 ⟨fun m hm => ?_, fun a b => ?_⟩
    · rw [hv] at hm ⊢
      have hm' : 0 ≤ m ∧ m < gold.length := hm
      show (if 0 ≤ m ∧ m < gold.length then some (gAt gold m) else none).isSome = true
      rw [if_pos hm']; rfl
    · rw [hv]
      show (if wayN gold.length a b ∧ a ≠ who ∧ ¬ (a < gold.length ∨ (a = gold.length ∧ b < 0)) then some (0 : Int) else none) = none
      unfold wayN
      rw [if_neg (by omega)]
  have hon : s.onWay = 0 := by
    have : (pvOf s).on = 0 := by rw [hv]; rfl
    exact this
  have hsh := (h.shows hd).1
  refine ⟨hd, by omega, hon, ?_⟩
  have hb : s.begun = true := by
    have : (pvOf s).begun = true := by rw [hv]; rfl
    exact this
  have hh : pcHas s who = true := by
    refine pcHas_mem.2 ?_
    rw [hv]; exact hw
  unfold pcBeginErr
  rw [if_neg (by rw [hh]; simp), if_pos hb]
end Go.Proofs.YtdeeephdojflpaaDoor
