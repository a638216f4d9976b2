/- LeaderBack: places that come the wrong way round are heard with the first. -/
import Derived.Test.YteelldblfmhjlaaDoorLeader2
namespace Go.Proofs.YteelldblfmhjlaaDoor
set_option linter.unusedVariables false
set_option linter.unusedSimpArgs false
open Go.RowKit
def upTo (k : Nat) : List Int := (List.range k).map fun i : Nat => (i : Int) + 1
theorem mem_upTo {k : Nat} {x : Int} : x ∈ upTo k ↔ 1 ≤ x ∧ x ≤ k := by
  unfold upTo
  constructor
  · intro h
    obtain ⟨i, hi, rfl⟩ := List.mem_map.1 h
    have := List.mem_range.1 hi
    omega
  · intro h
    refine List.mem_map.2 ⟨(x - 1).toNat, List.mem_range.2 (by omega), by omega⟩
theorem upTo_len (k : Nat) : (upTo k).length = k := by simp [upTo]
theorem upTo_succ (k : Nat) : upTo (k + 1) = upTo k ++ [(k : Int) + 1] := by unfold upTo; rw [List.range_succ, List.map_append]; rfl
/-- k words have their places. -/
def lbS (n k : Nat) : Ld := ⟨upTo k, List.replicate n ([], 0)⟩
theorem lbS_fit (n k : Nat) (hk : k ≤ 30) : ldFit (lbS n k) := by
  refine ⟨by simp [lbS, upTo_len]; omega, fun x hx => by have := mem_upTo.1 hx; omega, fun m hm => ?_⟩
  simp [lbS] at hm
  rw [hm.2]; simp
theorem lbS_err (n k : Nat) (hk : k < 30) : ldSayErr (lbS n k) ((k : Int) + 1) = 0 := by
  have h1 : isWord ((k : Int) + 1) = true := by simp [isWord]; omega
  have h2 : ((k : Int) + 1) ∉ (lbS n k).words := fun h => by have := mem_upTo.1 h; omega
  unfold ldSayErr
  rw [h1, if_neg (by decide), if_neg h2]
theorem lbS_say (n k : Nat) (hk : k < 30) : ldSay (lbS n k) ((k : Int) + 1) = lbS n (k + 1) := by
  unfold ldSay
  rw [if_pos (lbS_err n k hk)]
  simp [lbS, upTo_succ]
theorem lbS_out (n k : Nat) (hk : k < 30) : ldSayOut (lbS n k) ((k : Int) + 1) = ((k : Int), (k : Int) + 1) := by
  unfold ldSayOut
  rw [if_pos (lbS_err n k hk)]
  simp [lbS, upTo_len]
/-- The places from many - 1 down to a have come to member 0. -/
def lbC (many a : Nat) : List Int := (List.range (many - a)).map fun i : Nat => ((many - 1 - i : Nat) : Int)
def lbT (n many a h : Nat) : Ld := ⟨upTo many, (List.replicate n ([], 0)).set 0 (lbC many a, h)⟩
theorem mem_lbC {many a : Nat} (ha : a ≤ many) {x : Nat} : (x : Int) ∈ lbC many a ↔ a ≤ x ∧ x < many := by
  unfold lbC
  constructor
  · intro h
    obtain ⟨i, hi, e⟩ := List.mem_map.1 h
    have := List.mem_range.1 hi
    omega
  · intro h
    exact List.mem_map.2 ⟨many - 1 - x, List.mem_range.2 (by omega), by omega⟩
theorem lbC_put (many a : Nat) (ha : a < many) : setPut (lbC many (a + 1)) (a : Int) = lbC many a := by
  unfold setPut
  rw [if_neg (by rw [mem_lbC (by omega)]; omega)]
  unfold lbC
  rw [show many - a = many - (a + 1) + 1 from by omega, List.range_succ, List.map_append]
  have : many - 1 - (many - (a + 1)) = a := by omega
  simp [this]
theorem lbT_fit (n many a h : Nat) (hm : many ≤ 30) (ha : a ≤ many) (hh : h ≤ many) : ldFit (lbT n many a h) := by
  refine ⟨by simp [lbT, upTo_len]; omega, fun x hx => by have := mem_upTo.1 hx; omega, fun m hm' => ?_⟩
  have hl : (lbT n many a h).words.length = many := by simp [lbT, upTo_len]
  rw [hl]
  rcases List.mem_or_eq_of_mem_set hm' with h1 | rfl
  · simp at h1; rw [h1.2]; simp
  · refine ⟨hh, fun x hx => ?_⟩
    simp only [lbC] at hx
    obtain ⟨i, hi, rfl⟩ := List.mem_map.1 hx
    have := List.mem_range.1 hi
    omega
theorem lbT_start (n many : Nat) : lbS n many = lbT n many many 0 := by
  unfold lbS lbT lbC
  cases n with
  | zero => rfl
  | succ n => simp [List.replicate_succ]
theorem lbT_get (n many a h : Nat) (hn : 2 ≤ n) : ldGet (lbT n many a h) 0 = (lbC many a, h) := by
  unfold ldGet lbT
  cases n with
  | zero => omega
  | succ n => simp [List.replicate_succ]
theorem lbT_err (n many a h : Nat) (hn : 2 ≤ n) (b : Nat) (hb : b < many) : ldErr (lbT n many a h) 0 b = 0 := by
  have h1 : inR 0 (lbT n many a h).mem.length = true := by simp [inR, lbT]; omega
  have h2 : ¬ ((lbT n many a h).words.length : Int) ≤ (b : Int) := by simp [lbT, upTo_len]; omega
  unfold ldErr
  rw [h1, if_neg (by decide), if_neg (by omega), if_neg h2]
theorem lbT_take (n many a : Nat) (hn : 2 ≤ n) (ha : 1 ≤ a) (hb : a < many) : ldTake (lbT n many (a + 1) 0) 0 a = lbT n many a 0 ∧ ldOut (lbT n many (a + 1) 0) 0 a = [] := by
  have he := lbT_err n many (a + 1) 0 hn a hb
  have hf : ldFar (lbT n many (a + 1) 0) 0 a = 0 := by
    unfold ldFar
    rw [lbT_get n many _ _ hn, lbC_put many a hb]
    simp only
    generalize (lbT n many (a + 1) 0).words.length - 0 = g
    cases g with
    | zero => rfl
    | succ j =>
      unfold ldAdv
      rw [if_neg]
      intro h
      have := (mem_lbC (x := 0) (show a ≤ many by omega)).1 h
      omega
  unfold ldTake ldOut
  rw [if_pos he, if_pos he, hf, lbT_get n many _ _ hn, lbC_put many a hb]
  simp [lbT]
theorem adv_all (come : List Int) (L : Nat) (h : ∀ x : Nat, x < L → (x : Int) ∈ come) : ∀ k h0, h0 + k = L → ldAdv come k h0 = L
  | 0, h0, e => by simp [ldAdv]; omega
  | k + 1, h0, e => by
    unfold ldAdv
    rw [if_pos (h h0 (by omega))]
    exact adv_all come L h k (h0 + 1) (by omega)
theorem lbT_last (n many : Nat) (hn : 2 ≤ n) (hb : 1 ≤ many) : (ldOut (lbT n many 1 0) 0 0).length = many ∧ ldHeard (ldTake (lbT n many 1 0) 0 0) 1 = [] ∧ ldTake (lbT n many 1 0) 0 0 = lbT n many 0 many := by
  have he := lbT_err n many 1 0 hn 0 hb
  simp only [Int.natCast_zero] at he
  have hp := lbC_put many 0 hb
  simp only [Int.natCast_zero, Nat.zero_add] at hp
  have hf : ldFar (lbT n many 1 0) 0 0 = many := by
    unfold ldFar
    rw [lbT_get n many _ _ hn, hp]
    simp only
    rw [show (lbT n many 1 0).words.length - 0 = many from by simp [lbT, upTo_len]]
    exact adv_all _ many (fun x hx => (mem_lbC (Nat.zero_le _)).2 ⟨Nat.zero_le _, hx⟩) many 0 (by omega)
  have ht : ldTake (lbT n many 1 0) 0 0 = lbT n many 0 many := by
    unfold ldTake
    rw [if_pos he, hf, lbT_get n many _ _ hn, hp]
    simp [lbT]
  refine ⟨?_, ?_, ht⟩
  · unfold ldOut
    rw [if_pos he, hf, lbT_get n many _ _ hn]
    simp [lbT, upTo_len]
  · rw [ht]
    unfold ldHeard ldGet lbT
    cases n with
    | zero => omega
    | succ n => cases n with
      | zero => omega
      | succ n => simp [List.replicate_succ]
theorem lb_errV1 : errV 1 = .iface 99 (.int .i64 1) := rfl
theorem isGroup_cases {n : Int} (h : isGroup n = false) : n < 2 ∨ (¬ n < 2 ∧ 5 < n) := by simp [isGroup] at h; omega
end Go.Proofs.YteelldblfmhjlaaDoor
