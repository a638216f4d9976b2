/- Plain laws of a sender that has said some words, and let go of the first ones. -/
import Derived.Test.YteelldblfmhjlaaDoorAgainP
namespace Go.Proofs.YteelldblfmhjlaaDoor
set_option linter.unusedVariables false
set_option linter.unusedSimpArgs false
open Go.RowKit
/-- A sender that has said A, and keeps what is behind F. -/
def sa (A : List Int) (F : Nat) : Se := ⟨(keptOf A).filter (fun p => decide ((F : Int) < p.1)), A.length⟩
theorem keptOf_filter_len : ∀ (A : List Int) (F : Nat), F ≤ A.length → ((keptOf A).filter (fun p => decide ((F : Int) < p.1))).length = A.length - F := by
  intro A F hF
  have key : ∀ n : Nat, F ≤ n → (((List.range n).map fun i : Nat => ((i : Int) + 1, A.getD i 0)).filter (fun p => decide ((F : Int) < p.1))).length = n - F := by
    intro n
    induction n with
    | zero => intro h; simp
    | succ n ih =>
      intro h
      rw [List.range_succ, List.map_append, List.filter_append, List.length_append]
      by_cases hn : F ≤ n
      · rw [ih hn]
        have : decide ((F : Int) < (n : Int) + 1) = true := by simp; omega
        simp [this]; omega
      · have hF2 : F = n + 1 := by omega
        have h0 : (((List.range n).map fun i : Nat => ((i : Int) + 1, A.getD i 0)).filter (fun p => decide ((F : Int) < p.1))) = [] := by
          rw [List.filter_eq_nil_iff]
          intro p hp
          obtain ⟨i, hi, rfl⟩ := List.mem_map.1 hp
          have := List.mem_range.1 hi
          simp; omega
        have : decide ((F : Int) < (n : Int) + 1) = false := by simp; omega
        rw [h0]
        simp [this]; omega
  exact key A.length hF
theorem sa_get (A : List Int) (F : Nat) (n : Int) : mget (sa A F).kept n = if (F : Int) < n ∧ 1 ≤ n ∧ n ≤ A.length then some (A.getD (n - 1).toNat 0) else none := by
  have h := mget_filter (keptOf A) (fun k => decide ((F : Int) < k)) n
  have h2 := mget_keptOf A n
  unfold sa
  simp only
  rw [h, h2]
  by_cases h3 : (F : Int) < n
  · rw [if_pos (by simpa using h3)]
    by_cases h4 : 1 ≤ n ∧ n ≤ A.length
    · rw [if_pos h4, if_pos ⟨h3, h4⟩]
    · rw [if_neg h4, if_neg (fun h => h4 h.2)]
  · rw [if_neg (by simpa using h3), if_neg (fun h => h3 h.1)]
theorem sa_err (A : List Int) (F : Nat) (hF : F ≤ A.length) (word : Int) : seErr (sa A F) word = if isWord word = false then 1 else if 40 ≤ A.length - F then 4 else 0 := by
  unfold seErr
  have : (sa A F).kept.length = A.length - F := keptOf_filter_len A F hF
  rw [this]
theorem sa_say (A : List Int) (F : Nat) (hF : F ≤ A.length) (word : Int) (h : seErr (sa A F) word = 0) : seSay (sa A F) word = sa (A ++ [word]) F ∧ seGot (sa A F) word = (A.length : Int) + 1 := by
  unfold seSay seGot
  rw [if_pos h, if_pos h]
  refine ⟨?_, rfl⟩
  have hno : mget (sa A F).kept ((A.length : Int) + 1) = none := by rw [sa_get, if_neg (by omega)]
  have hp : mput (sa A F).kept (((sa A F).said : Int) + 1) word = (sa A F).kept ++ [((A.length : Int) + 1, word)] := mput_new (mget_none.1 hno)
  rw [hp]
  unfold sa
  simp only
  rw [keptOf_snoc, List.filter_append, List.length_append]
  have : decide ((F : Int) < (A.length : Int) + 1) = true := by simp; omega
  simp [this]
theorem sa_askErr (A : List Int) (F : Nat) (n : Int) : seAskErr (sa A F) n = if n < 1 then 1 else if (A.length : Int) < n then 1 else if n ≤ F then 5 else 0 := by
  unfold seAskErr
  rw [sa_get]
  show (if n < 1 then 1 else if (A.length : Int) < n then 1 else _) = _
  by_cases h1 : n < 1
  · rw [if_pos h1, if_pos h1]
  by_cases h2 : (A.length : Int) < n
  · rw [if_neg h1, if_neg h1, if_pos h2, if_pos h2]
  rw [if_neg h1, if_neg h1, if_neg h2, if_neg h2]
  by_cases h3 : n ≤ F
  · rw [if_pos h3, show (if (F : Int) < n ∧ 1 ≤ n ∧ n ≤ A.length then some (A.getD (n - 1).toNat 0) else none) = none from if_neg (by omega)]; rfl
  · rw [if_neg h3, show (if (F : Int) < n ∧ 1 ≤ n ∧ n ≤ A.length then some (A.getD (n - 1).toNat 0) else none) = some _ from if_pos (by omega)]; rfl
theorem sa_ask (A : List Int) (F : Nat) (n : Int) (h : seAskErr (sa A F) n = 0) : seAsk (sa A F) n = A.getD (n - 1).toNat 0 := by
  have e := sa_askErr A F n
  rw [h] at e
  unfold seAsk
  rw [if_pos h, sa_get, if_pos]
  · rfl
  · by_cases h1 : n < 1
    · rw [if_pos h1] at e; cases e
    by_cases h2 : (A.length : Int) < n
    · rw [if_neg h1, if_pos h2] at e; cases e
    by_cases h3 : n ≤ F
    · rw [if_neg h1, if_neg h2, if_pos h3] at e; cases e
    omega
theorem sa_free (A : List Int) (F : Nat) (n : Nat) (h : n ≤ A.length) : seFreeErr (sa A F) n = 0 ∧ seFree (sa A F) n = sa A (max F n) := by
  have e : seFreeErr (sa A F) n = 0 := by
    unfold seFreeErr
    rw [if_neg (by omega), if_neg (by show ¬ ((A.length : Int) < n); omega)]
  refine ⟨e, ?_⟩
  unfold seFree
  rw [if_pos e]
  unfold sa
  simp only [List.filter_filter, Se.mk.injEq, and_true]
  congr 1
  funext p
  rw [Bool.eq_iff_iff]
  simp
  omega
theorem sa_freeErr (A : List Int) (F : Nat) (n : Int) : seFreeErr (sa A F) n = if n < 0 then 1 else if (A.length : Int) < n then 1 else 0 := rfl
theorem sa_new : (⟨[], 0⟩ : Se) = sa [] 0 := rfl
end Go.Proofs.YteelldblfmhjlaaDoor
