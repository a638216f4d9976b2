/- AgainWhole: what is lost is asked for, and then all is heard in order. -/
import Derived.Test.YteelldblfmhjlaaDoorAgainP
namespace Go.Proofs.YteelldblfmhjlaaDoor
set_option linter.unusedVariables false
set_option linter.unusedSimpArgs false
open Go.RowKit
def seAt (A : List Int) : Se := ⟨keptOf A, A.length⟩
theorem seAt_err (A : List Int) (x : Int) (hA : A.length < 30) : seErr (seAt A) x = if isWord x then 0 else 1 := by
  unfold seErr seAt
  have : ¬ 40 ≤ (keptOf A).length := by simp [keptOf]; omega
  cases h : isWord x <;> simp [this]
theorem seAt_say (A : List Int) (x : Int) (hA : A.length < 30) (hx : isWord x = true) : seSay (seAt A) x = seAt (A ++ [x]) ∧ seGot (seAt A) x = (A.length : Int) + 1 := by
  have he : seErr (seAt A) x = 0 := by rw [seAt_err A x hA, hx]; rfl
  unfold seSay seGot
  rw [if_pos he, if_pos he]
  refine ⟨?_, rfl⟩
  unfold seAt
  have hno : mget (keptOf A) ((A.length : Int) + 1) = none := by rw [mget_keptOf, if_neg (by omega)]
  simp only
  rw [mput_new (mget_none.1 hno), keptOf_snoc, List.length_append]
  rfl
theorem aw_ask (A : List Int) (k : Nat) (h1 : 1 ≤ k) (h2 : k ≤ A.length) : seAskErr (seAt A) k = 0 ∧ seAsk (seAt A) k = A.getD (k - 1) 0 := by
  have hm : mget (keptOf A) (k : Int) = some (A.getD (k - 1) 0) := by
    rw [mget_keptOf, if_pos (by omega), show ((k : Int) - 1).toNat = k - 1 from by omega]
  have he : seAskErr (seAt A) k = 0 := by
    unfold seAskErr seAt
    simp only [hm]
    rw [if_neg (by omega), if_neg (by omega)]; rfl
  refine ⟨he, ?_⟩
  unfold seAsk
  rw [if_pos he]
  show (mget (keptOf A) _).getD 0 = _
  rw [hm]; rfl
theorem aw_free (A : List Int) (free : Int) (h : seFreeErr (seAt A) free = 0) (k : Nat) (h1 : 1 ≤ k) (h2 : k ≤ A.length) : seAskErr (seFree (seAt A) free) k = if free < (k : Int) then 0 else 5 := by
  have hm : mget (keptOf A) (k : Int) = some (A.getD (k - 1) 0) := by
    rw [mget_keptOf, if_pos (by omega), show ((k : Int) - 1).toNat = k - 1 from by omega]
  have hf := mget_filter (keptOf A) (fun n => decide (free < n)) (k : Int)
  unfold seFree
  rw [if_pos h]
  unfold seAskErr seAt
  simp only
  rw [if_neg (by omega), if_neg (by omega), hf]
  by_cases hk : free < (k : Int) <;> simp [hk, hm]
theorem aw_free_err (A : List Int) (free : Int) : seFreeErr (seAt A) free = if free < 0 then 1 else if (A.length : Int) < free then 1 else 0 := rfl
theorem aw_facts : seErr ⟨[], 0⟩ 9 = 0 ∧ seGot ⟨[], 0⟩ 9 = 1 ∧ seAskErr (seSay ⟨[], 0⟩ 9) 1 = 0 ∧ seAsk (seSay ⟨[], 0⟩ 9) 1 = 9 ∧ (seSay ⟨[], 0⟩ 9).said = 1 := by decide
theorem isWord_cases {x : Int} (h : isWord x = false) : x < 1 ∨ (¬ x < 1 ∧ 30 < x) := by simp [isWord] at h; omega
theorem aw_errV1 : errV 1 = .iface 99 (.int .i64 1) := rfl
theorem aw_errV5 : errV 5 = .iface 99 (.int .i64 5) := rfl
theorem star_rot3 (A B C D : HProp) : A * (B * (C * D)) = C * (A * (B * D)) := by ac_rfl
theorem aw_len {A out : List Int} {h c : Nat} (hA : A.length ≤ 30) (e : A.take h ++ out = A.take (h + c)) : (A.take h).length + out.length ≤ 30 := by
  have := congrArg List.length e
  rw [List.length_append, List.length_take, List.length_take] at this
  rw [List.length_take]
  omega
theorem aw_app {w0 w : World} {v vo : Value} {A out : List Int} {h c : Nat} {T R : HProp} (e : A.take h ++ out = A.take (h + c))
    (ho : Own w0 (Sl 3 1 v ((A.take h).length + out.length) ((A.take h).map (Value.int .i64) ++ out.map (Value.int .i64)) * (IntSl vo out * (T * R))) w) : Own w0 (IntSl v (A.take (h + c)) * (T * R)) w := by
  have h1 := (ho.perm (star_left_comm _ _ _)).drop
  rw [← List.length_append, ← List.map_append, e] at h1
  exact h1
theorem aw_all {A : List Int} {f f' : Fi} {h h' : Nat} (hi : FInv A f h) (hw : wordsOk A) (hi' : FInv A f' h') (hk : ∀ n, fiHas f 0 n = true → fiHas f' 0 n = true)
    (hx : ∀ z ∈ heLacks f (A.length : Int), fiHas f' 0 z = true) : h' = A.length :=
  he_all hi' fun j h1 h2 => by
    cases hf : fiHas f 0 (j : Int)
    · refine hx _ ((heLacks_mem hi hw _).2 ⟨?_, by omega, hf⟩)
      unfold fiHas at hf
      rw [hi.nx] at hf
      simp at hf
      omega
    · exact hk _ hf
end Go.Proofs.YteelldblfmhjlaaDoor
