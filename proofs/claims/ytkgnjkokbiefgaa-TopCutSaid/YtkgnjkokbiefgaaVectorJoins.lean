/- VectorJoins: what is joined is the least above both; a step is above, and not below. -/
import Derived.Test.YtkgnjkokbiefgaaStablePlain
namespace Go.Proofs.Ytkgnjkokbiefgaa
set_option linter.unusedVariables false
set_option linter.unusedSimpArgs false
open Go.RowKit
theorem bothErr_of {a b : List Int} (ha : vecErr a = 0) (hb : vecErr b = 0) : bothErr a b = 0 := by simp [bothErr, ha, hb]
theorem zipMax_comm (a b : List Int) (h : a.length = b.length) : zipMax a b = zipMax b a := by
  refine List.ext_getElem (by rw [zipMax_len a b h, zipMax_len b a h.symm, h]) fun k h1 h2 => ?_
  have hl := zipMax_len a b h
  rw [zipMax_get a b k (by omega) (by omega), zipMax_get b a k (by omega) (by omega), Int.max_def, Int.max_def]
  split <;> split <;> omega
theorem leq_join_left (a b : List Int) (h : a.length = b.length) : leq a (zipMax a b) = true := by
  have hl := zipMax_len a b h
  refine (leq_iff a _ hl.symm).2 fun k h1 h2 => ?_
  rw [zipMax_get a b k h1 (by omega)]; exact Int.le_max_left _ _
theorem leq_join_right (a b : List Int) (h : a.length = b.length) : leq b (zipMax a b) = true := by
  rw [zipMax_comm a b h]; exact leq_join_left b a h.symm
theorem leq_join_iff (a b c : List Int) (h : a.length = b.length) (h' : a.length = c.length) : (leq a c && leq b c) = leq (zipMax a b) c := by
  have hl := zipMax_len a b h
  rw [Bool.eq_iff_iff, Bool.and_eq_true, leq_iff a c h', leq_iff b c (by omega), leq_iff _ c (by omega)]
  constructor
  · rintro ⟨h1, h2⟩ k hk hk'
    rw [zipMax_get a b k (by omega) (by omega), Int.max_def]
    split
    · exact h2 k (by omega) hk'
    · exact h1 k (by omega) hk'
  · intro h1
    constructor
    · intro k hk hk'
      have := h1 k (by omega) hk'
      rw [zipMax_get a b k hk (by omega)] at this
      exact Int.le_trans (Int.le_max_left _ _) this
    · intro k hk hk'
      have := h1 k (by omega) hk'
      rw [zipMax_get a b k (by omega) hk] at this
      exact Int.le_trans (Int.le_max_right _ _) this
theorem stepErr0 {v : List Int} {who : Int} (h : stepErr v who = 0) : vecErr v = 0 ∧ ∃ k : Nat, ∃ hk : k < v.length, who = k ∧ v[k] ≠ 1000000 ∧ stepOf v who = v.set k (v[k] + 1) := by
  have h' := h
  unfold stepErr at h
  split at h
  · rename_i h1; exact absurd h h1
  · rename_i h1
    have hv : vecErr v = 0 := by omega
    split at h
    · cases h
    · rename_i h2
      split at h
      · cases h
      · rename_i h3
        have hw : 0 ≤ who ∧ who < 5 := by simpa [isMember] using h2
        obtain ⟨k, rfl⟩ := Int.eq_ofNat_of_zero_le hw.1
        have h5 := (vecErr0 hv).1
        have hk : k < v.length := by omega
        have e : v.getD k 0 = v[k] := by simp [hk]
        refine ⟨hv, k, hk, rfl, by rw [Int.toNat_natCast, e] at h3; exact h3, ?_⟩
        unfold stepOf
        rw [if_pos h', Int.toNat_natCast, e]
theorem vecErr_step {v : List Int} {who : Int} (h : stepErr v who = 0) : vecErr (stepOf v who) = 0 := by
  obtain ⟨hv, k, hk, rfl, hne, he⟩ := stepErr0 h
  rw [he]
  have h5 := (vecErr0 hv).1
  refine vecErr_get (by simp [h5]) fun j hj => ?_
  have h1 := vecErr_at hv k hk
  by_cases hjk : k = j
  · subst hjk; rw [List.getElem_set_self]; omega
  · rw [List.getElem_set_ne hjk]; exact vecErr_at hv j (by simpa using hj)
theorem step_up {v : List Int} {who : Int} (h : stepErr v who = 0) : leq v (stepOf v who) = true ∧ leq (stepOf v who) v = false := by
  obtain ⟨hv, k, hk, rfl, hne, he⟩ := stepErr0 h
  rw [he]
  constructor
  · refine (leq_iff _ _ (by simp)).2 fun j h1 h2 => ?_
    by_cases hjk : k = j
    · subst hjk; rw [List.getElem_set_self]; omega
    · rw [List.getElem_set_ne hjk]; exact Int.le_refl _
  · cases hx : leq (v.set k (v[k] + 1)) v with
    | false => rfl
    | true =>
      have := (leq_iff _ _ (by simp)).1 hx k (by simpa using hk) hk
      rw [List.getElem_set_self] at this; omega
theorem Own.alloc_at {w0 w : World} {R : HProp} {b : Nat} (h : Own w0 R w) (hb : b = w.heap.size) (o : Obj) : Own w0 (blk b o * R) (w.alloc o) := hb ▸ h.alloc o
theorem Reads_lit {w0 : World} {R : HProp} {b n : Nat} {t : TypeId} {cs : Array Value} {l : List Int} (hcs : cs.toList = l.map (Value.int .i64)) (hn : n = l.length) (hI : ∀ x ∈ l, I64 x) (hm : l.length ≤ 100000) :
    Reads w0 (blk b (.cells cs t (0, 0)) * R) (.slice (some ⟨b, 0, none⟩) n n) l := fun w ho => by
  subst hn
  refine ⟨Rd_one (fun i u hi => ?_) (Nat.le_refl _) (by unfold maxLen; omega), hI⟩
  rw [ho.cell, ← Array.getElem?_toList, hcs]; exact hi
end Go.Proofs.Ytkgnjkokbiefgaa
