/- Contracts of package stable: May; plain laws of what all have heard. -/
import Derived.Test.YtkgnjkokbiefgaaStablePlain
import Derived.Test.YtkgnjkokbiefgaaVectorJoins
namespace Go.Proofs.Ytkgnjkokbiefgaa
set_option linter.unusedVariables false
set_option linter.unusedSimpArgs false
open Go.RowKit
def mayErr (n : Nat) (who many : Int) : Nat := if inR who n = false then 1 else if isCount many = false then 1 else 0
def mayIs (rows : List (List Int)) (who many : Int) : Bool := if mayErr rows.length who many = 0 then decide (many ≤ (leastOf rows).getD who.toNat 0) else false
theorem leq_of_get {a b : List Int} (hl : a.length = b.length) (h : ∀ i (h1 : i < a.length) (h2 : i < b.length), a[i] ≤ b[i]) : leq a b = true := (leq_iff a b hl).2 h
theorem toldRows_get {rows : List (List Int)} {k : Nat} {v : List Int} (hk : k < rows.length) (he : toldErr rows.length (k : Int) v = 0) : toldRows rows (k : Int) v = rows.set k (zipMax (rows.getD k []) v) := by
  unfold toldRows
  rw [if_pos he]; rfl
/-- What was told makes rows and the least of all greater. -/
theorem rises {rows : List (List Int)} (hok : rowsOk rows) (hne : 0 < rows.length) {k : Nat} (hk : k < rows.length) {v : List Int} (he : toldErr rows.length (k : Int) v = 0) :
    leq (leastOf rows) (leastOf (toldRows rows k v)) = true ∧ leq (rowOf rows k) (rowOf (toldRows rows k v) k) = true ∧ leq v (rowOf (toldRows rows k v) k) = true ∧ toldRows (toldRows rows k v) k v = toldRows rows k v ∧ toldErr (toldRows rows k v).length (k : Int) v = 0 := by
  have hlen := toldRows_len rows k v
  have hok2 := toldRows_ok hok (k : Int) v
  have hin : inR (k : Int) rows.length = true := by simp [inR]; omega
  have hv : vecErr v = 0 := by
    unfold toldErr at he
    rw [hin] at he
    simpa using he
  have hrk : rows.getD k [] = rows[k] := by rw [List.getD_eq_getElem?_getD, List.getElem?_eq_getElem hk]; rfl
  have hvk := hok rows[k] (List.getElem_mem hk)
  have hl1 := (vecErr0 hvk).1
  have hl2 := (vecErr0 hv).1
  have htr := toldRows_get hk he
  rw [hrk] at htr
  have hr1 : rowOf rows k = rows[k] := by unfold rowOf; rw [hin]; simp [hk]
  have hr2 : rowOf (toldRows rows k v) k = zipMax rows[k] v := by unfold rowOf; rw [hlen, hin, htr]; simp [hk]
  have hzl := zipMax_len rows[k] v (by omega)
  refine ⟨?_, ?_, ?_, ?_, by rw [hlen]; exact he⟩
  · refine leq_of_get (by rw [leastOf_len hok hne, leastOf_len hok2 (by omega)]) fun i h1 h2 => ?_
    obtain ⟨r, hr, hi, e⟩ := leastOf_is hok2 (by omega) i h2
    rw [e]
    rw [htr] at hr
    rcases List.mem_or_eq_of_mem_set hr with hr | rfl
    · exact leastOf_le hok r hr i h1 hi
    · have h3 : i < rows[k].length := by omega
      have h4 := leastOf_le hok rows[k] (List.getElem_mem hk) i h1 h3
      rw [zipMax_get rows[k] v i h3 (by omega) hi]
      omega
  · rw [hr1, hr2]; exact leq_join_left _ _ (by omega)
  · rw [hr2]; exact leq_join_right _ _ (by omega)
  · have he2 : toldErr (toldRows rows k v).length (k : Int) v = 0 := by rw [hlen]; exact he
    rw [toldRows_get (by rw [hlen]; exact hk) he2]
    have h5 : (toldRows rows k v).getD k [] = zipMax rows[k] v := by rw [htr]; simp [hk]
    rw [h5]
    have h6 : zipMax (zipMax rows[k] v) v = zipMax rows[k] v := by
      refine List.ext_getElem (by rw [zipMax_len _ v (by omega)]) fun i h1 h2 => ?_
      rw [zipMax_get _ v i h2 (by omega), zipMax_get rows[k] v i (by omega) (by omega)]
      omega
    rw [h6, htr, List.set_set]
theorem least_below {rows : List (List Int)} (hok : rowsOk rows) (hne : 0 < rows.length) {m : Nat} (hm : m < rows.length) : leq (leastOf rows) (rowOf rows m) = true := by
  have hin : inR (m : Int) rows.length = true := by simp [inR]; omega
  have hr1 : rowOf rows m = rows[m] := by unfold rowOf; rw [hin]; simp [hm]
  rw [hr1]
  have hl := (vecErr0 (hok rows[m] (List.getElem_mem hm))).1
  exact leq_of_get (by rw [leastOf_len hok hne, hl]) fun i h1 h2 => leastOf_le hok _ (List.getElem_mem hm) i h1 h2
theorem vecErr_row {rows : List (List Int)} (hok : rowsOk rows) {m : Nat} (hm : m < rows.length) : vecErr (rowOf rows m) = 0 := by
  have hin : inR (m : Int) rows.length = true := by simp [inR]; omega
  have hr1 : rowOf rows m = rows[m] := by unfold rowOf; rw [hin]; simp [hm]
  rw [hr1]; exact hok _ (List.getElem_mem hm)
end Go.Proofs.Ytkgnjkokbiefgaa
