/- StablePlays: rows of a table that the law makes; plain laws. -/
import Derived.Test.YteelldblfmhjlaaDoorStablePlain
import Derived.Test.YteelldblfmhjlaaDoorVectorJoins
import Derived.Test.YteelldblfmhjlaaDoorStable4
import Derived.Test.YteelldblfmhjlaaDoorToken
import Derived.Test.YteelldblfmhjlaaDoorRef1
import Derived.Test.YteelldblfmhjlaaDoorTold
namespace Go.Proofs.YteelldblfmhjlaaDoor
set_option linter.unusedVariables false
set_option linter.unusedSimpArgs false
open Go.RowKit
def RowT (rb : Nat) (rs : List (Value × List Int)) : HProp := TabO rowP (·.1) 22 rb 0 rs.length rs
section
variable {w0 w : World} {rb : Nat} {rs : List (Value × List Int)} {R : HProp}
theorem rowT_cell (h : Own w0 (RowT rb rs * R) w) (i : Nat) (hi : i < rs.length) : w.cell? ⟨rb, i, none⟩ = some rs[i].1 := by
  have := (Own.tab_facts h).1 i rs[i] (by simp [hi])
  rwa [Nat.zero_add] at this
theorem rowT_free (h : Own w0 (RowT rb rs * R) w) (i : Nat) : w.frozen? ⟨rb, i, none⟩ = false := (Own.tab_facts h).2.1 i none
/-- What is left of the table while row k is out. -/
def RowX (rb : Nat) (rs : List (Value × List Int)) (k : Nat) : HProp := SlAt 22 1 rb 0 rs.length rs.length (rs.map (·.1)) * starL rowP (rs.eraseIdx k)
theorem rowT_take (h : Own w0 (RowT rb rs * R) w) {k : Nat} (hk : k < rs.length) : Own w0 (IntSl rs[k].1 rs[k].2 * (RowX rb rs k * R)) w :=
  (Own.tab_take h hk).perm (by unfold RowX rowP; ac_rfl)
theorem rowX_cell {Q : HProp} {k : Nat} (h : Own w0 (Q * (RowX rb rs k * R)) w) (i : Nat) (hi : i < rs.length) : w.cell? ⟨rb, i, none⟩ = some rs[i].1 := by
  have h1 : Own w0 (Q * (SlAt 22 1 rb 0 rs.length rs.length (rs.map (·.1)) * (starL rowP (rs.eraseIdx k) * R))) w := h.perm (by unfold RowX; ac_rfl)
  have := (Own.tab_facts' h1).1 i rs[i] (by simp [hi])
  rwa [Nat.zero_add] at this
theorem rowT_give {k : Nat} (hk : k < rs.length) {l : List Int} (h : Own w0 (IntSl rs[k].1 l * (RowX rb rs k * R)) w) : Own w0 (RowT rb (rs.set k (rs[k].1, l)) * R) w := by
  refine h.perm ?_
  unfold RowT TabO RowX
  have e : (rs.set k (rs[k].1, l)).map (·.1) = rs.map (·.1) := by
    rw [List.map_set]
    have : rs[k].1 = (rs.map (·.1))[k]'(by simpa using hk) := by simp
    simp only
    rw [this, List.set_getElem_self]
  rw [starL_set rowP rs k hk, e, List.length_set]
  unfold rowP
  ac_rfl
theorem rowT_put {k : Nat} (hk : k < rs.length) {v : Value} {l : List Int} (h : Own w0 (IntSl v l * (RowX rb rs k * R)) w) : Own w0 (RowT rb (rs.set k (v, l)) * R) (w.setCell ⟨rb, k, none⟩ v) := by
  have h1 : Own w0 (rowP (v, l) * (SlAt 22 1 rb 0 rs.length rs.length (rs.map (·.1)) * (starL rowP (rs.eraseIdx k) * R))) w := h.perm (by unfold RowX rowP; ac_rfl)
  have h2 := Own.tab_put (val := fun r : Value × List Int => r.1) hk h1
  rw [Nat.zero_add] at h2
  exact h2.perm (by unfold RowT; rw [List.length_set])
theorem Own.ints_five {v : Value} {l : List Int} (h : Own w0 (IntSl v l * R) w) (hl : 0 < l.length) :
    ∃ b off cap, v = .slice (some ⟨b, off, none⟩) l.length cap ∧ l.length ≤ cap ∧ (∀ i (hi : i < l.length), w.cell? ⟨b, off + i, none⟩ = some (.int .i64 l[i])) ∧ (∀ i, w.frozen? ⟨b, i, none⟩ = false) ∧
      ∀ i x, i < l.length → Own w0 (IntSl v (l.set i x) * R) (w.setCell ⟨b, off + i, none⟩ (.int .i64 x)) := by
  obtain ⟨b, off, cap, e, h1, _, hc, hf, _, _, hs⟩ := Own.sl_at h (by simpa using hl)
  refine ⟨b, off, cap, e, h1, fun i hi => hc i _ (by simp [hi]), fun i => hf i none, fun i x hi => ?_⟩
  have := hs i (.int .i64 x) (by simpa using hi)
  unfold IntSl
  rw [List.length_set, List.map_set]
  exact this
end
theorem mid_get {a b : List Int} {k : Nat} (hk : k ≤ a.length) (i : Nat) : (a.take k ++ b.drop k)[i]? = if i < k then a[i]? else b[i]? := by
  rw [List.getElem?_append, List.length_take, Nat.min_eq_left hk]
  by_cases h : i < k
  · rw [if_pos h, if_pos h, List.getElem?_take, if_pos h]
  · rw [if_neg h, if_neg h, List.getElem?_drop, show k + (i - k) = i from by omega]
theorem mid_succ {a b : List Int} {k : Nat} {x : Int} (h : a.length = b.length) (hk : k < a.length) (hx : a[k]? = some x) : (a.take k ++ b.drop k).set k x = a.take (k + 1) ++ b.drop (k + 1) := by
  apply List.ext_getElem?
  intro i
  rw [mid_get (by omega), List.getElem?_set, mid_get (by omega)]
  by_cases hik : k = i
  · subst hik
    rw [if_pos rfl, if_pos (by simp; omega), if_pos (by omega), hx]
  · rw [if_neg hik]
    by_cases hlt : i < k
    · rw [if_pos hlt, if_pos (by omega)]
    · rw [if_neg hlt, if_neg (by omega)]
/-- Row r on its way: the first k numbers are the greater ones. -/
def midMax (row v : List Int) (k : Nat) : List Int := (zipMax row v).take k ++ row.drop k
theorem midMax_zero (row v : List Int) : midMax row v 0 = row := by simp [midMax]
theorem midMax_len {row v : List Int} (h : row.length = v.length) (k : Nat) : (midMax row v k).length = row.length := by
  unfold midMax
  rw [List.length_append, List.length_take, List.length_drop, zipMax_len row v h]; omega
theorem midMax_end {row v : List Int} (h : row.length = v.length) : midMax row v row.length = zipMax row v := by
  unfold midMax
  rw [List.drop_length, List.append_nil, List.take_of_length_le (by rw [zipMax_len row v h]; exact Nat.le_refl _)]
theorem midMax_get {row v : List Int} (h : row.length = v.length) {k : Nat} (hk : k < row.length) : (midMax row v k)[k]'(by rw [midMax_len h]; exact hk) = row[k] := by
  unfold midMax
  rw [List.getElem_append_right (by rw [List.length_take, zipMax_len row v h]; omega)]
  simp only [List.getElem_drop, List.length_take, zipMax_len row v h]
  congr 1; omega
theorem midMax_succ {row v : List Int} (h : row.length = v.length) {k : Nat} (hk : k < row.length) (hk2 : k < v.length) : midMax row v (k + 1) = (midMax row v k).set k (max row[k] v[k]) := by
  have hz := zipMax_len row v h
  unfold midMax
  refine (mid_succ hz (by omega) ?_).symm
  rw [List.getElem?_eq_getElem (by omega), zipMax_get row v k hk hk2]
/-- The least of the first m rows at place k. -/
def LeastAt (rows : List (List Int)) (k m : Nat) (x : Int) : Prop := (∃ r ∈ rows.take m, x = r.getD k 0) ∧ ∀ r ∈ rows.take m, x ≤ r.getD k 0
theorem leastAt_one {rows : List (List Int)} (k : Nat) (h : 0 < rows.length) : LeastAt rows k 1 (rows[0].getD k 0) := by
  have e : rows.take 1 = [rows[0]] := by cases rows with | nil => simp at h | cons a r => rfl
  unfold LeastAt
  rw [e]
  exact ⟨⟨_, by simp, rfl⟩, fun r hr => by simp at hr; subst hr; exact Int.le_refl _⟩
theorem leastAt_succ {rows : List (List Int)} {k m : Nat} {x : Int} (h : LeastAt rows k m x) (hm : m < rows.length) : LeastAt rows k (m + 1) (if rows[m].getD k 0 < x then rows[m].getD k 0 else x) := by
  unfold LeastAt
  rw [List.take_succ_eq_append_getElem hm]
  obtain ⟨⟨r, hr, hx⟩, hall⟩ := h
  by_cases hlt : rows[m].getD k 0 < x
  · rw [if_pos hlt]
    refine ⟨⟨rows[m], List.mem_append.2 (.inr (by simp)), rfl⟩, fun s hs => ?_⟩
    rcases List.mem_append.1 hs with hs | hs
    · have := hall s hs; omega
    · simp at hs; subst hs; exact Int.le_refl _
  · rw [if_neg hlt]
    refine ⟨⟨r, List.mem_append.2 (.inl hr), hx⟩, fun s hs => ?_⟩
    rcases List.mem_append.1 hs with hs | hs
    · exact hall s hs
    · simp at hs; subst hs; omega
theorem leastAt_end {rows : List (List Int)} (hok : rowsOk rows) (hne : 0 < rows.length) {k : Nat} (hk : k < 5) {x : Int} (h : LeastAt rows k rows.length x) : x = (leastOf rows).getD k 0 := by
  have hl := leastOf_len hok hne
  have hk1 : k < (leastOf rows).length := by omega
  have h5 := rowsOk_len hok
  unfold LeastAt at h
  rw [List.take_length] at h
  obtain ⟨⟨r, hr, hx⟩, hall⟩ := h
  obtain ⟨s, hs, hk2, he⟩ := leastOf_is hok hne k hk1
  have e1 : (leastOf rows).getD k 0 = (leastOf rows)[k] := by simp [hk1]
  have e2 : r.getD k 0 = r[k]'(by rw [h5 r hr]; exact hk) := by simp [show k < r.length by rw [h5 r hr]; exact hk]
  have e3 : s.getD k 0 = s[k] := by simp [hk2]
  have h1 := leastOf_le hok r hr k hk1 (by rw [h5 r hr]; exact hk)
  have h2 := hall s hs
  rw [e1]
  rw [e3] at h2
  rw [e2] at hx
  omega
def midLeast (rows : List (List Int)) (k : Nat) : List Int := (leastOf rows).take k ++ zero5.drop k
theorem midLeast_zero (rows : List (List Int)) : midLeast rows 0 = zero5 := by simp [midLeast]
theorem midLeast_len {rows : List (List Int)} (hok : rowsOk rows) (hne : 0 < rows.length) {k : Nat} (hk : k ≤ 5) : (midLeast rows k).length = 5 := by
  unfold midLeast
  rw [List.length_append, List.length_take, List.length_drop, leastOf_len hok hne]
  show _ + (5 - k) = 5
  omega
theorem midLeast_end {rows : List (List Int)} (hok : rowsOk rows) (hne : 0 < rows.length) : midLeast rows 5 = leastOf rows := by
  unfold midLeast
  rw [List.take_of_length_le (by rw [leastOf_len hok hne]; exact Nat.le_refl _)]
  simp [zero5]
theorem midLeast_succ {rows : List (List Int)} (hok : rowsOk rows) (hne : 0 < rows.length) {k : Nat} (hk : k < 5) : (midLeast rows k).set k ((leastOf rows).getD k 0) = midLeast rows (k + 1) := by
  have hl := leastOf_len hok hne
  unfold midLeast
  refine mid_succ (by rw [hl]; rfl) (by omega) ?_
  simp [show k < (leastOf rows).length by omega]
end Go.Proofs.YteelldblfmhjlaaDoor
