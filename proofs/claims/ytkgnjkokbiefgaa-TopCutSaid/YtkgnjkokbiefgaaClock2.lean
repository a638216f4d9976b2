/- Contracts of package clock, continued: vectors. -/
import Derived.Test.YtkgnjkokbiefgaaClock
namespace Go.Proofs.Ytkgnjkokbiefgaa
set_option linter.unusedVariables false
set_option linter.unusedSimpArgs false
open Go.RowKit
/-- A row of owned lists of ints: a slice of them. -/
def LSl (v : Value) (rs : List (Value × List Int)) : HProp := Sl 27 1 v rs.length (rs.map (·.1)) * starL rowP rs
/-- The same in an array of five. -/
def L5 (b : Nat) (rs : List (Value × List Int)) : HProp := blk b (.cells (rs.map (·.1)).toArray 187 (0, 0)) * starL rowP rs
theorem rows_one {rs : List (Value × List Int)} {k : Nat} {v : Value} {l : List Int} (h : rs[k]? = some (v, l)) : starL rowP rs = IntSl v l * starL rowP (rs.eraseIdx k) := by
  obtain ⟨hlt, he⟩ := List.getElem?_eq_some_iff.1 h
  rw [starL_split rowP rs k hlt, he]; rfl
theorem Own.l5_cell {w0 w : World} {b k : Nat} {rs : List (Value × List Int)} {v : Value} {l : List Int} {R : HProp} (h : Own w0 (L5 b rs * R) w) (hk : rs[k]? = some (v, l)) : w.cell? ⟨b, k, none⟩ = some v := by
  have h1 : Own w0 (blk b (.cells (rs.map (·.1)).toArray 187 (0, 0)) * (starL rowP rs * R)) w := h.perm (by unfold L5; ac_rfl)
  rw [Own.cell h1]; simp [hk]
theorem Own.l5_free {w0 w : World} {b : Nat} {rs : List (Value × List Int)} {R : HProp} (h : Own w0 (L5 b rs * R) w) : ∀ i, w.frozen? ⟨b, i, none⟩ = false := by
  have h1 : Own w0 (blk b (.cells (rs.map (·.1)).toArray 187 (0, 0)) * (starL rowP rs * R)) w := h.perm (by unfold L5; ac_rfl)
  exact fun i => Own.free h1 i none
theorem Own.l5_row {w0 w : World} {b k : Nat} {rs : List (Value × List Int)} {v : Value} {l : List Int} {R : HProp} (h : Own w0 (L5 b rs * R) w) (hk : rs[k]? = some (v, l)) (hI : ∀ x ∈ l, I64 x) : Ints w v l := by
  have h1 : Own w0 (IntSl v l * (starL rowP (rs.eraseIdx k) * (blk b (.cells (rs.map (·.1)).toArray 187 (0, 0)) * R))) w := h.perm (by unfold L5; rw [rows_one hk]; ac_rfl)
  exact ⟨Own.rd h1, hI⟩
theorem Own.l5_put {w0 w : World} {b k : Nat} {rs : List (Value × List Int)} {v : Value} {l : List Int} {R : HProp} (h : Own w0 (IntSl v l * (L5 b rs * R)) w) (hk : k < rs.length) : Own w0 (L5 b (rs.set k (v, l)) * R) (w.setCell ⟨b, k, none⟩ v) := by
  have h1 : Own w0 (rowP rs[k] * (blk b (.cells (rs.map (·.1)).toArray 187 (0, 0)) * (IntSl v l * (starL rowP (rs.eraseIdx k) * R)))) w := h.perm (by unfold L5; rw [starL_split rowP rs k hk]; ac_rfl)
  have h2 := h1.drop.setCell (i := k) (v := v)
  refine h2.perm ?_
  unfold L5
  rw [starL_set rowP rs k hk]
  show _ = blk b _ * (IntSl v l * starL rowP (rs.eraseIdx k)) * R
  rw [List.map_set, show ((rs.map (·.1)).set k (v, l).1).toArray = (rs.map (·.1)).toArray.setIfInBounds k v by simp]
  ac_rfl
theorem Own.ls_row {w0 w : World} {v rv : Value} {k : Nat} {rs : List (Value × List Int)} {l : List Int} {R : HProp} (h : Own w0 (LSl v rs * R) w) (hk : rs[k]? = some (rv, l)) (hI : ∀ x ∈ l, I64 x) :
    ∃ b off cap, v = .slice (some ⟨b, off, none⟩) rs.length cap ∧ rs.length ≤ cap ∧ cap ≤ 9223372036854775807 ∧ w.cell? ⟨b, off + k, none⟩ = some rv ∧ Ints w rv l := by
  obtain ⟨hlt, _⟩ := List.getElem?_eq_some_iff.1 hk
  have h1 : Own w0 (Sl 27 1 v rs.length (rs.map (·.1)) * (starL rowP rs * R)) w := h.perm (by unfold LSl; ac_rfl)
  obtain ⟨b, off, cap, e1, h2⟩ := h1.slAt (by simp; omega)
  have f := h2.slAt_facts
  have h3 : Own w0 (IntSl rv l * (starL rowP (rs.eraseIdx k) * (Sl 27 1 v rs.length (rs.map (·.1)) * R))) w := h.perm (by unfold LSl; rw [rows_one hk]; ac_rfl)
  exact ⟨b, off, cap, e1, f.1, f.2.1, f.2.2.2.1 k rv (by simp [hk]), Own.rd h3, hI⟩
theorem Own.ls_snoc {w0 w : World} {v x : Value} {rs : List (Value × List Int)} {l : List Int} {R : HProp} (h : Own w0 (Sl 27 1 v (rs.length + 1) (rs.map (·.1) ++ [x]) * (IntSl x l * (starL rowP rs * R))) w) : Own w0 (LSl v (rs ++ [(x, l)]) * R) w := by
  refine h.perm ?_
  unfold LSl
  rw [starL_snoc]
  show _ = Sl 27 1 v (rs ++ [(x, l)]).length ((rs ++ [(x, l)]).map (·.1)) * (IntSl x l * starL rowP rs) * R
  simp only [List.length_append, List.length_cons, List.length_nil, List.map_append, List.map_cons, List.map_nil, Nat.zero_add]
  ac_rfl
theorem LSl_nil : LSl (.slice none 0 0) [] = emp := by
  unfold LSl; rw [show starL rowP ([] : List (Value × List Int)) = emp from rfl, star_emp]; exact Sl_nil _ _
theorem L5_nil {b : Nat} : L5 b (List.replicate 5 (.slice none 0 0, [])) = blk b (.cells #[.slice none 0 0, .slice none 0 0, .slice none 0 0, .slice none 0 0, .slice none 0 0] 187 (0, 0)) := by
  unfold L5
  rw [starL_nils rowP (.slice none 0 0, []) (by unfold rowP IntSl; exact Sl_nil _ _), star_emp]
  rfl
set_option maxRecDepth 100000 in
set_option maxHeartbeats 4000000 in
theorem cloneNil_any (w : World) :
    Calls Try.prog 63 #[.slice none 0 0] w fun e w' => e = .returned (.slice none 0 0) ∧ w = w' := by
  have hnil := fun (w : World) => Lib.run_eql_slice_nil (P := Try.prog) w 27 3 none 0 0 0 0 Try.underlying27
  go_enter Try.func63, Try.ntmps63
  go_wp2
  go_ret
  exact ⟨rfl, rfl⟩
end Go.Proofs.Ytkgnjkokbiefgaa
