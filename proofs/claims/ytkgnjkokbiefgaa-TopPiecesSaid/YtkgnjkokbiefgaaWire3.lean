/- Contracts of package wire, continued: Unpack. -/
import Derived.Test.YtkgnjkokbiefgaaWire2
import Derived.Laws.IdiomStrings
import Derived.Test.YtkgnjkokbiefgaaVec2
namespace Go.Proofs.Ytkgnjkokbiefgaa
set_option linter.unusedVariables false
set_option linter.unusedSimpArgs false
open Go.RowKit
abbrev SdB (b : Nat) (who word : Int) (v : Value) : HProp := blk b (.cells #[.int .i64 who, .int .i64 word, v] 29 (0, 0))
section
variable {w0 w : World} {b : Nat} {who word : Int} {v : Value} {R : HProp}
theorem Own.sd (h : Own w0 (SdB b who word v * R) w) : w.cell? ⟨b, 0, none⟩ = some (.int .i64 who) ∧ w.cell? ⟨b, 1, none⟩ = some (.int .i64 word) ∧ w.cell? ⟨b, 2, none⟩ = some v ∧ w.frozen? ⟨b, 0, none⟩ = false ∧ w.frozen? ⟨b, 1, none⟩ = false ∧ w.frozen? ⟨b, 2, none⟩ = false :=
  ⟨(h.cell 0).trans rfl, (h.cell 1).trans rfl, (h.cell 2).trans rfl, h.free 0 none, h.free 1 none, h.free 2 none⟩
theorem Own.sd_put (h : Own w0 (SdB b who word v * R) w) (n1 n2 : Int) (v2 : Value) : Own w0 (SdB b n1 n2 v2 * R) (((w.setCell ⟨b, 0, none⟩ (.int .i64 n1)).setCell ⟨b, 1, none⟩ (.int .i64 n2)).setCell ⟨b, 2, none⟩ v2) :=
  ((h.setCell (i := 0) (v := .int .i64 n1)).setCell (i := 1) (v := .int .i64 n2)).setCell (i := 2) (v := v2)
end
theorem bytes_rd {w0 w : World} {b cap hi lo : Nat} {t : ByteArray} {R : HProp} (h : Own w0 (blk b (.cells (bytesRow t cap) 5 (lo, hi)) * R) w) (n : Nat) (hn : n ≤ t.data.toList.length) (hc : n ≤ cap) (hm : cap ≤ maxLen) : ByRd w (.slice (some ⟨b, 0, none⟩) n cap) (t.data.toList.take n) := by
  have hl : (t.data.toList.take n).length = n := by rw [List.length_take]; omega
  refine ⟨some ⟨b, 0, none⟩, cap, by rw [hl], by rw [hl]; exact hc, hm, by simp, fun i u hi => ⟨_, rfl, ?_⟩⟩
  rw [Addr.add_lit, Nat.zero_add, h.cell]
  rw [List.getElem?_map, List.getElem?_take] at hi
  split at hi
  · rename_i hlt
    have hi' : i < t.data.size := by rw [← Array.length_toList]; omega
    rw [bytesRow_at t cap i hi']
    rw [List.getElem?_eq_getElem (by omega)] at hi
    simp at hi
    rw [← hi]
    rfl
  · simp at hi
end Go.Proofs.Ytkgnjkokbiefgaa
