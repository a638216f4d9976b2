/- Contracts of package wire, continued: Unpack. -/
import Derived.Test.YtddbjcpfgjcmnaaWire2
import Derived.Laws.IdiomStrings
import Derived.Test.YtddbjcpfgjcmnaaVec2
namespace Go.Proofs.Ytddbjcpfgjcmnaa
set_option linter.unusedVariables false
set_option linter.unusedSimpArgs false
open Go.RowKit
section
variable {w0 w : World} {b : Nat} {who word : Int} {v : Value} {R : HProp}
end
theorem bytes_rd {w0 w : World} {b cap hi lo : Nat} {t : ByteArray} {R : HProp} (h : Own w0 (blk b (.cells (bytesRow t cap) 5 (lo, hi)) * R) w) (n : Nat) (hn : n ≤ t.data.toList.length) (hc : n ≤ cap) (hm : cap ≤ maxLen) : ByRd w (.slice (some ⟨b, 0, none⟩) n cap) (t.data.toList.take n) := by
  have hl : (t.data.toList.take n).length = n := by rw [List.length_take]; omega
  refine ⟨some ⟨b, 0, none⟩, cap, by rw [hl], by rw [hl]; exact hc, hm, by simp, fun i u hi => ⟨_, rfl, ?_⟩⟩
  rw [Addr.add_lit, Nat.zero_add, h.cell]
  rw [List.getElem?_map, List.getElem?_take] at hi
  split at hi
  · rename_i hlt
    have hi' : i < t.data.size := by rw [← Array.length_toList]; omega
    rw [bytesRow_at t cap i hi']
    rw [List.getElem?_eq_getElem (by omega)] at hi
    simp at hi
    rw [← hi]
    rfl
  · simp at hi
end Go.Proofs.Ytddbjcpfgjcmnaa
