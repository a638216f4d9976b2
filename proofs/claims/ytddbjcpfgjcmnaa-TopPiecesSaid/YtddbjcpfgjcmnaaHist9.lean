/- Contracts of package history, continued: Cut. -/
import Derived.Test.YtddbjcpfgjcmnaaHist8
namespace Go.Proofs.Ytddbjcpfgjcmnaa
set_option linter.unusedVariables false
set_option linter.unusedSimpArgs false
open Go.RowKit
def cutOk (hs : List Ev) (many : List Int) : Bool := decide (cutErr hs many = 0) && cutB hs many
theorem Own.bools_at {w0 w : World} {v : Value} {l : List Bool} {R : HProp} (h : Own w0 (BoolSl v l * R) w) (hl : 0 < l.length) :
    ∃ b o cap, v = .slice (some ⟨b, o, none⟩) l.length cap ∧ l.length ≤ cap ∧ cap ≤ 9223372036854775807 ∧ ∀ j x, l[j]? = some x → w.cell? ⟨b, o + j, none⟩ = some (.bool x) := by
  obtain ⟨b, o, cap, e1, h2⟩ := Own.slAt h (by simpa using hl)
  have f := h2.slAt_facts
  exact ⟨b, o, cap, e1, f.1, f.2.1, fun j x hj => f.2.2.2.1 j _ (by simp [hj])⟩
theorem takenB_len {hs : List Ev} {many : List Int} {k : Nat} : True := trivial
end Go.Proofs.Ytddbjcpfgjcmnaa
