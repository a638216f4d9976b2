/- Contracts of package history, continued: search for an event, what is wrong with one, with a history. -/
import Derived.Test.YtdeeephdojflpaaDoorHist
namespace Go.Proofs.YtdeeephdojflpaaDoor
set_option linter.unusedVariables false
set_option linter.unusedSimpArgs false
open Go.RowKit
theorem evErr_right {l : List Ev} {x : Ev} (h : rightB x = false) : evErr l x = 1 := by unfold evErr; rw [if_pos h]
theorem rightB_what {x : Ev} (h : rightB x = true) : x.2.1 = 1 ∨ x.2.1 = 2 ∨ x.2.1 = 3 := by
  unfold rightB at h
  by_cases h1 : x.2.1 = 1
  · exact .inl h1
  · simp [h1] at h; exact .inr h.2.1
end Go.Proofs.YtdeeephdojflpaaDoor
