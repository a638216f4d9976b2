/- What plain.Told makes of an error: its number. -/
import Derived.Test.YtkgnjkokbiefgaaAs
namespace Go.Proofs.Ytkgnjkokbiefgaa
open Go.RowKit
set_option linter.unusedVariables false
end Go.Proofs.Ytkgnjkokbiefgaa
