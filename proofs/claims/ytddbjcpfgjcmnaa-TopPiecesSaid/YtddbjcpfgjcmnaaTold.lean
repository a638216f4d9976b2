/- What plain.Told makes of an error: its number. -/
import Derived.Test.YtddbjcpfgjcmnaaAs
namespace Go.Proofs.Ytddbjcpfgjcmnaa
open Go.RowKit
set_option linter.unusedVariables false
end Go.Proofs.Ytddbjcpfgjcmnaa
