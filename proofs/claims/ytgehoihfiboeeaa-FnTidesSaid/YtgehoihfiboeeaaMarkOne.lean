/- One mark. -/
import Derived.Test.YtgehoihfiboeeaaInts
namespace Go.Proofs.Ytgehoihfiboeeaa
open Go.RowKit
set_option linter.unusedVariables false
end Go.Proofs.Ytgehoihfiboeeaa
