/- Slices of numbers: the laws' comparing, marking and holding. -/
import Derived.Test.YtgehoihfiboeeaaOwn
import Derived.Test.YtgehoihfiboeeaaRows
namespace Go.Proofs.Ytgehoihfiboeeaa
open Go.RowKit
set_option linter.unusedVariables false

theorem elInt : ElemOk Try.prog 40 3 (.int .i64 0) 1 8 := ⟨Try.underlying40, info_parts (by kernel_rfl), rfl, by decide, by decide⟩
end Go.Proofs.Ytgehoihfiboeeaa
