/- EvalAsks: closed facts of its row. -/
import Derived.Test.YtcaaebjjgbcjpaaGreatDoorRows
import Derived.Test.YtcaaebjjgbcjpaaGreatDoorChecked
import Derived.JoinedCond
import Derived.KernelRfl
import GoSem.ClaimSeven
namespace Go.Proofs.YtcaaebjjgbcjpaaGreatDoor.evalAsks
set_option maxRecDepth 100000
theorem j11 : ((Rows.evalAsksRow.recurses == Tryz.prog.recurses 3)) = true := by kernel_rfl
end Go.Proofs.YtcaaebjjgbcjpaaGreatDoor.evalAsks
