/- EvalAsks: closed facts of its row. -/
import Derived.Test.YtcaaebjjgbcjpaaGreatDoorRows
import Derived.Test.YtcaaebjjgbcjpaaGreatDoorChecked
import Derived.JoinedCond
import Derived.KernelRfl
import GoSem.ClaimSeven
namespace Go.Proofs.YtcaaebjjgbcjpaaGreatDoor.evalAsks
set_option maxRecDepth 100000
theorem goes : false = Rows.evalAsksRow.goesBy Tryz.pinned.checked.prog := by kernel_rfl
end Go.Proofs.YtcaaebjjgbcjpaaGreatDoor.evalAsks
