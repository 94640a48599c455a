/- EvalAsks: closed facts of its row. -/
import Derived.Test.YtcaaebjjgbcjpaaGreatDoorRows
import Derived.Test.YtcaaebjjgbcjpaaGreatDoorChecked
import Derived.JoinedCond
import Derived.KernelRfl
import GoSem.ClaimSeven
namespace Go.Proofs.YtcaaebjjgbcjpaaGreatDoor.evalAsks
set_option maxRecDepth 100000
theorem j0 : (Rows.evalAsksRow.wf (OpenSpec.ofChange (OpenSpec.ofChange Rows.evalAsksSpec).bare)) = true := by kernel_rfl
theorem j1 : (laidOutB Tryz.prog) = true := by kernel_rfl
theorem j2 : (mapsRowed Tryz.prog) = true := by kernel_rfl
theorem j3 : (Tryz.f3.params.all (Tryz.prog.readableRec ·)) = true := by kernel_rfl
theorem j4 : (namedTie Tryz.prog Rows.evalAsksRow.named (OpenSpec.ofChange Rows.evalAsksSpec).bare.vars) = true := by kernel_rfl
theorem j5 : ((Rows.evalAsksRow.stops == [])) = true := by kernel_rfl
theorem j6 : ((Tryz.prog.stops == [])) = true := by kernel_rfl
theorem j7 : ((Rows.evalAsksRow.knobs == [])) = true := by kernel_rfl
theorem j8 : ((Tryz.prog.stopKnobs == [])) = true := by kernel_rfl
theorem j13 : ((Rows.evalAsksRow.maps == (Tryz.f3.params.toList ++ (OpenSpec.ofChange Rows.evalAsksSpec).bare.plain.varTypes Tryz.prog).any (Tryz.prog.mapsRec ·))) = true := by kernel_rfl
theorem j14 : ((Rows.evalAsksRow.ifaces == (Tryz.f3.params.toList ++ (OpenSpec.ofChange Rows.evalAsksSpec).bare.plain.varTypes Tryz.prog).any (Tryz.prog.ifacesRec ·))) = true := by kernel_rfl
theorem j15 : ((Rows.evalAsksRow.mapsOut == Tryz.prog.mapsAmong Tryz.f3.resultTypes.toList)) = true := by kernel_rfl
theorem j16 : ((Rows.evalAsksRow.loops == (Tryz.f3.params.toList ++ (OpenSpec.ofChange Rows.evalAsksSpec).bare.plain.varTypes Tryz.prog).any (Tryz.prog.loopsFrom ·))) = true := by kernel_rfl
theorem j17 : ((Rows.evalAsksRow.wideKeys == (Tryz.f3.params.toList ++ (OpenSpec.ofChange Rows.evalAsksSpec).bare.plain.varTypes Tryz.prog ++ Tryz.f3.resultTypes.toList).any (Tryz.prog.wideKeysFrom ·))) = true := by kernel_rfl
theorem j18 : ((OpenSpec.ofChange Rows.evalAsksSpec).bare.vars.all (Tryz.prog.varReadable ·)) = true := by kernel_rfl
theorem j19 : (Tryz.f3.resultTypes.all (fun t => Tryz.prog.readableRec t && decide (t < Tryz.prog.types.size))) = true := by kernel_rfl
theorem j20 : ((Rows.evalAsksRow.ifacesOut == Tryz.f3.resultTypes.toList.any (Tryz.prog.ifacesRec ·))) = true := by kernel_rfl
theorem j21 : ((Rows.evalAsksRow.loopsOut == Tryz.f3.resultTypes.toList.any (Tryz.prog.loopsFrom ·))) = true := by kernel_rfl
theorem j22 : ((Rows.evalAsksRow.plainKeys == Tryz.prog.plainKeys)) = true := by kernel_rfl
theorem j23 : (Rows.evalAsksRow.shortTexts.isNone) = true := by kernel_rfl
theorem j24 : (Tryz.prog.stopsHeard) = true := by kernel_rfl
theorem j25 : (Tryz.prog.mayEnter) = true := by kernel_rfl
theorem j26 : ((Rows.evalAsksRow.lifted == Tryz.prog.liftsFinal)) = true := by kernel_rfl
theorem j27 : ((Tryz.prog.make == some Rows.evalAsksRow.make)) = true := by kernel_rfl
theorem j28 : ((Rows.evalAsksRow.kinds == (if Rows.evalAsksRow.domain.isEmpty then [] else Tryz.f3.params.toList.map fun t => match Tryz.prog.underlying t with | some (.int k) => some k | _ => none))) = true := by kernel_rfl
theorem j29 : ((Rows.evalAsksRow.pinned == Rows.evalAsksRow.pinnedBy)) = true := by kernel_rfl
theorem j30 : ((Rows.evalAsksRow.veiled == (Tryz.f3.params.toList ++ (OpenSpec.ofChange Rows.evalAsksSpec).bare.plain.varTypes Tryz.prog ++ Tryz.f3.resultTypes.toList).any (Tryz.prog.veiledRec ·))) = true := by kernel_rfl
theorem j31 : (Rows.evalAsksRow.veiledFits Tryz.prog Tryz.f3.params.toList (Tryz.f3.params.toList ++ (OpenSpec.ofChange Rows.evalAsksSpec).bare.plain.varTypes Tryz.prog ++ Tryz.f3.resultTypes.toList)) = true := by kernel_rfl
end Go.Proofs.YtcaaebjjgbcjpaaGreatDoor.evalAsks
