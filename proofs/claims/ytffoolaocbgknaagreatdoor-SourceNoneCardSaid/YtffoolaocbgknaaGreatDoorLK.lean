import Derived.Test.YtffoolaocbgknaaGreatDoorLC
import Derived.Test.YtffoolaocbgknaaGreatDoorLI
/-! The law's answer, told to its row. -/
namespace Go.Proofs.YtffoolaocbgknaaGreatDoor.PD
open Go Go.Proofs Go.RowKit GoD Go.Proofs.YtffoolaocbgknaaGreatDoorW.PrintWords
set_option maxRecDepth 100000
def SourceNone.f := S2.f
theorem SourceNone.calls (a0 a1 : ByteArray) (r : Bool) (w : World) (h : SourceNone.f a0 a1 = some r) : Calls Tryz.prog 6 #[.string a0, .string a1] w fun e w' => e = .returned (.bool r) ∧ Below w.heap.size w w' := S2.calls pLawN_ok (fun _ _ => rfl) (by kernel_rfl) a0 a1 r w h
end Go.Proofs.YtffoolaocbgknaaGreatDoor.PD
