import Derived.Test.YtkhcoeampamegaaGreatDoorLC
import Derived.Test.YtkhcoeampamegaaGreatDoorNI
/-! The law's answer, told to its row. -/
namespace Go.Proofs.YtkhcoeampamegaaGreatDoor.PD
open Go Go.Proofs Go.RowKit GoD Go.Proofs.YtkhcoeampamegaaGreatDoorW.PrintWords
set_option maxRecDepth 100000
def DirectChains.f := S2.f
theorem DirectChains.calls (a0 a1 : ByteArray) (r : Bool) (w : World) (h : DirectChains.f a0 a1 = some r) : Calls Tryz.prog 3 #[.string a0, .string a1] w fun e w' => e = .returned (.bool r) ∧ Below w.heap.size w w' := S2.calls pLaw16c_ok (fun _ _ => rfl) (by kernel_rfl) a0 a1 r w h
end Go.Proofs.YtkhcoeampamegaaGreatDoor.PD
