import Derived.Test.YtgldmliemeadpaaDoorLC
import Derived.Test.YtgldmliemeadpaaDoorHD
/-! The law's answer, told to its row. -/
namespace Go.Proofs.YtgldmliemeadpaaDoor.PD
open Go Go.Proofs Go.RowKit GoD Go.Proofs.YtgldmliemeadpaaDoorW.PrintWords
set_option maxRecDepth 100000
theorem wrap_u32 {a : Int} (h : (Lit.int .u32 a).wf = true) : IntKind.u32.wrap a = a := by
  have h : 0 ≤ a ∧ a ≤ 4294967295 := by simpa [Lit.wf, IntKind.has, IntKind.min, IntKind.max, IntKind.signed, IntKind.bits] using h
  rw [wu32m]; omega
def HostBases.f (a0 a1 : Int) : Option Bool := if IntKind.u32.wrap a0 = a0 ∧ IntKind.i64.wrap a1 = a1 then some true else none
theorem HostBases.calls (a0 a1 : Int) (r : Bool) (w : World) (h : HostBases.f a0 a1 = some r) : Calls Tryd.prog 3 #[.int .u32 a0, .int .i64 a1] w fun e w' => e = .returned (.bool r) ∧ Below w.heap.size w w' := by
  unfold HostBases.f at h
  split at h
  · rename_i h0
    obtain rfl := Option.some.inj h
    exact law_calls (ok_of (pLawB_ok _ _ _ _ rfl) (by kernel_rfl)) (fun i b h => by simp at h) (HR_nil w) (.cons (.i _ _ h0.1) (.cons (.i _ _ h0.2) .nil))
  · cases h
theorem UI.holds {a0 a1 : Int} (h : (Lit.int .u32 a0).wf = true) (h1 : (Lit.int .i64 a1).wf = true) : HostBases.f a0 a1 = some true := if_pos ⟨wrap_u32 h, wrap_of h1⟩
end Go.Proofs.YtgldmliemeadpaaDoor.PD
