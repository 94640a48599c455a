import Derived.Test.YtkhcoeampamegaaGreatDoorLC
import Derived.Test.YtkhcoeampamegaaGreatDoorNG
/-! The law's answer, told to its row. -/
namespace Go.Proofs.YtkhcoeampamegaaGreatDoor.PD
open Go Go.Proofs Go.RowKit GoD Go.Proofs.YtkhcoeampamegaaGreatDoorW.PrintWords
set_option maxRecDepth 100000
def IS.f (a0 : Int) (a1 : ByteArray) : Option Bool := if IntKind.i64.wrap a0 = a0 ∧ a1.size ≤ 281474976710656 then some true else none
theorem IS.calls {f : FuncId} {C : Ct} (ok : CtOk Tryz.prog G0 f C) (hC : ∀ x0 x1, C [.i .i64 x0, .s x1] [] = some (.b true, [])) (hf : callableB Tryz.prog f = true) (a0 : Int) (a1 : ByteArray) (r : Bool) (w : World) (h : IS.f a0 a1 = some r) : Calls Tryz.prog f #[.int .i64 a0, .string a1] w fun e w' => e = .returned (.bool r) ∧ Below w.heap.size w w' := by
  unfold IS.f at h
  split at h
  · rename_i h0
    obtain ⟨h0_0, h0_1⟩ := h0
    obtain rfl := Option.some.inj h
    exact law_calls (ok_of (ok _ _ _ _ (hC _ _)) hf) (fun i b h => by simp at h) (HR_nil w) (.cons (.i _ _ h0_0) (.cons (R_str h0_1) .nil))
  · cases h
theorem IS.holds {a0 : Int} {a1 : ByteArray} (h0 : (Lit.int .i64 a0).wf = true) (h1 : a1.size ≤ 140737488351232) : IS.f a0 a1 = some true := if_pos ⟨wrap_of h0, by omega⟩
def DirectNone.f := IS.f
theorem DirectNone.calls (a0 : Int) (a1 : ByteArray) (r : Bool) (w : World) (h : DirectNone.f a0 a1 = some r) : Calls Tryz.prog 5 #[.int .i64 a0, .string a1] w fun e w' => e = .returned (.bool r) ∧ Below w.heap.size w w' := IS.calls pLaw16n_ok (fun _ _ => rfl) (by kernel_rfl) a0 a1 r w h
end Go.Proofs.YtkhcoeampamegaaGreatDoor.PD
