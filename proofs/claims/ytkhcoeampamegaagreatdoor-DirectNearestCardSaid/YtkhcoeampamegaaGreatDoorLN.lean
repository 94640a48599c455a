import Derived.Test.YtkhcoeampamegaaGreatDoorLC
import Derived.Test.YtkhcoeampamegaaGreatDoorNH
/-! The law's answer, told to its row. -/
namespace Go.Proofs.YtkhcoeampamegaaGreatDoor.PD
open Go Go.Proofs Go.RowKit GoD Go.Proofs.YtkhcoeampamegaaGreatDoorW.PrintWords
set_option maxRecDepth 100000
def SIS.f (a0 : ByteArray) (a1 : Int) (a2 : ByteArray) : Option Bool := if a0.size ≤ 281474976710656 ∧ IntKind.i64.wrap a1 = a1 ∧ a2.size ≤ 281474976710656 then some true else none
theorem SIS.calls {f : FuncId} {C : Ct} (ok : CtOk Tryz.prog G0 f C) (hC : ∀ x0 x1 x2, C [.s x0, .i .i64 x1, .s x2] [] = some (.b true, [])) (hf : callableB Tryz.prog f = true) (a0 : ByteArray) (a1 : Int) (a2 : ByteArray) (r : Bool) (w : World) (h : SIS.f a0 a1 a2 = some r) : Calls Tryz.prog f #[.string a0, .int .i64 a1, .string a2] w fun e w' => e = .returned (.bool r) ∧ Below w.heap.size w w' := by
  unfold SIS.f at h
  split at h
  · rename_i h0
    obtain ⟨h0_0, h0_1, h0_2⟩ := h0
    obtain rfl := Option.some.inj h
    exact law_calls (ok_of (ok _ _ _ _ (hC _ _ _)) hf) (fun i b h => by simp at h) (HR_nil w) (.cons (R_str h0_0) (.cons (.i _ _ h0_1) (.cons (R_str h0_2) .nil)))
  · cases h
theorem SIS.holds {a0 : ByteArray} {a1 : Int} {a2 : ByteArray} (h0 : a0.size ≤ 140737488351232) (h1 : (Lit.int .i64 a1).wf = true) (h2 : a2.size ≤ 140737488351232) : SIS.f a0 a1 a2 = some true := if_pos ⟨by omega, wrap_of h1, by omega⟩
def DirectNearest.f := SIS.f
theorem DirectNearest.calls (a0 : ByteArray) (a1 : Int) (a2 : ByteArray) (r : Bool) (w : World) (h : DirectNearest.f a0 a1 a2 = some r) : Calls Tryz.prog 6 #[.string a0, .int .i64 a1, .string a2] w fun e w' => e = .returned (.bool r) ∧ Below w.heap.size w w' := SIS.calls pLaw16k_ok (fun _ _ _ => rfl) (by kernel_rfl) a0 a1 a2 r w h
end Go.Proofs.YtkhcoeampamegaaGreatDoor.PD
