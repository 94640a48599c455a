import Derived.Test.YtkhcoeampamegaaGreatDoorLC
import Derived.Test.YtkhcoeampamegaaGreatDoorNF
/-! The law's answer, told to its row. -/
namespace Go.Proofs.YtkhcoeampamegaaGreatDoor.PD
open Go Go.Proofs Go.RowKit GoD Go.Proofs.YtkhcoeampamegaaGreatDoorW.PrintWords
set_option maxRecDepth 100000
def SSSS.f (a0 : ByteArray) (a1 : ByteArray) (a2 : ByteArray) (a3 : ByteArray) : Option Bool := if a0.size ≤ 281474976710656 ∧ a1.size ≤ 281474976710656 ∧ a2.size ≤ 281474976710656 ∧ a3.size ≤ 281474976710656 then some true else none
theorem SSSS.calls {f : FuncId} {C : Ct} (ok : CtOk Tryz.prog G0 f C) (hC : ∀ x0 x1 x2 x3, C [.s x0, .s x1, .s x2, .s x3] [] = some (.b true, [])) (hf : callableB Tryz.prog f = true) (a0 : ByteArray) (a1 : ByteArray) (a2 : ByteArray) (a3 : ByteArray) (r : Bool) (w : World) (h : SSSS.f a0 a1 a2 a3 = some r) : Calls Tryz.prog f #[.string a0, .string a1, .string a2, .string a3] w fun e w' => e = .returned (.bool r) ∧ Below w.heap.size w w' := by
  unfold SSSS.f at h
  split at h
  · rename_i h0
    obtain ⟨h0_0, h0_1, h0_2, h0_3⟩ := h0
    obtain rfl := Option.some.inj h
    exact law_calls (ok_of (ok _ _ _ _ (hC _ _ _ _)) hf) (fun i b h => by simp at h) (HR_nil w) (.cons (R_str h0_0) (.cons (R_str h0_1) (.cons (R_str h0_2) (.cons (R_str h0_3) .nil))))
  · cases h
theorem SSSS.holds {a0 : ByteArray} {a1 : ByteArray} {a2 : ByteArray} {a3 : ByteArray} (h0 : a0.size ≤ 140737488351232) (h1 : a1.size ≤ 140737488351232) (h2 : a2.size ≤ 140737488351232) (h3 : a3.size ≤ 140737488351232) : SSSS.f a0 a1 a2 a3 = some true := if_pos ⟨by omega, by omega, by omega, by omega⟩
def DirectOther.f := SSSS.f
theorem DirectOther.calls (a0 : ByteArray) (a1 : ByteArray) (a2 : ByteArray) (a3 : ByteArray) (r : Bool) (w : World) (h : DirectOther.f a0 a1 a2 a3 = some r) : Calls Tryz.prog 4 #[.string a0, .string a1, .string a2, .string a3] w fun e w' => e = .returned (.bool r) ∧ Below w.heap.size w w' := SSSS.calls pLaw16o_ok (fun _ _ _ _ => rfl) (by kernel_rfl) a0 a1 a2 a3 r w h
end Go.Proofs.YtkhcoeampamegaaGreatDoor.PD
