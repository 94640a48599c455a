import Derived.Test.YtbiijfgimoelkaaGreatDoorLU
import Derived.Test.YtbiijfgimoelkaaGreatDoorVF
/-! The law's answer, told to its row. -/
namespace Go.Proofs.YtbiijfgimoelkaaGreatDoor.PD
open Go Go.Proofs Go.RowKit GoD Go.Proofs.YtbiijfgimoelkaaGreatDoorW.PrintWords
set_option maxRecDepth 100000
set_option linter.unusedVariables false
def OriginParses.f (a0 : ByteArray) : Option Bool := if a0.size ≤ 281474976710656 then some true else none
theorem OriginParses.calls (a0 : ByteArray) (r : Bool) (w : World) (hg : GT w) (h : OriginParses.f a0 = some r) : Calls Tryz.prog 7 #[.string a0] w fun e w' => e = .returned (.bool r) ∧ Below w.heap.size w w' := by
  unfold OriginParses.f at h
  split at h
  · rename_i h0
    have ha0 := h0
    obtain rfl := Option.some.inj h
    exact law_calls (ok_of (pLawOr_ok _ _ _ _ rfl) (by kernel_rfl)) (fun i b h => by simp at h) (HR_nil hg) (.cons (R_str ha0) .nil)
  · cases h
theorem OriginParses.holds {a0 : ByteArray} (ha0 : a0.size ≤ 140737488351232) : OriginParses.f a0 = some true := if_pos (by omega)
def OriginBack.f (a0 : ByteArray) (a1 : ByteArray) : Option Bool := if a0.size ≤ 281474976710656 ∧ a1.size ≤ 281474976710656 then some true else none
theorem OriginBack.calls (a0 : ByteArray) (a1 : ByteArray) (r : Bool) (w : World) (hg : GT w) (h : OriginBack.f a0 a1 = some r) : Calls Tryz.prog 8 #[.string a0, .string a1] w fun e w' => e = .returned (.bool r) ∧ Below w.heap.size w w' := by
  unfold OriginBack.f at h
  split at h
  · rename_i h0
    obtain ⟨ha0, ha1⟩ := h0
    obtain rfl := Option.some.inj h
    exact law_calls (ok_of (pLawOb_ok _ _ _ _ rfl) (by kernel_rfl)) (fun i b h => by simp at h) (HR_nil hg) (.cons (R_str ha0) (.cons (R_str ha1) .nil))
  · cases h
theorem OriginBack.holds {a0 : ByteArray} {a1 : ByteArray} (ha0 : a0.size ≤ 140737488351232) (ha1 : a1.size ≤ 140737488351232) : OriginBack.f a0 a1 = some true := if_pos ⟨by omega, by omega⟩
end Go.Proofs.YtbiijfgimoelkaaGreatDoor.PD
