import Derived.Test.YtbiijfgimoelkaaGreatDoorLU
import Derived.Test.YtbiijfgimoelkaaGreatDoorVC
/-! The law's answer, told to its row. -/
namespace Go.Proofs.YtbiijfgimoelkaaGreatDoor.PD
open Go Go.Proofs Go.RowKit GoD Go.Proofs.YtbiijfgimoelkaaGreatDoorW.PrintWords
set_option maxRecDepth 100000
set_option linter.unusedVariables false
def OriginPlain.f (a0_0 : ByteArray) (a0_1 : ByteArray) (a0_2 : Int) (a1 : Int) (a2 : Int) : Option Bool := if a0_0.size ≤ 281474976710656 ∧ a0_1.size ≤ 281474976710656 ∧ IntKind.i64.wrap a0_2 = a0_2 ∧ IntKind.i64.wrap a1 = a1 ∧ IntKind.i64.wrap a2 = a2 then some true else none
theorem OriginPlain.calls (a0_0 : ByteArray) (a0_1 : ByteArray) (a0_2 : Int) (a1 : Int) (a2 : Int) (r : Bool) (w : World) (hg : GT w) (h : OriginPlain.f a0_0 a0_1 a0_2 a1 a2 = some r) : Calls Tryz.prog 5 #[.agg #[.string a0_0, .string a0_1, .int .i64 a0_2], .int .i64 a1, .int .i64 a2] w fun e w' => e = .returned (.bool r) ∧ Below w.heap.size w w' := by
  unfold OriginPlain.f at h
  split at h
  · rename_i h0
    obtain ⟨ha0_0, ha0_1, ha0_2, ha1, ha2⟩ := h0
    obtain rfl := Option.some.inj h
    exact law_calls (ok_of (pLawOp_ok _ _ _ _ rfl) (by kernel_rfl)) (fun i b h => by simp at h) (HR_nil hg) (.cons (.agg _ [.string a0_0, .string a0_1, .int .i64 a0_2] (.cons (R_str ha0_0) (.cons (R_str ha0_1) (.cons (.i _ _ ha0_2) .nil)))) (.cons (.i _ _ ha1) (.cons (.i _ _ ha2) .nil)))
  · cases h
theorem OriginPlain.holds {a0_0 : ByteArray} {a0_1 : ByteArray} {a0_2 : Int} {a1 : Int} {a2 : Int} (ha0_0 : a0_0.size ≤ 140737488351232) (ha0_1 : a0_1.size ≤ 140737488351232) (ha0_2 : (Lit.int .i64 a0_2).wf = true) (ha1 : (Lit.int .i64 a1).wf = true) (ha2 : (Lit.int .i64 a2).wf = true) : OriginPlain.f a0_0 a0_1 a0_2 a1 a2 = some true := if_pos ⟨by omega, by omega, wrap_of ha0_2, wrap_of ha1, wrap_of ha2⟩
def OriginTrusts.f (a0_0 : ByteArray) (a0_1 : ByteArray) (a0_2 : Int) (a1_0 : ByteArray) (a1_1 : ByteArray) (a1_2 : Int) (a2 : ByteArray) : Option Bool := if a0_0.size ≤ 281474976710656 ∧ a0_1.size ≤ 281474976710656 ∧ IntKind.i64.wrap a0_2 = a0_2 ∧ a1_0.size ≤ 281474976710656 ∧ a1_1.size ≤ 281474976710656 ∧ IntKind.i64.wrap a1_2 = a1_2 ∧ a2.size ≤ 281474976710656 then some true else none
theorem OriginTrusts.calls (a0_0 : ByteArray) (a0_1 : ByteArray) (a0_2 : Int) (a1_0 : ByteArray) (a1_1 : ByteArray) (a1_2 : Int) (a2 : ByteArray) (r : Bool) (w : World) (hg : GT w) (h : OriginTrusts.f a0_0 a0_1 a0_2 a1_0 a1_1 a1_2 a2 = some r) : Calls Tryz.prog 6 #[.agg #[.string a0_0, .string a0_1, .int .i64 a0_2], .agg #[.string a1_0, .string a1_1, .int .i64 a1_2], .string a2] w fun e w' => e = .returned (.bool r) ∧ Below w.heap.size w w' := by
  unfold OriginTrusts.f at h
  split at h
  · rename_i h0
    obtain ⟨ha0_0, ha0_1, ha0_2, ha1_0, ha1_1, ha1_2, ha2⟩ := h0
    obtain rfl := Option.some.inj h
    exact law_calls (ok_of (pLawOu_ok _ _ _ _ rfl) (by kernel_rfl)) (fun i b h => by simp at h) (HR_nil hg) (.cons (.agg _ [.string a0_0, .string a0_1, .int .i64 a0_2] (.cons (R_str ha0_0) (.cons (R_str ha0_1) (.cons (.i _ _ ha0_2) .nil)))) (.cons (.agg _ [.string a1_0, .string a1_1, .int .i64 a1_2] (.cons (R_str ha1_0) (.cons (R_str ha1_1) (.cons (.i _ _ ha1_2) .nil)))) (.cons (R_str ha2) .nil)))
  · cases h
theorem OriginTrusts.holds {a0_0 : ByteArray} {a0_1 : ByteArray} {a0_2 : Int} {a1_0 : ByteArray} {a1_1 : ByteArray} {a1_2 : Int} {a2 : ByteArray} (ha0_0 : a0_0.size ≤ 140737488351232) (ha0_1 : a0_1.size ≤ 140737488351232) (ha0_2 : (Lit.int .i64 a0_2).wf = true) (ha1_0 : a1_0.size ≤ 140737488351232) (ha1_1 : a1_1.size ≤ 140737488351232) (ha1_2 : (Lit.int .i64 a1_2).wf = true) (ha2 : a2.size ≤ 140737488351232) : OriginTrusts.f a0_0 a0_1 a0_2 a1_0 a1_1 a1_2 a2 = some true := if_pos ⟨by omega, by omega, wrap_of ha0_2, by omega, by omega, wrap_of ha1_2, by omega⟩
end Go.Proofs.YtbiijfgimoelkaaGreatDoor.PD
