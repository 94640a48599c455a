import Derived.Test.YtbiijfgimoelkaaGreatDoorLU
import Derived.Test.YtbiijfgimoelkaaGreatDoorVB
/-! The law's answer, told to its row. -/
namespace Go.Proofs.YtbiijfgimoelkaaGreatDoor.PD
open Go Go.Proofs Go.RowKit GoD Go.Proofs.YtbiijfgimoelkaaGreatDoorW.PrintWords
set_option maxRecDepth 100000
set_option linter.unusedVariables false
def OriginTexts.f (a0_0 : ByteArray) (a0_1 : ByteArray) (a0_2 : Int) (a1_0 : ByteArray) (a1_1 : ByteArray) (a1_2 : ByteArray) (a1_3 : ByteArray) (a1_4 : Int) (a1_5 : ByteArray) (a1_6 : Bool) (a1_7 : ByteArray) (a1_8 : Bool) (a1_9 : ByteArray) : Option Bool := if a0_0.size ≤ 281474976710656 ∧ a0_1.size ≤ 281474976710656 ∧ IntKind.i64.wrap a0_2 = a0_2 ∧ a1_0.size ≤ 281474976710656 ∧ a1_1.size ≤ 281474976710656 ∧ a1_2.size ≤ 281474976710656 ∧ a1_3.size ≤ 281474976710656 ∧ IntKind.i64.wrap a1_4 = a1_4 ∧ a1_5.size ≤ 281474976710656 ∧ a1_7.size ≤ 281474976710656 ∧ a1_9.size ≤ 281474976710656 then some true else none
theorem OriginTexts.calls (a0_0 : ByteArray) (a0_1 : ByteArray) (a0_2 : Int) (a1_0 : ByteArray) (a1_1 : ByteArray) (a1_2 : ByteArray) (a1_3 : ByteArray) (a1_4 : Int) (a1_5 : ByteArray) (a1_6 : Bool) (a1_7 : ByteArray) (a1_8 : Bool) (a1_9 : ByteArray) (r : Bool) (w : World) (hg : GT w) (h : OriginTexts.f a0_0 a0_1 a0_2 a1_0 a1_1 a1_2 a1_3 a1_4 a1_5 a1_6 a1_7 a1_8 a1_9 = some r) : Calls Tryz.prog 3 #[.agg #[.string a0_0, .string a0_1, .int .i64 a0_2], .agg #[.string a1_0, .string a1_1, .string a1_2, .string a1_3, .int .i64 a1_4, .string a1_5, .bool a1_6, .string a1_7, .bool a1_8, .string a1_9]] w fun e w' => e = .returned (.bool r) ∧ Below w.heap.size w w' := by
  unfold OriginTexts.f at h
  split at h
  · rename_i h0
    obtain ⟨ha0_0, ha0_1, ha0_2, ha1_0, ha1_1, ha1_2, ha1_3, ha1_4, ha1_5, ha1_7, ha1_9⟩ := h0
    obtain rfl := Option.some.inj h
    exact law_calls (ok_of (pLawOt_ok _ _ _ _ rfl) (by kernel_rfl)) (fun i b h => by simp at h) (HR_nil hg) (.cons (.agg _ [.string a0_0, .string a0_1, .int .i64 a0_2] (.cons (R_str ha0_0) (.cons (R_str ha0_1) (.cons (.i _ _ ha0_2) .nil)))) (.cons (.agg _ [.string a1_0, .string a1_1, .string a1_2, .string a1_3, .int .i64 a1_4, .string a1_5, .bool a1_6, .string a1_7, .bool a1_8, .string a1_9] (.cons (R_str ha1_0) (.cons (R_str ha1_1) (.cons (R_str ha1_2) (.cons (R_str ha1_3) (.cons (.i _ _ ha1_4) (.cons (R_str ha1_5) (.cons (.b _) (.cons (R_str ha1_7) (.cons (.b _) (.cons (R_str ha1_9) .nil))))))))))) .nil))
  · cases h
theorem OriginTexts.holds {a0_0 : ByteArray} {a0_1 : ByteArray} {a0_2 : Int} {a1_0 : ByteArray} {a1_1 : ByteArray} {a1_2 : ByteArray} {a1_3 : ByteArray} {a1_4 : Int} {a1_5 : ByteArray} {a1_6 : Bool} {a1_7 : ByteArray} {a1_8 : Bool} {a1_9 : ByteArray} (ha0_0 : a0_0.size ≤ 140737488351232) (ha0_1 : a0_1.size ≤ 140737488351232) (ha0_2 : (Lit.int .i64 a0_2).wf = true) (ha1_0 : a1_0.size ≤ 140737488351232) (ha1_1 : a1_1.size ≤ 140737488351232) (ha1_2 : a1_2.size ≤ 140737488351232) (ha1_3 : a1_3.size ≤ 140737488351232) (ha1_4 : (Lit.int .i64 a1_4).wf = true) (ha1_5 : a1_5.size ≤ 140737488351232) (ha1_7 : a1_7.size ≤ 140737488351232) (ha1_9 : a1_9.size ≤ 140737488351232) : OriginTexts.f a0_0 a0_1 a0_2 a1_0 a1_1 a1_2 a1_3 a1_4 a1_5 a1_6 a1_7 a1_8 a1_9 = some true := if_pos ⟨by omega, by omega, wrap_of ha0_2, by omega, by omega, by omega, by omega, wrap_of ha1_4, by omega, by omega, by omega⟩
def OriginKinds.f (a0 : Int) (a1 : Int) (a2 : Int) : Option Bool := if IntKind.i64.wrap a0 = a0 ∧ IntKind.i64.wrap a1 = a1 ∧ IntKind.i64.wrap a2 = a2 then some true else none
theorem OriginKinds.calls (a0 : Int) (a1 : Int) (a2 : Int) (r : Bool) (w : World) (hg : GT w) (h : OriginKinds.f a0 a1 a2 = some r) : Calls Tryz.prog 4 #[.int .i64 a0, .int .i64 a1, .int .i64 a2] w fun e w' => e = .returned (.bool r) ∧ Below w.heap.size w w' := by
  unfold OriginKinds.f at h
  split at h
  · rename_i h0
    obtain ⟨ha0, ha1, ha2⟩ := h0
    obtain rfl := Option.some.inj h
    exact law_calls (ok_of (pLawOk_ok _ _ _ _ rfl) (by kernel_rfl)) (fun i b h => by simp at h) (HR_nil hg) (.cons (.i _ _ ha0) (.cons (.i _ _ ha1) (.cons (.i _ _ ha2) .nil)))
  · cases h
theorem OriginKinds.holds {a0 : Int} {a1 : Int} {a2 : Int} (ha0 : (Lit.int .i64 a0).wf = true) (ha1 : (Lit.int .i64 a1).wf = true) (ha2 : (Lit.int .i64 a2).wf = true) : OriginKinds.f a0 a1 a2 = some true := if_pos ⟨wrap_of ha0, wrap_of ha1, wrap_of ha2⟩
end Go.Proofs.YtbiijfgimoelkaaGreatDoor.PD
