import Derived.Test.YtfpjamnilcjnjaaGreatDoorLU
import Derived.Test.YtfpjamnilcjnjaaGreatDoorOP
/-! The law's answer, told to its row. -/
namespace Go.Proofs.YtfpjamnilcjnjaaGreatDoor.PD
open Go Go.Proofs Go.RowKit GoD Go.Proofs.YtfpjamnilcjnjaaGreatDoorW.PrintWords
set_option maxRecDepth 100000
set_option linter.unusedVariables false
def UrlTexts.f (a0_0 : ByteArray) (a0_1 : ByteArray) (a0_2 : ByteArray) (a0_3 : ByteArray) (a0_4 : Int) (a0_5 : ByteArray) (a0_6 : Bool) (a0_7 : ByteArray) (a0_8 : Bool) (a0_9 : ByteArray) : Option Bool := if a0_0.size ≤ 281474976710656 ∧ a0_1.size ≤ 281474976710656 ∧ a0_2.size ≤ 281474976710656 ∧ a0_3.size ≤ 281474976710656 ∧ IntKind.i64.wrap a0_4 = a0_4 ∧ a0_5.size ≤ 281474976710656 ∧ a0_7.size ≤ 281474976710656 ∧ a0_9.size ≤ 281474976710656 then some true else none
theorem UrlTexts.calls (a0_0 : ByteArray) (a0_1 : ByteArray) (a0_2 : ByteArray) (a0_3 : ByteArray) (a0_4 : Int) (a0_5 : ByteArray) (a0_6 : Bool) (a0_7 : ByteArray) (a0_8 : Bool) (a0_9 : ByteArray) (r : Bool) (w : World) (hg : GT w) (h : UrlTexts.f a0_0 a0_1 a0_2 a0_3 a0_4 a0_5 a0_6 a0_7 a0_8 a0_9 = some r) : Calls Tryz.prog 4 #[.agg #[.string a0_0, .string a0_1, .string a0_2, .string a0_3, .int .i64 a0_4, .string a0_5, .bool a0_6, .string a0_7, .bool a0_8, .string a0_9]] w fun e w' => e = .returned (.bool r) ∧ Below w.heap.size w w' := by
  unfold UrlTexts.f at h
  split at h
  · rename_i h0
    obtain ⟨ha0_0, ha0_1, ha0_2, ha0_3, ha0_4, ha0_5, ha0_7, ha0_9⟩ := h0
    obtain rfl := Option.some.inj h
    exact law_calls (ok_of (pLawUt_ok _ _ _ _ rfl) (by kernel_rfl)) (fun i b h => by simp at h) (HR_nil hg) (.cons (.agg _ [.string a0_0, .string a0_1, .string a0_2, .string a0_3, .int .i64 a0_4, .string a0_5, .bool a0_6, .string a0_7, .bool a0_8, .string a0_9] (.cons (R_str ha0_0) (.cons (R_str ha0_1) (.cons (R_str ha0_2) (.cons (R_str ha0_3) (.cons (.i _ _ ha0_4) (.cons (R_str ha0_5) (.cons (.b _) (.cons (R_str ha0_7) (.cons (.b _) (.cons (R_str ha0_9) .nil))))))))))) .nil)
  · cases h
theorem UrlTexts.holds {a0_0 : ByteArray} {a0_1 : ByteArray} {a0_2 : ByteArray} {a0_3 : ByteArray} {a0_4 : Int} {a0_5 : ByteArray} {a0_6 : Bool} {a0_7 : ByteArray} {a0_8 : Bool} {a0_9 : ByteArray} (ha0_0 : a0_0.size ≤ 140737488351232) (ha0_1 : a0_1.size ≤ 140737488351232) (ha0_2 : a0_2.size ≤ 140737488351232) (ha0_3 : a0_3.size ≤ 140737488351232) (ha0_4 : (Lit.int .i64 a0_4).wf = true) (ha0_5 : a0_5.size ≤ 140737488351232) (ha0_7 : a0_7.size ≤ 140737488351232) (ha0_9 : a0_9.size ≤ 140737488351232) : UrlTexts.f a0_0 a0_1 a0_2 a0_3 a0_4 a0_5 a0_6 a0_7 a0_8 a0_9 = some true := if_pos ⟨by omega, by omega, by omega, by omega, wrap_of ha0_4, by omega, by omega, by omega⟩
end Go.Proofs.YtfpjamnilcjnjaaGreatDoor.PD
