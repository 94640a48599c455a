import Derived.Test.YtknkokkgefcdbaaDoorPE
/-! Schemes, hosts, ports and paths as the program matches them. -/
namespace GoD
open Go Go.Proofs
set_option linter.unusedVariables false
set_option linter.unusedSimpArgs false
set_option maxHeartbeats 4000000
set_option maxRecDepth 100000
def pDefaultC : Ct := fun args h => match args with | [.s l] => some (.tup [.i .i64 (defaultL l).1, .b (defaultL l).2], h) | _ => none
theorem pDefault_ok : CtOk Tryd.prog G0 27 pDefaultC := by
  refine ct_plain (n := 1) fol sound_nil (by kernel_rfl) Tryd.func27 rfl fun args h v h' hc r xs H hr hx => ?_
  unfold pDefaultC at hc; split at hc <;> (try split at hc) <;> cases hc
  rename_i l
  refine ⟨rfl, rfl, by simp [renV, bndV, renL, bndL], ?_⟩
  by_cases h1 : l = [104, 116, 116, 112]
  · simp -implicitDefEqProofs [go_sem, Tryd.f27, defaultL, h1]
  by_cases h2 : l = [119, 115]
  · simp -implicitDefEqProofs [go_sem, Tryd.f27, defaultL, h2]
  by_cases h3 : l = [104, 116, 116, 112, 115]
  · simp -implicitDefEqProofs [go_sem, Tryd.f27, defaultL, h3]
  by_cases h4 : l = [119, 115, 115]
  · simp -implicitDefEqProofs [go_sem, Tryd.f27, defaultL, h4]
  by_cases h5 : l = [102, 116, 112]
  · simp -implicitDefEqProofs [go_sem, Tryd.f27, defaultL, h5]
  · simp -implicitDefEqProofs [go_sem, Tryd.f27, defaultL, h1, h2, h3, h4, h5]
def pPortC : Ct := fun args h => match args with | [.agg [.s a, .s b, .s c, .s d, .i .i64 p, .s e, .b q, .s f, .b g, .s k]] => some (.i .i64 (portL a p), h) | _ => none
theorem pPort_ok : CtOk Tryd.prog G0 60 pPortC := by
  refine ct_plain (n := 1) fol (sound_cons pDefault_ok sound_nil) (by kernel_rfl) Tryd.func60 rfl fun args h v h' hc r xs H hr hx => ?_
  unfold pPortC at hc; split at hc <;> (try split at hc) <;> cases hc
  rename_i a b c d p e q f g k
  refine ⟨rfl, rfl, by simp [renV, bndV, renL, bndL], ?_⟩
  by_cases h1 : p = -1
  · simp -implicitDefEqProofs [go_sem, Tryd.f60, h1, portL, pDefaultC]
  · simp -implicitDefEqProofs [go_sem, Tryd.f60, h1, portL, pDefaultC]
def pOfC : Ct := fun args h => match args with | [.agg [.s a, .s b, .s c, .s d, .i .i64 p, .s e, .b q, .s f, .b g, .s k]] => some (.agg [.s a, .s d, .i .i64 (portL a p)], h) | _ => none
theorem pOf_ok : CtOk Tryd.prog G0 41 pOfC := by
  refine ct_plain (n := 1) fol (sound_cons pPort_ok sound_nil) (by kernel_rfl) Tryd.func41 rfl fun args h v h' hc r xs H hr hx => ?_
  unfold pOfC at hc; split at hc <;> (try split at hc) <;> cases hc
  rename_i a b c d p e q f g k
  refine ⟨rfl, rfl, by simp [renV, bndV, renL, bndL], ?_⟩
  simp -implicitDefEqProofs [go_sem, Tryd.f41, pPortC]
def pOSameC : Ct := fun args h => match args with | [.agg [.s a, .s b, .i .i64 p], .agg [.s c, .s d, .i .i64 q]] => some (.b (decide (a = c) && decide (b = d) && decide (p = q) && !oNull a b p), h) | _ => none
def pSchemeC : Ct := fun args h => match args with | [.s a, .s b] => some (.b (schemeB a b), h) | _ => none
theorem headB_star (p : List Int) : headB p [42, 46] = starB p := by
  unfold headB starB
  by_cases h : 2 ≤ p.length
  · simp [h]
  · have : ¬ p.take 2 = [42, 46] := fun e => by have := congrArg List.length e; simp at this; omega
    simp [this]
def pHostC : Ct := fun args h => match args with | [.s p, .s l] => if l.length ≤ 1048576 then some (.b (hostB p l), h) else none | _ => none
def pNumSC : Ct := fun args h => match args with | [.s l] => if portP l = true then some (.i .i64 (numD l), h) else none | _ => none
def pPortMC : Ct := fun args h => match args with | [.s l, .agg [.s a, .s b, .s c, .s d, .i .i64 p, .s e, .b q, .s f, .b g, .s k]] => if l = [] ∨ l = [42] ∨ portP l = true then some (.b (portB l a p), h) else none | _ => none
end GoD
