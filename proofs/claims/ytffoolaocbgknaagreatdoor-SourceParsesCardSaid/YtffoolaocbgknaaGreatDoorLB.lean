import Derived.Test.YtffoolaocbgknaaGreatDoorLA
/-! Chapter 15's laws. -/
namespace GoD
open Go Go.Proofs
set_option linter.unusedVariables false
set_option linter.unusedSimpArgs false
set_option maxHeartbeats 2000000
set_option maxRecDepth 100000
def aw1 : List Int := [104, 116, 116, 112, 115, 58, 47, 47, 42, 46, 97, 46, 98, 58, 42, 47, 99, 47]
def aw2 : List Int := [104, 116, 116, 112, 115, 58, 47, 47, 120, 46, 97, 46, 98, 58, 57, 47, 99, 47, 100]
def aw3 : List Int := [104, 116, 116, 112, 115, 58, 47, 47, 97, 46, 98, 47, 99, 47, 100]
theorem aw1_eq : srcL aw1 = ⟨4, [104, 116, 116, 112, 115], [42, 46, 97, 46, 98], [42], [47, 99, 47]⟩ := by kernel_rfl
def aw2U : Url := ⟨[104, 116, 116, 112, 115], [], [], [120, 46, 97, 46, 98], 9, [47, 99, 47, 100], false, [], false, []⟩
def aw3U : Url := ⟨[104, 116, 116, 112, 115], [], [], [97, 46, 98], -1, [47, 99, 47, 100], false, [], false, []⟩
theorem aw2_eq : urlL aw2 = some aw2U := by kernel_rfl
theorem aw3_eq : urlL aw3 = some aw3U := by kernel_rfl
theorem aw4_eq : matchB ⟨4, [104, 116, 116, 112, 115], [42, 46, 97, 46, 98], [42], [47, 99, 47]⟩ aw2U.sch aw2U.ho aw2U.po aw2U.path [] [] 0 0 = true := by kernel_rfl
theorem aw5_eq : matchB ⟨4, [104, 116, 116, 112, 115], [42, 46, 97, 46, 98], [42], [47, 99, 47]⟩ aw3U.sch aw3U.ho aw3U.po aw3U.path [] [] 0 0 = false := by kernel_rfl
def pAwakeC : Ct := fun args h => match args with | [] => some (.b true, h) | _ => none
theorem pAwake_ok : CtOk Tryz.prog G0 8 pAwakeC := by
  refine ct_plain (n := 0) fol (sound_cons pParse_ok (sound_cons pParsed_ok (sound_cons pMatch_ok sound_nil))) (by kernel_rfl) Tryz.func8 rfl fun args h v h' hc r xs H hr hx => ?_
  unfold pAwakeC at hc; split at hc <;> (try split at hc) <;> cases hc
  refine ⟨rfl, rfl, by simp [renV, bndV], ?_⟩
  have e1 := aw1_eq
  have e2 : urlOr aw2 = aw2U := by unfold urlOr; rw [aw2_eq]
  have e3 : urlOk aw2 = true := by unfold urlOk; rw [aw2_eq]; rfl
  have e4 : urlOr aw3 = aw3U := by unfold urlOr; rw [aw3_eq]
  have e5 : urlOk aw3 = true := by unfold urlOk; rw [aw3_eq]; rfl
  have e6 := aw4_eq
  have e7 := aw5_eq
  unfold aw1 aw2 aw3 at *
  unfold aw2U at *
  unfold aw3U at *
  simp only at e6 e7
  simp -implicitDefEqProofs [go_sem, Tryz.f8, pParseC, pParsedC, pMatchC, e1, e2, e3, e4, e5, e6, e7, Url.V, Url.cells, Expr5.V, Expr5.cells, portQ]
def pExprC : Ct := fun args h => match args with | [.agg [.i .i64 k, .s a, .s b, .s c, .s d]] => some (.agg [.i .i64 k, .s a, .s b, .s c, .s d], h) | _ => none
theorem pExpr_ok : CtOk Tryz.prog G0 10 pExprC := by
  refine ct_plain (n := 1) fol sound_nil (by kernel_rfl) Tryz.func10 rfl fun args h v h' hc r xs H hr hx => ?_
  unfold pExprC at hc; split at hc <;> (try split at hc) <;> cases hc
  rename_i k a b c d
  refine ⟨rfl, rfl, by simp [renV, bndV, renL, bndL], ?_⟩
  simp -implicitDefEqProofs [go_sem, Tryz.f10]
def lawSC : Ct := fun args h => match args with | [.s l] => some (.b true, h) | _ => none
def pLaw1C : Ct := fun args h => match args with | [.s l] => some (.b true, h) | _ => none
theorem pLaw1_ok : CtOk Tryz.prog G0 3 pLaw1C := by
  refine ct_plain (n := 1) fol (sound_cons pAwake_ok (sound_cons pParse_ok (sound_cons rSource_ok (sound_cons pExpr_ok sound_nil)))) (by kernel_rfl) Tryz.func3 rfl fun args h v h' hc r xs H hr hx => ?_
  unfold pLaw1C at hc; split at hc <;> (try split at hc) <;> cases hc
  rename_i l
  refine ⟨rfl, rfl, by simp [renV, bndV], ?_⟩
  by_cases h1 : 600 < l.length
  · have h1' : (600 : Int) < l.length := by omega
    simp -implicitDefEqProofs [go_sem, Tryz.f3, h1, h1', pAwakeC]
  · have h1' : ¬ (600 : Int) < l.length := by omega
    have h2 : l.length ≤ 1048576 := by omega
    simp -implicitDefEqProofs [go_sem, Tryz.f3, h1, h1', h2, pAwakeC, pParseC, rSourceC, pExprC, Expr5.V, Expr5.cells]
end GoD
