import Derived.Test.YtffoolaocbgknaaDoorLA
/-! Chapter 15's laws. -/
namespace GoD
open Go Go.Proofs
set_option linter.unusedVariables false
set_option linter.unusedSimpArgs false
set_option maxHeartbeats 2000000
set_option maxRecDepth 100000
def aw1 : List Int := [104, 116, 116, 112, 115, 58, 47, 47, 42, 46, 97, 46, 98, 58, 42, 47, 99, 47]
def aw2 : List Int := [104, 116, 116, 112, 115, 58, 47, 47, 120, 46, 97, 46, 98, 58, 57, 47, 99, 47, 100]
def aw3 : List Int := [104, 116, 116, 112, 115, 58, 47, 47, 97, 46, 98, 47, 99, 47, 100]
theorem aw1_eq : srcL aw1 = ⟨4, [104, 116, 116, 112, 115], [42, 46, 97, 46, 98], [42], [47, 99, 47]⟩ := by kernel_rfl
def aw2U : Url := ⟨[104, 116, 116, 112, 115], [], [], [120, 46, 97, 46, 98], 9, [47, 99, 47, 100], false, [], false, []⟩
def aw3U : Url := ⟨[104, 116, 116, 112, 115], [], [], [97, 46, 98], -1, [47, 99, 47, 100], false, [], false, []⟩
theorem aw2_eq : urlL aw2 = some aw2U := by kernel_rfl
theorem aw3_eq : urlL aw3 = some aw3U := by kernel_rfl
theorem aw4_eq : matchB ⟨4, [104, 116, 116, 112, 115], [42, 46, 97, 46, 98], [42], [47, 99, 47]⟩ aw2U.sch aw2U.ho aw2U.po aw2U.path [] [] 0 0 = true := by kernel_rfl
theorem aw5_eq : matchB ⟨4, [104, 116, 116, 112, 115], [42, 46, 97, 46, 98], [42], [47, 99, 47]⟩ aw3U.sch aw3U.ho aw3U.po aw3U.path [] [] 0 0 = false := by kernel_rfl
def pAwakeC : Ct := fun args h => match args with | [] => some (.b true, h) | _ => none
theorem pAwake_ok : CtOk Tryd.prog G0 6 pAwakeC := by
  refine ct_plain (n := 0) fol (sound_cons pParse_ok (sound_cons pParsed_ok (sound_cons pMatch_ok sound_nil))) (by kernel_rfl) Tryd.func6 rfl fun args h v h' hc r xs H hr hx => ?_
  unfold pAwakeC at hc; split at hc <;> (try split at hc) <;> cases hc
  refine ⟨rfl, rfl, by simp [renV, bndV], ?_⟩
  have e1 := aw1_eq
  have e2 : urlOr aw2 = aw2U := by unfold urlOr; rw [aw2_eq]
  have e3 : urlOk aw2 = true := by unfold urlOk; rw [aw2_eq]; rfl
  have e4 : urlOr aw3 = aw3U := by unfold urlOr; rw [aw3_eq]
  have e5 : urlOk aw3 = true := by unfold urlOk; rw [aw3_eq]; rfl
  have e6 := aw4_eq
  have e7 := aw5_eq
  unfold aw1 aw2 aw3 at *
  unfold aw2U at *
  unfold aw3U at *
  simp only at e6 e7
  simp -implicitDefEqProofs [go_sem, Tryd.f6, pParseC, pParsedC, pMatchC, e1, e2, e3, e4, e5, e6, e7, Url.V, Url.cells, Expr5.V, Expr5.cells, portQ]
def pExprC : Ct := fun args h => match args with | [.agg [.i .i64 k, .s a, .s b, .s c, .s d]] => some (.agg [.i .i64 k, .s a, .s b, .s c, .s d], h) | _ => none
def pLaw1C : Ct := fun args h => match args with | [.s l] => some (.b true, h) | _ => none
def digL (l : List Int) : List Int := if l = [] ∨ l.head? = some 42 then l.take 1 else (l.filter digitB).take 5
theorem digL_port (l : List Int) : portQ (digL l) := by
  unfold digL
  split
  · rename_i h
    cases l with
    | nil => exact .inl rfl
    | cons c t =>
      rcases h with h | h
      · cases h
      · refine .inr (.inl ?_)
        rw [List.head?_cons] at h
        rw [Option.some.inj h]; rfl
  · refine .inr (.inr ?_)
    unfold portP
    rw [Bool.and_eq_true]
    refine ⟨?_, decide_eq_true (by simp; omega)⟩
    rw [List.all_eq_true]
    intro c hc
    exact (List.mem_filter.1 (List.mem_of_mem_take hc)).2
def pDigitsC : Ct := fun args h => match args with | [.s l] => if l.length ≤ 1048576 then some (.s (digL l), h) else none | _ => none
def pLaw2C : Ct := fun args h => match args with | [.s a, .s b, .s c] => some (.b true, h) | _ => none
end GoD
