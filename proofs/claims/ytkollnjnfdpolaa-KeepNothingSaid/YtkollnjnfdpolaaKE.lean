import Derived.Test.YtkollnjnfdpolaaKD
/-! KeepNothing: the law. -/
namespace GoD
open Go Go.Proofs
set_option linter.unusedVariables false
set_option linter.unusedSimpArgs false
set_option maxHeartbeats 4000000
set_option maxRecDepth 100000
def pLawKNC : Ct := fun args h => match args with | [.s p, .i .i64 n] => if p.length ≤ 140737488355328 then some (.b true, h) else none | _ => none
theorem pLawKN_ok : CtOk Try.prog G0 3 pLawKNC := by
  refine ct_plain (n := 2) fol (sound_cons pDNew_ok (sound_cons pOpen_ok (sound_cons pHardN_ok (sound_cons pSameN_ok (sound_cons pVoteN_ok (sound_cons pAwake6_ok sound_nil)))))) (by kernel_rfl) Try.func3 rfl fun args h v h' hc r xs H hr hx => ?_
  unfold pLawKNC at hc; split at hc <;> (try split at hc) <;> cases hc
  rename_i p n hp
  refine ⟨rfl, rfl, by simp [renV, bndV], ?_⟩
  by_cases c0 : 300 < p.length
  · have c0i : (300 : Int) < p.length := by omega
    simp -implicitDefEqProofs [go_sem, Try.f3, c0i, pAwake6C, Ext]
  have c0i : ¬ (300 : Int) < p.length := by omega
  obtain ⟨w, h2, hO, hE⟩ := pOpen_go (h := h ++ [⟨2, true, [.i .i64 1000, .c (.map none), .i .i64 0, .b false, .i .i64 0]⟩]) (b := h.length) (p := p) (by rw [hget_new, if_pos rfl]) (by omega)
  have hE2 : Ext h h2 := by
    refine ⟨by have := hE.1; simp at this; omega, fun i hi => ?_⟩
    rw [hE.2 i (by simp; omega), hget_new, if_neg (by omega)]
  have hS := pSameN_at h2
  have hmx : 0 ≤ (if n < 0 then 0 else n) := by split <;> omega
  by_cases c1 : p = []
  · subst c1
    simp only [List.length_nil, true_or, if_true] at hO
    simp -implicitDefEqProofs [go_sem, Try.f3, pDNew_go, hO, pHardNC, hS, pVoteNC, pAwake6C, hE2, hmx]
  · have c1b : p.isEmpty = false := by simpa using c1
    by_cases c2 : 40 < p.length
    · have c2i : (40 : Int) < p.length := by omega
      simp only [c2, or_true, if_true] at hO
      simp -implicitDefEqProofs [go_sem, Try.f3, pDNew_go, hO, pHardNC, hS, pVoteNC, pAwake6C, hE2, hmx, c0i, c1, c1b, c2, c2i]
    · have c2i : ¬ (40 : Int) < p.length := by omega
      simp only [c1, c2, or_self, if_false] at hO
      simp -implicitDefEqProofs [go_sem, Try.f3, pDNew_go, hO, pHardNC, hS, pVoteNC, pAwake6C, hE2, hmx, c0i, c1, c1b, c2, c2i]
end GoD
