import Derived.Test.YtkollnjnfdpolaaKF1
import Derived.Test.YtkollnjnfdpolaaKF2
import Derived.Test.YtkollnjnfdpolaaKF3
import Derived.Test.YtkollnjnfdpolaaKF4
import Derived.Test.YtkollnjnfdpolaaKF5
import Derived.Test.YtkollnjnfdpolaaKF6
import Derived.Test.YtkollnjnfdpolaaKF7
import Derived.Test.YtkollnjnfdpolaaKF8
import Derived.Test.YtkollnjnfdpolaaKF9
/-! KeepOwn: the law. -/
namespace GoD
open Go Go.Proofs
set_option linter.unusedVariables false
set_option linter.unusedSimpArgs false
set_option maxHeartbeats 4000000
set_option maxRecDepth 100000
theorem own_run {E : List (FuncId × Ct)} (hE : Sound (ctx Try.prog G0 E)) {args : List V} {f : FuncId} (he : (callN Try.prog G0 [] [68] pm6 E 300 40 f args []).map (·.1) = some (.b true)) (ha : flatL args = true) (h : Heap) : Known Try.prog G0 f args h (.b true) h := by
  obtain ⟨⟨v', h'⟩, h1, h2⟩ := Option.map_eq_some_iff.1 he
  simp only at h2
  subst h2
  exact known_still (callN_ok fol okA hE 40 [] _ _ _ _ _ h1) ha rfl h
noncomputable def pLawO0C : Ct := rct (ctm [] Try.prog G0 [(6, pAwake6C)]) 4 2
theorem pLawO0_ok : CtOk Try.prog G0 4 pLawO0C := rct_ok (l := [(6, pAwake6C)]) fol (sound_cons pAwake6_ok sound_nil) [] (by kernel_rfl)
theorem pLawO0_rc {args : List V} {h : Heap} {Q : V → Heap → Prop} {c : Code} (hb : Try.f4.body = some c) (hn : args.length = 2) (hr : Run (ctm [] Try.prog G0 [(6, pAwake6C)]) (Fini (ctm [] Try.prog G0 [(6, pAwake6C)]) Try.f4.results.toList Q) [.c c] args h) : ∃ v h', pLawO0C args h = some (v, h') ∧ Q v h' := rct_run [] Try.func4 hb hn hr
theorem pLawO0_go {h : Heap} {n v : Int} (hn : ¬ (1 ≤ n ∧ n ≤ 9)) : ∃ h', pLawO0C [.i .i64 n, .i .i64 v] h = some (.b true, h') := by
  obtain ⟨v, h', e, rfl⟩ := pLawO0_rc (args := [.i .i64 n, .i .i64 v]) (h := h) (Q := fun v h' => v = .b true) rfl rfl (by
    by_cases c1 : n < 1
    · simp -implicitDefEqProofs [go_sem, Try.f4, c1, pAwake6C]
    · have c2 : 9 < n := by omega
      simp -implicitDefEqProofs [go_sem, Try.f4, c1, c2, pAwake6C])
  exact ⟨h', e⟩
def pLawOC : Ct := fun args h => match args with | [.i .i64 n, .i .i64 v] => some (.b true, h) | _ => none
theorem pLawO_ok : CtOk Try.prog G0 4 pLawOC := fun args h v h' hc => by
  unfold pLawOC at hc
  split at hc
  · rename_i n v
    cases hc
    by_cases hn : 1 ≤ n ∧ n ≤ 9
    · have : n = 1 ∨ n = 2 ∨ n = 3 ∨ n = 4 ∨ n = 5 ∨ n = 6 ∨ n = 7 ∨ n = 8 ∨ n = 9 := by omega
      rcases this with rfl | rfl | rfl | rfl | rfl | rfl | rfl | rfl | rfl
      · exact own_run o1E_ok (o1R v) rfl _
      · exact own_run o2E_ok (o2R v) rfl _
      · exact own_run o3E_ok (o3R v) rfl _
      · exact own_run o4E_ok (o4R v) rfl _
      · exact own_run o5E_ok (o5R v) rfl _
      · exact own_run o6E_ok (o6R v) rfl _
      · exact own_run o7E_ok (o7R v) rfl _
      · exact own_run o8E_ok (o8R v) rfl _
      · exact own_run o9E_ok (o9R v) rfl _
    · obtain ⟨k, hk⟩ := pLawO0_go (h := []) (v := v) hn
      exact known_still (pLawO0_ok _ _ _ _ hk) rfl rfl _
  · cases hc
end GoD
