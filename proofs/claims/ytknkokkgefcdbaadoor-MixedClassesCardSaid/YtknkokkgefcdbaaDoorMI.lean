import Derived.Test.YtknkokkgefcdbaaDoorM
import Derived.Test.YtknkokkgefcdbaaDoorPAx22
import Derived.Test.YtknkokkgefcdbaaDoorPAx23
namespace Go.Proofs.YtknkokkgefcdbaaDoor.PA
open Go.RowKit Go.Proofs.YtknkokkgefcdbaaDoorW.PrintWords Go.Proofs.YtknkokkgefcdbaaDoorW.PrintLast Go.Proofs.YtknkokkgefcdbaaDoorW.PrintMore Go.Proofs.YtknkokkgefcdbaaDoorPL
open Go.Proofs.YtknkokkgefcdbaaDoorWS
set_option linter.unusedVariables false
set_option linter.unusedSimpArgs false
theorem In_l0s {xs : List Int} (hx : Bytes xs) {ls : List (List Int)} (hl : ∀ x ∈ ls, Bytes x) (hn : ls.length < 1048576) : ∀ (d i : Nat), ls.length - i = d → i ≤ ls.length → Ev (fun k => parapetref1_In.l0 k (st xs) (ls.map st) (i : Int)) (decide (xs ∈ ls.drop i))
  | 0, i, hd, hi => by
    have : i = ls.length := by omega
    subst this
    rw [List.drop_length]
    refine Ev.step (fun k => by rw [parapetref1_In.l0]) ?_
    exact ev_neg (by rw [List.length_map]; omega) (Ev.now _)
  | d + 1, i, hd, hi => by
    have hil : i < ls.length := by omega
    have hr := In_l0s hx hl hn d (i + 1) (by omega) (by omega)
    rw [show ((i + 1 : Nat) : Int) = (i : Int) + 1 by omega] at hr
    have hd2 : ls.drop i = ls.getD i [] :: ls.drop (i + 1) := by rw [List.drop_eq_getElem_cons hil, List.getD_eq_getElem?_getD, List.getElem?_eq_getElem hil]; rfl
    refine Ev.step (fun k => by rw [parapetref1_In.l0]) ?_
    refine ev_pos (by rw [List.length_map]; omega) (ev_pos (by omega) ?_)
    rw [st_rdOf, Int.toNat_natCast, w64 (by omega) (by omega), hd2]
    by_cases h : xs = ls.getD i []
    · rw [show decide (xs ∈ ls.getD i [] :: ls.drop (i + 1)) = true by rw [h]; simp]
      exact ev_pos (by rw [h]) (Ev.now _)
    · rw [show decide (xs ∈ ls.getD i [] :: ls.drop (i + 1)) = decide (xs ∈ ls.drop (i + 1)) by simp [-List.getD_eq_getElem?_getD, h]]
      exact ev_neg (fun e => h ((toList_eq (getD_bytes hl i) hx).1 e).symm) hr
theorem In_f {xs : List Int} (hx : Bytes xs) {ls : List (List Int)} (hl : ∀ x ∈ ls, Bytes x) (hn : ls.length < 1048576) : Ev (fun k => parapetref1_In.f k (st xs) (ls.map st)) (decide (xs ∈ ls)) := by
  unfold parapetref1_In.f
  have := In_l0s hx hl hn _ 0 rfl (by omega)
  rwa [List.drop_zero] at this
end Go.Proofs.YtknkokkgefcdbaaDoor.PA
