import Derived.Test.YtopejcaiabebpaaDoorI
import Derived.Test.YtopejcaiabebpaaDoorPAx3
import Derived.Test.YtopejcaiabebpaaDoorPAx4
namespace Go.Proofs.YtopejcaiabebpaaDoor.PA
open Go.RowKit Go.Proofs.YtopejcaiabebpaaDoorW.PrintWords Go.Proofs.YtopejcaiabebpaaDoorW.PrintLast Go.Proofs.YtopejcaiabebpaaDoorW.PrintMore Go.Proofs.YtopejcaiabebpaaDoorPL
open Go.Proofs.YtopejcaiabebpaaDoorWS
set_option linter.unusedVariables false
set_option linter.unusedSimpArgs false
theorem alike_f {d e : Dr} (hd : OkD d) (he : OkD e) : Ev (fun k => parapetlaw14_alike.f k (st d.1) (d.2.map st) (st e.1) (e.2.map st)) (d == e) := by
  unfold parapetlaw14_alike.f
  by_cases h : d.1 = e.1
  · refine ev_pos (by rw [h]) ?_
    have := Texts_f hd.2.1 he.2.1 (by have := hd.2.2; omega)
    rw [show (d == e) = (d.2 == e.2) by rw [Bool.eq_iff_iff, beq_iff_eq, beq_iff_eq, Prod.ext_iff]; exact ⟨fun x => x.2, fun x => ⟨h, x⟩⟩]
    exact Ev.bind this (Ev.now _)
  · refine ev_neg (fun h2 => h ((toList_eq hd.1 he.1).1 h2)) ?_
    rw [show (d == e) = false by rw [beq_eq_false_iff_ne]; intro h2; exact h (by rw [h2])]
    exact Ev.now _
theorem same_l0 {l m : List Dr} (hl : ∀ d ∈ l, OkD d) (hm : ∀ d ∈ m, OkD d) (he : l.length = m.length) (hn : l.length < 4611686018427387904) : ∀ (d i : Nat), l.length - i = d → i ≤ l.length →
    Ev (fun k => parapetlaw14_same.l0 k (l.map dst) (m.map dst) (i : Int)) (l.drop i == m.drop i)
  | 0, i, hd, hi => by
    have : i = l.length := by omega
    subst this
    refine Ev.step (fun k => by rw [parapetlaw14_same.l0]) ?_
    refine ev_neg (by rw [List.length_map]; omega) ?_
    rw [List.drop_length, he, List.drop_length]
    exact Ev.now _
  | d + 1, i, hd, hi => by
    have ih := same_l0 hl hm he hn d (i + 1) (by omega) (by omega)
    have h1 := hl _ (getDr_mem (show i < l.length by omega))
    have h2 := hm _ (getDr_mem (show i < m.length by omega))
    refine Ev.step (fun k => by rw [parapetlaw14_same.l0]) ?_
    refine ev_pos (by rw [List.length_map]; omega) (ev_pos (by omega) (ev_pos (by rw [List.length_map]; omega) ?_))
    rw [getDr (show i < l.length by omega), getDr (show i < m.length by omega), w64 (by omega) (by omega), show (i : Int) + 1 = ((i + 1 : Nat) : Int) by omega]
    rw [dropDr ([], []) (show i < l.length by omega), dropDr ([], []) (show i < m.length by omega)]
    generalize l.getD i ([], []) = x at h1 ⊢
    generalize m.getD i ([], []) = y at h2 ⊢
    refine Ev.bind (alike_f h1 h2) ?_
    by_cases h : x = y
    · subst h
      refine ev_pos (by simp) ?_
      rw [show (x :: l.drop (i + 1) == x :: m.drop (i + 1)) = (l.drop (i + 1) == m.drop (i + 1)) by simp]
      exact ih
    · refine ev_neg (by rw [beq_iff_eq]; exact h) ?_
      rw [show (x :: l.drop (i + 1) == y :: m.drop (i + 1)) = false by rw [beq_eq_false_iff_ne]; intro h2; injection h2 with h2; exact h h2]
      exact Ev.now _
theorem same_f {l m : List Dr} (hl : ∀ d ∈ l, OkD d) (hm : ∀ d ∈ m, OkD d) (hn : l.length < 4611686018427387904) : Ev (fun k => parapetlaw14_same.f k (l.map dst) (m.map dst)) (l == m) := by
  unfold parapetlaw14_same.f
  by_cases he : l.length = m.length
  · refine ev_pos (by rw [List.length_map, List.length_map]; omega) ?_
    exact same_l0 hl hm he hn l.length 0 (by omega) (by omega)
  · refine ev_neg (by rw [List.length_map, List.length_map]; omega) ?_
    rw [show (l == m) = false by rw [beq_eq_false_iff_ne]; intro h; exact he (by rw [h])]
    exact Ev.now _
set_option maxRecDepth 100000 in
theorem awake14 : Ev (fun k => parapetlaw14_awake.f k) true := Ev.of (k := 60) (fun k => parapetlaw14_awake.mono k) (by decide +kernel)
theorem awake14b : Ev (fun k => (parapetlaw14_awake.f k).bind fun t => some t) true := Ev.bind awake14 (Ev.now _)
end Go.Proofs.YtopejcaiabebpaaDoor.PA
