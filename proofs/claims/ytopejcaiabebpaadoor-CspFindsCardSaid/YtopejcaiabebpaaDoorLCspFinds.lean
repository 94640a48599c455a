import Derived.Test.YtopejcaiabebpaaDoorJ
import Derived.Test.YtopejcaiabebpaaDoorK14
import Derived.Test.YtopejcaiabebpaaDoorPAx12
namespace Go.Proofs.YtopejcaiabebpaaDoor.PA
open Go.RowKit Go.Proofs.YtopejcaiabebpaaDoorW.PrintWords Go.Proofs.YtopejcaiabebpaaDoorW.PrintLast Go.Proofs.YtopejcaiabebpaaDoorW.PrintMore Go.Proofs.YtopejcaiabebpaaDoorPL
open Go.Proofs.YtopejcaiabebpaaDoorWS
set_option linter.unusedVariables false
theorem find_ok_r {l : List Dr} (hl : ∀ d ∈ l, OkD d) {ns : List (List Int)} : ∃ d, OkD d ∧ (findR (findL l ns)).1 = st d.1 ∧ (findR (findL l ns)).2.1 = d.2.map st := by
  cases h : findL l ns with
  | none => exact ⟨([], []), ⟨Bytes.nil, fun x hx => (by cases hx), by decide⟩, rfl, rfl⟩
  | some d => exact ⟨d, findL_ok hl h, rfl, rfl⟩
theorem CspFinds (a0 : ByteArray) (l1 : List ByteArray) (h0 : a0.size ≤ 140737488351232) (h1 : l1.length * 16 ≤ 140737488351232) (h2 : ∀ s ∈ l1, s.size ≤ 140737488351232) : ∃ k, parapetlaw14_CspFinds.f k a0 l1 = some true := by
  apply Ev.rounds
  obtain ⟨xs, rfl, hx, hl⟩ := st_of a0
  obtain ⟨ns, rfl, hn, hnl, hnb⟩ := st_map l1
  rw [List.length_map] at hnl h1
  have hB := hnb _ h2
  obtain ⟨r, hr, hr0, hr1, hr2⟩ := Total_f (l := ns) (mx := 3000) (fun x hx => by have := hB x hx; omega) (by omega) (by omega) (by omega)
  unfold parapetlaw14_CspFinds.f
  refine Ev.bind hr ?_
  rw [st_size, w64 (by omega) (by omega)]
  by_cases h : (xs.length : Int) + r > 3000
  · exact ev_pos h awake14b
  · have hxl : xs.length ≤ 3000 := by omega
    have hok := cspL_ok hx (show xs.length < 1048576 by omega)
    have hfit := cspL_fit hx (show xs.length ≤ 4000 by omega)
    have hcnt := cspL_count (show xs.length ≤ 4000 by omega)
    refine ev_neg h (Ev.bind (CSP_f hx (by omega)) (ev_const (Find_f hok hn) (Ev.bind (rFind_f hok hn (by omega) (by omega)) ?_)))
    have h0 := Find_f hok (ns := []) (fun n h => (by cases h))
    rw [List.map_nil] at h0
    refine ev_const h0 (Ev.bind (cspText_f hfit hcnt) (Ev.bind (rcspText_f hfit hcnt) (ev_pos rfl ?_)))
    obtain ⟨d, hd, e1, e2⟩ := find_ok_r hok (ns := ns)
    rw [e1, e2]
    refine Ev.bind (alike_f hd hd) (ev_pos (by simp) (ev_pos (by simp) ?_))
    exact ev_neg (by simp [findL, findR]) awake14b
end Go.Proofs.YtopejcaiabebpaaDoor.PA
