import Derived.Test.YtknkokkgefcdbaaDoorK18
import Derived.Test.YtknkokkgefcdbaaDoorPAx22
namespace Go.Proofs.YtknkokkgefcdbaaDoor.PA
open Go.RowKit Go.Proofs.YtknkokkgefcdbaaDoorW.PrintWords Go.Proofs.YtknkokkgefcdbaaDoorW.PrintLast Go.Proofs.YtknkokkgefcdbaaDoorW.PrintMore Go.Proofs.YtknkokkgefcdbaaDoorPL
open Go.Proofs.YtknkokkgefcdbaaDoorWS
set_option linter.unusedVariables false
set_option linter.unusedSimpArgs false
theorem classV_plain {d : List Int} (hd : ¬ d ∈ [[104, 116, 116, 112, 115], [119, 115, 115]]) (sc h dest : List Int) : classV d sc h dest = 0 := by
  unfold classV
  exact if_neg fun x => hd (of_decide_eq_true x.1)
theorem MixedPlain (a0 a1 a2 : ByteArray) (w0 : a0.size ≤ 140737488351232) (w1 : a1.size ≤ 140737488351232) (w2 : a2.size ≤ 140737488351232) : ∃ k, parapetlaw18_MixedPlain.f k a0 a1 a2 = some true := by
  apply Ev.rounds
  obtain ⟨sc, us, ps, h, po, pa, qb, qf, fb, ff, ok, hp, hk⟩ := parsed18_any a1 (by omega)
  obtain ⟨xs, rfl, hx, hxl⟩ := st_of a0
  obtain ⟨dest, rfl, hde, hdl⟩ := st_of a2
  have j0 : ∀ b : Bool, (b = false → ok = true) → Ev (fun k => parapetlaw18_MixedPlain.j0 k (st xs) (st dest) b (st sc) (st us) (st ps) (st h) po (st pa) qb (st qf) fb (st ff)) true := by
    intro b hb
    refine Ev.step (fun k => by rw [parapetlaw18_MixedPlain.j0]) ?_
    cases b with
    | true => exact ev_pos rfl awake18b
    | false =>
      have ho := hk (hb rfl)
      have hh : Bytes h := ho.2.2.2.2.2.2.1.1
      have hhl : h.length < 1048576 := by have := ho.2.2.2.2.2.2.1.2.1; omega
      have c1 := Class_f (d := [104, 116, 116, 112]) (x := xs) (us := us) (ps := ps) (pa := pa) (qf := qf) (ff := ff) (bytes_lit (by decide)) ho.1 hh hhl hde 80 po qb fb
      have c2 := Class_f (d := []) (x := []) (us := us) (ps := ps) (pa := pa) (qf := qf) (ff := ff) (bytes_lit (by decide)) ho.1 hh hhl hde 0 po qb fb
      rw [classV_plain (by decide)] at c1 c2
      refine ev_neg (show ¬ (false = true) by decide) (Ev.bind c1 (ev_pos rfl (Ev.bind c2 (ev_pos rfl awake18b))))
  unfold parapetlaw18_MixedPlain.f
  refine Ev.bind hp ?_
  cases ok with
  | false => exact ev_neg (show ¬ (false = true) by decide) (j0 true (fun x => by cases x))
  | true =>
    refine ev_pos rfl ?_
    by_cases hs : ((st xs).size : Int) > 300
    · exact ev_pos hs (j0 true (fun x => by cases x))
    · exact ev_neg hs (j0 _ (fun _ => rfl))
end Go.Proofs.YtknkokkgefcdbaaDoor.PA
