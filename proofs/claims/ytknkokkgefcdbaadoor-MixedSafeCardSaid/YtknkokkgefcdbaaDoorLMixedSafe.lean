import Derived.Test.YtknkokkgefcdbaaDoorEI
import Derived.Test.YtknkokkgefcdbaaDoorK18
import Derived.Test.YtknkokkgefcdbaaDoorMR
import Derived.Test.YtknkokkgefcdbaaDoorPAx24
namespace Go.Proofs.YtknkokkgefcdbaaDoor.PA
open Go.RowKit Go.Proofs.YtknkokkgefcdbaaDoorW.PrintWords Go.Proofs.YtknkokkgefcdbaaDoorW.PrintLast Go.Proofs.YtknkokkgefcdbaaDoorW.PrintMore Go.Proofs.YtknkokkgefcdbaaDoorPL
open Go.Proofs.YtknkokkgefcdbaaDoorWS
set_option linter.unusedVariables false
set_option linter.unusedSimpArgs false
theorem MixedSafe (a0 a1 : ByteArray) (w0 : a0.size ≤ 140737488351232) (w1 : a1.size ≤ 140737488351232) : ∃ k, parapetlaw18_MixedSafe.f k a0 a1 = some true := by
  apply Ev.rounds
  obtain ⟨sc, us, ps, h, po, pa, qb, qf, fb, ff, ok, hp, hk⟩ := parsed18_any a0 (by omega)
  obtain ⟨dest, rfl, hde, hdl⟩ := st_of a1
  have e1 : (st dest).toList = [105, 109, 97, 103, 101] ↔ dest = [105, 109, 97, 103, 101] := st_lit hde _ (bytes_lit (by decide)) _ (by rw [Lib.toList_data]; rfl)
  have e2 : (st dest).toList = [97, 117, 100, 105, 111] ↔ dest = [97, 117, 100, 105, 111] := st_lit hde _ (bytes_lit (by decide)) _ (by rw [Lib.toList_data]; rfl)
  have e3 : (st dest).toList = [118, 105, 100, 101, 111] ↔ dest = [118, 105, 100, 101, 111] := st_lit hde _ (bytes_lit (by decide)) _ (by rw [Lib.toList_data]; rfl)
  have j1 : ok = true → ∀ b : Bool, b = (trustB sc h || decide (dest = [100, 111, 99, 117, 109, 101, 110, 116])) → Ev (fun k => parapetlaw18_MixedSafe.j1 k (st dest) (classV [104, 116, 116, 112, 115] sc h dest) b (st sc) (st us) (st ps) (st h) po (st pa) qb (st qf) fb (st ff)) true := by
    intro hok b hb
    have ho := hk hok
    have hh : Bytes h := ho.2.2.2.2.2.2.1.1
    have hhl : h.length < 1048576 := by have := ho.2.2.2.2.2.2.1.2.1; omega
    have hA := rIsAddress_f hh hhl
    refine Ev.step (fun k => by rw [parapetlaw18_MixedSafe.j1]) ?_
    cases b with
    | true =>
      have hc : classV [104, 116, 116, 112, 115] sc h dest = 0 := by
        unfold classV
        refine if_neg fun x => ?_
        rw [x.2.1, decide_eq_false x.2.2] at hb
        cases hb
      rw [hc]
      exact ev_pos rfl (ev_pos rfl awake18b)
    | false =>
      have hc : classV [104, 116, 116, 112, 115] sc h dest = if dest ∈ [[105, 109, 97, 103, 101], [97, 117, 100, 105, 111], [118, 105, 100, 101, 111]] then (if (addrL h).isSome = true then 2 else 1) else 2 := by
        have h2 := hb.symm
        rw [Bool.or_eq_false_iff] at h2
        unfold classV
        exact if_pos ⟨by decide, h2.1, of_decide_eq_false h2.2⟩
      have hm : ∀ s, (resV (addrL h)).2 = s → ∀ c : Int, c = (if s = true then 2 else 1) → ((c == 1) == (!s)) = true ∧ ¬ c = 0 := by
        intro s _ c e; subst e; cases s <;> decide
      have key : dest ∈ [[105, 109, 97, 103, 101], [97, 117, 100, 105, 111], [118, 105, 100, 101, 111]] → (((classV [104, 116, 116, 112, 115] sc h dest) == 1) == (!(resV (addrL h)).2)) = true ∧ ¬ classV [104, 116, 116, 112, 115] sc h dest = 0 := by
        intro hm2
        rw [hc, if_pos hm2, ← resV_some]
        exact hm _ rfl _ rfl
      refine ev_neg (show ¬ (false = true) by decide) ?_
      by_cases c1 : dest = [105, 109, 97, 103, 101]
      · have k1 := key (by rw [c1]; simp)
        exact ev_pos (e1.2 c1) (Ev.bind hA (ev_pos k1.1 (ev_neg k1.2 awake18b)))
      refine ev_neg (fun x => c1 (e1.1 x)) ?_
      by_cases c2 : dest = [97, 117, 100, 105, 111]
      · have k1 := key (by rw [c2]; simp)
        exact ev_pos (e2.2 c2) (Ev.bind hA (ev_pos k1.1 (ev_neg k1.2 awake18b)))
      refine ev_neg (fun x => c2 (e2.1 x)) (Ev.bind hA ?_)
      by_cases c3 : dest = [118, 105, 100, 101, 111]
      · have k1 := key (by rw [c3]; simp)
        exact ev_pos (e3.2 c3) (ev_pos k1.1 (ev_neg k1.2 awake18b))
      refine ev_neg (fun x => c3 (e3.1 x)) ?_
      rw [hc, if_neg (show ¬ dest ∈ [[105, 109, 97, 103, 101], [97, 117, 100, 105, 111], [118, 105, 100, 101, 111]] by simp [c1, c2, c3])]
      exact ev_pos rfl (ev_neg (by decide) awake18b)
  have j0 : ∀ b : Bool, (b = false → ok = true) → Ev (fun k => parapetlaw18_MixedSafe.j0 k (st dest) b (st sc) (st us) (st ps) (st h) po (st pa) qb (st qf) fb (st ff)) true := by
    intro b hb
    refine Ev.step (fun k => by rw [parapetlaw18_MixedSafe.j0]) ?_
    cases b with
    | true => exact ev_pos rfl awake18b
    | false =>
      have ho := hk (hb rfl)
      have hh : Bytes h := ho.2.2.2.2.2.2.1.1
      have hhl : h.length < 1048576 := by have := ho.2.2.2.2.2.2.1.2.1; omega
      have c1 := Class_f (d := [104, 116, 116, 112, 115]) (x := [97]) (us := us) (ps := ps) (pa := pa) (qf := qf) (ff := ff) (bytes_lit (by decide)) ho.1 hh hhl hde 443 po qb fb
      refine ev_neg (show ¬ (false = true) by decide) (Ev.bind c1 (Ev.bind (rSecure_f ho.1 hh hhl po qb fb) ?_))
      have hj := j1 (hb rfl)
      cases ht : trustB sc h with
      | true => exact ev_pos rfl (hj _ (by rw [ht]; rfl))
      | false => exact ev_neg (show ¬ (false = true) by decide) (hj _ (by rw [ht, doc_beq hde]; rfl))
  unfold parapetlaw18_MixedSafe.f
  refine Ev.bind hp ?_
  cases ok with
  | false => exact ev_neg (show ¬ (false = true) by decide) (j0 true (fun x => by cases x))
  | true => exact ev_pos rfl (j0 _ (fun _ => rfl))
end Go.Proofs.YtknkokkgefcdbaaDoor.PA
