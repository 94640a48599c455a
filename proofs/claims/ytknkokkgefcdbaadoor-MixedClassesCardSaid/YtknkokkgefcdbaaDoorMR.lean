import Derived.Test.YtknkokkgefcdbaaDoorEI
import Derived.Test.YtknkokkgefcdbaaDoorM
import Derived.Test.YtknkokkgefcdbaaDoorPAx22
namespace Go.Proofs.YtknkokkgefcdbaaDoor.PA
open Go.RowKit Go.Proofs.YtknkokkgefcdbaaDoorW.PrintWords Go.Proofs.YtknkokkgefcdbaaDoorW.PrintLast Go.Proofs.YtknkokkgefcdbaaDoorW.PrintMore Go.Proofs.YtknkokkgefcdbaaDoorPL
open Go.Proofs.YtknkokkgefcdbaaDoorWS
set_option linter.unusedVariables false
set_option linter.unusedSimpArgs false
theorem rPort_f {sc us ps h pa qf ff : List Int} (hs : Bytes sc) (po : Int) (qb fb : Bool) : Ev (fun k => parapetref9_Port.f k (st sc) (st us) (st ps) (st h) po (st pa) qb (st qf) fb (st ff)) (portV sc po) := by
  unfold parapetref9_Port.f portV
  by_cases e : po = -1
  · rw [if_pos e]; exact ev_pos e (Ev.bind (rDefault_f hs) (Ev.now _))
  · rw [if_neg e]; exact ev_neg e (Ev.now _)
theorem rOf_f {sc us ps h pa qf ff : List Int} (hs : Bytes sc) (po : Int) (qb fb : Bool) : Ev (fun k => parapetref9_Of.f k (st sc) (st us) (st ps) (st h) po (st pa) qb (st qf) fb (st ff)) (st sc, st h, portV sc po) := by
  unfold parapetref9_Of.f
  exact Ev.bind (rPort_f hs po qb fb) (Ev.now _)
theorem ends_f {xs t : List Int} (hx : Bytes xs) (ht : Bytes t) (hl : xs.length < 4611686018427387904) : parapetref9_ends.f (st xs) (st t) = some (endsB xs t) := by
  unfold parapetref9_ends.f
  exact ends_gen hx ht hl
theorem rTrusted_f {sc h : List Int} (hs : Bytes sc) (hh : Bytes h) (hl : h.length < 1048576) (po : Int) : Ev (fun k => parapetref9_Trusted.f k (st sc) (st h) po) (trustB sc h) := by
  have e3 : (st sc).toList = [104, 116, 116, 112, 115] ↔ sc = [104, 116, 116, 112, 115] := st_lit hs _ (bytes_lit (by decide)) _ (by rw [Lib.toList_data]; rfl)
  have e4 : (st sc).toList = [119, 115, 115] ↔ sc = [119, 115, 115] := st_lit hs _ (bytes_lit (by decide)) _ (by rw [Lib.toList_data]; rfl)
  unfold parapetref9_Trusted.f
  rw [toList_beq, toList_beq]
  by_cases z : (sc == [] && (h == [] && po == 0)) = true
  · have z2 : sc = [] ∧ h = [] := by simp only [Bool.and_eq_true, beq_iff_eq] at z; exact ⟨z.1, z.2.1⟩
    rw [show trustB sc h = false by rw [z2.1, z2.2]; decide +kernel]
    exact ev_pos z (Ev.now _)
  · refine ev_neg z (Ev.bind (rIsAddress_f hh hl) ?_)
    rw [tail_gen hh hl (f := parapetref9_ends.f) (ends_f hh local_bytes (by omega))]
    unfold trustB
    by_cases c1 : sc = [104, 116, 116, 112, 115]
    · rw [decide_eq_true (show sc ∈ [[104, 116, 116, 112, 115], [119, 115, 115]] by rw [c1]; simp)]
      exact ev_pos (e3.2 c1) (Ev.now _)
    by_cases c2 : sc = [119, 115, 115]
    · rw [decide_eq_true (show sc ∈ [[104, 116, 116, 112, 115], [119, 115, 115]] by rw [c2]; simp)]
      exact ev_neg (fun x => c1 (e3.1 x)) (ev_pos (e4.2 c2) (Ev.now _))
    · rw [decide_eq_false (show ¬ sc ∈ [[104, 116, 116, 112, 115], [119, 115, 115]] by simp [c1, c2]), Bool.false_or]
      exact ev_neg (fun x => c1 (e3.1 x)) (ev_neg (fun x => c2 (e4.1 x)) (Ev.now _))
theorem rSecure_f {sc us ps h pa qf ff : List Int} (hs : Bytes sc) (hh : Bytes h) (hl : h.length < 1048576) (po : Int) (qb fb : Bool) : Ev (fun k => parapetref9_Secure.f k (st sc) (st us) (st ps) (st h) po (st pa) qb (st qf) fb (st ff)) (trustB sc h) := by
  unfold parapetref9_Secure.f
  exact Ev.bind (rOf_f hs po qb fb) (Ev.bind (rTrusted_f hs hh hl _) (Ev.now _))
end Go.Proofs.YtknkokkgefcdbaaDoor.PA
