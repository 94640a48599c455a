import Derived.Test.YtknkokkgefcdbaaDoorEI
import Derived.Test.YtknkokkgefcdbaaDoorK18
import Derived.Test.YtknkokkgefcdbaaDoorMI
import Derived.Test.YtknkokkgefcdbaaDoorMR
import Derived.Test.YtknkokkgefcdbaaDoorPAx24
namespace Go.Proofs.YtknkokkgefcdbaaDoor.PA
open Go.RowKit Go.Proofs.YtknkokkgefcdbaaDoorW.PrintWords Go.Proofs.YtknkokkgefcdbaaDoorW.PrintLast Go.Proofs.YtknkokkgefcdbaaDoorW.PrintMore Go.Proofs.YtknkokkgefcdbaaDoorPL
open Go.Proofs.YtknkokkgefcdbaaDoorWS
set_option linter.unusedVariables false
set_option linter.unusedSimpArgs false
theorem rClass_j0 {sc us ps h pa qf ff dest : List Int} (hh : Bytes h) (hl : h.length < 1048576) (hde : Bytes dest) (po : Int) (qb fb c : Bool) : Ev (fun k => parapetref9_Class.j0 k (st dest) c (st sc) (st us) (st ps) (st h) po (st pa) qb (st qf) fb (st ff)) (if c = true then 0 else if dest ∈ [[105, 109, 97, 103, 101], [97, 117, 100, 105, 111], [118, 105, 100, 101, 111]] then (if (addrL h).isSome = true then 2 else 1) else 2) := by
  have hA := In_f hde (ls := [[105, 109, 97, 103, 101], [97, 117, 100, 105, 111], [118, 105, 100, 101, 111]]) (rows_bytes (by decide)) (by decide)
  have hI := rIsAddress_f hh hl
  refine Ev.step (fun k => by rw [parapetref9_Class.j0]) ?_
  cases c with
  | true => exact ev_pos rfl (Ev.now _)
  | false =>
    refine ev_neg (show ¬ (false = true) by decide) (Ev.bind hI (Ev.bind hA ?_))
    rw [show (if false = true then (0 : Int) else if dest ∈ [[105, 109, 97, 103, 101], [97, 117, 100, 105, 111], [118, 105, 100, 101, 111]] then (if (addrL h).isSome = true then 2 else 1) else 2) = if dest ∈ [[105, 109, 97, 103, 101], [97, 117, 100, 105, 111], [118, 105, 100, 101, 111]] then (if (addrL h).isSome = true then 2 else 1) else 2 from if_neg (by decide), resV_some]
    by_cases e : dest ∈ [[105, 109, 97, 103, 101], [97, 117, 100, 105, 111], [118, 105, 100, 101, 111]]
    · rw [decide_eq_true e]
      refine ev_pos rfl ?_
      rw [if_pos e]
      cases (addrL h).isSome with
      | true => exact ev_pos rfl (Ev.now _)
      | false => exact ev_neg (show ¬ (false = true) by decide) (Ev.now _)
    · rw [decide_eq_false e]
      refine ev_neg (show ¬ (false = true) by decide) ?_
      rw [if_neg e]
      exact Ev.now _
theorem rClass_f {d x sc us ps h pa qf ff dest : List Int} (hd : Bytes d) (hs : Bytes sc) (hh : Bytes h) (hl : h.length < 1048576) (hde : Bytes dest) (p po : Int) (qb fb : Bool) :
    Ev (fun k => parapetref9_Class.f k (st d) (st x) p (st sc) (st us) (st ps) (st h) po (st pa) qb (st qf) fb (st ff) (st dest)) (classV d sc h dest) := by
  have e3 : (st d).toList = [104, 116, 116, 112, 115] ↔ d = [104, 116, 116, 112, 115] := st_lit hd _ (bytes_lit (by decide)) _ (by rw [Lib.toList_data]; rfl)
  have e4 : (st d).toList = [119, 115, 115] ↔ d = [119, 115, 115] := st_lit hd _ (bytes_lit (by decide)) _ (by rw [Lib.toList_data]; rfl)
  have hS := rSecure_f (us := us) (ps := ps) (pa := pa) (qf := qf) (ff := ff) hs hh hl po qb fb
  have hj := fun c => rClass_j0 (sc := sc) (us := us) (ps := ps) (pa := pa) (qf := qf) (ff := ff) hh hl hde po qb fb c
  have inner : d ∈ [[104, 116, 116, 112, 115], [119, 115, 115]] → Ev (fun k => (parapetref9_Secure.f k (st sc) (st us) (st ps) (st h) po (st pa) qb (st qf) fb (st ff)).bind fun t413 => (if t413 = true then (parapetref9_Class.j0 k (st dest) true (st sc) (st us) (st ps) (st h) po (st pa) qb (st qf) fb (st ff)) else (parapetref9_Class.j0 k (st dest) ((st dest).toList == ([100, 111, 99, 117, 109, 101, 110, 116] : List UInt8)) (st sc) (st us) (st ps) (st h) po (st pa) qb (st qf) fb (st ff)))) (classV d sc h dest) := by
    intro hm
    unfold classV
    refine Ev.bind hS ?_
    cases ht : trustB sc h with
    | true =>
      rw [if_neg (show ¬ (decide (d ∈ [[104, 116, 116, 112, 115], [119, 115, 115]]) = true ∧ true = false ∧ dest ≠ [100, 111, 99, 117, 109, 101, 110, 116]) by simp)]
      exact ev_pos rfl (hj true)
    | false =>
      refine ev_neg (show ¬ (false = true) by decide) ?_
      rw [doc_beq hde]
      by_cases e : dest = [100, 111, 99, 117, 109, 101, 110, 116]
      · rw [if_neg (fun x => x.2.2 e), decide_eq_true e]
        exact hj true
      · rw [if_pos ⟨decide_eq_true hm, rfl, e⟩, decide_eq_false e]
        exact hj false
  unfold parapetref9_Class.f
  by_cases c1 : d = [104, 116, 116, 112, 115]
  · exact ev_pos (e3.2 c1) (inner (by rw [c1]; simp))
  refine ev_neg (fun x => c1 (e3.1 x)) ?_
  by_cases c2 : d = [119, 115, 115]
  · exact ev_pos (e4.2 c2) (inner (by rw [c2]; simp))
  refine ev_neg (fun x => c2 (e4.1 x)) ?_
  unfold classV
  rw [if_neg (fun x => by have := of_decide_eq_true x.1; simp [c1, c2] at this)]
  exact hj true
theorem Upgrade_any (a0 a1 a2 a3 : ByteArray) (po : Int) (a5 : ByteArray) (qb : Bool) (a7 : ByteArray) (fb : Bool) (a9 : ByteArray) : ∃ r, parapetref9_Upgrade.f a0 a1 a2 a3 po a5 qb a7 fb a9 = some r ∧ Ev (fun k => mixed_Upgrade.f k a0 a1 a2 a3 po a5 qb a7 fb a9) r := by
  have d1 := uDefault_f (xs := [104, 116, 116, 112, 115]) (bytes_lit (by decide))
  have d2 := uDefault_f (xs := [119, 115, 115]) (bytes_lit (by decide))
  rw [show dflt [104, 116, 116, 112, 115] = (443, true) by decide] at d1
  rw [show dflt [119, 115, 115] = (443, true) by decide] at d2
  unfold parapetref9_Upgrade.f mixed_Upgrade.f
  by_cases c1 : a0.toList = ([104, 116, 116, 112] : List UInt8)
  · rw [if_pos c1]
    by_cases e : po = 443
    · rw [if_pos e]; exact ⟨_, rfl, ev_pos c1 (Ev.bind d1 (ev_pos e (Ev.now _)))⟩
    · rw [if_neg e]; exact ⟨_, rfl, ev_pos c1 (Ev.bind d1 (ev_neg e (Ev.now _)))⟩
  rw [if_neg c1]
  by_cases c2 : a0.toList = ([119, 115] : List UInt8)
  · rw [if_pos c2]
    by_cases e : po = 443
    · rw [if_pos e]; exact ⟨_, rfl, ev_neg c1 (ev_pos c2 (Ev.bind d2 (ev_pos e (Ev.now _))))⟩
    · rw [if_neg e]; exact ⟨_, rfl, ev_neg c1 (ev_pos c2 (Ev.bind d2 (ev_neg e (Ev.now _))))⟩
  rw [if_neg c2]
  exact ⟨_, rfl, ev_neg c1 (ev_neg c2 (Ev.now _))⟩
theorem MixedClasses (o0 o1 : ByteArray) (o2 : Int) (a1 a2 : ByteArray) (w1 : a1.size < 9223372036854775808) (w2 : a2.size < 9223372036854775808) : ∃ k, parapetlaw18_MixedClasses.f k o0 o1 o2 a1 a2 = some true := by
  apply Ev.rounds
  obtain ⟨sc, us, ps, h, po, pa, qb, qf, fb, ff, ok, hp, hk⟩ := parsed18_any a1 (by omega)
  obtain ⟨dest, rfl, hde, hdl⟩ := st_of a2
  obtain ⟨d, rfl, hd, hdd⟩ := st_of o0
  obtain ⟨x, rfl, hx, hxl⟩ := st_of o1
  have j0 : ∀ b : Bool, (b = false → ok = true) → Ev (fun k => parapetlaw18_MixedClasses.j0 k (st dest) b (st d) (st x) o2 (st sc) (st us) (st ps) (st h) po (st pa) qb (st qf) fb (st ff)) true := by
    intro b hb
    refine Ev.step (fun k => by rw [parapetlaw18_MixedClasses.j0]) ?_
    cases b with
    | true => exact ev_pos rfl awake18b
    | false =>
      have ho := hk (hb rfl)
      have hh : Bytes h := ho.2.2.2.2.2.2.1.1
      have hhl : h.length < 1048576 := by have := ho.2.2.2.2.2.2.1.2.1; omega
      obtain ⟨r, r1, r2⟩ := Upgrade_any (st sc) (st us) (st ps) (st h) po (st pa) qb (st qf) fb (st ff)
      refine ev_neg (show ¬ (false = true) by decide) (Ev.bind (Class_f hd ho.1 hh hhl hde o2 po qb fb) (Ev.bind (rClass_f hd ho.1 hh hhl hde o2 po qb fb) ?_))
      refine ev_pos rfl ?_
      refine Ev.bind r2 ?_
      rw [r1]
      refine ev_pos ?_ awake18b
      simp only [beq_self_eq_true, Bool.and_self]
  unfold parapetlaw18_MixedClasses.f
  refine Ev.bind hp ?_
  cases ok with
  | false => exact ev_neg (show ¬ (false = true) by decide) (j0 true (fun x => by cases x))
  | true =>
    refine ev_pos rfl ?_
    have hA : ∃ t, parapetalike_Origin.f (st d) (st x) o2 = some t := by
      unfold parapetalike_Origin.f
      by_cases c1 : o2 ≥ 0
      · rw [if_pos c1]
        by_cases c2 : o2 ≤ 65535
        · rw [if_pos c2]; exact ⟨_, rfl⟩
        · rw [if_neg c2]; exact ⟨_, rfl⟩
      · rw [if_neg c1]; exact ⟨_, rfl⟩
    obtain ⟨t, ht⟩ := hA
    refine Ev.bind (show Ev (fun _ => parapetalike_Origin.f (st d) (st x) o2) t by rw [ht]; exact Ev.now _) ?_
    cases t with
    | true => exact ev_pos rfl (j0 _ (fun _ => rfl))
    | false => exact ev_neg (show ¬ (false = true) by decide) (j0 true (fun x => by cases x))
end Go.Proofs.YtknkokkgefcdbaaDoor.PA
