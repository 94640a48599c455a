import Derived.Test.YtkhcoeampamegaaGreatDoorNE
import Derived.Test.YtkhcoeampamegaaGreatDoorLA
/-! Chapter 16's laws: what the document fixes; a directive that no chain has. -/
namespace GoD
open Go Go.Proofs
set_option linter.unusedVariables false
set_option linter.unusedSimpArgs false
set_option maxHeartbeats 4000000
set_option maxRecDepth 100000
theorem allow_some {p ds : List Int} {x : Dr} (hf : findL (cspL p) (chainL ds) = some x) (a d : List Int) (po : Int) (e os oh : List Int) (op rd : Int) : allowB p ds a d po e os oh op rd = listB x.2 a d po e os oh op rd := by unfold allowB; rw [hf]
theorem allow_none {p ds : List Int} (hf : findL (cspL p) (chainL ds) = none) (a d : List Int) (po : Int) (e os oh : List Int) (op rd : Int) : allowB p ds a d po e os oh op rd = true := by unfold allowB; rw [hf]
def aw1U : Url := ⟨[104, 116, 116, 112], [], [], [120], -1, [47], false, [], false, []⟩
theorem aw1u_eq : urlL [104, 116, 116, 112, 58, 47, 47, 120, 47] = some aw1U := by kernel_rfl
theorem awA : allowB [100, 101, 102, 97, 117, 108, 116, 45, 115, 114, 99, 32, 39, 110, 111, 110, 101, 39, 59, 32, 105, 109, 103, 45, 115, 114, 99, 32, 42] [105, 109, 97, 103, 101] aw1U.sch aw1U.ho aw1U.po aw1U.path [] [] 0 0 = true := by kernel_rfl
theorem awB : allowB [100, 101, 102, 97, 117, 108, 116, 45, 115, 114, 99, 32, 39, 110, 111, 110, 101, 39, 59, 32, 105, 109, 103, 45, 115, 114, 99, 32, 42] [115, 99, 114, 105, 112, 116] aw1U.sch aw1U.ho aw1U.po aw1U.path [] [] 0 0 = false := by kernel_rfl
def pAwake16C : Ct := fun args h => match args with | [] => some (.b true, h) | _ => none
theorem pAwake16_ok : CtOk Tryz.prog G0 9 pAwake16C := by
  refine ct_plain (n := 0) fol (sound_cons pParsed_ok (sound_cons pAllows_ok sound_nil)) (by kernel_rfl) Tryz.func9 rfl fun args h v h' hc r xs H hr hx => ?_
  unfold pAwake16C at hc; split at hc <;> (try split at hc) <;> cases hc
  refine ⟨rfl, rfl, by simp [renV, bndV], ?_⟩
  have e2 : urlOr [104, 116, 116, 112, 58, 47, 47, 120, 47] = aw1U := by unfold urlOr; rw [aw1u_eq]
  have e3 : urlOk [104, 116, 116, 112, 58, 47, 47, 120, 47] = true := by unfold urlOk; rw [aw1u_eq]; rfl
  have e4 := awA
  have e5 := awB
  unfold aw1U at *
  simp only at e4 e5
  simp -implicitDefEqProofs [go_sem, Tryz.f9, pParsedC, pAllowsC, e2, e3, e4, e5, Url.V, Url.cells]
theorem splitL_app {c : Int} {r : List Int} : ∀ {l : List Int}, splitL c (l ++ c :: r) = splitL c l ++ splitL c r
  | [] => by simp [splitL]
  | d :: t => by
    have ih := @splitL_app c r t
    have hne := splitL_ne c t
    rw [List.cons_append, splitL, splitL, ih]
    split
    · simp
    · cases hs : splitL c t with
      | nil => exact absurd hs hne
      | cons q qs => simp
theorem findL_more {ds : List Dr} {x : Dr} : ∀ {ns : List (List Int)}, (∀ n ∈ ns, x.1 ≠ n) → findL (ds ++ [x]) ns = findL ds ns
  | [], _ => rfl
  | n :: ns, hn => by
    unfold findL
    rw [List.find?_append, List.find?_cons_of_neg (by simpa using hn n (by simp)), List.find?_nil, Option.or_none, findL_more fun m hm => hn m (by simp [hm])]
theorem chain_not {d : List Int} {n : List Int} (h : [[99, 111, 110, 110, 101, 99, 116, 45, 115, 114, 99], [115, 99, 114, 105, 112, 116, 45, 115, 114, 99, 45, 101, 108, 101, 109], [115, 99, 114, 105, 112, 116, 45, 115, 114, 99], [115, 116, 121, 108, 101, 45, 115, 114, 99, 45, 101, 108, 101, 109], [115, 116, 121, 108, 101, 45, 115, 114, 99], [105, 109, 103, 45, 115, 114, 99], [102, 111, 110, 116, 45, 115, 114, 99], [109, 97, 110, 105, 102, 101, 115, 116, 45, 115, 114, 99], [109, 101, 100, 105, 97, 45, 115, 114, 99], [111, 98, 106, 101, 99, 116, 45, 115, 114, 99], [102, 114, 97, 109, 101, 45, 115, 114, 99], [99, 104, 105, 108, 100, 45, 115, 114, 99], [119, 111, 114, 107, 101, 114, 45, 115, 114, 99], [100, 101, 102, 97, 117, 108, 116, 45, 115, 114, 99]].contains n = false) : ∀ m ∈ chainL d, n ≠ m := by
  have key : ∀ (p : Prop) [Decidable p] (x y : List (List Int)), (∀ m ∈ x, n ≠ m) → (∀ m ∈ y, n ≠ m) → ∀ m ∈ (if p then x else y), n ≠ m := fun p _ x y h1 h2 => by split <;> assumption
  simp only [List.contains_cons, List.contains_nil, Bool.or_eq_false_iff, beq_eq_false_iff_ne] at h
  unfold chainL
  repeat (refine key _ _ _ (by simp [h]) ?_)
  simp
theorem step_other {acc : List Dr} {p : List Int} {ns : List (List Int)} (hn : ∀ n ∈ ns, lowerL ((blanksL p).headD []) ≠ n) : findL (cspStep acc p) ns = findL acc ns := by
  unfold cspStep
  split
  · rfl
  · split
    · rfl
    · exact findL_more hn
theorem other_eq (p ds a d : List Int) (po : Int) (e os oh : List Int) (op rd : Int) : allowB (p ++ [59, 32, 102, 114, 97, 109, 101, 45, 97, 110, 99, 101, 115, 116, 111, 114, 115, 32, 39, 110, 111, 110, 101, 39, 59, 32, 114, 101, 112, 111, 114, 116, 45, 117, 114, 105, 32, 47, 120]) ds a d po e os oh op rd = allowB p ds a d po e os oh op rd := by
  have e1 : splitL 59 (p ++ [59, 32, 102, 114, 97, 109, 101, 45, 97, 110, 99, 101, 115, 116, 111, 114, 115, 32, 39, 110, 111, 110, 101, 39, 59, 32, 114, 101, 112, 111, 114, 116, 45, 117, 114, 105, 32, 47, 120]) = splitL 59 p ++ [[32, 102, 114, 97, 109, 101, 45, 97, 110, 99, 101, 115, 116, 111, 114, 115, 32, 39, 110, 111, 110, 101, 39], [32, 114, 101, 112, 111, 114, 116, 45, 117, 114, 105, 32, 47, 120]] := by
    rw [splitL_app (r := [32, 102, 114, 97, 109, 101, 45, 97, 110, 99, 101, 115, 116, 111, 114, 115, 32, 39, 110, 111, 110, 101, 39, 59, 32, 114, 101, 112, 111, 114, 116, 45, 117, 114, 105, 32, 47, 120])]
    congr 1
  have e2 : findL (cspL (p ++ [59, 32, 102, 114, 97, 109, 101, 45, 97, 110, 99, 101, 115, 116, 111, 114, 115, 32, 39, 110, 111, 110, 101, 39, 59, 32, 114, 101, 112, 111, 114, 116, 45, 117, 114, 105, 32, 47, 120])) (chainL ds) = findL (cspL p) (chainL ds) := by
    unfold cspL
    rw [e1, List.foldl_append, List.foldl_cons, List.foldl_cons, List.foldl_nil, step_other, step_other]
    · exact chain_not (by kernel_rfl)
    · exact chain_not (by kernel_rfl)
  unfold allowB
  rw [e2]
theorem other_fa (ds a d : List Int) (po : Int) (e os oh : List Int) (op rd : Int) : allowB [102, 114, 97, 109, 101, 45, 97, 110, 99, 101, 115, 116, 111, 114, 115, 32, 39, 110, 111, 110, 101, 39] ds a d po e os oh op rd = true := by
  refine allow_none ?_ _ _ _ _ _ _ _ _
  have e1 : cspL [102, 114, 97, 109, 101, 45, 97, 110, 99, 101, 115, 116, 111, 114, 115, 32, 39, 110, 111, 110, 101, 39] = cspStep [] [102, 114, 97, 109, 101, 45, 97, 110, 99, 101, 115, 116, 111, 114, 115, 32, 39, 110, 111, 110, 101, 39] := by kernel_rfl
  rw [e1, step_other (chain_not (by kernel_rfl))]
  generalize chainL ds = ns
  induction ns with
  | nil => rfl
  | cons n ns ih => exact ih
def pLaw16oC : Ct := fun args h => match args with | [.s a, .s b, .s c, .s d] => some (.b true, h) | _ => none
theorem pLaw16o_ok : CtOk Tryz.prog G0 4 pLaw16oC := by
  refine ct_plain (n := 4) fol (sound_cons pAwake16_ok (sound_cons pParsed_ok (sound_cons pSelf_ok (sound_cons pAllows_ok sound_nil)))) (by kernel_rfl) Tryz.func4 rfl fun args h v h' hc r xs H hr hx => ?_
  unfold pLaw16oC at hc; split at hc <;> (try split at hc) <;> cases hc
  rename_i pp ds s dc
  refine ⟨rfl, rfl, by simp [renV, bndV], ?_⟩
  obtain ⟨⟨_, hl1⟩, _, hx2⟩ := str_of hx
  obtain ⟨⟨_, hl2⟩, _⟩ := str_of hx2
  obtain ⟨u, hu⟩ : ∃ u, urlOr s = u := ⟨_, rfl⟩
  obtain ⟨og, hog⟩ : ∃ og, selfO dc = og := ⟨_, rfl⟩
  obtain ⟨oa, ob, oc⟩ := og
  have w := w64 (x := (pp.length : Int) + ds.length) (by omega)
  cases h4 : urlOk s with
  | true =>
    obtain ⟨hho, hpa⟩ := urlOk_len h4
    rw [hu] at hho hpa
    by_cases c1 : (2000 : Int) < (pp.length : Int) + ds.length
    · simp -implicitDefEqProofs [go_sem, Tryz.f4, pAwake16C, pParsedC, h4, hu, Url.V, Url.cells, w, c1]
    · have c2 : pp.length ≤ 1048576 := by omega
      have c3 : pp.length + 39 ≤ 1048576 := by omega
      have c4 : pp.length + 39 ≤ 281474976710656 := by omega
      simp -implicitDefEqProofs [go_sem, Tryz.f4, pAwake16C, pParsedC, pSelfC, pAllowsC, h4, hu, hog, Url.V, Url.cells, Org.V, Org.cells, w, c1, c2, c3, c4, hho, hpa, other_eq, other_fa]
  | false =>
    simp -implicitDefEqProofs [go_sem, Tryz.f4, pAwake16C, pParsedC, h4, hu, Url.V, Url.cells]
end GoD
