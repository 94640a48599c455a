import Derived.Test.YtffoolaocbgknaaGreatDoorLB
/-! SourceNone. -/
namespace GoD
open Go Go.Proofs
set_option linter.unusedVariables false
set_option linter.unusedSimpArgs false
set_option maxHeartbeats 2000000
set_option maxRecDepth 100000
theorem ct_or {P : Program} {G : Nat → List V} {f : FuncId} {c1 c2 : Ct} (h1 : CtOk P G f c1) (h2 : CtOk P G f c2) : CtOk P G f (fun a h => match c1 a h with | some x => some x | none => c2 a h) := fun args h v h' hc => by
  simp only at hc
  split at hc
  · rename_i x hx
    obtain rfl := Option.some.inj hc
    exact h1 _ _ _ _ hx
  · exact h2 _ _ _ _ hc
def pListNC : Ct := fun args h => match args with
  | [.c (.slice none 0 0), .agg [.s a, .s b, .s c, .s d, .i .i64 p, .s e, .b q, .s f, .b g, .s x], .agg [.s os, .s oh, .i .i64 op], .i .i64 rd] => some (.b false, h)
  | _ => none
theorem pListN_ok : CtOk Tryz.prog G0 26 pListNC := by
  refine ct_plain (n := 4) fol (sound_cons pParse_ok (sound_cons pMatch_ok sound_nil)) (by kernel_rfl) Tryz.func26 rfl fun args h v h' hc r xs H hr hx => ?_
  unfold pListNC at hc; split at hc <;> (try split at hc) <;> cases hc
  refine ⟨rfl, rfl, by simp [renV, bndV], ?_⟩
  simp -implicitDefEqProofs [go_sem, Tryz.f26]
  rw [run_again]
  simp -implicitDefEqProofs [go_sem, Tryz.f26]
def pList2C : Ct := fun a h => match pListC a h with | some x => some x | none => pListNC a h
theorem pList2_ok : CtOk Tryz.prog G0 26 pList2C := ct_or pList_ok pListN_ok
def pLawNC : Ct := fun args h => match args with | [.s a, .s b] => some (.b true, h) | _ => none
theorem kw1 : (srcL [39, 110, 111, 110, 101, 39]).kind = 5 := by kernel_rfl
theorem kw2 : (srcL [39, 117, 110, 115, 97, 102, 101, 45, 105, 110, 108, 105, 110, 101, 39]).kind = 5 := by kernel_rfl
theorem kw3 : (srcL [39, 110, 111, 110, 99, 101, 45, 120, 39]).kind = 5 := by kernel_rfl
theorem kwM {s : List Int} (hk : (srcL s).kind = 5) (a d : List Int) (p : Int) (e os oh : List Int) (op rd : Int) : matchB (srcL s) a d p e os oh op rd = false := by
  unfold matchB
  rw [hk]; rfl
theorem kwL (a d : List Int) (p : Int) (e os oh : List Int) (op rd : Int) : listB [[39, 110, 111, 110, 101, 39], [39, 117, 110, 115, 97, 102, 101, 45, 105, 110, 108, 105, 110, 101, 39], [39, 110, 111, 110, 99, 101, 45, 120, 39]] a d p e os oh op rd = false := by
  simp only [listB, List.any_cons, List.any_nil, kwM kw1, kwM kw2, kwM kw3, Bool.or_false]
theorem pLawN_ok : CtOk Tryz.prog G0 6 pLawNC := by
  refine ct_runM (n := 2) fol (sound_cons pAwake_ok (sound_cons pParsed_ok (sound_cons pSelf_ok (sound_cons pList2_ok sound_nil)))) [(4, [0, 1, 2, 3, 4, 5, 7, 8, 9, 6, 10, 11, 12, 13, 14, 15, 16], [24])] (by kernel_rfl) Tryz.func6 rfl fun args h v h' hc r xs H hr hx => ?_
  unfold pLawNC at hc; split at hc <;> (try split at hc) <;> cases hc
  rename_i a b
  refine ⟨rfl, ?_⟩
  obtain ⟨u, hu⟩ : ∃ u, urlOr a = u := ⟨_, rfl⟩
  obtain ⟨og, hog⟩ : ∃ og, selfO b = og := ⟨_, rfl⟩
  obtain ⟨oa, ob, oc⟩ := og
  have pl : ∀ h1, Ext h h1 → ∃ σ, Trim h (.b true) h1 (.b true) h σ := fun h1 he => Trim.plain he (by simp [renV, bndV])
  cases h4 : urlOk a with
  | true =>
    obtain ⟨hho, hpa⟩ := urlOk_len h4
    rw [hu] at hho hpa
    have hs : ∀ (l : List V), strsAt (h ++ [⟨2, true, l⟩, ⟨2, true, [.s [39, 110, 111, 110, 101, 39], .s [39, 117, 110, 115, 97, 102, 101, 45, 105, 110, 108, 105, 110, 101, 39], .s [39, 110, 111, 110, 99, 101, 45, 120, 39]]⟩]) (h.length + 1) 0 3 = some [[39, 110, 111, 110, 101, 39], [39, 117, 110, 115, 97, 102, 101, 45, 105, 110, 108, 105, 110, 101, 39], [39, 110, 111, 110, 99, 101, 45, 120, 39]] := fun l => by
      unfold strsAt; rw [hget_at rfl]; rfl
    simp -implicitDefEqProofs [go_sem, Tryz.f6, pAwakeC, pParsedC, pSelfC, pList2C, pListC, pListNC, h4, hu, hog, Url.V, Url.cells, Org.V, Org.cells, hs, hho, hpa, kwL]
    exact pl _ ⟨by simp, fun i hi => hget_lt hi⟩
  | false =>
    simp -implicitDefEqProofs [go_sem, Tryz.f6, pAwakeC, pParsedC, h4, hu, Url.V, Url.cells]
    exact pl _ ⟨by simp, fun i hi => hget_lt hi⟩
end GoD
