import Derived.Test.YtffoolaocbgknaaDoorLB
/-! Chapter 15's laws that are told outright. -/
namespace GoD
open Go Go.Proofs
set_option linter.unusedVariables false
set_option linter.unusedSimpArgs false
set_option maxHeartbeats 2000000
set_option maxRecDepth 100000
theorem urlOk_sch {l : List Int} (h : urlOk l = true) : (defaultL (urlOr l).sch).2 = true := by
  unfold urlOk at h
  rw [Bool.and_eq_true] at h
  unfold urlOr
  cases hu : urlL l with
  | none => rw [hu] at h; exact absurd h.1 (by simp)
  | some u =>
    show (defaultL u.sch).2 = true
    unfold urlL at hu
    split at hu
    · cases hu
    · split at hu
      · unfold url1 at hu
        split at hu
        · rename_i hd
          unfold url2 at hu
          split at hu
          · cases hu
          · rw [← Option.some.inj hu]; exact hd
        · cases hu
      · cases hu
theorem urlOk_null {l : List Int} (h : urlOk l = true) (b : List Int) (p : Int) : oNull (urlOr l).sch b p = false := by
  have h1 := urlOk_sch h
  have : (urlOr l).sch ≠ [] := fun e => by rw [e] at h1; simp [defaultL] at h1
  unfold oNull
  rw [decide_eq_false this]; rfl
theorem match_wide (k : Int) (es eh ep ea a d : List Int) (p : Int) (e os oh : List Int) (op : Int) : (matchB ⟨k, es, eh, ep, ea⟩ a d p e os oh op 0 = true → matchB ⟨k, es, eh, ep, []⟩ a d p e os oh op 0 = true) ∧ matchB ⟨k, es, eh, ep, []⟩ a d p e os oh op 0 = matchB ⟨k, es, eh, ep, ea⟩ a d p e os oh op 1 := by
  have hp : pathB [] e = true := by unfold pathB; rw [if_pos (.inl rfl)]
  unfold matchB namedB
  simp only
  split
  · exact ⟨id, rfl⟩
  · split
    · exact ⟨id, rfl⟩
    · split
      · exact ⟨id, rfl⟩
      · split
        · rw [hp]
          refine ⟨fun h => ?_, by simp⟩
          simp only [Bool.and_eq_true] at h ⊢
          exact ⟨h.1, by simp⟩
        · exact ⟨id, rfl⟩
theorem scheme_wide (a : List Int) : schemeB [104, 116, 116, 112, 115] a = true → schemeB [104, 116, 116, 112] a = true := by
  intro h
  simp [schemeB] at h
  simp [schemeB, ← h]
def pLawWC : Ct := fun args h => match args with | [.s a, .s b, .s c] => some (.b true, h) | _ => none
theorem pLawW_ok : CtOk Tryd.prog G0 3 pLawWC := by
  refine ct_plain (n := 3) fol (sound_cons pAwake_ok (sound_cons pParsed_ok (sound_cons pSelf_ok (sound_cons pParse_ok (sound_cons pMatch_ok sound_nil))))) (by kernel_rfl) Tryd.func3 rfl fun args h v h' hc r xs H hr hx => ?_
  unfold pLawWC at hc; split at hc <;> (try split at hc) <;> cases hc
  rename_i a b c
  refine ⟨rfl, rfl, by simp [renV, bndV], ?_⟩
  obtain ⟨u, hu⟩ : ∃ u, urlOr b = u := ⟨_, rfl⟩
  obtain ⟨og, hog⟩ : ∃ og, selfO c = og := ⟨_, rfl⟩
  cases h1 : urlOk b with
  | false => simp -implicitDefEqProofs [go_sem, Tryd.f3, pAwakeC, pParsedC, h1, Url.V, Url.cells]
  | true =>
    obtain ⟨hho, hpa⟩ := urlOk_len h1
    rw [hu] at hho hpa
    by_cases h2 : 600 < a.length
    · have h2' : (600 : Int) < a.length := by omega
      simp -implicitDefEqProofs [go_sem, Tryd.f3, pAwakeC, pParsedC, h1, h2, h2', Url.V, Url.cells]
    · have h2' : ¬ (600 : Int) < a.length := by omega
      have h3 : a.length ≤ 1048576 := by omega
      have hpo := srcL_po a
      have hpp := Nat.le_trans (srcL_pa a) h3
      obtain ⟨⟨ek, es, eh, ep, ea⟩, hsw⟩ : ∃ E, srcL a = E := ⟨_, rfl⟩
      rw [hsw] at hpo hpp
      simp only at hpo hpp
      obtain ⟨m1, m2⟩ := match_wide ek es eh ep ea u.sch u.ho u.po u.path og.sch og.ho og.po
      obtain ⟨B, hB⟩ : ∃ B, matchB ⟨ek, es, eh, ep, []⟩ u.sch u.ho u.po u.path og.sch og.ho og.po 0 = B := ⟨_, rfl⟩
      rw [hB] at m1 m2
      have hq : portQ [] := .inl rfl
      have e3 : ∀ s : List Int, matchB ⟨3, s, [], [], []⟩ u.sch u.ho u.po u.path og.sch og.ho og.po 0 = schemeB s u.sch := fun s => by unfold matchB; rfl
      have sw := scheme_wide u.sch
      cases hA : matchB ⟨ek, es, eh, ep, ea⟩ u.sch u.ho u.po u.path og.sch og.ho og.po 0 with
      | true =>
        have hBt := m1 hA
        subst hBt
        cases hS : schemeB [104, 116, 116, 112, 115] u.sch with
        | true =>
          have hS2 := sw hS
          simp -implicitDefEqProofs [go_sem, Tryd.f3, pAwakeC, pParsedC, pSelfC, pParseC, pMatchC, h1, h2, h2', h3, hu, hog, hsw, hpo, hpp, hho, hpa, hA, hB, ← m2, hq, e3, hS, hS2, Url.V, Url.cells, Org.V, Org.cells, Expr5.V, Expr5.cells]
        | false =>
          simp -implicitDefEqProofs [go_sem, Tryd.f3, pAwakeC, pParsedC, pSelfC, pParseC, pMatchC, h1, h2, h2', h3, hu, hog, hsw, hpo, hpp, hho, hpa, hA, hB, ← m2, hq, e3, hS, Url.V, Url.cells, Org.V, Org.cells, Expr5.V, Expr5.cells]
      | false =>
        cases hS : schemeB [104, 116, 116, 112, 115] u.sch with
        | true =>
          have hS2 := sw hS
          simp -implicitDefEqProofs [go_sem, Tryd.f3, pAwakeC, pParsedC, pSelfC, pParseC, pMatchC, h1, h2, h2', h3, hu, hog, hsw, hpo, hpp, hho, hpa, hA, hB, ← m2, hq, e3, hS, hS2, Url.V, Url.cells, Org.V, Org.cells, Expr5.V, Expr5.cells]
        | false =>
          simp -implicitDefEqProofs [go_sem, Tryd.f3, pAwakeC, pParsedC, pSelfC, pParseC, pMatchC, h1, h2, h2', h3, hu, hog, hsw, hpo, hpp, hho, hpa, hA, hB, ← m2, hq, e3, hS, Url.V, Url.cells, Org.V, Org.cells, Expr5.V, Expr5.cells]
theorem own_own {us uh : List Int} {up : Int} (h : oNull us uh (portL us up) = false) : ownB us uh up us uh (portL us up) = true := by unfold ownB; rw [h]; simp
theorem own_other {us uh vs vh : List Int} {vp q : Int} (h : ¬ uh = vh) : ownB vs vh vp us uh q = false := by unfold ownB; rw [decide_eq_false h]; simp
theorem own_null (us uh : List Int) (up : Int) : ownB us uh up [] [] 0 = false := by unfold ownB; simp [oNull]
def pLawOC : Ct := fun args h => match args with | [.s a, .s b] => some (.b true, h) | _ => none
theorem pLawO_ok : CtOk Tryd.prog G0 4 pLawOC := by
  refine ct_plain (n := 2) fol (sound_cons pAwake_ok (sound_cons pParsed_ok (sound_cons pParse_ok (sound_cons pMatch_ok (sound_cons rOf_ok sound_nil))))) (by kernel_rfl) Tryd.func4 rfl fun args h v h' hc r xs H hr hx => ?_
  unfold pLawOC at hc; split at hc <;> (try split at hc) <;> cases hc
  rename_i a b
  refine ⟨rfl, rfl, by simp [renV, bndV], ?_⟩
  obtain ⟨u, hu⟩ : ∃ u, urlOr a = u := ⟨_, rfl⟩
  obtain ⟨v, hv⟩ : ∃ v, urlOr b = v := ⟨_, rfl⟩
  cases h1 : urlOk a with
  | false => cases h2 : urlOk b <;> simp -implicitDefEqProofs [go_sem, Tryd.f4, pAwakeC, pParsedC, h1, h2, Url.V, Url.cells]
  | true =>
    cases h2 : urlOk b with
    | false => simp -implicitDefEqProofs [go_sem, Tryd.f4, pAwakeC, pParsedC, h1, h2, Url.V, Url.cells]
    | true =>
      obtain ⟨hho, hpa⟩ := urlOk_len h1
      obtain ⟨hho2, hpa2⟩ := urlOk_len h2
      have hnu := urlOk_null h1 (urlOr a).ho (portL (urlOr a).sch (urlOr a).po)
      rw [hu] at hho hpa hnu
      rw [hv] at hho2 hpa2
      have hs : srcL [39, 83, 69, 76, 70, 39] = ⟨2, [], [], [], []⟩ := by kernel_rfl
      have hq : portQ [] := .inl rfl
      have e2 : ∀ (w x : List Int) (y : Int) (z os oh : List Int) (op : Int), matchB ⟨2, [], [], [], []⟩ w x y z os oh op 0 = ownB w x y os oh op := fun w x y z os oh op => by unfold matchB; rfl
      have o1 := own_own hnu
      have o3 := own_null u.sch u.ho u.po
      by_cases h3 : u.ho = v.ho
      · simp -implicitDefEqProofs [go_sem, Tryd.f4, pAwakeC, pParsedC, pParseC, pMatchC, rOfC, h1, h2, hu, hv, hs, hq, hho, hpa, hho2, hpa2, e2, o1, o3, eq_true h3, Url.V, Url.cells, Expr5.V, Expr5.cells]
      · have o2 := fun vs vp q => own_other (us := u.sch) (vs := vs) (vp := vp) (q := q) h3
        simp -implicitDefEqProofs [go_sem, Tryd.f4, pAwakeC, pParsedC, pParseC, pMatchC, rOfC, h1, h2, hu, hv, hs, hq, hho, hpa, hho2, hpa2, e2, o1, o2, o3, h3, Url.V, Url.cells, Expr5.V, Expr5.cells]
end GoD
