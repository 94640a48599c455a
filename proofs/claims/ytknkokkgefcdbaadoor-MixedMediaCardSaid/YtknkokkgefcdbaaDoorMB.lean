import Derived.Test.YtknkokkgefcdbaaDoorMA
/-! Chapter 18's laws. -/
namespace GoD
open Go Go.Proofs
set_option linter.unusedVariables false
set_option linter.unusedSimpArgs false
set_option maxHeartbeats 2000000
set_option maxRecDepth 100000
def b1U : Url := ⟨[104, 116, 116, 112], [], [], [97], -1, [47], false, [], false, []⟩
def b2U : Url := ⟨[104, 116, 116, 112], [], [], [108, 111, 99, 97, 108, 104, 111, 115, 116], -1, [47], false, [], false, []⟩
theorem b1_eq : urlL [104, 116, 116, 112, 58, 47, 47, 97, 47] = some b1U := by kernel_rfl
theorem b2_eq : urlL [104, 116, 116, 112, 58, 47, 47, 108, 111, 99, 97, 108, 104, 111, 115, 116, 47] = some b2U := by kernel_rfl
theorem b3_eq : classI [104, 116, 116, 112, 115] [104, 116, 116, 112] [97] [105, 109, 97, 103, 101] = 1 := by kernel_rfl
theorem b4_eq : classI [104, 116, 116, 112, 115] [104, 116, 116, 112] [97] [115, 99, 114, 105, 112, 116] = 2 := by kernel_rfl
theorem b5_eq : classI [104, 116, 116, 112, 115] [104, 116, 116, 112] [108, 111, 99, 97, 108, 104, 111, 115, 116] [115, 99, 114, 105, 112, 116] = 0 := by kernel_rfl
def pAwakeMC : Ct := fun args h => match args with | [] => some (.b true, h) | _ => none
theorem pAwakeM_ok : CtOk Tryd.prog G0 9 pAwakeMC := by
  refine ct_plain (n := 0) fol (sound_cons pParsed_ok (sound_cons pClass_ok sound_nil)) (by kernel_rfl) Tryd.func9 rfl fun args h v h' hc r xs H hr hx => ?_
  unfold pAwakeMC at hc; split at hc <;> (try split at hc) <;> cases hc
  refine ⟨rfl, rfl, by simp [renV, bndV], ?_⟩
  have e2 : urlOr [104, 116, 116, 112, 58, 47, 47, 97, 47] = b1U := by unfold urlOr; rw [b1_eq]
  have e3 : urlOk [104, 116, 116, 112, 58, 47, 47, 97, 47] = true := by unfold urlOk; rw [b1_eq]; rfl
  have e4 : urlOr [104, 116, 116, 112, 58, 47, 47, 108, 111, 99, 97, 108, 104, 111, 115, 116, 47] = b2U := by unfold urlOr; rw [b2_eq]
  have e5 : urlOk [104, 116, 116, 112, 58, 47, 47, 108, 111, 99, 97, 108, 104, 111, 115, 116, 47] = true := by unfold urlOk; rw [b2_eq]; rfl
  unfold b1U at e2
  unfold b2U at e4
  simp -implicitDefEqProofs [go_sem, Tryd.f9, pParsedC, pClassC, e2, e3, e4, e5, b3_eq, b4_eq, b5_eq, Url.V, Url.cells]
theorem sch_five {s : List Int} (h : (defaultL s).2 = true) : s = [104, 116, 116, 112] ∨ s = [119, 115] ∨ s = [104, 116, 116, 112, 115] ∨ s = [119, 115, 115] ∨ s = [102, 116, 112] := by
  unfold defaultL at h
  by_cases h1 : s = [104, 116, 116, 112]
  · exact .inl h1
  · by_cases h2 : s = [119, 115]
    · exact .inr (.inl h2)
    · by_cases h3 : s = [104, 116, 116, 112, 115]
      · exact .inr (.inr (.inl h3))
      · by_cases h4 : s = [119, 115, 115]
        · exact .inr (.inr (.inr (.inl h4)))
        · by_cases h5 : s = [102, 116, 112]
          · exact .inr (.inr (.inr (.inr h5)))
          · simp [h1, h2, h3, h4, h5] at h
theorem urlOk_sch' {l : List Int} (h : urlOk l = true) : (defaultL (urlOr l).sch).2 = true := by
  unfold urlOk at h
  rw [Bool.and_eq_true] at h
  unfold urlOr
  cases hu : urlL l with
  | none => rw [hu] at h; exact absurd h.1 (by simp)
  | some u =>
    show (defaultL u.sch).2 = true
    unfold urlL at hu
    split at hu
    · cases hu
    · split at hu
      · unfold url1 at hu
        split at hu
        · rename_i hd
          unfold url2 at hu
          split at hu
          · cases hu
          · rw [← Option.some.inj hu]; exact hd
        · cases hu
      · cases hu
theorem trust_of {s l : List Int} (h : s ∈ [[104, 116, 116, 112, 115], [119, 115, 115]]) : trustB s l = true := by unfold trustB; rw [decide_eq_true h]; rfl
theorem class_trust (os dest : List Int) {s l : List Int} (h : s ∈ [[104, 116, 116, 112, 115], [119, 115, 115]]) : classI os s l dest = 0 := by
  unfold classI
  split
  · rw [if_pos (trust_of h)]
  · rfl
def pLawUC : Ct := fun args h => match args with | [.agg [.s a, .s b, .i .i64 p], .s s, .s d] => if a.length ≤ 281474976710656 ∧ b.length ≤ 281474976710656 then some (.b true, h) else none | _ => none
theorem pLawU_ok : CtOk Tryd.prog G0 6 pLawUC := by
  refine ct_plain (n := 3) fol (sound_cons pAwakeM_ok (sound_cons pParsed_ok (sound_cons pOrgOk_ok (sound_cons pUp_ok (sound_cons pClass_ok sound_nil))))) (by kernel_rfl) Tryd.func6 rfl fun args h v h' hc r xs H hr hx => ?_
  unfold pLawUC at hc; split at hc <;> (try split at hc) <;> cases hc
  rename_i a b p s d hl
  refine ⟨rfl, rfl, by simp [renV, bndV, renL, bndL], ?_⟩
  cases h1 : urlOk s with
  | false => simp -implicitDefEqProofs [go_sem, Tryd.f6, pAwakeMC, pParsedC, h1, Url.V, Url.cells]
  | true =>
    obtain ⟨hho, hpa⟩ := urlOk_len h1
    have hsc := sch_five (urlOk_sch' h1)
    obtain ⟨u, hu⟩ : ∃ u, urlOr s = u := ⟨_, rfl⟩
    rw [hu] at hho hpa hsc
    obtain ⟨us, uu, up, uh, upo, upath, uq, uqu, uf, ufr⟩ := u
    simp only at hho hpa hsc
    cases h2 : orgOkB a b p with
    | false => simp -implicitDefEqProofs [go_sem, Tryd.f6, pAwakeMC, pParsedC, pOrgOkC, h1, h2, hl, hu, Url.V, Url.cells]
    | true =>
      by_cases h3 : 300 < d.length
      · have h3' : (300 : Int) < d.length := by omega
        simp -implicitDefEqProofs [go_sem, Tryd.f6, pAwakeMC, pParsedC, pOrgOkC, h1, h2, h3, h3', hl, hu, Url.V, Url.cells]
      · have h3' : ¬ (300 : Int) < d.length := by omega
        have t1 : ∀ l, classI a [104, 116, 116, 112, 115] l d = 0 := fun l => class_trust a d (by simp)
        have t2 : ∀ l, classI a [119, 115, 115] l d = 0 := fun l => class_trust a d (by simp)
        rcases hsc with rfl | rfl | rfl | rfl | rfl
        · by_cases h4 : upo = 443
          · simp -implicitDefEqProofs [go_sem, Tryd.f6, pAwakeMC, pParsedC, pOrgOkC, pUpC, pClassC, upS, upP, h1, h2, h3, h3', h4, hl, hu, hho, t1, t2, Url.V, Url.cells]
          · simp -implicitDefEqProofs [go_sem, Tryd.f6, pAwakeMC, pParsedC, pOrgOkC, pUpC, pClassC, upS, upP, h1, h2, h3, h3', h4, hl, hu, hho, t1, t2, Url.V, Url.cells]
        · by_cases h4 : upo = 443
          · simp -implicitDefEqProofs [go_sem, Tryd.f6, pAwakeMC, pParsedC, pOrgOkC, pUpC, pClassC, upS, upP, h1, h2, h3, h3', h4, hl, hu, hho, t1, t2, Url.V, Url.cells]
          · simp -implicitDefEqProofs [go_sem, Tryd.f6, pAwakeMC, pParsedC, pOrgOkC, pUpC, pClassC, upS, upP, h1, h2, h3, h3', h4, hl, hu, hho, t1, t2, Url.V, Url.cells]
        · simp -implicitDefEqProofs [go_sem, Tryd.f6, pAwakeMC, pParsedC, pOrgOkC, pUpC, pClassC, upS, upP, h1, h2, h3, h3', hl, hu, hho, t1, t2, Url.V, Url.cells]
        · simp -implicitDefEqProofs [go_sem, Tryd.f6, pAwakeMC, pParsedC, pOrgOkC, pUpC, pClassC, upS, upP, h1, h2, h3, h3', hl, hu, hho, t1, t2, Url.V, Url.cells]
        · simp -implicitDefEqProofs [go_sem, Tryd.f6, pAwakeMC, pParsedC, pOrgOkC, pUpC, pClassC, upS, upP, h1, h2, h3, h3', hl, hu, hho, Url.V, Url.cells]
def destsL : List (List Int) := [[105, 109, 97, 103, 101], [97, 117, 100, 105, 111], [118, 105, 100, 101, 111], [116, 114, 97, 99, 107], [115, 99, 114, 105, 112, 116], [], [105, 102, 114, 97, 109, 101], [102, 111, 110, 116]]
def hostsL : List (List Int) := [[97], [97, 46, 98], [49, 46, 50, 46, 51, 46, 52], [49, 48, 46, 48, 46, 48, 46, 49]]
/-- what a host of the law's is read as -/
def medU (i : Nat) (port : Bool) : Url := ⟨[104, 116, 116, 112], [], [], hostsL.getD i [], if port = true then 8080 else -1, [47], false, [], false, []⟩
def medT (i : Nat) (port : Bool) : List Int := if port = true then [104, 116, 116, 112, 58, 47, 47] ++ hostsL.getD i [] ++ [58, 56, 48, 56, 48] else [104, 116, 116, 112, 58, 47, 47] ++ hostsL.getD i []
theorem dec8 : decD 8 = [56] := by rw [decD]; rfl
theorem med_0true : urlL (medT 0 true) = some (medU 0 true) := by kernel_rfl
theorem med_0false : urlL (medT 0 false) = some (medU 0 false) := by kernel_rfl
theorem med_1true : urlL (medT 1 true) = some (medU 1 true) := by kernel_rfl
theorem med_1false : urlL (medT 1 false) = some (medU 1 false) := by kernel_rfl
theorem med_2true : urlL (medT 2 true) = some (medU 2 true) := by kernel_rfl
theorem med_2false : urlL (medT 2 false) = some (medU 2 false) := by kernel_rfl
theorem med_3true : urlL (medT 3 true) = some (medU 3 true) := by kernel_rfl
theorem med_3false : urlL (medT 3 false) = some (medU 3 false) := by kernel_rfl

theorem med_url (i : Nat) (hi : i < 4) (port : Bool) : urlL (medT i port) = some (medU i port) := by
  have : i = 0 ∨ i = 1 ∨ i = 2 ∨ i = 3 := by omega
  rcases this with rfl | rfl | rfl | rfl <;> cases port
  · exact med_0false
  · exact med_0true
  · exact med_1false
  · exact med_1true
  · exact med_2false
  · exact med_2true
  · exact med_3false
  · exact med_3true
theorem med_class : ∀ d : Nat, d < 8 → ∀ i : Nat, i < 4 → classI [119, 115, 115] [104, 116, 116, 112] (hostsL.getD i []) (destsL.getD d []) = if d < 3 ∧ i < 2 then 1 else 2 := by decide +kernel
theorem med_len : ∀ i : Nat, i < 4 → (hostsL.getD i []).length ≤ 20 := by decide +kernel
def pLawMC : Ct := fun args h => match args with | [.i .i64 k, .i .i64 a, .b p] => some (.b true, h) | _ => none
theorem pLawM_ok : CtOk Tryd.prog G0 7 pLawMC := by
  refine ct_plain (n := 3) fol (sound_cons pAwakeM_ok (sound_cons pParsed_ok (sound_cons pRound_ok (sound_cons pUp_ok (sound_cons pClass_ok sound_nil))))) (by kernel_rfl) Tryd.func7 rfl fun args h v h' hc r xs H hr hx => ?_
  unfold pLawMC at hc; split at hc <;> (try split at hc) <;> cases hc
  rename_i k a p
  refine ⟨rfl, rfl, by simp [renV, bndV, renL, bndL], ?_⟩
  obtain ⟨d, hd⟩ : ∃ d : Nat, roundI k 8 = d := ⟨(roundI k 8).toNat, by have := roundI_le (k := k) (n := 8) (by omega); omega⟩
  obtain ⟨i, hi⟩ : ∃ i : Nat, roundI a 4 = i := ⟨(roundI a 4).toNat, by have := roundI_le (k := a) (n := 4) (by omega); omega⟩
  have hd8 : d < 8 := by have := roundI_le (k := k) (n := 8) (by omega); omega
  have hi4 : i < 4 := by have := roundI_le (k := a) (n := 4) (by omega); omega
  have hd8' : (d : Int) < 8 := by omega
  have hi4' : (i : Int) < 4 := by omega
  have dl : ldN (sts destsL) d 1 = some [.s (destsL.getD d [])] := by
    have h1 : d < destsL.length := hd8
    rw [ldN_s1 h1, List.getD_eq_getElem?_getD, List.getElem?_eq_getElem h1]; rfl
  have il : ldN (sts hostsL) i 1 = some [.s (hostsL.getD i [])] := by
    have h1 : i < hostsL.length := hi4
    rw [ldN_s1 h1, List.getD_eq_getElem?_getD, List.getElem?_eq_getElem h1]; rfl
  have hcl := med_class d hd8 i hi4
  have hln := med_len i hi4
  obtain ⟨H, hH⟩ : ∃ H, hostsL.getD i [] = H := ⟨_, rfl⟩
  obtain ⟨Ds, hDs⟩ : ∃ Ds, destsL.getD d [] = Ds := ⟨_, rfl⟩
  have hu : ∀ port, urlOr (medT i port) = medU i port := fun port => by unfold urlOr; rw [med_url i hi4 port]
  have hk : ∀ port, urlOk (medT i port) = true := fun port => by
    unfold urlOk
    rw [med_url i hi4 port]
    have : (medT i port).length ≤ 2000 := by unfold medT; split <;> (simp only [List.length_append, List.length_cons, List.length_nil]; omega)
    simp [this]
  unfold medT medU at hu
  unfold medT at hk
  rw [hDs] at dl hcl
  rw [hH] at il hln hcl hu hk
  simp only [sts, destsL, List.map_cons, List.map_nil] at dl
  simp only [sts, hostsL, List.map_cons, List.map_nil] at il
  have huT := hu true
  have huF := hu false
  have hkT := hk true
  have hkF := hk false
  simp only [if_true, if_false, Bool.false_eq_true] at huT huF hkT hkF
  clear hu hk
  have hl1 : H.length + 7 ≤ 281474976710656 := by omega
  have hl2 : 7 + H.length ≤ 281474976710656 := by omega
  have hl3 : 7 + H.length + 5 ≤ 281474976710656 := by omega
  have hl4 : H.length + 7 + 5 ≤ 281474976710656 := by omega
  have hl5 : H.length ≤ 1048576 := by omega
  simp only [List.cons_append, List.nil_append] at huT huF hkT hkF
  by_cases c1 : d < 3
  · have c1' : (d : Int) < 3 := by omega
    by_cases c2 : i < 2
    · have c2' : (i : Int) < 2 := by omega
      rw [if_pos ⟨c1, c2⟩] at hcl
      cases p with
      | true => simp -implicitDefEqProofs [go_sem, Tryd.f7, pRoundC, pAwakeMC, pParsedC, pUpC, pClassC, upS, upP, hd, hi, hd8, hi4, hd8', hi4', dl, il, hl1, hl2, hl3, hl4, hl5, huT, hkT, hcl, c1, c1', c2, c2', Url.V, Url.cells]
      | false => simp -implicitDefEqProofs [go_sem, Tryd.f7, pRoundC, pAwakeMC, pParsedC, pUpC, pClassC, upS, upP, hd, hi, hd8, hi4, hd8', hi4', dl, il, hl1, hl2, hl3, hl4, hl5, huF, hkF, hcl, c1, c1', c2, c2', Url.V, Url.cells]
    · have c2' : ¬ (i : Int) < 2 := by omega
      rw [if_neg fun e => c2 e.2] at hcl
      cases p with
      | true => simp -implicitDefEqProofs [go_sem, Tryd.f7, pRoundC, pAwakeMC, pParsedC, pUpC, pClassC, upS, upP, hd, hi, hd8, hi4, hd8', hi4', dl, il, hl1, hl2, hl3, hl4, hl5, huT, hkT, hcl, c1, c1', c2, c2', Url.V, Url.cells]
      | false => simp -implicitDefEqProofs [go_sem, Tryd.f7, pRoundC, pAwakeMC, pParsedC, pUpC, pClassC, upS, upP, hd, hi, hd8, hi4, hd8', hi4', dl, il, hl1, hl2, hl3, hl4, hl5, huF, hkF, hcl, c1, c1', c2, c2', Url.V, Url.cells]
  · have c1' : ¬ (d : Int) < 3 := by omega
    rw [if_neg fun e => c1 e.1] at hcl
    cases p with
    | true => simp -implicitDefEqProofs [go_sem, Tryd.f7, pRoundC, pAwakeMC, pParsedC, pUpC, pClassC, upS, upP, hd, hi, hd8, hi4, hd8', hi4', dl, il, hl1, hl2, hl3, hl4, hl5, huT, hkT, hcl, c1, c1', Url.V, Url.cells]
    | false => simp -implicitDefEqProofs [go_sem, Tryd.f7, pRoundC, pAwakeMC, pParsedC, pUpC, pClassC, upS, upP, hd, hi, hd8, hi4, hd8', hi4', dl, il, hl1, hl2, hl3, hl4, hl5, huF, hkF, hcl, c1, c1', Url.V, Url.cells]
end GoD
