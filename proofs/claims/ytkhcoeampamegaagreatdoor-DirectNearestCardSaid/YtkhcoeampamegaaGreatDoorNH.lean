import Derived.Test.YtkhcoeampamegaaGreatDoorNG
/-! DirectNearest. -/
namespace GoD
open Go Go.Proofs
set_option linter.unusedVariables false
set_option linter.unusedSimpArgs false
set_option maxHeartbeats 4000000
set_option maxRecDepth 100000
def starT : List Int := [32, 42, 59]
def noneT : List Int := [32, 39, 110, 111, 110, 101, 39, 59]
/-- what the law writes of the last m directives of a chain -/
def writeT (c : Bool) (l : List (List Int)) (k : Nat) : Nat → List Int
  | 0 => []
  | m + 1 => (writeT c l k m ++ l.getD (l.length - 1 - m) []) ++ (if (l.length - 1 - m == k) = c then starT else noneT)
def chainsL : List (List (List Int)) := [[[99, 111, 110, 110, 101, 99, 116, 45, 115, 114, 99], [100, 101, 102, 97, 117, 108, 116, 45, 115, 114, 99]], [[115, 99, 114, 105, 112, 116, 45, 115, 114, 99, 45, 101, 108, 101, 109], [115, 99, 114, 105, 112, 116, 45, 115, 114, 99], [100, 101, 102, 97, 117, 108, 116, 45, 115, 114, 99]], [[115, 116, 121, 108, 101, 45, 115, 114, 99, 45, 101, 108, 101, 109], [115, 116, 121, 108, 101, 45, 115, 114, 99], [100, 101, 102, 97, 117, 108, 116, 45, 115, 114, 99]], [[105, 109, 103, 45, 115, 114, 99], [100, 101, 102, 97, 117, 108, 116, 45, 115, 114, 99]], [[102, 111, 110, 116, 45, 115, 114, 99], [100, 101, 102, 97, 117, 108, 116, 45, 115, 114, 99]], [[109, 97, 110, 105, 102, 101, 115, 116, 45, 115, 114, 99], [100, 101, 102, 97, 117, 108, 116, 45, 115, 114, 99]], [[109, 101, 100, 105, 97, 45, 115, 114, 99], [100, 101, 102, 97, 117, 108, 116, 45, 115, 114, 99]], [[111, 98, 106, 101, 99, 116, 45, 115, 114, 99], [100, 101, 102, 97, 117, 108, 116, 45, 115, 114, 99]], [[102, 114, 97, 109, 101, 45, 115, 114, 99], [99, 104, 105, 108, 100, 45, 115, 114, 99], [100, 101, 102, 97, 117, 108, 116, 45, 115, 114, 99]], [[119, 111, 114, 107, 101, 114, 45, 115, 114, 99], [99, 104, 105, 108, 100, 45, 115, 114, 99], [115, 99, 114, 105, 112, 116, 45, 115, 114, 99], [100, 101, 102, 97, 117, 108, 116, 45, 115, 114, 99]]]
theorem chain_cases (d : List Int) : chainL d = [] ∨ chainL d ∈ chainsL := by
  have key : ∀ (p : Prop) [Decidable p] (x y : List (List Int)), x ∈ chainsL → (y = [] ∨ y ∈ chainsL) → (if p then x else y) = [] ∨ (if p then x else y) ∈ chainsL := fun p _ x y h1 h2 => by split; exact .inr h1; exact h2
  unfold chainL
  repeat (refine key _ _ _ (List.contains_iff_mem.1 (by kernel_rfl)) ?_)
  exact .inl rfl
def nearAll : Bool := chainsL.all fun l => decide (l.length ≤ 4) && (decide (0 < l.length) && (l.all (fun s => decide (s.length ≤ 20)) && (List.range l.length).all fun k => decide (findL (cspL (writeT true l k (l.length - k))) l = some (l.getD k [], [[42]])) && decide (findL (cspL (writeT false l k (l.length - k))) l = some (l.getD k [], [[39, 110, 111, 110, 101, 39]]))))
theorem near_all : nearAll = true := by kernel_rfl
theorem near_of {l : List (List Int)} (hl : l ∈ chainsL) : l.length ≤ 4 ∧ 0 < l.length ∧ (∀ s ∈ l, s.length ≤ 20) ∧ ∀ k, k < l.length → findL (cspL (writeT true l k (l.length - k))) l = some (l.getD k [], [[42]]) ∧ findL (cspL (writeT false l k (l.length - k))) l = some (l.getD k [], [[39, 110, 111, 110, 101, 39]]) := by
  have h := List.all_eq_true.1 near_all l hl
  simp only [Bool.and_eq_true, decide_eq_true_eq, List.all_eq_true] at h
  exact ⟨h.1, h.2.1, h.2.2.1, fun k hk => h.2.2.2 k (by simpa using hk)⟩
theorem write_len {c : Bool} {l : List (List Int)} {k : Nat} (hl : ∀ s ∈ l, s.length ≤ 20) : ∀ m, (writeT c l k m).length ≤ 40 * m
  | 0 => by simp [writeT]
  | m + 1 => by
    have ih := write_len (c := c) (k := k) hl m
    have h1 : (l.getD (l.length - 1 - m) []).length ≤ 20 := by
      rw [List.getD_eq_getElem?_getD]
      cases hg : l[l.length - 1 - m]? with
      | none => simp
      | some s => exact hl s (List.mem_of_getElem? hg)
    unfold writeT
    simp only [List.length_append]
    split <;> simp [starT, noneT] at * <;> omega
def pLaw16kC : Ct := fun args h => match args with | [.s d, .i .i64 k, .s s] => some (.b true, h) | _ => none
theorem pLaw16k_ok : CtOk Tryz.prog G0 6 pLaw16kC := by
  refine ct_plain (n := 3) fol (sound_cons pAwake16_ok (sound_cons pParsed_ok (sound_cons pDChain_ok (sound_cons pRoundJ_ok (sound_cons pAllows_ok sound_nil))))) (by kernel_rfl) Tryz.func6 rfl fun args h v h' hc r xs H hr hx => ?_
  unfold pLaw16kC at hc; split at hc <;> (try split at hc) <;> cases hc
  rename_i d k s
  refine ⟨rfl, rfl, by simp [renV, bndV], ?_⟩
  obtain ⟨u, hu⟩ : ∃ u, urlOr s = u := ⟨_, rfl⟩
  cases h4 : urlOk s with
  | false =>
    simp -implicitDefEqProofs [go_sem, Tryz.f6, pAwake16C, pParsedC, pDChainC, h4, hu, Url.V, Url.cells]
  | true =>
    obtain ⟨hho, hpa⟩ := urlOk_len h4
    have h5 := sch5 (urlOk_sch5 h4)
    rw [hu] at hho hpa h5
    obtain ⟨us, uu, up, uh, upo, upath, uq, uqu, uf, ufr⟩ := u
    simp only at hho hpa h5
    by_cases c1 : (300 : Int) < d.length
    · simp -implicitDefEqProofs [go_sem, Tryz.f6, pAwake16C, pParsedC, pDChainC, h4, hu, Url.V, Url.cells, c1]
    · obtain ⟨l, hL⟩ : ∃ l, chainL d = l := ⟨_, rfl⟩
      rcases chain_cases d with c2 | c2
      · simp -implicitDefEqProofs [go_sem, Tryz.f6, pAwake16C, pParsedC, pDChainC, h4, hu, Url.V, Url.cells, c1, c2]
      · rw [hL] at c2
        obtain ⟨n4, n0, n20, near⟩ := near_of c2
        have c2' : ¬ (l.length : Int) = 0 := by omega
        have c2n : ¬ l = [] := fun e => by rw [e] at n0; exact absurd n0 (by decide)
        by_cases c3 : us = [102, 116, 112]
        · simp -implicitDefEqProofs [go_sem, Tryz.f6, pAwake16C, pParsedC, pDChainC, h4, hu, Url.V, Url.cells, c1, hL, c2n, c2', c3]
        · obtain ⟨r1, r2⟩ := roundJ_lt (k := k) (n := (l.length : Int)) (by omega)
          obtain ⟨kk, hk⟩ : ∃ kk : Nat, roundJ k l.length = kk := ⟨(roundJ k l.length).toNat, by omega⟩
          have hkk : kk < l.length := by omega
          obtain ⟨hA, hN⟩ := near kk hkk
          have n1 : (0 : Int) < l.length := by omega
          have n1' : 0 < l.length := by omega
          have n2 : (l.length : Int) ≤ 1000000 := by omega
          have n2' : l.length ≤ 1000000 := by omega
          have e1 : IntKind.i64.wrap ((l.length : Int) - 1) = (l.length : Int) - 1 := w64 (by omega)
          simp -implicitDefEqProofs [go_sem, Tryz.f6, pAwake16C, pParsedC, pDChainC, pRoundJC, h4, hu, Url.V, Url.cells, c1, hL, c2n, c2', c3, hk, n1, n1', n2, n2', e1]
          refine run_inv _ _ _ _ _ (fun (m : Nat) t h1 => m ≤ l.length - kk ∧ get t 0 = .s d ∧ get t 1 = .i .i64 kk ∧ get t 7 = .p h.length 0 ∧ get t 9 = .sl (h.length + 1) 0 l.length 1 ∧ get t 10 = .s (writeT true l kk m) ∧ get t 11 = .s (writeT false l kk m) ∧ get t 12 = .i .i64 ((l.length : Int) - 1 - m) ∧ h1 = h ++ [⟨2, true, [.s us, .s uu, .s up, .s uh, .i .i64 upo, .s upath, .b uq, .s uqu, .b uf, .s ufr]⟩, ⟨2, false, sts l⟩]) (fun m => l.length - m) _ (x := 0) ⟨by simp, rfl, rfl, rfl, rfl, rfl, rfl, by simp -implicitDefEqProofs [go_sem], rfl⟩ ?_
          rintro m t h1 ⟨hm, t0, t1, t7, t9, t10, t11, t12, hh⟩ ih
          have hg0 : hget h1 h.length = ⟨2, true, [.s us, .s uu, .s up, .s uh, .i .i64 upo, .s upath, .b uq, .s uqu, .b uf, .s ufr]⟩ := by rw [hh, hget_at0 rfl]; rfl
          have hg1 : hget h1 (h.length + 1) = ⟨2, false, sts l⟩ := by rw [hh, hget_at rfl]; rfl
          have hE : Ext h h1 := by rw [hh]; exact (Ext.refl h).app _
          have w1 := write_len (c := true) (k := kk) n20 m
          have w2 := write_len (c := false) (k := kk) n20 m
          by_cases hlt : m < l.length - kk
          · have g1 : (kk : Int) ≤ (l.length : Int) - 1 - m := by omega
            have hi : l.length - 1 - m < l.length := by omega
            have hc := sts_get hi
            obtain ⟨p, hp⟩ : ∃ p, l[l.length - 1 - m] = p := ⟨_, rfl⟩
            have hpl := n20 p (hp ▸ List.getElem_mem hi)
            rw [hp] at hc
            have hgd : l.getD (l.length - 1 - m) [] = p := by rw [List.getD_eq_getElem?_getD, List.getElem?_eq_getElem hi, hp]; rfl
            have j1 : (0 : Int) ≤ (l.length : Int) - 1 - m := by omega
            have j1' : (m : Int) ≤ (l.length : Int) - 1 := by omega
            have j2 : (l.length : Int) - 1 - m < l.length := by omega
            have j3 : ((l.length : Int) - 1 - m).toNat = l.length - 1 - m := by omega
            have e2 : IntKind.i64.wrap ((l.length : Int) - 1 - m - 1) = (l.length : Int) - 1 - m - 1 := w64 (by omega)
            have e3 : (l.length : Int) - 1 - m - 1 = (l.length : Int) - 1 - (m + 1) := by omega
            have e2' : IntKind.i64.wrap ((kk : Int) - 1) = (kk : Int) - 1 := w64 (by omega)
            have z1 : (writeT true l kk m).length + p.length ≤ 281474976710656 := by omega
            have z2 : (writeT false l kk m).length + p.length ≤ 281474976710656 := by omega
            have z3 : (writeT true l kk m).length + p.length ≤ 281474976710653 := by omega
            have z4 : (writeT true l kk m).length + p.length ≤ 281474976710648 := by omega
            have z5 : (writeT false l kk m).length + p.length ≤ 281474976710653 := by omega
            have z6 : (writeT false l kk m).length + p.length ≤ 281474976710648 := by omega
            by_cases c4 : l.length - 1 - m = kk
            · have c4' : (l.length : Int) - 1 - m = kk := by omega
              have v1 : writeT true l kk (m + 1) = writeT true l kk m ++ (p ++ starT) := by rw [writeT, hgd, if_pos (by simp [c4]), List.append_assoc]
              have v2 : writeT false l kk (m + 1) = writeT false l kk m ++ (p ++ noneT) := by rw [writeT, hgd, if_neg (by simp [c4]), List.append_assoc]
              rw [c4] at hc
              simp -implicitDefEqProofs [go_sem, Tryz.f6, t0, t1, t7, t9, t10, t11, t12, g1, c4', hkk, hg1, hc, z1, z2, z3, z4, z5, z6]
              refine ih (m + 1) _ _ (by omega) ⟨by omega, ?_⟩
              simp -implicitDefEqProofs [go_sem, t0, t1, t7, t9, t10, t11, t12, e2, e3, c4', e2', hh, v1, v2, starT, noneT]
              omega
            · have c4' : ¬ (l.length : Int) - 1 - m = kk := by omega
              have v1 : writeT true l kk (m + 1) = writeT true l kk m ++ (p ++ noneT) := by rw [writeT, hgd, if_neg (by simp [c4]), List.append_assoc]
              have v2 : writeT false l kk (m + 1) = writeT false l kk m ++ (p ++ starT) := by rw [writeT, hgd, if_pos (by simp [c4]), List.append_assoc]
              simp -implicitDefEqProofs [go_sem, Tryz.f6, t0, t1, t7, t9, t10, t11, t12, g1, c4', hg1, hc, j1, j1', j2, j3, z1, z2, z3, z4, z5, z6]
              refine ih (m + 1) _ _ (by omega) ⟨by omega, ?_⟩
              simp -implicitDefEqProofs [go_sem, t0, t1, t7, t9, t10, t11, t12, e2, e3, hh, v1, v2, starT, noneT]
              exact w64 (by omega)
          · have e : m = l.length - kk := by omega
            have g1 : ¬ (kk : Int) ≤ (l.length : Int) - 1 - m := by omega
            rw [← e] at hA hN
            have A : allowB (writeT true l kk m) d us uh upo upath [] [] 0 0 = true := by
              rw [allow_some (by rw [hL]; exact hA), star_list h5, decide_eq_false c3]; rfl
            have N : allowB (writeT false l kk m) d us uh upo upath [] [] 0 0 = false := by
              rw [allow_some (by rw [hL]; exact hN)]; exact none_list _ _ _ _ _ _ _ _
            have z1 : (writeT true l kk m).length ≤ 1048576 := by omega
            have z2 : (writeT false l kk m).length ≤ 1048576 := by omega
            simp -implicitDefEqProofs [go_sem, Tryz.f6, t0, t1, t7, t9, t10, t11, t12, g1, hg0, pAllowsC, z1, z2, hho, hpa, A, N, pAwake16C, hE]
end GoD
