import Derived.Test.YtcaaebjjgbcjpaaGreatDoorPF
/-! Chapter 23: methods and headers, both sides. -/
namespace GoD
open Go Go.Proofs
set_option linter.unusedVariables false
set_option linter.unusedSimpArgs false
set_option maxHeartbeats 4000000
set_option maxRecDepth 100000
def capB (c : Int) : Int := if 97 ≤ c ∧ c ≤ 122 then c - 32 else c
def capL (xs : List Int) : List Int := xs.map capB
def methsL : List (List Int) := [[71, 69, 84], [72, 69, 65, 68], [80, 79, 83, 84], [80, 85, 84], [68, 69, 76, 69, 84, 69], [79, 80, 84, 73, 79, 78, 83]]
def methL (s : List Int) : List Int := if capL s ∈ methsL then capL s else s
def methP (s : List Int) : List (List Int) → List Int
  | [] => s
  | m :: l => if lowerL m = lowerL s then m else methP s l
theorem low_up : ∀ {m s : List Int}, (∀ c ∈ m, 65 ≤ c ∧ c ≤ 90) → (lowerL m = lowerL s ↔ capL s = m)
  | [], [], _ => by simp [lowerL, capL]
  | [], d :: s, _ => by simp [lowerL, capL]
  | c :: m, [], _ => by simp [lowerL, capL]
  | c :: m, d :: s, h => by
    have ih := low_up (m := m) (s := s) fun x hx => h x (by simp [hx])
    have hc := h c (by simp)
    have h1 : lowB c = lowB d ↔ capB d = c := by
      unfold lowB capB
      (repeat' split) <;> omega
    simp only [lowerL, capL, List.map_cons, List.cons.injEq] at ih ⊢
    rw [h1, ih]
theorem methP_eq (s : List Int) : methP s methsL = methL s := by
  have key : ∀ l : List (List Int), (∀ m ∈ l, ∀ c ∈ m, 65 ≤ c ∧ c ≤ 90) → methP s l = if capL s ∈ l then capL s else s := by
    intro l
    induction l with
    | nil => intro _; simp [methP]
    | cons m l ih =>
      intro h
      have h1 := low_up (m := m) (s := s) (h m (by simp))
      rw [methP]
      by_cases c1 : capL s = m
      · rw [if_pos (h1.2 c1), if_pos (by rw [c1]; simp), c1]
      · rw [if_neg fun e => c1 (h1.1 e), ih fun x hx => h x (by simp [hx])]
        simp [List.mem_cons, c1]
  exact key methsL (by decide)
theorem capL_len (l : List Int) : (capL l).length = l.length := by simp [capL]
theorem methL_len (s : List Int) : (methL s).length = s.length := by unfold methL; split <;> simp [capL_len]
def rUpperC : Ct := fun args h => match args with | [.s l] => if l.length ≤ 1048576 then some (.s (capL l), h) else none | _ => none
theorem rUpper_ok : CtOk Tryz.prog G0 124 rUpperC := by
  refine ct_plain (n := 1) fol sound_nil (by kernel_rfl) Tryz.func124 rfl fun args h v h' hc r xs H hr hx => ?_
  unfold rUpperC at hc; split at hc <;> (try split at hc) <;> cases hc
  rename_i l hl
  obtain ⟨⟨hs, _⟩, _⟩ := str_of hx
  refine ⟨rfl, rfl, by simp [renV, bndV], ?_⟩
  simp -implicitDefEqProofs [go_sem, Tryz.f124]
  refine run_inv _ _ _ _ _ (fun (x : Nat × Nat × List Int) t h1 => x.1 ≤ l.length ∧ get t 0 = .s l ∧ get t 4 = .i .i64 x.1 ∧ get t 3 = .sl x.2.1 0 x.2.2.length 1 ∧ hget h1 x.2.1 = ⟨2, false, bts x.2.2⟩ ∧ h.length ≤ x.2.1 ∧ x.2.1 < h1.length ∧ Ext h h1 ∧ x.2.2.length ≤ x.1 ∧ x.2.2 ++ capL (l.drop x.1) = capL l) (fun x => l.length - x.1) _ (x := (0, h.length, [])) ⟨by simp, rfl, rfl, rfl, by simp -implicitDefEqProofs [go_sem, bts_nil], by simp, by simp, by simp -implicitDefEqProofs [go_sem], by simp, by simp⟩ ?_
  rintro ⟨i, m, acc⟩ t h1 ⟨hi, t0, t4, t3, hg, hm, hm', he, hal, ha⟩ ih
  simp only at hi t0 t4 t3 hg hm hm' hal ha
  have hmn : m ≠ h1.length := by omega
  have hi6 : i < 1152921504606846976 := by omega
  have e1 : (acc.length + 1) ≤ 1099511627776 := by omega
  by_cases hlt : i < l.length
  · obtain ⟨d, hc⟩ : ∃ d, l[i] = d := ⟨_, rfl⟩
    have hd := hs d (by rw [← hc]; exact List.getElem_mem hlt)
    have hdr : l.drop i = d :: l.drop (i + 1) := by rw [List.drop_eq_getElem_cons hlt, hc]
    rw [hdr, show capL (d :: l.drop (i + 1)) = capB d :: capL (l.drop (i + 1)) from rfl] at ha
    by_cases c1 : 97 ≤ d
    · by_cases c2 : d ≤ 122
      · have m1 : (d - 32) % 256 = d - 32 := by omega
        rw [show capB d = d - 32 by simp [capB, c1, c2]] at ha
        simp -implicitDefEqProofs [go_sem, Tryz.f124, t0, t4, t3, hlt, hc, c1, c2, hg, hm', ldN_b rfl, e1, hmn]
        refine ih (i + 1, h1.length + 1, acc ++ [d - 32]) _ _ (by simp; omega) ⟨hlt, ?_⟩
        simp -implicitDefEqProofs [go_sem, t0, t3, t4, i64_n hi6, he, hm, m1]
        exact ⟨by omega, hal, ha⟩
      · rw [show capB d = d by simp [capB, c2]] at ha
        simp -implicitDefEqProofs [go_sem, Tryz.f124, t0, t4, t3, hlt, hc, c1, c2, hg, hm', ldN_b rfl, e1, hmn]
        refine ih (i + 1, h1.length + 1, acc ++ [d]) _ _ (by simp; omega) ⟨hlt, ?_⟩
        simp -implicitDefEqProofs [go_sem, t0, t3, t4, i64_n hi6, he, hm]
        exact ⟨by omega, hal, ha⟩
    · rw [show capB d = d by simp [capB, c1]] at ha
      simp -implicitDefEqProofs [go_sem, Tryz.f124, t0, t4, t3, hlt, hc, c1, hg, hm', ldN_b rfl, e1, hmn]
      refine ih (i + 1, h1.length + 1, acc ++ [d]) _ _ (by simp; omega) ⟨hlt, ?_⟩
      simp -implicitDefEqProofs [go_sem, t0, t3, t4, i64_n hi6, he, hm]
      exact ⟨by omega, hal, ha⟩
  · have e : i = l.length := by omega
    rw [e, List.drop_length, show capL [] = [] from rfl, List.append_nil] at ha
    simp -implicitDefEqProofs [go_sem, Tryz.f124, t0, t3, t4, hlt, hg, hm', ldN_b rfl, e, he]
    exact ha
def rMethC : Ct := fun args h => match args with | [.s l] => if l.length ≤ 1048576 then some (.s (methL l), h) else none | _ => none
theorem strsAt_methods (h : Heap) : strsAt (h ++ [⟨2, true, [.s [71, 69, 84], .s [72, 69, 65, 68], .s [80, 79, 83, 84], .s [80, 85, 84], .s [68, 69, 76, 69, 84, 69], .s [79, 80, 84, 73, 79, 78, 83]]⟩]) h.length 0 6 = some methsL :=
  strsAt_of (st := 1) (x := true) (z := methsL) (by simp [hget_new]; rfl) (by simp [methsL])
theorem rMeth_ok : CtOk Tryz.prog G0 60 rMethC := by
  refine ct_plain (n := 1) fol (sound_cons rUpper_ok (sound_cons rIn_ok sound_nil)) (by kernel_rfl) Tryz.func60 rfl fun args h v h' hc r xs H hr hx => ?_
  unfold rMethC at hc; split at hc <;> (try split at hc) <;> cases hc
  rename_i l hl
  refine ⟨rfl, rfl, by simp [renV, bndV], ?_⟩
  by_cases c1 : capL l ∈ methsL
  · simp -implicitDefEqProofs [go_sem, Tryz.f60, rUpperC, rInC, hl, strsAt_methods, c1, methL]
  · simp -implicitDefEqProofs [go_sem, Tryz.f60, rUpperC, rInC, hl, strsAt_methods, c1, methL]
def pMethC : Ct := fun args h => match args with | [.s l] => if l.length ≤ 1048576 then some (.s (methL l), h) else none | _ => none
theorem pMeth_ok : CtOk Tryz.prog G0 46 pMethC := by
  refine ct_plain (n := 1) fol (sound_cons pSame_ok sound_nil) (by kernel_rfl) Tryz.func46 rfl fun args h v h' hc r xs H hr hx => ?_
  unfold pMethC at hc; split at hc <;> (try split at hc) <;> cases hc
  rename_i l hl
  refine ⟨rfl, rfl, by simp [renV, bndV], ?_⟩
  rw [← methP_eq]
  obtain ⟨cs, hcs⟩ : ∃ cs, sts methsL = cs := ⟨_, rfl⟩
  have hld : ∀ i (hi : i < methsL.length), ldN cs i 1 = some [.s methsL[i]] := fun i hi => by
    have h2 : (sts methsL)[i]? = some (.s methsL[i]) := by simp [sts, List.getElem?_eq_getElem hi]
    obtain ⟨h3, h4⟩ := List.getElem?_eq_some_iff.1 h2
    rw [← hcs, ldN, if_pos (by omega), List.drop_eq_getElem_cons h3, h4]; rfl
  have hsm : ∀ m ∈ methsL, m.length ≤ 1048576 := by decide
  have hcs' : cs = [.s [71, 69, 84], .s [72, 69, 65, 68], .s [80, 79, 83, 84], .s [80, 85, 84], .s [68, 69, 76, 69, 84, 69], .s [79, 80, 84, 73, 79, 78, 83]] := by rw [← hcs]; rfl
  simp -implicitDefEqProofs [go_sem, Tryz.f46]
  rw [← hcs']
  refine run_inv _ _ _ _ _ (fun (i : Nat) t h1 => i ≤ 6 ∧ get t 0 = .s l ∧ get t 5 = .sl h.length 0 6 1 ∧ get t 6 = .i .i64 6 ∧ get t 7 = .i .i64 i ∧ hget h1 h.length = ⟨2, true, cs⟩ ∧ Ext h h1 ∧ methP l (methsL.drop i) = methP l methsL) (fun i => 6 - i) _ (x := 0) ⟨by simp, rfl, rfl, rfl, rfl, by simp -implicitDefEqProofs [go_sem], by simp -implicitDefEqProofs [go_sem], rfl⟩ ?_
  rintro i t h1 ⟨hi, t0, t5, t6, t7, hg, he, hd⟩ ih
  have hi6 : i < 1152921504606846976 := by omega
  by_cases hlt : i < 6
  · have hlen : i < methsL.length := hlt
    have hl1 := hld i hlen
    have hdl := hsm methsL[i] (List.getElem_mem hlen)
    rw [List.drop_eq_getElem_cons hlen] at hd
    generalize methsL[i] = d at hl1 hdl hd
    rw [methP] at hd
    have hlt' : (i : Int) < 6 := by omega
    by_cases c1 : lowerL d = lowerL l
    · rw [if_pos c1] at hd
      simp -implicitDefEqProofs [go_sem, Tryz.f46, t0, t5, t6, t7, hlt, hlt', hl1, hg, pSameC, hdl, hl, c1, ← hd, he]
    · rw [if_neg c1] at hd
      simp -implicitDefEqProofs [go_sem, Tryz.f46, t0, t5, t6, t7, hlt, hlt', hl1, hg, pSameC, hdl, hl, c1]
      refine ih (i + 1) _ _ (by omega) ⟨by omega, ?_⟩
      simp -implicitDefEqProofs [go_sem, t0, t5, t6, t7, i64_n hi6, hg, he, hd]
  · have e : i = 6 := by omega
    subst e
    rw [show methsL.drop 6 = [] from rfl, methP] at hd
    simp -implicitDefEqProofs [go_sem, Tryz.f46, t0, t5, t6, t7, ← hd, he]
end GoD
