import Derived.Test.YtffoolaocbgknaaGreatDoorPH
/-! The program's reader of source expressions. -/
namespace GoD
open Go Go.Proofs
set_option linter.unusedVariables false
set_option linter.unusedSimpArgs false
set_option maxHeartbeats 2000000
set_option maxRecDepth 100000
def predOf (f : FuncId) : Option (Int → Bool) := if f = 62 then some schB else if f = 65 then some labB else if f = 66 then some digitB else if f = 67 then some pathC else none
def rdBk (l : List Int) (e : Expr5) : Blk := ⟨2, true, [.s l, .i .i64 e.kind, .s e.sch, .s e.ho, .s e.po, .s e.pa]⟩
theorem rdBk_flat (l : List Int) (e : Expr5) : (rdBk l e).cells.all GoD.flat = true := rfl
def pRowC : Ct := fun args h => match args with
  | [.p b 0, .f (.func f) []] => match predOf f, hget h b with
    | some p, ⟨2, true, [.s l, .i .i64 k, .s a, .s c, .s d, .s e]⟩ => if b < h.length ∧ l.length ≤ 1048576 then some (.s (l.take (cntL p l)), h.set b (rdBk (l.drop (cntL p l)) ⟨k, a, c, d, e⟩)) else none
    | _, _ => none
  | _ => none
theorem pRow_ok : CtOk Tryz.prog G0 61 pRowC := by
  refine ct_run (n := 2) fol (sound_cons pSchemed_ok (sound_cons pLabelled_ok (sound_cons pDigit_ok (sound_cons pPathed_ok sound_nil)))) (by kernel_rfl) Tryz.func61 rfl fun args h v h' hc r xs H hr hx => ?_
  unfold pRowC at hc
  split at hc
  · split at hc
    · split at hc
      · rename_i b f _ _ p l k a c d e hp hg hb
        cases hc
        obtain ⟨hb, hl⟩ := hb
        refine ⟨rfl, ?_⟩
        have hE : ∀ n, ∃ σ, Trim h (V.s (l.take n)) (h.set b (rdBk (l.drop n) ⟨k, a, c, d, e⟩)) (V.s (l.take n)) (h.set b (rdBk (l.drop n) ⟨k, a, c, d, e⟩)) σ := fun n => Trim.own (by simp [renV, bndV]) rfl (Ext.refl _)
        unfold rdBk at hE
        unfold predOf at hp
        have key : ∀ i, ∀ R, cntL p l = R → i + cntL p (l.drop i) = R → i ≤ l.length → (∀ hi : i < l.length, p l[i] = true → i + 1 + cntL p (l.drop (i + 1)) = R) ∧ (∀ hi : i < l.length, p l[i] = false → i = R) ∧ (i = l.length → i = R) := by
          intro i R _ h1 hi
          refine ⟨fun hlt hp => ?_, fun hlt hp => ?_, fun e => ?_⟩
          · rw [List.drop_eq_getElem_cons hlt, cntL, if_pos hp] at h1; omega
          · rw [List.drop_eq_getElem_cons hlt, cntL, hp, if_neg (by simp)] at h1; omega
          · rw [List.drop_eq_nil_of_le (by omega), cntL] at h1; omega
        obtain ⟨R, hR⟩ : ∃ R, cntL p l = R := ⟨_, rfl⟩
        have key2 := fun i => key i R hR
        clear key
        rw [hR]
        have hRl : R ≤ l.length := by rw [← hR]; exact cntL_le p l
        have fin : True := trivial
        split at hp
        · rename_i hf
          cases hp
          subst hf
          simp -implicitDefEqProofs [go_sem, Tryz.f61]
          refine run_inv _ _ _ _ _ (fun (i : Nat) t h1 => i ≤ l.length ∧ get t 0 = .p b 0 ∧ get t 1 = .f (.func 62) [] ∧ get t 5 = .i .i64 i ∧ i + cntL schB (l.drop i) = R ∧ h1 = h) (fun i => l.length - i) _ (x := 0) ⟨by simp, by simp -implicitDefEqProofs [go_sem], by simp -implicitDefEqProofs [go_sem], by simp -implicitDefEqProofs [go_sem], by simpa using hR, rfl⟩ ?_
          rintro i t h1 ⟨hi, t0, t1, t5, hd, rfl⟩ ih
          obtain ⟨K1, K2, K3⟩ := key2 i hd hi
          have hi6 : i < 1152921504606846976 := by omega
          have hii : (i : Int) ≤ l.length := by omega
          by_cases hlt : i < l.length
          · obtain ⟨z, hz⟩ : ∃ z, l[i] = z := ⟨_, rfl⟩
            cases c1 : schB z with
            | true =>
              simp -implicitDefEqProofs [go_sem, Tryz.f61, t0, t1, t5, hg, hlt, hz, pSchemedC, pLabelledC, pDigitC, pPathedC, c1]
              refine ih (i + 1) _ _ (by omega) ⟨hlt, ?_, ?_, ?_, K1 hlt (by rw [hz]; exact c1), rfl⟩
              all_goals simp -implicitDefEqProofs [go_sem, t0, t1, t5, i64_n hi6]
            | false =>
              have hiR := K2 hlt (by rw [hz]; exact c1)
              simp -implicitDefEqProofs [go_sem, Tryz.f61, t0, t1, t5, hg, hlt, hz, pSchemedC, pLabelledC, pDigitC, pPathedC, c1, hii, hi, hb, rdBk]
              rw [← hiR]
              exact hE i
          · have hiR := K3 (by omega)
            simp -implicitDefEqProofs [go_sem, Tryz.f61, t0, t1, t5, hg, hlt, hii, hi, hb, rdBk]
            rw [← hiR]
            exact hE i
        split at hp
        · rename_i hf
          cases hp
          subst hf
          simp -implicitDefEqProofs [go_sem, Tryz.f61]
          refine run_inv _ _ _ _ _ (fun (i : Nat) t h1 => i ≤ l.length ∧ get t 0 = .p b 0 ∧ get t 1 = .f (.func 65) [] ∧ get t 5 = .i .i64 i ∧ i + cntL labB (l.drop i) = R ∧ h1 = h) (fun i => l.length - i) _ (x := 0) ⟨by simp, by simp -implicitDefEqProofs [go_sem], by simp -implicitDefEqProofs [go_sem], by simp -implicitDefEqProofs [go_sem], by simpa using hR, rfl⟩ ?_
          rintro i t h1 ⟨hi, t0, t1, t5, hd, rfl⟩ ih
          obtain ⟨K1, K2, K3⟩ := key2 i hd hi
          have hi6 : i < 1152921504606846976 := by omega
          have hii : (i : Int) ≤ l.length := by omega
          by_cases hlt : i < l.length
          · obtain ⟨z, hz⟩ : ∃ z, l[i] = z := ⟨_, rfl⟩
            cases c1 : labB z with
            | true =>
              simp -implicitDefEqProofs [go_sem, Tryz.f61, t0, t1, t5, hg, hlt, hz, pSchemedC, pLabelledC, pDigitC, pPathedC, c1]
              refine ih (i + 1) _ _ (by omega) ⟨hlt, ?_, ?_, ?_, K1 hlt (by rw [hz]; exact c1), rfl⟩
              all_goals simp -implicitDefEqProofs [go_sem, t0, t1, t5, i64_n hi6]
            | false =>
              have hiR := K2 hlt (by rw [hz]; exact c1)
              simp -implicitDefEqProofs [go_sem, Tryz.f61, t0, t1, t5, hg, hlt, hz, pSchemedC, pLabelledC, pDigitC, pPathedC, c1, hii, hi, hb, rdBk]
              rw [← hiR]
              exact hE i
          · have hiR := K3 (by omega)
            simp -implicitDefEqProofs [go_sem, Tryz.f61, t0, t1, t5, hg, hlt, hii, hi, hb, rdBk]
            rw [← hiR]
            exact hE i
        split at hp
        · rename_i hf
          cases hp
          subst hf
          simp -implicitDefEqProofs [go_sem, Tryz.f61]
          refine run_inv _ _ _ _ _ (fun (i : Nat) t h1 => i ≤ l.length ∧ get t 0 = .p b 0 ∧ get t 1 = .f (.func 66) [] ∧ get t 5 = .i .i64 i ∧ i + cntL digitB (l.drop i) = R ∧ h1 = h) (fun i => l.length - i) _ (x := 0) ⟨by simp, by simp -implicitDefEqProofs [go_sem], by simp -implicitDefEqProofs [go_sem], by simp -implicitDefEqProofs [go_sem], by simpa using hR, rfl⟩ ?_
          rintro i t h1 ⟨hi, t0, t1, t5, hd, rfl⟩ ih
          obtain ⟨K1, K2, K3⟩ := key2 i hd hi
          have hi6 : i < 1152921504606846976 := by omega
          have hii : (i : Int) ≤ l.length := by omega
          by_cases hlt : i < l.length
          · obtain ⟨z, hz⟩ : ∃ z, l[i] = z := ⟨_, rfl⟩
            cases c1 : digitB z with
            | true =>
              simp -implicitDefEqProofs [go_sem, Tryz.f61, t0, t1, t5, hg, hlt, hz, pSchemedC, pLabelledC, pDigitC, pPathedC, c1]
              refine ih (i + 1) _ _ (by omega) ⟨hlt, ?_, ?_, ?_, K1 hlt (by rw [hz]; exact c1), rfl⟩
              all_goals simp -implicitDefEqProofs [go_sem, t0, t1, t5, i64_n hi6]
            | false =>
              have hiR := K2 hlt (by rw [hz]; exact c1)
              simp -implicitDefEqProofs [go_sem, Tryz.f61, t0, t1, t5, hg, hlt, hz, pSchemedC, pLabelledC, pDigitC, pPathedC, c1, hii, hi, hb, rdBk]
              rw [← hiR]
              exact hE i
          · have hiR := K3 (by omega)
            simp -implicitDefEqProofs [go_sem, Tryz.f61, t0, t1, t5, hg, hlt, hii, hi, hb, rdBk]
            rw [← hiR]
            exact hE i
        split at hp
        · rename_i hf
          cases hp
          subst hf
          simp -implicitDefEqProofs [go_sem, Tryz.f61]
          refine run_inv _ _ _ _ _ (fun (i : Nat) t h1 => i ≤ l.length ∧ get t 0 = .p b 0 ∧ get t 1 = .f (.func 67) [] ∧ get t 5 = .i .i64 i ∧ i + cntL pathC (l.drop i) = R ∧ h1 = h) (fun i => l.length - i) _ (x := 0) ⟨by simp, by simp -implicitDefEqProofs [go_sem], by simp -implicitDefEqProofs [go_sem], by simp -implicitDefEqProofs [go_sem], by simpa using hR, rfl⟩ ?_
          rintro i t h1 ⟨hi, t0, t1, t5, hd, rfl⟩ ih
          obtain ⟨K1, K2, K3⟩ := key2 i hd hi
          have hi6 : i < 1152921504606846976 := by omega
          have hii : (i : Int) ≤ l.length := by omega
          by_cases hlt : i < l.length
          · obtain ⟨z, hz⟩ : ∃ z, l[i] = z := ⟨_, rfl⟩
            cases c1 : pathC z with
            | true =>
              simp -implicitDefEqProofs [go_sem, Tryz.f61, t0, t1, t5, hg, hlt, hz, pSchemedC, pLabelledC, pDigitC, pPathedC, c1]
              refine ih (i + 1) _ _ (by omega) ⟨hlt, ?_, ?_, ?_, K1 hlt (by rw [hz]; exact c1), rfl⟩
              all_goals simp -implicitDefEqProofs [go_sem, t0, t1, t5, i64_n hi6]
            | false =>
              have hiR := K2 hlt (by rw [hz]; exact c1)
              simp -implicitDefEqProofs [go_sem, Tryz.f61, t0, t1, t5, hg, hlt, hz, pSchemedC, pLabelledC, pDigitC, pPathedC, c1, hii, hi, hb, rdBk]
              rw [← hiR]
              exact hE i
          · have hiR := K3 (by omega)
            simp -implicitDefEqProofs [go_sem, Tryz.f61, t0, t1, t5, hg, hlt, hii, hi, hb, rdBk]
            rw [← hiR]
            exact hE i
        cases hp
      · cases hc
    · cases hc
  · cases hc
def dropP (l m : List Int) : List Int := if headB l m = true then l.drop m.length else l
def pPassC : Ct := fun args h => match args with
  | [.p b 0, .s m] => match hget h b with
    | ⟨2, true, [.s l, .i .i64 k, .s a, .s c, .s d, .s e]⟩ => if b < h.length then some (.b (headB l m), h.set b (rdBk (dropP l m) ⟨k, a, c, d, e⟩)) else none
    | _ => none
  | _ => none
theorem pPass_ok : CtOk Tryz.prog G0 64 pPassC := by
  refine ct_run (n := 2) fol (sound_cons pCutPre_ok sound_nil) (by kernel_rfl) Tryz.func64 rfl fun args h v h' hc r xs H hr hx => ?_
  unfold pPassC at hc; split at hc <;> (try split at hc) <;> (try split at hc) <;> cases hc
  rename_i b m _ l k a c d e hg hb
  refine ⟨rfl, ?_⟩
  have hE : ∀ r n, ∃ σ, Trim h (V.b r) (h.set b (rdBk n ⟨k, a, c, d, e⟩)) (V.b r) (h.set b (rdBk n ⟨k, a, c, d, e⟩)) σ := fun r n => Trim.own (by simp [renV, bndV]) rfl (Ext.refl _)
  unfold rdBk at hE
  cases h1 : headB l m with
  | true =>
    simp -implicitDefEqProofs [go_sem, Tryz.f64, hg, hb, pCutPreC, cutP, h1, dropP, rdBk]
    exact hE _ _
  | false =>
    simp -implicitDefEqProofs [go_sem, Tryz.f64, hg, hb, pCutPreC, cutP, h1, dropP, rdBk]
    exact hE _ _
end GoD
