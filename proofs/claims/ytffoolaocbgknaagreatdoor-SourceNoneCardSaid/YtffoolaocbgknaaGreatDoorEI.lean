import Derived.Test.YtffoolaocbgknaaGreatDoorEH
/-! Hosts as the document answers them. -/
namespace GoD
open Go Go.Proofs
set_option linter.unusedVariables false
set_option linter.unusedSimpArgs false
set_option maxHeartbeats 4000000
set_option maxRecDepth 100000
def hostV : Option (List Int) → V
  | none => .tup [.s [], .i .i64 8]
  | some x => .tup [.s x, .i .i64 0]
theorem hostV_flat (o : Option (List Int)) (m : Nat) : renV id (hostV o) = hostV o ∧ bndV m (hostV o) := by cases o <;> simp [hostV, renV, bndV, renL, bndL]
def rHostC : Ct := fun args h => match args with | [.s l] => if l.length ≤ 1048576 then some (hostV (hostL l), h) else none | _ => none
theorem forbB_iff (c : Int) : forbB c = (decide (c ≤ 32) || decide (127 ≤ c) || decide (c ∈ [35, 37, 47, 58, 60, 62, 63, 64, 91, 92, 93, 94, 124])) := by unfold forbB; rw [List.contains_eq_mem]
theorem rHost_ok : CtOk Tryz.prog G0 92 rHostC := by
  refine ct_plain (n := 1) fol (sound_cons rDecode_ok (sound_cons rLower_ok (sound_cons rHas_ok (sound_cons rNumeric_ok (sound_cons rNumber_ok (sound_cons rAddress_ok sound_nil)))))) (by kernel_rfl) Tryz.func92 rfl fun args h v h' hc r xs H hr hx => ?_
  unfold rHostC at hc; split at hc <;> (try split at hc) <;> cases hc
  rename_i l hl
  refine ⟨rfl, rfl, hostV_flat _ _, ?_⟩
  obtain ⟨d, hd⟩ : ∃ d, lowerL (decodeL l) = d := ⟨_, rfl⟩
  have hl2 : (decodeL l).length ≤ 1048576 := Nat.le_trans (decodeL_len l) hl
  have hdl : d.length ≤ 1048576 := by rw [← hd]; simpa [lowerL] using hl2
  have hdl' : d.length ≤ 281474976710656 := by omega
  by_cases h0 : d = []
  · have : hostL l = none := by unfold hostL; rw [hd, if_pos (.inl h0)]
    rw [this]
    simp -implicitDefEqProofs [go_sem, Tryz.f92, rDecodeC, rLowerC, hl, hl2, hd, h0, hostV]
  · have hres : hostL l = if d.any forbB = true then none else if numericB ((partsL d).getLastD []) then (numberL d).map textL else some d := by
      unfold hostL; rw [hd]
      by_cases h1 : d.any forbB = true
      · rw [if_pos (.inr h1), if_pos h1]
      · rw [if_neg (by simp only [not_or]; exact ⟨h0, h1⟩), if_neg h1]
    obtain ⟨res, hE⟩ : ∃ x, hostL l = x := ⟨_, rfl⟩
    rw [hE] at hres ⊢
    simp -implicitDefEqProofs [go_sem, Tryz.f92, rDecodeC, rLowerC, hl, hl2, hd, h0]
    refine run_inv _ _ _ _ _ (fun (i : Nat) t h1 => i ≤ d.length ∧ get t 4 = .s d ∧ get t 5 = .i .i64 i ∧ (d.drop i).any forbB = d.any forbB ∧ Ext h h1) (fun i => d.length - i) _ (x := 0) ⟨by simp, by simp -implicitDefEqProofs [go_sem], by simp -implicitDefEqProofs [go_sem], rfl, Ext.refl h⟩ ?_
    rintro i t h1 ⟨hi, t4, t5, ha, he⟩ ih
    by_cases hlt : i < d.length
    · obtain ⟨c, hc⟩ : ∃ c, d[i] = c := ⟨_, rfl⟩
      rw [List.drop_eq_getElem_cons hlt, hc, List.any_cons, forbB_iff] at ha
      by_cases c1 : c ≤ 32
      · rw [decide_eq_true c1] at ha
        have hf : d.any forbB = true := by rw [← ha]; simp
        rw [if_pos hf] at hres; subst hres
        simp -implicitDefEqProofs [go_sem, Tryz.f92, t4, t5, hlt, hc, c1, he, hostV]
      · by_cases c2 : 127 ≤ c
        · rw [decide_eq_true c2] at ha
          have hf : d.any forbB = true := by rw [← ha]; simp
          rw [if_pos hf] at hres; subst hres
          simp -implicitDefEqProofs [go_sem, Tryz.f92, t4, t5, hlt, hc, c1, c2, he, hostV]
        · by_cases c3 : c ∈ [35, 37, 47, 58, 60, 62, 63, 64, 91, 92, 93, 94, 124]
          · rw [decide_eq_true c3] at ha
            have hf : d.any forbB = true := by rw [← ha]; simp
            rw [if_pos hf] at hres; subst hres
            have c3' : decide (c ∈ [35, 37, 47, 58, 60, 62, 63, 64, 91, 92, 93, 94, 124]) = true := decide_eq_true c3
            simp -implicitDefEqProofs [go_sem, Tryz.f92, t4, t5, hlt, hc, c1, c2, he, hostV, rHasC, -List.mem_cons, c3]
          · rw [decide_eq_false c1, decide_eq_false c2, decide_eq_false c3, Bool.false_or, Bool.false_or] at ha
            simp -implicitDefEqProofs [go_sem, Tryz.f92, t4, t5, hlt, hc, c1, c2, rHasC, -List.mem_cons, c3]
            refine ih (i + 1) _ _ (by omega) ⟨by omega, ?_⟩
            simp -implicitDefEqProofs [go_sem, t4, t5, i64_1 hdl' hlt, he, -List.any_eq_true]
            exact ha
    · have e0 : d.drop i = [] := List.drop_eq_nil_of_le (by omega)
      rw [e0] at ha
      have hf : d.any forbB = false := ha.symm
      rw [hf, if_neg (by simp)] at hres
      cases hnb : numericB ((partsL d).getLastD []) with
      | false =>
        rw [hnb] at hres; simp at hres; subst hres
        simp -implicitDefEqProofs [go_sem, Tryz.f92, t4, t5, hlt, rNumericC, hdl, hnb, hostV, he, -List.getLastD_eq_getLast?]
      | true =>
        cases hn : numberL d with
        | none =>
          rw [hnb, hn] at hres; simp at hres; subst hres
          simp -implicitDefEqProofs [go_sem, Tryz.f92, t4, t5, hlt, rNumericC, rNumberC, hdl, hnb, hn, okV, hostV, he, -List.getLastD_eq_getLast?]
        | some n =>
          rw [hnb, hn] at hres; simp at hres; subst hres
          simp -implicitDefEqProofs [go_sem, Tryz.f92, t4, t5, hlt, rNumericC, rNumberC, rAddressC, hdl, hnb, hn, okV, hostV, he, -List.getLastD_eq_getLast?]
end GoD
