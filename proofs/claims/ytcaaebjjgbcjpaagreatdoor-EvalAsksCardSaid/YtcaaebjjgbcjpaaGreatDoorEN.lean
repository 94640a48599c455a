import Derived.Test.YtcaaebjjgbcjpaaGreatDoorEH
/-! Hosts as the document answers them. -/
namespace GoD
open Go Go.Proofs
set_option linter.unusedVariables false
set_option linter.unusedSimpArgs false
set_option maxHeartbeats 4000000
set_option maxRecDepth 100000
def hostV : Option (List Int) → V
  | none => .tup [.s [], .i .i64 8]
  | some x => .tup [.s x, .i .i64 0]
theorem hostV_flat (o : Option (List Int)) (m : Nat) : renV id (hostV o) = hostV o ∧ bndV m (hostV o) := by cases o <;> simp [hostV, renV, bndV, renL, bndL]
def rHostC : Ct := fun args h => match args with | [.s l] => if l.length ≤ 1048576 then some (hostV (hostL l), h) else none | _ => none
theorem forbB_iff (c : Int) : forbB c = (decide (c ≤ 32) || decide (127 ≤ c) || decide (c ∈ [35, 37, 47, 58, 60, 62, 63, 64, 91, 92, 93, 94, 124])) := by unfold forbB; rw [List.contains_eq_mem]
theorem rHost_ok : CtOk Tryz.prog G0 119 rHostC := by
  refine ct_plain (n := 1) fol (sound_cons rDecode_ok (sound_cons rLower_ok (sound_cons rHas_ok (sound_cons rNumeric_ok (sound_cons rNumber_ok (sound_cons rAddress_ok sound_nil)))))) (by kernel_rfl) Tryz.func119 rfl fun args h v h' hc r xs H hr hx => ?_
  unfold rHostC at hc; split at hc <;> (try split at hc) <;> cases hc
  rename_i l hl
  refine ⟨rfl, rfl, hostV_flat _ _, ?_⟩
  obtain ⟨d, hd⟩ : ∃ d, lowerL (decodeL l) = d := ⟨_, rfl⟩
  have hl2 : (decodeL l).length ≤ 1048576 := Nat.le_trans (decodeL_len l) hl
  have hdl : d.length ≤ 1048576 := by rw [← hd]; simpa [lowerL] using hl2
  have hdl' : d.length ≤ 281474976710656 := by omega
  by_cases h0 : d = []
  · have : hostL l = none := by unfold hostL; rw [hd, if_pos (.inl h0)]
    rw [this]
    simp -implicitDefEqProofs [go_sem, Tryz.f119, rDecodeC, rLowerC, hl, hl2, hd, h0, hostV]
  · have hres : hostL l = if d.any forbB = true then none else if numericB ((partsL d).getLastD []) then (numberL d).map textL else some d := by
      unfold hostL; rw [hd]
      by_cases h1 : d.any forbB = true
      · rw [if_pos (.inr h1), if_pos h1]
      · rw [if_neg (by simp only [not_or]; exact ⟨h0, h1⟩), if_neg h1]
    obtain ⟨res, hE⟩ : ∃ x, hostL l = x := ⟨_, rfl⟩
    rw [hE] at hres ⊢
    simp -implicitDefEqProofs [go_sem, Tryz.f119, rDecodeC, rLowerC, hl, hl2, hd, h0]
    refine run_inv _ _ _ _ _ (fun (i : Nat) t h1 => i ≤ d.length ∧ get t 4 = .s d ∧ get t 5 = .i .i64 i ∧ (d.drop i).any forbB = d.any forbB ∧ Ext h h1) (fun i => d.length - i) _ (x := 0) ⟨by simp, by simp -implicitDefEqProofs [go_sem], by simp -implicitDefEqProofs [go_sem], rfl, Ext.refl h⟩ ?_
    rintro i t h1 ⟨hi, t4, t5, ha, he⟩ ih
    by_cases hlt : i < d.length
    · obtain ⟨c, hc⟩ : ∃ c, d[i] = c := ⟨_, rfl⟩
      rw [List.drop_eq_getElem_cons hlt, hc, List.any_cons, forbB_iff] at ha
      by_cases c1 : c ≤ 32
      · rw [decide_eq_true c1] at ha
        have hf : d.any forbB = true := by rw [← ha]; simp
        rw [if_pos hf] at hres; subst hres
        simp -implicitDefEqProofs [go_sem, Tryz.f119, t4, t5, hlt, hc, c1, he, hostV]
      · by_cases c2 : 127 ≤ c
        · rw [decide_eq_true c2] at ha
          have hf : d.any forbB = true := by rw [← ha]; simp
          rw [if_pos hf] at hres; subst hres
          simp -implicitDefEqProofs [go_sem, Tryz.f119, t4, t5, hlt, hc, c1, c2, he, hostV]
        · by_cases c3 : c ∈ [35, 37, 47, 58, 60, 62, 63, 64, 91, 92, 93, 94, 124]
          · rw [decide_eq_true c3] at ha
            have hf : d.any forbB = true := by rw [← ha]; simp
            rw [if_pos hf] at hres; subst hres
            have c3' : decide (c ∈ [35, 37, 47, 58, 60, 62, 63, 64, 91, 92, 93, 94, 124]) = true := decide_eq_true c3
            simp -implicitDefEqProofs [go_sem, Tryz.f119, t4, t5, hlt, hc, c1, c2, he, hostV, rHasC, -List.mem_cons, c3]
          · rw [decide_eq_false c1, decide_eq_false c2, decide_eq_false c3, Bool.false_or, Bool.false_or] at ha
            simp -implicitDefEqProofs [go_sem, Tryz.f119, t4, t5, hlt, hc, c1, c2, rHasC, -List.mem_cons, c3]
            refine ih (i + 1) _ _ (by omega) ⟨by omega, ?_⟩
            simp -implicitDefEqProofs [go_sem, t4, t5, i64_1 hdl' hlt, he, -List.any_eq_true]
            exact ha
    · have e0 : d.drop i = [] := List.drop_eq_nil_of_le (by omega)
      rw [e0] at ha
      have hf : d.any forbB = false := ha.symm
      rw [hf, if_neg (by simp)] at hres
      cases hnb : numericB ((partsL d).getLastD []) with
      | false =>
        rw [hnb] at hres; simp at hres; subst hres
        simp -implicitDefEqProofs [go_sem, Tryz.f119, t4, t5, hlt, rNumericC, hdl, hnb, hostV, he, -List.getLastD_eq_getLast?]
      | true =>
        cases hn : numberL d with
        | none =>
          rw [hnb, hn] at hres; simp at hres; subst hres
          simp -implicitDefEqProofs [go_sem, Tryz.f119, t4, t5, hlt, rNumericC, rNumberC, hdl, hnb, hn, okV, hostV, he, -List.getLastD_eq_getLast?]
        | some n =>
          rw [hnb, hn] at hres; simp at hres; subst hres
          simp -implicitDefEqProofs [go_sem, Tryz.f119, t4, t5, hlt, rNumericC, rNumberC, rAddressC, hdl, hnb, hn, okV, hostV, he, -List.getLastD_eq_getLast?]
end GoD

/-! Ports and origins as the document answers them. -/
namespace GoD
open Go Go.Proofs
set_option linter.unusedVariables false
set_option linter.unusedSimpArgs false
set_option maxHeartbeats 4000000
set_option maxRecDepth 100000
def portL (sch : List Int) (p : Int) : Int := if p = -1 then (defaultL sch).1 else p
def rPortC : Ct := fun args h => match args with | [.agg [.s a, .s b, .s c, .s d, .i .i64 p, .s e, .b q, .s f, .b g, .s k]] => some (.i .i64 (portL a p), h) | _ => none
theorem rPort_ok : CtOk Tryz.prog G0 81 rPortC := by
  refine ct_plain (n := 1) fol (sound_cons rDefault_ok sound_nil) (by kernel_rfl) Tryz.func81 rfl fun args h v h' hc r xs H hr hx => ?_
  unfold rPortC at hc; split at hc <;> (try split at hc) <;> cases hc
  rename_i a b c d p e q f g k
  refine ⟨rfl, rfl, by simp [renV, bndV, renL, bndL], ?_⟩
  by_cases h1 : p = -1
  · simp -implicitDefEqProofs [go_sem, Tryz.f81, h1, portL, rDefaultC]
  · simp -implicitDefEqProofs [go_sem, Tryz.f81, h1, portL, rDefaultC]
def rOfC : Ct := fun args h => match args with | [.agg [.s a, .s b, .s c, .s d, .i .i64 p, .s e, .b q, .s f, .b g, .s k]] => some (.agg [.s a, .s d, .i .i64 (portL a p)], h) | _ => none
theorem rOf_ok : CtOk Tryz.prog G0 33 rOfC := by
  refine ct_plain (n := 1) fol (sound_cons rPort_ok sound_nil) (by kernel_rfl) Tryz.func33 rfl fun args h v h' hc r xs H hr hx => ?_
  unfold rOfC at hc; split at hc <;> (try split at hc) <;> cases hc
  rename_i a b c d p e q f g k
  refine ⟨rfl, rfl, by simp [renV, bndV, renL, bndL], ?_⟩
  simp -implicitDefEqProofs [go_sem, Tryz.f33, rPortC]
/-- how many bytes stand ahead of the first of some -/
def upL (of : List Int) : List Int → Nat
  | [] => 0
  | c :: t => if c ∈ of then 0 else upL of t + 1
theorem upL_le (of : List Int) : ∀ l, upL of l ≤ l.length
  | [] => by simp [upL]
  | c :: t => by
    have := upL_le of t
    unfold upL
    split <;> simp <;> omega
def rUpToC : Ct := fun args h => match args with | [.s l, .s o] => some (.i .i64 (upL o l), h) | _ => none
theorem rUpTo_ok : CtOk Tryz.prog G0 55 rUpToC := by
  refine ct_plain (n := 2) fol (sound_cons rHas_ok sound_nil) (by kernel_rfl) Tryz.func55 rfl fun args h v h' hc r xs H hr hx => ?_
  unfold rUpToC at hc; split at hc <;> (try split at hc) <;> cases hc
  rename_i l o
  obtain ⟨⟨hs, hl⟩, _⟩ := str_of hx
  refine ⟨rfl, rfl, by simp [renV, bndV], ?_⟩
  simp -implicitDefEqProofs [go_sem, Tryz.f55]
  refine run_inv _ _ _ _ _ (fun (i : Nat) t h1 => i ≤ l.length ∧ get t 0 = .s l ∧ get t 1 = .s o ∧ get t 5 = .i .i64 i ∧ i + upL o (l.drop i) = upL o l ∧ Ext h h1) (fun i => l.length - i) _ (x := 0) ⟨by simp, rfl, rfl, rfl, by simp, Ext.refl h⟩ ?_
  rintro i t h1 ⟨hi, t0, t1, t5, hd, he⟩ ih
  by_cases hlt : i < l.length
  · obtain ⟨d, hc⟩ : ∃ d, l[i] = d := ⟨_, rfl⟩
    rw [List.drop_eq_getElem_cons hlt, hc, upL] at hd
    by_cases c1 : d ∈ o
    · rw [if_pos c1] at hd
      simp -implicitDefEqProofs [go_sem, Tryz.f55, t0, t1, t5, hlt, hc, c1, rHasC, he]
      omega
    · rw [if_neg c1] at hd
      simp -implicitDefEqProofs [go_sem, Tryz.f55, t0, t1, t5, hlt, hc, c1, rHasC]
      refine ih (i + 1) _ _ (by omega) ⟨by omega, ?_⟩
      simp -implicitDefEqProofs [go_sem, t0, t1, t5, i64_1 hl hlt, he]
      omega
  · have e0 : l.drop i = [] := List.drop_eq_nil_of_le (by omega)
    rw [e0, upL] at hd
    simp -implicitDefEqProofs [go_sem, Tryz.f55, t0, t1, t5, hlt, he]
    omega
def endsL (l m : List Int) : Bool := decide (m.length ≤ l.length) && decide (l.drop (l.length - m.length) = m)
def rEndsC : Ct := fun args h => match args with | [.s l, .s m] => some (.b (endsL l m), h) | _ => none
theorem rEnds_ok : CtOk Tryz.prog G0 125 rEndsC := by
  refine ct_plain (n := 2) fol sound_nil (by kernel_rfl) Tryz.func125 rfl fun args h v h' hc r xs H hr hx => ?_
  unfold rEndsC at hc; split at hc <;> (try split at hc) <;> cases hc
  rename_i l m
  obtain ⟨⟨hs, hl⟩, _, hx2⟩ := str_of hx
  obtain ⟨⟨_, hm⟩, _⟩ := str_of hx2
  refine ⟨rfl, rfl, by simp [renV, bndV], ?_⟩
  by_cases h1 : m.length ≤ l.length
  · have h2 : (m.length : Int) ≤ l.length := by omega
    have h3 : ((l.length : Int) - m.length).toNat = l.length - m.length := by omega
    have h4 : (0 : Int) ≤ (l.length : Int) - m.length := by omega
    have h5 : (l.length : Int) - m.length ≤ l.length := by omega
    simp -implicitDefEqProofs [go_sem, Tryz.f125, h1, h2, h3, h4, h5, endsL, w64 (x := (l.length : Int) - m.length) (by omega)]
  · simp -implicitDefEqProofs [go_sem, Tryz.f125, h1, endsL]
/-- origins -/
def oNull (a b : List Int) (p : Int) : Bool := decide (a = []) && decide (b = []) && decide (p = 0)
def rOSameC : Ct := fun args h => match args with | [.agg [.s a, .s b, .i .i64 p], .agg [.s c, .s d, .i .i64 q]] => some (.b (decide (a = c) && decide (b = d) && decide (p = q) && !oNull a b p), h) | _ => none
theorem rOSame_ok : CtOk Tryz.prog G0 32 rOSameC := by
  refine ct_plain (n := 2) fol sound_nil (by kernel_rfl) Tryz.func32 rfl fun args h v h' hc r xs H hr hx => ?_
  unfold rOSameC at hc; split at hc <;> (try split at hc) <;> cases hc
  rename_i a b p c d q
  refine ⟨rfl, rfl, by simp [renV, bndV, renL, bndL], ?_⟩
  by_cases h1 : a = c <;> by_cases h2 : b = d <;> by_cases h3 : p = q <;> simp -implicitDefEqProofs [go_sem, Tryz.f32, h1, h2, h3, oNull]
  cases c <;> cases d <;> simp
def normalB (a : List Int) (p : Int) : Bool := (defaultL a).2 && decide ((defaultL a).1 = p)
def rNormalC : Ct := fun args h => match args with | [.agg [.s a, .s b, .i .i64 p]] => some (.b (normalB a p), h) | _ => none
theorem rNormal_ok : CtOk Tryz.prog G0 259 rNormalC := by
  refine ct_plain (n := 1) fol (sound_cons rDefault_ok sound_nil) (by kernel_rfl) Tryz.func259 rfl fun args h v h' hc r xs H hr hx => ?_
  unfold rNormalC at hc; split at hc <;> (try split at hc) <;> cases hc
  rename_i a b p
  refine ⟨rfl, rfl, by simp [renV, bndV, renL, bndL], ?_⟩
  cases h1 : (defaultL a).2 <;> simp -implicitDefEqProofs [go_sem, Tryz.f259, rDefaultC, h1, normalB]
end GoD

/-! Schemes, hosts, ports, paths of sources as the document matches them. -/
namespace GoD
open Go Go.Proofs
set_option linter.unusedVariables false
set_option linter.unusedSimpArgs false
set_option maxHeartbeats 4000000
set_option maxRecDepth 100000
def schemeB (a b : List Int) : Bool := decide (a = b) || (decide (a = [104, 116, 116, 112]) && decide (b = [104, 116, 116, 112, 115])) || (decide (a = [119, 115]) && (decide (b = [119, 115, 115]) || decide (b = [104, 116, 116, 112]) || decide (b = [104, 116, 116, 112, 115]))) || (decide (a = [119, 115, 115]) && decide (b = [104, 116, 116, 112, 115]))
def rSchemeMatchC : Ct := fun args h => match args with | [.s a, .s b] => some (.b (schemeB a b), h) | _ => none
theorem rSchemeMatch_ok : CtOk Tryz.prog G0 260 rSchemeMatchC := by
  refine ct_plain (n := 2) fol sound_nil (by kernel_rfl) Tryz.func260 rfl fun args h v h' hc r xs H hr hx => ?_
  unfold rSchemeMatchC at hc; split at hc <;> (try split at hc) <;> cases hc
  rename_i a b
  refine ⟨rfl, rfl, by simp [renV, bndV, renL, bndL], ?_⟩
  by_cases h1 : a = b
  · simp -implicitDefEqProofs [go_sem, Tryz.f260, h1, schemeB]
  by_cases h2 : a = [104, 116, 116, 112]
  · by_cases h6 : b = [104, 116, 116, 112, 115]
    · simp -implicitDefEqProofs [go_sem, Tryz.f260, h2, h6, schemeB]
    · have h1' : ¬ [104, 116, 116, 112] = b := h2 ▸ h1
      simp -implicitDefEqProofs [go_sem, Tryz.f260, h2, h6, h1', schemeB]
  by_cases h3 : a = [119, 115]
  · have h1' : ¬ [119, 115] = b := h3 ▸ h1
    by_cases h5 : b = [119, 115, 115]
    · simp -implicitDefEqProofs [go_sem, Tryz.f260, h3, h5, schemeB]
    · by_cases h7 : b = [104, 116, 116, 112]
      · simp -implicitDefEqProofs [go_sem, Tryz.f260, h3, h7, schemeB]
      · by_cases h6 : b = [104, 116, 116, 112, 115] <;> simp -implicitDefEqProofs [go_sem, Tryz.f260, h3, h1', h5, h6, h7, schemeB]
  by_cases h4 : a = [119, 115, 115]
  · have h1' : ¬ [119, 115, 115] = b := h4 ▸ h1
    by_cases h6 : b = [104, 116, 116, 112, 115] <;> simp -implicitDefEqProofs [go_sem, Tryz.f260, h4, h1', h6, schemeB]
  · simp -implicitDefEqProofs [go_sem, Tryz.f260, h1, h2, h3, h4, schemeB]
def starB (p : List Int) : Bool := decide (p.take 2 = [42, 46])
def hostB (p l : List Int) : Bool := if l = [] then false else if p = [42] then true else if starB p = true then (addrL l).isNone && decide (p.length ≤ l.length) && endsL l (p.drop 1) else decide (p = l) && ((addrL l).isNone || decide (l = [49, 50, 55, 46, 48, 46, 48, 46, 49]))
theorem okV_2 (o : Option Int) : (okV o).2 = !o.isNone := by cases o <;> rfl
def rHostMatchC : Ct := fun args h => match args with | [.s p, .s l] => if l.length ≤ 1048576 then some (.b (hostB p l), h) else none | _ => none
theorem rHostMatch_ok : CtOk Tryz.prog G0 62 rHostMatchC := by
  refine ct_plain (n := 2) fol (sound_cons rIsAddress_ok (sound_cons rEnds_ok sound_nil)) (by kernel_rfl) Tryz.func62 rfl fun args h v h' hc r xs H hr hx => ?_
  unfold rHostMatchC at hc; split at hc <;> (try split at hc) <;> cases hc
  rename_i p l hl
  obtain ⟨⟨hs, hpl⟩, _⟩ := str_of hx
  refine ⟨rfl, rfl, by simp [renV, bndV, renL, bndL], ?_⟩
  by_cases h1 : l = []
  · simp -implicitDefEqProofs [go_sem, Tryz.f62, rIsAddressC, hl, h1, hostB]
  by_cases h2 : p = [42]
  · simp -implicitDefEqProofs [go_sem, Tryz.f62, rIsAddressC, hl, h1, h2, hostB]
  by_cases h3 : 2 ≤ p.length
  · have h3' : (2 : Int) ≤ p.length := by omega
    by_cases h4 : p.take 2 = [42, 46]
    · cases ha : (addrL l).isNone with
      | false => simp -implicitDefEqProofs [go_sem, Tryz.f62, rIsAddressC, hl, h1, h2, h3, h3', h4, hostB, starB, okV_2, ha]
      | true =>
        have w := w64 (x := (p.length : Int) - 1) (by omega)
        by_cases h5 : p.length ≤ l.length
        · have h5' : (p.length : Int) - 1 < l.length := by omega
          have h6 : (1 : Int) ≤ p.length := by omega
          simp -implicitDefEqProofs [go_sem, Tryz.f62, rIsAddressC, rEndsC, hl, h1, h2, h3, h3', h4, h5, h5', h6, hostB, starB, okV_2, ha, w]
        · have h5' : ¬ (p.length : Int) - 1 < l.length := by omega
          simp -implicitDefEqProofs [go_sem, Tryz.f62, rIsAddressC, rEndsC, hl, h1, h2, h3, h3', h4, h5, h5', hostB, starB, okV_2, ha, w]
    · by_cases h5 : p = l
      · subst h5
        cases ha : (addrL p).isNone with
        | true => simp -implicitDefEqProofs [go_sem, Tryz.f62, rIsAddressC, hl, h1, h2, h3, h3', h4, hostB, starB, okV_2, ha]
        | false => simp -implicitDefEqProofs [go_sem, Tryz.f62, rIsAddressC, hl, h1, h2, h3, h3', h4, hostB, starB, okV_2, ha]
      · simp -implicitDefEqProofs [go_sem, Tryz.f62, rIsAddressC, hl, h1, h2, h3, h3', h4, h5, hostB, starB, okV_2]
  · have h3' : ¬ (2 : Int) ≤ p.length := by omega
    have h4 : ¬ p.take 2 = [42, 46] := fun e => by have := congrArg List.length e; simp at this; omega
    by_cases h5 : p = l
    · subst h5
      cases ha : (addrL p).isNone with
      | true => simp -implicitDefEqProofs [go_sem, Tryz.f62, rIsAddressC, hl, h1, h2, h3, h3', h4, hostB, starB, okV_2, ha]
      | false => simp -implicitDefEqProofs [go_sem, Tryz.f62, rIsAddressC, hl, h1, h2, h3, h3', h4, hostB, starB, okV_2, ha]
    · simp -implicitDefEqProofs [go_sem, Tryz.f62, rIsAddressC, hl, h1, h2, h3, h3', h4, h5, hostB, starB, okV_2]
end GoD

/-! Ports and paths of sources as the document matches them. -/
namespace GoD
open Go Go.Proofs
set_option linter.unusedVariables false
set_option linter.unusedSimpArgs false
set_option maxHeartbeats 4000000
set_option maxRecDepth 100000
/-- digits as a number -/
def numD (l : List Int) : Int := l.foldl (fun n c => 10 * n + (c - 48)) 0
theorem numD_snoc (l : List Int) (c : Int) : numD (l ++ [c]) = 10 * numD l + (c - 48) := by simp [numD]
theorem numD_take (l : List Int) {i : Nat} (h : i < l.length) : numD (l.take (i + 1)) = 10 * numD (l.take i) + (l[i] - 48) := by rw [snoc_take l h, numD_snoc]
def portP (l : List Int) : Bool := l.all digitB && decide (l.length ≤ 5)
theorem digit_of {l : List Int} (h : l.all digitB = true) {c : Int} (hc : c ∈ l) : 48 ≤ c ∧ c ≤ 57 := of_decide_eq_true (List.all_eq_true.1 h c hc)
theorem numD_le {l : List Int} (h : l.all digitB = true) : ∀ i, i ≤ 5 → i ≤ l.length → 0 ≤ numD (l.take i) ∧ numD (l.take i) < 10 ^ i
  | 0, _, _ => by simp [numD]
  | i + 1, h1, h2 => by
    have ih := numD_le h i (by omega) (by omega)
    have hd := digit_of h (List.getElem_mem (show i < l.length by omega))
    rw [numD_take l (by omega), Int.pow_succ]
    omega
def portB (l sch : List Int) (p : Int) : Bool := if l = [] then (defaultL sch).2 && decide (portL sch p = (defaultL sch).1) else if l = [42] then true else decide (numD l = portL sch p) || (decide (numD l = 80) && decide (portL sch p = 443))
def rPortMatchC : Ct := fun args h => match args with | [.s l, .agg [.s a, .s b, .s c, .s d, .i .i64 p, .s e, .b q, .s f, .b g, .s k]] => if l = [] ∨ l = [42] ∨ portP l = true then some (.b (portB l a p), h) else none | _ => none
theorem rPortMatch_ok : CtOk Tryz.prog G0 261 rPortMatchC := by
  refine ct_plain (n := 2) fol (sound_cons rDefault_ok (sound_cons rPort_ok (sound_cons rDigit_ok sound_nil))) (by kernel_rfl) Tryz.func261 rfl fun args h v h' hc r xs H hr hx => ?_
  unfold rPortMatchC at hc; split at hc <;> (try split at hc) <;> cases hc
  rename_i l a b c d p e q f g k hl
  obtain ⟨⟨hs, hll⟩, _⟩ := str_of hx
  refine ⟨rfl, rfl, by simp [renV, bndV, renL, bndL], ?_⟩
  by_cases h1 : l = []
  · cases h2 : (defaultL a).2 <;> simp -implicitDefEqProofs [go_sem, Tryz.f261, rDefaultC, rPortC, h1, h2, portB]
  by_cases h2 : l = [42]
  · simp -implicitDefEqProofs [go_sem, Tryz.f261, h1, h2, portB]
  have hp := (hl.resolve_left h1).resolve_left h2
  unfold portP at hp
  simp only [Bool.and_eq_true, decide_eq_true_eq] at hp
  obtain ⟨hd, hl5⟩ := hp
  simp -implicitDefEqProofs [go_sem, Tryz.f261, h1, h2]
  have hres : portB l a p = (decide (numD l = portL a p) || (decide (numD l = 80) && decide (portL a p = 443))) := by unfold portB; rw [if_neg h1, if_neg h2]
  obtain ⟨res, hE⟩ : ∃ x, portB l a p = x := ⟨_, rfl⟩
  rw [hE] at hres ⊢
  refine run_inv _ _ _ _ _ (fun (i : Nat) t h1 => i ≤ l.length ∧ get t 0 = .s l ∧ get t 3 = .p h.length 0 ∧ get t 7 = .i .i64 (numD (l.take i)) ∧ get t 8 = .i .i64 i ∧ hget h1 h.length = ⟨2, true, [.s a, .s b, .s c, .s d, .i .i64 p, .s e, .b q, .s f, .b g, .s k]⟩ ∧ Ext h h1) (fun i => l.length - i) _ (x := 0) ⟨by simp, by simp -implicitDefEqProofs [go_sem], by simp -implicitDefEqProofs [go_sem], by simp -implicitDefEqProofs [go_sem, numD], by simp -implicitDefEqProofs [go_sem], by simp -implicitDefEqProofs [go_sem], by simp -implicitDefEqProofs [go_sem]⟩ ?_
  rintro i t h1 ⟨hi, t0, t3, t7, t8, hg, he⟩ ih
  obtain ⟨n0, n1⟩ := numD_le hd i (by omega) hi
  have hp10 : (10 : Int) ^ i ≤ 100000 := by
    have : i = 0 ∨ i = 1 ∨ i = 2 ∨ i = 3 ∨ i = 4 ∨ i = 5 := by omega
    rcases this with rfl | rfl | rfl | rfl | rfl | rfl <;> decide
  by_cases hlt : i < l.length
  · obtain ⟨x, hc⟩ : ∃ x, l[i] = x := ⟨_, rfl⟩
    have hdx := digit_of hd (hc ▸ List.getElem_mem hlt)
    have hb : digitB x = true := decide_eq_true hdx
    have hn := numD_take l hlt
    rw [hc] at hn
    obtain ⟨n, hne⟩ : ∃ n, numD (l.take i) = n := ⟨_, rfl⟩
    rw [hne] at hn n0 n1 t7
    have c1 : ¬ 1000000 < n := by omega
    have m1 : (x - 48) % 256 = x - 48 := by omega
    simp -implicitDefEqProofs [go_sem, Tryz.f261, t0, t3, t7, t8, hlt, hc, rDigitC, hb, c1, m1]
    refine ih (i + 1) _ _ (by omega) ⟨hlt, ?_⟩
    simp -implicitDefEqProofs [go_sem, t0, t3, t7, t8, hg, he, i64_n (show i < 1152921504606846976 by omega), w64 (x := 10 * n) (by omega), w64 (x := x - 48) (by omega), w64 (x := 10 * n + (x - 48)) (by omega), hn]
  · have e : i = l.length := by omega
    rw [e, List.take_length] at t7
    rw [hres]
    by_cases c1 : numD l = portL a p
    · simp -implicitDefEqProofs [go_sem, Tryz.f261, t0, t3, t7, t8, hlt, hg, rPortC, c1, he]
    · by_cases c2 : numD l = 80
      · have c1' : ¬ 80 = portL a p := c2 ▸ c1
        by_cases c3 : portL a p = 443 <;> simp -implicitDefEqProofs [go_sem, Tryz.f261, t0, t3, t7, t8, hlt, hg, rPortC, c1', c2, c3, he]
      · simp -implicitDefEqProofs [go_sem, Tryz.f261, t0, t3, t7, t8, hlt, hg, rPortC, c1, c2, he]
end GoD

/-! Paths of sources as the document matches them. -/
namespace GoD
open Go Go.Proofs
set_option linter.unusedVariables false
set_option linter.unusedSimpArgs false
set_option maxHeartbeats 4000000
set_option maxRecDepth 100000
/-- are the segments of one the other's first ones, decoded? -/
def segB : List (List Int) → List (List Int) → Bool
  | [], _ => true
  | x :: s, y :: t => decide (decodeL x = decodeL y) && segB s t
  | _ :: _, [] => false
def pathB (p l : List Int) : Bool :=
  if p = [] ∨ (p = [47] ∧ l = []) then true
  else if p.getLast? = some 47 then decide ((splitL 47 p).length ≤ (splitL 47 l).length) && segB (splitL 47 p).dropLast (splitL 47 l)
  else decide ((splitL 47 p).length = (splitL 47 l).length) && segB (splitL 47 p) (splitL 47 l)
theorem segB_drop {a b : List (List Int)} {i : Nat} (h1 : i < a.length) (h2 : i < b.length) : segB (a.drop i) (b.drop i) = (decide (decodeL a[i] = decodeL b[i]) && segB (a.drop (i + 1)) (b.drop (i + 1))) := by
  rw [List.drop_eq_getElem_cons h1, List.drop_eq_getElem_cons h2, segB]
noncomputable def pathLoop : Code := loop1 Tryz.f262
theorem path_loop {P : Ex → Tm → Heap → Prop} {k : List Todo} {x y : List (List Int)} {m b1 b2 : Nat} {h : Heap} (hm : m ≤ x.length) (hm2 : m ≤ y.length) (hml : m ≤ 1048577) (hsx : ∀ p ∈ x, p.length ≤ 1048576) (hsy : ∀ p ∈ y, p.length ≤ 1048576)
    (hx : ∀ t h1, segB (x.take m) y = true → Ext h h1 → RunX (ctx Tryz.prog G0 [(206, rSplitC), (187, rDecodeC)]) P k (.e 0) t h1)
    (hr : ∀ t h1, segB (x.take m) y = false → get t 4 = .b false → Ext h h1 → RunX (ctx Tryz.prog G0 [(206, rSplitC), (187, rDecodeC)]) P k .r t h1)
    {t : Tm} {h1 : Heap} (t5 : get t 5 = .sl b1 0 m 1) (t6 : get t 6 = .sl b2 0 y.length 1) (t8 : get t 8 = .i .i64 0) (g1 : hget h1 b1 = ⟨2, false, sts x⟩) (g2 : hget h1 b2 = ⟨2, false, sts y⟩) (he : Ext h h1) : Run (ctx Tryz.prog G0 [(206, rSplitC), (187, rDecodeC)]) P (.again pathLoop :: k) t h1 := by
  refine run_inv _ _ _ _ _ (fun (i : Nat) t h1 => i ≤ m ∧ get t 5 = .sl b1 0 m 1 ∧ get t 6 = .sl b2 0 y.length 1 ∧ get t 8 = .i .i64 i ∧ hget h1 b1 = ⟨2, false, sts x⟩ ∧ hget h1 b2 = ⟨2, false, sts y⟩ ∧ Ext h h1 ∧ segB ((x.take m).drop i) (y.drop i) = segB (x.take m) y) (fun i => m - i) _ (x := 0) ⟨by simp, t5, t6, t8, g1, g2, he, rfl⟩ ?_
  rintro i t h1 ⟨hi, t5, t6, t8, g1, g2, he, ha⟩ ih
  by_cases hlt : i < m
  · have hix : i < x.length := by omega
    have hiy : i < y.length := by omega
    rw [segB_drop (by simp; omega) hiy, List.getElem_take] at ha
    have l1 := hsx _ (List.getElem_mem hix)
    have l2 := hsy _ (List.getElem_mem hiy)
    have d1 := ldN_s1 hix
    have d2 := ldN_s1 hiy
    obtain ⟨u, hu⟩ : ∃ u, x[i] = u := ⟨_, rfl⟩
    obtain ⟨v, hv⟩ : ∃ v, y[i] = v := ⟨_, rfl⟩
    rw [hu] at d1 l1 ha; rw [hv] at d2 l2 ha
    by_cases c1 : decodeL u = decodeL v
    · rw [decide_eq_true c1, Bool.true_and] at ha
      simp -implicitDefEqProofs [go_sem, pathLoop, loop1, loopC, Tryz.f262, t5, t6, t8, hlt, hiy, g1, g2, d1, d2, rDecodeC, l1, l2, c1]
      refine ih (i + 1) _ _ (by omega) ⟨hlt, ?_⟩
      simp -implicitDefEqProofs [go_sem, t5, t6, t8, g1, g2, he, i64_n (show i < 1152921504606846976 by omega)]
      exact ha
    · rw [decide_eq_false c1, Bool.false_and] at ha
      simp -implicitDefEqProofs [go_sem, pathLoop, loop1, loopC, Tryz.f262, t5, t6, t8, hlt, hiy, g1, g2, d1, d2, rDecodeC, l1, l2, c1]
      exact hr _ _ ha.symm (by simp -implicitDefEqProofs [go_sem]) he
  · have e : (x.take m).drop i = [] := List.drop_eq_nil_of_le (by simp; omega)
    rw [e, segB] at ha
    simp -implicitDefEqProofs [go_sem, pathLoop, loop1, loopC, Tryz.f262, t5, t6, t8, hlt]
    exact hx _ _ ha.symm he
def rPathMatchC : Ct := fun args h => match args with | [.s p, .s l] => if p.length ≤ 1048576 ∧ l.length ≤ 1048576 then some (.b (pathB p l), h) else none | _ => none
theorem rPathMatch_ok : CtOk Tryz.prog G0 262 rPathMatchC := by
  refine ct_plain (n := 2) fol (sound_cons rSplit_ok (sound_cons rDecode_ok sound_nil)) (by kernel_rfl) Tryz.func262 rfl fun args h v h' hc r xs H hr hx => ?_
  unfold rPathMatchC at hc; split at hc <;> (try split at hc) <;> cases hc
  rename_i p l hl
  obtain ⟨hpl, hll⟩ := hl
  refine ⟨rfl, rfl, by simp [renV, bndV, renL, bndL], ?_⟩
  by_cases h1 : p = []
  · simp -implicitDefEqProofs [go_sem, Tryz.f262, h1, pathB]
  by_cases h2 : p = [47] ∧ l = []
  · simp -implicitDefEqProofs [go_sem, Tryz.f262, h2.1, h2.2, pathB]
  obtain ⟨x, hx1⟩ : ∃ x, splitL 47 p = x := ⟨_, rfl⟩
  obtain ⟨y, hy1⟩ : ∃ y, splitL 47 l = y := ⟨_, rfl⟩
  obtain ⟨res, hE⟩ : ∃ v, pathB p l = v := ⟨_, rfl⟩
  have hres := hE
  rw [hE]
  unfold pathB at hres
  rw [hx1, hy1, if_neg (by simp only [not_or]; exact ⟨h1, h2⟩)] at hres
  obtain ⟨n, hn⟩ : ∃ n, p.length = n + 1 := ⟨p.length - 1, by have := List.length_pos_iff.2 h1; omega⟩
  have hn1 : n < p.length := by omega
  obtain ⟨c, hc⟩ : ∃ c, p[n] = c := ⟨_, rfl⟩
  have hlast : p.getLast? = some c := by rw [List.getLast?_eq_getElem?, hn, Nat.add_sub_cancel, List.getElem?_eq_getElem hn1, hc]
  rw [hlast] at hres
  have hnl : (p.length : Int) = (n : Int) + 1 := by omega
  have c4 : (n : Int) < (n : Int) + 1 := by omega
  have hsx : ∀ q ∈ x, q.length ≤ 1048576 := fun q hq => Nat.le_trans (splitL_mem (hx1 ▸ hq)) hpl
  have hsy : ∀ q ∈ y, q.length ≤ 1048576 := fun q hq => Nat.le_trans (splitL_mem (hy1 ▸ hq)) hll
  have hxn : x.length ≤ 1048577 := by have := splitL_len 47 p; rw [hx1] at this; omega
  have hx0 : 0 < x.length := List.length_pos_iff.2 (hx1 ▸ splitL_ne 47 p)
  have h2' : ¬ (p = [47] ∧ l.isEmpty = true) := by simpa using h2
  have emp : ∀ {a : List Int}, ¬ a = [] → a.isEmpty = false := fun {a} h => by cases a with | nil => exact absurd rfl h | cons => rfl
  have hp0 := emp h1
  by_cases e1 : y.length < x.length
  · have : res = false := by
      rw [← hres]
      split
      · rw [decide_eq_false (by omega)]; rfl
      · rw [decide_eq_false (by omega)]; rfl
    subst this
    by_cases e2 : p = [47]
    · have f2 : (p = [47]) = True := eq_true e2
      have f3 : l.isEmpty = false := emp fun e => h2 ⟨e2, e⟩
      simp -implicitDefEqProofs [go_sem, Tryz.f262, rSplitC, hpl, hll, h1, hp0, f2, f3, hx1, hy1, hnl, hn1, c4, hc, e1, w64 (x := (n : Int)) (by omega)]
    · have f2 : ¬ p = [47] := e2
      have f3 : True := trivial
      simp -implicitDefEqProofs [go_sem, Tryz.f262, rSplitC, hpl, hll, h1, hp0, f2, f3, hx1, hy1, hnl, hn1, c4, hc, e1, w64 (x := (n : Int)) (by omega)]
  · have e1' : x.length ≤ y.length := by omega
    have g4 : (1 : Int) ≤ (x.length : Int) := by omega
    have g5 : 1 ≤ x.length := by omega
    have g6 : 0 < x.length := by omega
    have g1 : (0 : Int) ≤ (x.length : Int) - 1 := by omega
    have g2 : (x.length : Int) - 1 ≤ x.length := by omega
    have g3 : ((x.length : Int) - 1).toNat = x.length - 1 := by omega
    by_cases e4 : c = 47
    · rw [if_pos (by rw [e4]), decide_eq_true e1', Bool.true_and, List.dropLast_eq_take] at hres
      by_cases e2 : p = [47]
      · have f2 : (p = [47]) = True := eq_true e2
        have f3 : l.isEmpty = false := emp fun e => h2 ⟨e2, e⟩
        simp -implicitDefEqProofs [go_sem, Tryz.f262, rSplitC, hpl, hll, h1, hp0, f2, f3, hx1, hy1, hnl, hn1, c4, hc, e1, e4, g1, g2, g3, g4, g5, g6, w64 (x := (n : Int)) (by omega), w64 (x := (x.length : Int) - 1) (by omega)]
        refine path_loop (x := x) (y := y) (m := x.length - 1) (h := h) (b1 := h.length) (b2 := h.length + 1) (by omega) (by omega) (by omega) hsx hsy ?_ ?_ (by simp -implicitDefEqProofs [go_sem]) (by simp -implicitDefEqProofs [go_sem]) (by simp -implicitDefEqProofs [go_sem]) (by simp -implicitDefEqProofs [go_sem]) (by simp -implicitDefEqProofs [go_sem]) (by simp -implicitDefEqProofs [go_sem])
        · intro t h1 e he
          rw [e] at hres
          simp -implicitDefEqProofs [go_sem, he, ← hres]
        · intro t h1 e t4 he
          rw [e] at hres
          simp -implicitDefEqProofs [go_sem, t4, he, ← hres]
      · have f2 : ¬ p = [47] := e2
        have f3 : True := trivial
        simp -implicitDefEqProofs [go_sem, Tryz.f262, rSplitC, hpl, hll, h1, hp0, f2, f3, hx1, hy1, hnl, hn1, c4, hc, e1, e4, g1, g2, g3, g4, g5, g6, w64 (x := (n : Int)) (by omega), w64 (x := (x.length : Int) - 1) (by omega)]
        refine path_loop (x := x) (y := y) (m := x.length - 1) (h := h) (b1 := h.length) (b2 := h.length + 1) (by omega) (by omega) (by omega) hsx hsy ?_ ?_ (by simp -implicitDefEqProofs [go_sem]) (by simp -implicitDefEqProofs [go_sem]) (by simp -implicitDefEqProofs [go_sem]) (by simp -implicitDefEqProofs [go_sem]) (by simp -implicitDefEqProofs [go_sem]) (by simp -implicitDefEqProofs [go_sem])
        · intro t h1 e he
          rw [e] at hres
          simp -implicitDefEqProofs [go_sem, he, ← hres]
        · intro t h1 e t4 he
          rw [e] at hres
          simp -implicitDefEqProofs [go_sem, t4, he, ← hres]
    · rw [if_neg (by intro e; exact e4 (Option.some.inj e))] at hres
      by_cases e6 : x.length < y.length
      · rw [decide_eq_false (by omega), Bool.false_and] at hres
        subst hres
        by_cases e2 : p = [47]
        · have f2 : (p = [47]) = True := eq_true e2
          have f3 : l.isEmpty = false := emp fun e => h2 ⟨e2, e⟩
          simp -implicitDefEqProofs [go_sem, Tryz.f262, rSplitC, hpl, hll, h1, hp0, f2, f3, hx1, hy1, hnl, hn1, c4, hc, e1, e4, e6, w64 (x := (n : Int)) (by omega)]
        · have f2 : ¬ p = [47] := e2
          have f3 : True := trivial
          simp -implicitDefEqProofs [go_sem, Tryz.f262, rSplitC, hpl, hll, h1, hp0, f2, f3, hx1, hy1, hnl, hn1, c4, hc, e1, e4, e6, w64 (x := (n : Int)) (by omega)]
      · rw [decide_eq_true (by omega), Bool.true_and] at hres
        by_cases e2 : p = [47]
        · have f2 : (p = [47]) = True := eq_true e2
          have f3 : l.isEmpty = false := emp fun e => h2 ⟨e2, e⟩
          simp -implicitDefEqProofs [go_sem, Tryz.f262, rSplitC, hpl, hll, h1, hp0, f2, f3, hx1, hy1, hnl, hn1, c4, hc, e1, e4, e6, g1, g2, g3, g4, g5, g6, w64 (x := (n : Int)) (by omega), w64 (x := (x.length : Int) - 1) (by omega)]
          refine path_loop (x := x) (y := y) (m := x.length) (h := h) (b1 := h.length) (b2 := h.length + 1) (by omega) (by omega) (by omega) hsx hsy ?_ ?_ (by simp -implicitDefEqProofs [go_sem]) (by simp -implicitDefEqProofs [go_sem]) (by simp -implicitDefEqProofs [go_sem]) (by simp -implicitDefEqProofs [go_sem]) (by simp -implicitDefEqProofs [go_sem]) (by simp -implicitDefEqProofs [go_sem])
          · intro t h1 e he
            rw [List.take_length] at e; rw [e] at hres
            simp -implicitDefEqProofs [go_sem, he, ← hres]
          · intro t h1 e t4 he
            rw [List.take_length] at e; rw [e] at hres
            simp -implicitDefEqProofs [go_sem, t4, he, ← hres]
        · have f2 : ¬ p = [47] := e2
          have f3 : True := trivial
          simp -implicitDefEqProofs [go_sem, Tryz.f262, rSplitC, hpl, hll, h1, hp0, f2, f3, hx1, hy1, hnl, hn1, c4, hc, e1, e4, e6, g1, g2, g3, g4, g5, g6, w64 (x := (n : Int)) (by omega), w64 (x := (x.length : Int) - 1) (by omega)]
          refine path_loop (x := x) (y := y) (m := x.length) (h := h) (b1 := h.length) (b2 := h.length + 1) (by omega) (by omega) (by omega) hsx hsy ?_ ?_ (by simp -implicitDefEqProofs [go_sem]) (by simp -implicitDefEqProofs [go_sem]) (by simp -implicitDefEqProofs [go_sem]) (by simp -implicitDefEqProofs [go_sem]) (by simp -implicitDefEqProofs [go_sem]) (by simp -implicitDefEqProofs [go_sem])
          · intro t h1 e he
            rw [List.take_length] at e; rw [e] at hres
            simp -implicitDefEqProofs [go_sem, he, ← hres]
          · intro t h1 e t4 he
            rw [List.take_length] at e; rw [e] at hres
            simp -implicitDefEqProofs [go_sem, t4, he, ← hres]
end GoD

/-! Labels of host patterns as the document reads them. -/
namespace GoD
open Go Go.Proofs
set_option linter.unusedVariables false
set_option linter.unusedSimpArgs false
set_option maxHeartbeats 4000000
set_option maxRecDepth 100000
def labB (c : Int) : Bool := letterB c || digitB c || decide (c = 45) || decide (c = 95)
/-- how many bytes of a label stand there -/
def labelN : List Int → Nat
  | [] => 0
  | c :: t => if labB c = true then labelN t + 1 else 0
theorem labelN_le : ∀ l, labelN l ≤ l.length
  | [] => by simp [labelN]
  | c :: t => by
    have := labelN_le t
    unfold labelN
    split <;> simp <;> omega
def rLabelC : Ct := fun args h => match args with | [.s l] => some (.i .i64 (labelN l), h) | _ => none
theorem rLabel_ok : CtOk Tryz.prog G0 344 rLabelC := by
  refine ct_plain (n := 1) fol (sound_cons rLetter_ok (sound_cons rDigit_ok sound_nil)) (by kernel_rfl) Tryz.func344 rfl fun args h v h' hc r xs H hr hx => ?_
  unfold rLabelC at hc; split at hc <;> (try split at hc) <;> cases hc
  rename_i l
  obtain ⟨⟨hs, hl⟩, _⟩ := str_of hx
  refine ⟨rfl, rfl, by simp [renV, bndV], ?_⟩
  simp -implicitDefEqProofs [go_sem, Tryz.f344]
  refine run_inv _ _ _ _ _ (fun (i : Nat) t h1 => i ≤ l.length ∧ get t 0 = .s l ∧ get t 3 = .i .i64 i ∧ i + labelN (l.drop i) = labelN l ∧ Ext h h1) (fun i => l.length - i) _ (x := 0) ⟨by simp, rfl, rfl, by simp, Ext.refl h⟩ ?_
  rintro i t h1 ⟨hi, t0, t3, hd, he⟩ ih
  by_cases hlt : i < l.length
  · obtain ⟨d, hc⟩ : ∃ d, l[i] = d := ⟨_, rfl⟩
    rw [List.drop_eq_getElem_cons hlt, hc, labelN] at hd
    cases c1 : labB d with
    | true =>
      rw [c1, if_pos rfl] at hd
      cases d1 : letterB d with
      | true =>
        simp -implicitDefEqProofs [go_sem, Tryz.f344, t0, t3, hlt, hc, rLetterC, rDigitC, d1]
        refine ih (i + 1) _ _ (by omega) ⟨hlt, ?_⟩
        simp -implicitDefEqProofs [go_sem, t0, t3, he, i64_1 hl hlt]
        omega
      | false =>
        cases d2 : digitB d with
        | true =>
          simp -implicitDefEqProofs [go_sem, Tryz.f344, t0, t3, hlt, hc, rLetterC, rDigitC, d1, d2]
          refine ih (i + 1) _ _ (by omega) ⟨hlt, ?_⟩
          simp -implicitDefEqProofs [go_sem, t0, t3, he, i64_1 hl hlt]
          omega
        | false =>
          by_cases d3 : d = 45
          · simp -implicitDefEqProofs [go_sem, Tryz.f344, t0, t3, hlt, hc, rLetterC, rDigitC, d1, d2, eq_true d3]
            refine ih (i + 1) _ _ (by omega) ⟨hlt, ?_⟩
            simp -implicitDefEqProofs [go_sem, t0, t3, he, i64_1 hl hlt]
            omega
          · have d4 : d = 95 := by simpa [labB, d1, d2, d3] using c1
            simp -implicitDefEqProofs [go_sem, Tryz.f344, t0, t3, hlt, hc, rLetterC, rDigitC, d1, d2, d3, eq_true d4]
            refine ih (i + 1) _ _ (by omega) ⟨hlt, ?_⟩
            simp -implicitDefEqProofs [go_sem, t0, t3, he, i64_1 hl hlt]
            omega
    | false =>
      rw [c1, if_neg (by simp)] at hd
      simp only [labB, Bool.or_eq_false_iff, decide_eq_false_iff_not] at c1
      obtain ⟨⟨⟨d1, d2⟩, d3⟩, d4⟩ := c1
      simp -implicitDefEqProofs [go_sem, Tryz.f344, t0, t3, hlt, hc, rLetterC, rDigitC, d1, d2, d3, d4, he]
      omega
  · have e0 : l.drop i = [] := List.drop_eq_nil_of_le (by omega)
    rw [e0, labelN] at hd
    simp -implicitDefEqProofs [go_sem, Tryz.f344, t0, t3, hlt, he]
    omega
/-- how many bytes of labels with points between stand there; 0: none -/
def labelsG : Nat → List Int → Nat
  | 0, _ => 0
  | f + 1, l => if labelN l = 0 then 0 else match l.drop (labelN l) with
    | 46 :: r => if labelsG f r = 0 then 0 else labelN l + 1 + labelsG f r
    | _ => labelN l
def labelsN (l : List Int) : Nat := labelsG (l.length + 1) l
theorem labelsG_fuel : ∀ (f g : Nat) (l : List Int), l.length < f → l.length < g → labelsG f l = labelsG g l
  | 0, _, l, h, _ => by omega
  | _, 0, l, _, h => by omega
  | f + 1, g + 1, l, h1, h2 => by
    rw [labelsG, labelsG]
    split
    · rfl
    · split
      · rename_i r hr
        have : r.length < l.length := by have := congrArg List.length hr; simp at this; omega
        rw [labelsG_fuel f g r (by omega) (by omega)]
      · rfl
theorem labelsN_eq (l : List Int) : labelsN l = if labelN l = 0 then 0 else match l.drop (labelN l) with
    | 46 :: r => if labelsN r = 0 then 0 else labelN l + 1 + labelsN r
    | _ => labelN l := by
  unfold labelsN
  rw [labelsG]
  split
  · rfl
  · split
    · rename_i r hr
      have : r.length < l.length := by have := congrArg List.length hr; simp at this; omega
      rw [labelsG_fuel l.length (r.length + 1) r (by omega) (by omega)]
    · rfl
def tailN (n : Nat) : List Int → Nat
  | c :: r => if c = 46 then (if labelsN r = 0 then 0 else n + 1 + labelsN r) else n
  | [] => n
theorem labelsN_tail (l : List Int) : labelsN l = if labelN l = 0 then 0 else tailN (labelN l) (l.drop (labelN l)) := by
  rw [labelsN_eq]
  split
  · rfl
  · split
    · rename_i r hr
      rw [hr, tailN, if_pos rfl]
    · rename_i h
      match hd : l.drop (labelN l) with
      | [] => rfl
      | c :: r => rw [tailN, if_neg fun e => h r (by rw [hd, e])]
theorem labelsN_pos {n : Nat} {r : List Int} (h : labelN r ≠ 0) : tailN n (46 :: r) = tailN (n + 1 + labelN r) (r.drop (labelN r)) := by
  rw [tailN, if_pos rfl, labelsN_tail, if_neg h]
  match r.drop (labelN r) with
  | [] => simp [tailN, h]
  | c :: q =>
    by_cases h1 : c = 46
    · by_cases h2 : labelsN q = 0
      · simp [tailN, h1, h2]
      · simp [tailN, h1, h2]; omega
    · simp [tailN, h1, h]
def rLabelsC : Ct := fun args h => match args with | [.s l] => some (.i .i64 (labelsN l), h) | _ => none
theorem rLabels_ok : CtOk Tryz.prog G0 302 rLabelsC := by
  refine ct_plain (n := 1) fol (sound_cons rLabel_ok sound_nil) (by kernel_rfl) Tryz.func302 rfl fun args h v h' hc r xs H hr hx => ?_
  unfold rLabelsC at hc; split at hc <;> (try split at hc) <;> cases hc
  rename_i l
  obtain ⟨⟨hs, hl⟩, _⟩ := str_of hx
  refine ⟨rfl, rfl, by simp [renV, bndV], ?_⟩
  obtain ⟨res, hE⟩ : ∃ x, labelsN l = x := ⟨_, rfl⟩
  rw [hE]
  rw [labelsN_tail] at hE
  by_cases h0 : labelN l = 0
  · rw [if_pos h0] at hE
    subst hE
    simp -implicitDefEqProofs [go_sem, Tryz.f302, rLabelC, h0]
  rw [if_neg h0] at hE
  simp -implicitDefEqProofs [go_sem, Tryz.f302, rLabelC, h0]
  refine run_inv _ _ _ _ _ (fun (n : Nat) t h1 => n ≤ l.length ∧ 0 < n ∧ get t 0 = .s l ∧ get t 3 = .i .i64 n ∧ tailN n (l.drop n) = res ∧ Ext h h1) (fun n => l.length - n) _ (x := labelN l) ⟨labelN_le l, by omega, rfl, rfl, hE, Ext.refl h⟩ ?_
  rintro n t h1 ⟨hi, hn0, t0, t3, hd, he⟩ ih
  have hi6 : n < 1152921504606846976 := by omega
  by_cases hlt : n < l.length
  · obtain ⟨d, hc⟩ : ∃ d, l[n] = d := ⟨_, rfl⟩
    have hdr : l.drop n = d :: l.drop (n + 1) := by rw [List.drop_eq_getElem_cons hlt, hc]
    rw [hdr] at hd
    by_cases c1 : d = 46
    · subst c1
      by_cases c2 : labelN (l.drop (n + 1)) = 0
      · rw [tailN, if_pos rfl, labelsN_tail, if_pos c2, if_pos rfl] at hd
        subst hd
        simp -implicitDefEqProofs [go_sem, Tryz.f302, t0, t3, hlt, hc, rLabelC, c2, i64_n hi6, show n + 1 ≤ l.length by omega, he]
      · rw [labelsN_pos c2, List.drop_drop] at hd
        have hle := labelN_le (l.drop (n + 1))
        rw [List.length_drop] at hle
        simp -implicitDefEqProofs [go_sem, Tryz.f302, t0, t3, hlt, hc, rLabelC, c2, i64_n hi6, show n + 1 ≤ l.length by omega]
        refine ih (n + 1 + labelN (l.drop (n + 1))) _ _ (by omega) ⟨by omega, by omega, ?_⟩
        simp -implicitDefEqProofs [go_sem, t0, t3, he, w64 (x := (n : Int) + 1 + labelN (l.drop (n + 1))) (by omega)]
        exact hd
    · rw [tailN, if_neg c1] at hd
      subst hd
      simp -implicitDefEqProofs [go_sem, Tryz.f302, t0, t3, hlt, hc, c1, he]
  · have e0 : l.drop n = [] := List.drop_eq_nil_of_le (by omega)
    rw [e0, tailN] at hd
    subst hd
    simp -implicitDefEqProofs [go_sem, Tryz.f302, t0, t3, hlt, he]
end GoD
