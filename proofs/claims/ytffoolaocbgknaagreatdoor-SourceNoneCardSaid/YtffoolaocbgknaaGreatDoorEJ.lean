import Derived.Test.YtffoolaocbgknaaGreatDoorEI
/-! Ports and origins as the document answers them. -/
namespace GoD
open Go Go.Proofs
set_option linter.unusedVariables false
set_option linter.unusedSimpArgs false
set_option maxHeartbeats 4000000
set_option maxRecDepth 100000
def portL (sch : List Int) (p : Int) : Int := if p = -1 then (defaultL sch).1 else p
def rPortC : Ct := fun args h => match args with | [.agg [.s a, .s b, .s c, .s d, .i .i64 p, .s e, .b q, .s f, .b g, .s k]] => some (.i .i64 (portL a p), h) | _ => none
theorem rPort_ok : CtOk Tryz.prog G0 54 rPortC := by
  refine ct_plain (n := 1) fol (sound_cons rDefault_ok sound_nil) (by kernel_rfl) Tryz.func54 rfl fun args h v h' hc r xs H hr hx => ?_
  unfold rPortC at hc; split at hc <;> (try split at hc) <;> cases hc
  rename_i a b c d p e q f g k
  refine ⟨rfl, rfl, by simp [renV, bndV, renL, bndL], ?_⟩
  by_cases h1 : p = -1
  · simp -implicitDefEqProofs [go_sem, Tryz.f54, h1, portL, rDefaultC]
  · simp -implicitDefEqProofs [go_sem, Tryz.f54, h1, portL, rDefaultC]
def rOfC : Ct := fun args h => match args with | [.agg [.s a, .s b, .s c, .s d, .i .i64 p, .s e, .b q, .s f, .b g, .s k]] => some (.agg [.s a, .s d, .i .i64 (portL a p)], h) | _ => none
theorem rOf_ok : CtOk Tryz.prog G0 56 rOfC := by
  refine ct_plain (n := 1) fol (sound_cons rPort_ok sound_nil) (by kernel_rfl) Tryz.func56 rfl fun args h v h' hc r xs H hr hx => ?_
  unfold rOfC at hc; split at hc <;> (try split at hc) <;> cases hc
  rename_i a b c d p e q f g k
  refine ⟨rfl, rfl, by simp [renV, bndV, renL, bndL], ?_⟩
  simp -implicitDefEqProofs [go_sem, Tryz.f56, rPortC]
/-- how many bytes stand ahead of the first of some -/
def upL (of : List Int) : List Int → Nat
  | [] => 0
  | c :: t => if c ∈ of then 0 else upL of t + 1
theorem upL_le (of : List Int) : ∀ l, upL of l ≤ l.length
  | [] => by simp [upL]
  | c :: t => by
    have := upL_le of t
    unfold upL
    split <;> simp <;> omega
def rUpToC : Ct := fun args h => match args with | [.s l, .s o] => some (.i .i64 (upL o l), h) | _ => none
theorem rUpTo_ok : CtOk Tryz.prog G0 72 rUpToC := by
  refine ct_plain (n := 2) fol (sound_cons rHas_ok sound_nil) (by kernel_rfl) Tryz.func72 rfl fun args h v h' hc r xs H hr hx => ?_
  unfold rUpToC at hc; split at hc <;> (try split at hc) <;> cases hc
  rename_i l o
  obtain ⟨⟨hs, hl⟩, _⟩ := str_of hx
  refine ⟨rfl, rfl, by simp [renV, bndV], ?_⟩
  simp -implicitDefEqProofs [go_sem, Tryz.f72]
  refine run_inv _ _ _ _ _ (fun (i : Nat) t h1 => i ≤ l.length ∧ get t 0 = .s l ∧ get t 1 = .s o ∧ get t 5 = .i .i64 i ∧ i + upL o (l.drop i) = upL o l ∧ Ext h h1) (fun i => l.length - i) _ (x := 0) ⟨by simp, rfl, rfl, rfl, by simp, Ext.refl h⟩ ?_
  rintro i t h1 ⟨hi, t0, t1, t5, hd, he⟩ ih
  by_cases hlt : i < l.length
  · obtain ⟨d, hc⟩ : ∃ d, l[i] = d := ⟨_, rfl⟩
    rw [List.drop_eq_getElem_cons hlt, hc, upL] at hd
    by_cases c1 : d ∈ o
    · rw [if_pos c1] at hd
      simp -implicitDefEqProofs [go_sem, Tryz.f72, t0, t1, t5, hlt, hc, c1, rHasC, he]
      omega
    · rw [if_neg c1] at hd
      simp -implicitDefEqProofs [go_sem, Tryz.f72, t0, t1, t5, hlt, hc, c1, rHasC]
      refine ih (i + 1) _ _ (by omega) ⟨by omega, ?_⟩
      simp -implicitDefEqProofs [go_sem, t0, t1, t5, i64_1 hl hlt, he]
      omega
  · have e0 : l.drop i = [] := List.drop_eq_nil_of_le (by omega)
    rw [e0, upL] at hd
    simp -implicitDefEqProofs [go_sem, Tryz.f72, t0, t1, t5, hlt, he]
    omega
def endsL (l m : List Int) : Bool := decide (m.length ≤ l.length) && decide (l.drop (l.length - m.length) = m)
def rEndsC : Ct := fun args h => match args with | [.s l, .s m] => some (.b (endsL l m), h) | _ => none
theorem rEnds_ok : CtOk Tryz.prog G0 45 rEndsC := by
  refine ct_plain (n := 2) fol sound_nil (by kernel_rfl) Tryz.func45 rfl fun args h v h' hc r xs H hr hx => ?_
  unfold rEndsC at hc; split at hc <;> (try split at hc) <;> cases hc
  rename_i l m
  obtain ⟨⟨hs, hl⟩, _, hx2⟩ := str_of hx
  obtain ⟨⟨_, hm⟩, _⟩ := str_of hx2
  refine ⟨rfl, rfl, by simp [renV, bndV], ?_⟩
  by_cases h1 : m.length ≤ l.length
  · have h2 : (m.length : Int) ≤ l.length := by omega
    have h3 : ((l.length : Int) - m.length).toNat = l.length - m.length := by omega
    have h4 : (0 : Int) ≤ (l.length : Int) - m.length := by omega
    have h5 : (l.length : Int) - m.length ≤ l.length := by omega
    simp -implicitDefEqProofs [go_sem, Tryz.f45, h1, h2, h3, h4, h5, endsL, w64 (x := (l.length : Int) - m.length) (by omega)]
  · simp -implicitDefEqProofs [go_sem, Tryz.f45, h1, endsL]
/-- origins -/
def oNull (a b : List Int) (p : Int) : Bool := decide (a = []) && decide (b = []) && decide (p = 0)
def rOSameC : Ct := fun args h => match args with | [.agg [.s a, .s b, .i .i64 p], .agg [.s c, .s d, .i .i64 q]] => some (.b (decide (a = c) && decide (b = d) && decide (p = q) && !oNull a b p), h) | _ => none
theorem rOSame_ok : CtOk Tryz.prog G0 58 rOSameC := by
  refine ct_plain (n := 2) fol sound_nil (by kernel_rfl) Tryz.func58 rfl fun args h v h' hc r xs H hr hx => ?_
  unfold rOSameC at hc; split at hc <;> (try split at hc) <;> cases hc
  rename_i a b p c d q
  refine ⟨rfl, rfl, by simp [renV, bndV, renL, bndL], ?_⟩
  by_cases h1 : a = c <;> by_cases h2 : b = d <;> by_cases h3 : p = q <;> simp -implicitDefEqProofs [go_sem, Tryz.f58, h1, h2, h3, oNull]
  cases c <;> cases d <;> simp
def normalB (a : List Int) (p : Int) : Bool := (defaultL a).2 && decide ((defaultL a).1 = p)
def rNormalC : Ct := fun args h => match args with | [.agg [.s a, .s b, .i .i64 p]] => some (.b (normalB a p), h) | _ => none
theorem rNormal_ok : CtOk Tryz.prog G0 59 rNormalC := by
  refine ct_plain (n := 1) fol (sound_cons rDefault_ok sound_nil) (by kernel_rfl) Tryz.func59 rfl fun args h v h' hc r xs H hr hx => ?_
  unfold rNormalC at hc; split at hc <;> (try split at hc) <;> cases hc
  rename_i a b p
  refine ⟨rfl, rfl, by simp [renV, bndV, renL, bndL], ?_⟩
  cases h1 : (defaultL a).2 <;> simp -implicitDefEqProofs [go_sem, Tryz.f59, rDefaultC, h1, normalB]
end GoD
