import Derived.Test.YtknkokkgefcdbaaDoorPA
/-! Bytes, percents and ends of texts as the program answers them. -/
namespace GoD
open Go Go.Proofs
set_option linter.unusedVariables false
set_option linter.unusedSimpArgs false
set_option maxHeartbeats 4000000
set_option maxRecDepth 100000
def pLetterC : Ct := fun args h => match args with | [.i .u8 c] => some (.b (letterB c), h) | _ => none
def pDigitC : Ct := fun args h => match args with | [.i .u8 c] => some (.b (digitB c), h) | _ => none
def pSchemedC : Ct := fun args h => match args with | [.i .u8 c] => some (.b (schB c), h) | _ => none
def pLabelledC : Ct := fun args h => match args with | [.i .u8 c] => some (.b (labB c), h) | _ => none
theorem idxL_neg (c : Int) (l : List Int) : decide (idxL c l < 0) = !decide (c ∈ l) := by
  have h1 := idxL_ge c l
  have h2 := idxL_count c l
  by_cases h : c ∈ l
  · have : ¬ idxL c l = -1 := fun e => by rw [h2, List.count_eq_zero] at e; exact e h
    rw [decide_eq_true h, decide_eq_false (by omega)]; rfl
  · have : idxL c l = -1 := by rw [h2, List.count_eq_zero]; exact h
    rw [decide_eq_false h, this]; rfl
def pPathedC : Ct := fun args h => match args with | [.i .u8 c] => some (.b (pathC c), h) | _ => none
def hexT : List Int := [48, 49, 50, 51, 52, 53, 54, 55, 56, 57, 65, 66, 67, 68, 69, 70]
theorem hexIdx {c : Int} (h : 0 ≤ c ∧ c < 256) : idxL (if 97 ≤ c ∧ c ≤ 102 then c - 32 else c) hexT = hexv c := by
  have key : ∀ n : Nat, n < 256 → idxL (if 97 ≤ (n : Int) ∧ (n : Int) ≤ 102 then (n : Int) - 32 else n) hexT = hexv n := by decide +kernel
  have := key c.toNat (by omega)
  rwa [Int.toNat_of_nonneg h.1] at this
theorem or16 {a b : Int} (ha : 0 ≤ a ∧ a ≤ 15) (hb : 0 ≤ b ∧ b ≤ 15) : Go.bits .or .i64 (16 * a) b = 16 * a + b := by
  have key : ∀ n : Nat, n < 16 → ∀ m : Nat, m < 16 → Go.bits .or .i64 (16 * (n : Int)) m = 16 * (n : Int) + m := by decide +kernel
  have := key a.toNat (by omega) b.toNat (by omega)
  rwa [Int.toNat_of_nonneg ha.1, Int.toNat_of_nonneg hb.1] at this
def pHexDC : Ct := fun args h => match args with | [.i .u8 c] => some (.i .i64 (hexv c), h) | _ => none
def pDecodeC : Ct := fun args h => match args with | [.s l] => if l.length ≤ 1048576 then some (.s (decodeL l), h) else none | _ => none
def pPctSameC : Ct := fun args h => match args with | [.s l, .s m] => if l.length ≤ 1048576 ∧ m.length ≤ 1048576 then some (.b (decide (decodeL l = decodeL m)), h) else none | _ => none
def headB (l m : List Int) : Bool := decide (m.length ≤ l.length) && decide (l.take m.length = m)
def pHasPre1C : Ct := fun args h => match args with | [.s l, .s m] => some (.b (headB l m), h) | _ => none
def pHasPreC : Ct := fun args h => match args with | [.s l, .s m] => some (.b (headB l m), h) | _ => none
def pHasSuf1C : Ct := fun args h => match args with | [.s l, .s m] => some (.b (endsL l m), h) | _ => none
theorem pHasSuf1_ok : CtOk Tryd.prog G0 69 pHasSuf1C := by
  refine ct_plain (n := 2) fol sound_nil (by kernel_rfl) Tryd.func69 rfl fun args h v h' hc r xs H hr hx => ?_
  unfold pHasSuf1C at hc; split at hc <;> (try split at hc) <;> cases hc
  rename_i l m
  obtain ⟨⟨hs, hl⟩, _, hx2⟩ := str_of hx
  obtain ⟨⟨_, hm⟩, _⟩ := str_of hx2
  refine ⟨rfl, rfl, by simp [renV, bndV], ?_⟩
  by_cases h1 : m.length ≤ l.length
  · have h2 : (m.length : Int) ≤ l.length := by omega
    have h3 : ((l.length : Int) - m.length).toNat = l.length - m.length := by omega
    have h4 : (0 : Int) ≤ (l.length : Int) - m.length := by omega
    have h5 : (l.length : Int) - m.length ≤ l.length := by omega
    simp -implicitDefEqProofs [go_sem, Tryd.f69, h1, h2, h3, h4, h5, endsL, w64 (x := (l.length : Int) - m.length) (by omega)]
  · simp -implicitDefEqProofs [go_sem, Tryd.f69, h1, endsL]
def pHasSufC : Ct := fun args h => match args with | [.s l, .s m] => some (.b (endsL l m), h) | _ => none
theorem pHasSuf_ok : CtOk Tryd.prog G0 59 pHasSufC := by
  refine ct_plain (n := 2) fol (sound_cons pHasSuf1_ok sound_nil) (by kernel_rfl) Tryd.func59 rfl fun args h v h' hc r xs H hr hx => ?_
  unfold pHasSufC at hc; split at hc <;> (try split at hc) <;> cases hc
  rename_i l m
  refine ⟨rfl, rfl, by simp [renV, bndV], ?_⟩
  simp -implicitDefEqProofs [go_sem, Tryd.f59, pHasSuf1C]
def cutP (l m : List Int) : V := if headB l m = true then .tup [.s (l.drop m.length), .b true] else .tup [.s l, .b false]
theorem cutP_flat (l m : List Int) (k : Nat) : renV id (cutP l m) = cutP l m ∧ bndV k (cutP l m) := by unfold cutP; split <;> simp [renV, bndV, renL, bndL]
theorem headB_le {l m : List Int} (h : headB l m = true) : m.length ≤ l.length := by
  unfold headB at h
  by_cases h1 : m.length ≤ l.length
  · exact h1
  · rw [decide_eq_false h1] at h; cases h
def pCutPre1C : Ct := fun args h => match args with | [.s l, .s m] => some (cutP l m, h) | _ => none
def pCutPreC : Ct := fun args h => match args with | [.s l, .s m] => some (cutP l m, h) | _ => none
end GoD
