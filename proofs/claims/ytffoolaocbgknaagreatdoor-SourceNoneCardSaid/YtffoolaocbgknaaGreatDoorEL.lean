import Derived.Test.YtffoolaocbgknaaGreatDoorEK
/-! Ports and paths of sources as the document matches them. -/
namespace GoD
open Go Go.Proofs
set_option linter.unusedVariables false
set_option linter.unusedSimpArgs false
set_option maxHeartbeats 4000000
set_option maxRecDepth 100000
/-- digits as a number -/
def numD (l : List Int) : Int := l.foldl (fun n c => 10 * n + (c - 48)) 0
theorem numD_snoc (l : List Int) (c : Int) : numD (l ++ [c]) = 10 * numD l + (c - 48) := by simp [numD]
theorem numD_take (l : List Int) {i : Nat} (h : i < l.length) : numD (l.take (i + 1)) = 10 * numD (l.take i) + (l[i] - 48) := by rw [snoc_take l h, numD_snoc]
def portP (l : List Int) : Bool := l.all digitB && decide (l.length ≤ 5)
theorem digit_of {l : List Int} (h : l.all digitB = true) {c : Int} (hc : c ∈ l) : 48 ≤ c ∧ c ≤ 57 := of_decide_eq_true (List.all_eq_true.1 h c hc)
theorem numD_le {l : List Int} (h : l.all digitB = true) : ∀ i, i ≤ 5 → i ≤ l.length → 0 ≤ numD (l.take i) ∧ numD (l.take i) < 10 ^ i
  | 0, _, _ => by simp [numD]
  | i + 1, h1, h2 => by
    have ih := numD_le h i (by omega) (by omega)
    have hd := digit_of h (List.getElem_mem (show i < l.length by omega))
    rw [numD_take l (by omega), Int.pow_succ]
    omega
def portB (l sch : List Int) (p : Int) : Bool := if l = [] then (defaultL sch).2 && decide (portL sch p = (defaultL sch).1) else if l = [42] then true else decide (numD l = portL sch p) || (decide (numD l = 80) && decide (portL sch p = 443))
def rPortMatchC : Ct := fun args h => match args with | [.s l, .agg [.s a, .s b, .s c, .s d, .i .i64 p, .s e, .b q, .s f, .b g, .s k]] => if l = [] ∨ l = [42] ∨ portP l = true then some (.b (portB l a p), h) else none | _ => none
theorem rPortMatch_ok : CtOk Tryz.prog G0 21 rPortMatchC := by
  refine ct_plain (n := 2) fol (sound_cons rDefault_ok (sound_cons rPort_ok (sound_cons rDigit_ok sound_nil))) (by kernel_rfl) Tryz.func21 rfl fun args h v h' hc r xs H hr hx => ?_
  unfold rPortMatchC at hc; split at hc <;> (try split at hc) <;> cases hc
  rename_i l a b c d p e q f g k hl
  obtain ⟨⟨hs, hll⟩, _⟩ := str_of hx
  refine ⟨rfl, rfl, by simp [renV, bndV, renL, bndL], ?_⟩
  by_cases h1 : l = []
  · cases h2 : (defaultL a).2 <;> simp -implicitDefEqProofs [go_sem, Tryz.f21, rDefaultC, rPortC, h1, h2, portB]
  by_cases h2 : l = [42]
  · simp -implicitDefEqProofs [go_sem, Tryz.f21, h1, h2, portB]
  have hp := (hl.resolve_left h1).resolve_left h2
  unfold portP at hp
  simp only [Bool.and_eq_true, decide_eq_true_eq] at hp
  obtain ⟨hd, hl5⟩ := hp
  simp -implicitDefEqProofs [go_sem, Tryz.f21, h1, h2]
  have hres : portB l a p = (decide (numD l = portL a p) || (decide (numD l = 80) && decide (portL a p = 443))) := by unfold portB; rw [if_neg h1, if_neg h2]
  obtain ⟨res, hE⟩ : ∃ x, portB l a p = x := ⟨_, rfl⟩
  rw [hE] at hres ⊢
  refine run_inv _ _ _ _ _ (fun (i : Nat) t h1 => i ≤ l.length ∧ get t 0 = .s l ∧ get t 3 = .p h.length 0 ∧ get t 7 = .i .i64 (numD (l.take i)) ∧ get t 8 = .i .i64 i ∧ hget h1 h.length = ⟨2, true, [.s a, .s b, .s c, .s d, .i .i64 p, .s e, .b q, .s f, .b g, .s k]⟩ ∧ Ext h h1) (fun i => l.length - i) _ (x := 0) ⟨by simp, by simp -implicitDefEqProofs [go_sem], by simp -implicitDefEqProofs [go_sem], by simp -implicitDefEqProofs [go_sem, numD], by simp -implicitDefEqProofs [go_sem], by simp -implicitDefEqProofs [go_sem], by simp -implicitDefEqProofs [go_sem]⟩ ?_
  rintro i t h1 ⟨hi, t0, t3, t7, t8, hg, he⟩ ih
  obtain ⟨n0, n1⟩ := numD_le hd i (by omega) hi
  have hp10 : (10 : Int) ^ i ≤ 100000 := by
    have : i = 0 ∨ i = 1 ∨ i = 2 ∨ i = 3 ∨ i = 4 ∨ i = 5 := by omega
    rcases this with rfl | rfl | rfl | rfl | rfl | rfl <;> decide
  by_cases hlt : i < l.length
  · obtain ⟨x, hc⟩ : ∃ x, l[i] = x := ⟨_, rfl⟩
    have hdx := digit_of hd (hc ▸ List.getElem_mem hlt)
    have hb : digitB x = true := decide_eq_true hdx
    have hn := numD_take l hlt
    rw [hc] at hn
    obtain ⟨n, hne⟩ : ∃ n, numD (l.take i) = n := ⟨_, rfl⟩
    rw [hne] at hn n0 n1 t7
    have c1 : ¬ 1000000 < n := by omega
    have m1 : (x - 48) % 256 = x - 48 := by omega
    simp -implicitDefEqProofs [go_sem, Tryz.f21, t0, t3, t7, t8, hlt, hc, rDigitC, hb, c1, m1]
    refine ih (i + 1) _ _ (by omega) ⟨hlt, ?_⟩
    simp -implicitDefEqProofs [go_sem, t0, t3, t7, t8, hg, he, i64_n (show i < 1152921504606846976 by omega), w64 (x := 10 * n) (by omega), w64 (x := x - 48) (by omega), w64 (x := 10 * n + (x - 48)) (by omega), hn]
  · have e : i = l.length := by omega
    rw [e, List.take_length] at t7
    rw [hres]
    by_cases c1 : numD l = portL a p
    · simp -implicitDefEqProofs [go_sem, Tryz.f21, t0, t3, t7, t8, hlt, hg, rPortC, c1, he]
    · by_cases c2 : numD l = 80
      · have c1' : ¬ 80 = portL a p := c2 ▸ c1
        by_cases c3 : portL a p = 443 <;> simp -implicitDefEqProofs [go_sem, Tryz.f21, t0, t3, t7, t8, hlt, hg, rPortC, c1', c2, c3, he]
      · simp -implicitDefEqProofs [go_sem, Tryz.f21, t0, t3, t7, t8, hlt, hg, rPortC, c1, c2, he]
end GoD
