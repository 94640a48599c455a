import Derived.Test.YtbiijfgimoelkaaGreatDoorEH
/-! Hosts as the document answers them. -/
namespace GoD
open Go Go.Proofs
set_option linter.unusedVariables false
set_option linter.unusedSimpArgs false
set_option maxHeartbeats 4000000
set_option maxRecDepth 100000
def hostV : Option (List Int) → V
  | none => .tup [.s [], .i .i64 8]
  | some x => .tup [.s x, .i .i64 0]
theorem hostV_flat (o : Option (List Int)) (m : Nat) : renV id (hostV o) = hostV o ∧ bndV m (hostV o) := by cases o <;> simp [hostV, renV, bndV, renL, bndL]
def rHostC : Ct := fun args h => match args with | [.s l] => if l.length ≤ 1048576 then some (hostV (hostL l), h) else none | _ => none
theorem forbB_iff (c : Int) : forbB c = (decide (c ≤ 32) || decide (127 ≤ c) || decide (c ∈ [35, 37, 47, 58, 60, 62, 63, 64, 91, 92, 93, 94, 124])) := by unfold forbB; rw [List.contains_eq_mem]
theorem rHost_ok : CtOk Tryz.prog G0 84 rHostC := by
  refine ct_plain (n := 1) fol (sound_cons rDecode_ok (sound_cons rLower_ok (sound_cons rHas_ok (sound_cons rNumeric_ok (sound_cons rNumber_ok (sound_cons rAddress_ok sound_nil)))))) (by kernel_rfl) Tryz.func84 rfl fun args h v h' hc r xs H hr hx => ?_
  unfold rHostC at hc; split at hc <;> (try split at hc) <;> cases hc
  rename_i l hl
  refine ⟨rfl, rfl, hostV_flat _ _, ?_⟩
  obtain ⟨d, hd⟩ : ∃ d, lowerL (decodeL l) = d := ⟨_, rfl⟩
  have hl2 : (decodeL l).length ≤ 1048576 := Nat.le_trans (decodeL_len l) hl
  have hdl : d.length ≤ 1048576 := by rw [← hd]; simpa [lowerL] using hl2
  have hdl' : d.length ≤ 281474976710656 := by omega
  by_cases h0 : d = []
  · have : hostL l = none := by unfold hostL; rw [hd, if_pos (.inl h0)]
    rw [this]
    simp -implicitDefEqProofs [go_sem, Tryz.f84, rDecodeC, rLowerC, hl, hl2, hd, h0, hostV]
  · have hres : hostL l = if d.any forbB = true then none else if numericB ((partsL d).getLastD []) then (numberL d).map textL else some d := by
      unfold hostL; rw [hd]
      by_cases h1 : d.any forbB = true
      · rw [if_pos (.inr h1), if_pos h1]
      · rw [if_neg (by simp only [not_or]; exact ⟨h0, h1⟩), if_neg h1]
    obtain ⟨res, hE⟩ : ∃ x, hostL l = x := ⟨_, rfl⟩
    rw [hE] at hres ⊢
    simp -implicitDefEqProofs [go_sem, Tryz.f84, rDecodeC, rLowerC, hl, hl2, hd, h0]
    refine run_inv _ _ _ _ _ (fun (i : Nat) t h1 => i ≤ d.length ∧ get t 4 = .s d ∧ get t 5 = .i .i64 i ∧ (d.drop i).any forbB = d.any forbB ∧ Ext h h1) (fun i => d.length - i) _ (x := 0) ⟨by simp, by simp -implicitDefEqProofs [go_sem], by simp -implicitDefEqProofs [go_sem], rfl, Ext.refl h⟩ ?_
    rintro i t h1 ⟨hi, t4, t5, ha, he⟩ ih
    by_cases hlt : i < d.length
    · obtain ⟨c, hc⟩ : ∃ c, d[i] = c := ⟨_, rfl⟩
      rw [List.drop_eq_getElem_cons hlt, hc, List.any_cons, forbB_iff] at ha
      by_cases c1 : c ≤ 32
      · rw [decide_eq_true c1] at ha
        have hf : d.any forbB = true := by rw [← ha]; simp
        rw [if_pos hf] at hres; subst hres
        simp -implicitDefEqProofs [go_sem, Tryz.f84, t4, t5, hlt, hc, c1, he, hostV]
      · by_cases c2 : 127 ≤ c
        · rw [decide_eq_true c2] at ha
          have hf : d.any forbB = true := by rw [← ha]; simp
          rw [if_pos hf] at hres; subst hres
          simp -implicitDefEqProofs [go_sem, Tryz.f84, t4, t5, hlt, hc, c1, c2, he, hostV]
        · by_cases c3 : c ∈ [35, 37, 47, 58, 60, 62, 63, 64, 91, 92, 93, 94, 124]
          · rw [decide_eq_true c3] at ha
            have hf : d.any forbB = true := by rw [← ha]; simp
            rw [if_pos hf] at hres; subst hres
            have c3' : decide (c ∈ [35, 37, 47, 58, 60, 62, 63, 64, 91, 92, 93, 94, 124]) = true := decide_eq_true c3
            simp -implicitDefEqProofs [go_sem, Tryz.f84, t4, t5, hlt, hc, c1, c2, he, hostV, rHasC, -List.mem_cons, c3]
          · rw [decide_eq_false c1, decide_eq_false c2, decide_eq_false c3, Bool.false_or, Bool.false_or] at ha
            simp -implicitDefEqProofs [go_sem, Tryz.f84, t4, t5, hlt, hc, c1, c2, rHasC, -List.mem_cons, c3]
            refine ih (i + 1) _ _ (by omega) ⟨by omega, ?_⟩
            simp -implicitDefEqProofs [go_sem, t4, t5, i64_1 hdl' hlt, he, -List.any_eq_true]
            exact ha
    · have e0 : d.drop i = [] := List.drop_eq_nil_of_le (by omega)
      rw [e0] at ha
      have hf : d.any forbB = false := ha.symm
      rw [hf, if_neg (by simp)] at hres
      cases hnb : numericB ((partsL d).getLastD []) with
      | false =>
        rw [hnb] at hres; simp at hres; subst hres
        simp -implicitDefEqProofs [go_sem, Tryz.f84, t4, t5, hlt, rNumericC, hdl, hnb, hostV, he, -List.getLastD_eq_getLast?]
      | true =>
        cases hn : numberL d with
        | none =>
          rw [hnb, hn] at hres; simp at hres; subst hres
          simp -implicitDefEqProofs [go_sem, Tryz.f84, t4, t5, hlt, rNumericC, rNumberC, hdl, hnb, hn, okV, hostV, he, -List.getLastD_eq_getLast?]
        | some n =>
          rw [hnb, hn] at hres; simp at hres; subst hres
          simp -implicitDefEqProofs [go_sem, Tryz.f84, t4, t5, hlt, rNumericC, rNumberC, rAddressC, hdl, hnb, hn, okV, hostV, he, -List.getLastD_eq_getLast?]
end GoD

/-! Ports and origins as the document answers them. -/
namespace GoD
open Go Go.Proofs
set_option linter.unusedVariables false
set_option linter.unusedSimpArgs false
set_option maxHeartbeats 4000000
set_option maxRecDepth 100000
def portL (sch : List Int) (p : Int) : Int := if p = -1 then (defaultL sch).1 else p
def rPortC : Ct := fun args h => match args with | [.agg [.s a, .s b, .s c, .s d, .i .i64 p, .s e, .b q, .s f, .b g, .s k]] => some (.i .i64 (portL a p), h) | _ => none
theorem rPort_ok : CtOk Tryz.prog G0 35 rPortC := by
  refine ct_plain (n := 1) fol (sound_cons rDefault_ok sound_nil) (by kernel_rfl) Tryz.func35 rfl fun args h v h' hc r xs H hr hx => ?_
  unfold rPortC at hc; split at hc <;> (try split at hc) <;> cases hc
  rename_i a b c d p e q f g k
  refine ⟨rfl, rfl, by simp [renV, bndV, renL, bndL], ?_⟩
  by_cases h1 : p = -1
  · simp -implicitDefEqProofs [go_sem, Tryz.f35, h1, portL, rDefaultC]
  · simp -implicitDefEqProofs [go_sem, Tryz.f35, h1, portL, rDefaultC]
def rOfC : Ct := fun args h => match args with | [.agg [.s a, .s b, .s c, .s d, .i .i64 p, .s e, .b q, .s f, .b g, .s k]] => some (.agg [.s a, .s d, .i .i64 (portL a p)], h) | _ => none
theorem rOf_ok : CtOk Tryz.prog G0 15 rOfC := by
  refine ct_plain (n := 1) fol (sound_cons rPort_ok sound_nil) (by kernel_rfl) Tryz.func15 rfl fun args h v h' hc r xs H hr hx => ?_
  unfold rOfC at hc; split at hc <;> (try split at hc) <;> cases hc
  rename_i a b c d p e q f g k
  refine ⟨rfl, rfl, by simp [renV, bndV, renL, bndL], ?_⟩
  simp -implicitDefEqProofs [go_sem, Tryz.f15, rPortC]
/-- how many bytes stand ahead of the first of some -/
def upL (of : List Int) : List Int → Nat
  | [] => 0
  | c :: t => if c ∈ of then 0 else upL of t + 1
theorem upL_le (of : List Int) : ∀ l, upL of l ≤ l.length
  | [] => by simp [upL]
  | c :: t => by
    have := upL_le of t
    unfold upL
    split <;> simp <;> omega
def rUpToC : Ct := fun args h => match args with | [.s l, .s o] => some (.i .i64 (upL o l), h) | _ => none
theorem rUpTo_ok : CtOk Tryz.prog G0 53 rUpToC := by
  refine ct_plain (n := 2) fol (sound_cons rHas_ok sound_nil) (by kernel_rfl) Tryz.func53 rfl fun args h v h' hc r xs H hr hx => ?_
  unfold rUpToC at hc; split at hc <;> (try split at hc) <;> cases hc
  rename_i l o
  obtain ⟨⟨hs, hl⟩, _⟩ := str_of hx
  refine ⟨rfl, rfl, by simp [renV, bndV], ?_⟩
  simp -implicitDefEqProofs [go_sem, Tryz.f53]
  refine run_inv _ _ _ _ _ (fun (i : Nat) t h1 => i ≤ l.length ∧ get t 0 = .s l ∧ get t 1 = .s o ∧ get t 5 = .i .i64 i ∧ i + upL o (l.drop i) = upL o l ∧ Ext h h1) (fun i => l.length - i) _ (x := 0) ⟨by simp, rfl, rfl, rfl, by simp, Ext.refl h⟩ ?_
  rintro i t h1 ⟨hi, t0, t1, t5, hd, he⟩ ih
  by_cases hlt : i < l.length
  · obtain ⟨d, hc⟩ : ∃ d, l[i] = d := ⟨_, rfl⟩
    rw [List.drop_eq_getElem_cons hlt, hc, upL] at hd
    by_cases c1 : d ∈ o
    · rw [if_pos c1] at hd
      simp -implicitDefEqProofs [go_sem, Tryz.f53, t0, t1, t5, hlt, hc, c1, rHasC, he]
      omega
    · rw [if_neg c1] at hd
      simp -implicitDefEqProofs [go_sem, Tryz.f53, t0, t1, t5, hlt, hc, c1, rHasC]
      refine ih (i + 1) _ _ (by omega) ⟨by omega, ?_⟩
      simp -implicitDefEqProofs [go_sem, t0, t1, t5, i64_1 hl hlt, he]
      omega
  · have e0 : l.drop i = [] := List.drop_eq_nil_of_le (by omega)
    rw [e0, upL] at hd
    simp -implicitDefEqProofs [go_sem, Tryz.f53, t0, t1, t5, hlt, he]
    omega
def endsL (l m : List Int) : Bool := decide (m.length ≤ l.length) && decide (l.drop (l.length - m.length) = m)
def rEndsC : Ct := fun args h => match args with | [.s l, .s m] => some (.b (endsL l m), h) | _ => none
theorem rEnds_ok : CtOk Tryz.prog G0 58 rEndsC := by
  refine ct_plain (n := 2) fol sound_nil (by kernel_rfl) Tryz.func58 rfl fun args h v h' hc r xs H hr hx => ?_
  unfold rEndsC at hc; split at hc <;> (try split at hc) <;> cases hc
  rename_i l m
  obtain ⟨⟨hs, hl⟩, _, hx2⟩ := str_of hx
  obtain ⟨⟨_, hm⟩, _⟩ := str_of hx2
  refine ⟨rfl, rfl, by simp [renV, bndV], ?_⟩
  by_cases h1 : m.length ≤ l.length
  · have h2 : (m.length : Int) ≤ l.length := by omega
    have h3 : ((l.length : Int) - m.length).toNat = l.length - m.length := by omega
    have h4 : (0 : Int) ≤ (l.length : Int) - m.length := by omega
    have h5 : (l.length : Int) - m.length ≤ l.length := by omega
    simp -implicitDefEqProofs [go_sem, Tryz.f58, h1, h2, h3, h4, h5, endsL, w64 (x := (l.length : Int) - m.length) (by omega)]
  · simp -implicitDefEqProofs [go_sem, Tryz.f58, h1, endsL]
/-- origins -/
def oNull (a b : List Int) (p : Int) : Bool := decide (a = []) && decide (b = []) && decide (p = 0)
def rOSameC : Ct := fun args h => match args with | [.agg [.s a, .s b, .i .i64 p], .agg [.s c, .s d, .i .i64 q]] => some (.b (decide (a = c) && decide (b = d) && decide (p = q) && !oNull a b p), h) | _ => none
theorem rOSame_ok : CtOk Tryz.prog G0 21 rOSameC := by
  refine ct_plain (n := 2) fol sound_nil (by kernel_rfl) Tryz.func21 rfl fun args h v h' hc r xs H hr hx => ?_
  unfold rOSameC at hc; split at hc <;> (try split at hc) <;> cases hc
  rename_i a b p c d q
  refine ⟨rfl, rfl, by simp [renV, bndV, renL, bndL], ?_⟩
  by_cases h1 : a = c <;> by_cases h2 : b = d <;> by_cases h3 : p = q <;> simp -implicitDefEqProofs [go_sem, Tryz.f21, h1, h2, h3, oNull]
  cases c <;> cases d <;> simp
def normalB (a : List Int) (p : Int) : Bool := (defaultL a).2 && decide ((defaultL a).1 = p)
def rNormalC : Ct := fun args h => match args with | [.agg [.s a, .s b, .i .i64 p]] => some (.b (normalB a p), h) | _ => none
end GoD

/-! Schemes, hosts, ports, paths of sources as the document matches them. -/
namespace GoD
open Go Go.Proofs
set_option linter.unusedVariables false
set_option linter.unusedSimpArgs false
set_option maxHeartbeats 4000000
set_option maxRecDepth 100000
def schemeB (a b : List Int) : Bool := decide (a = b) || (decide (a = [104, 116, 116, 112]) && decide (b = [104, 116, 116, 112, 115])) || (decide (a = [119, 115]) && (decide (b = [119, 115, 115]) || decide (b = [104, 116, 116, 112]) || decide (b = [104, 116, 116, 112, 115]))) || (decide (a = [119, 115, 115]) && decide (b = [104, 116, 116, 112, 115]))
def rSchemeMatchC : Ct := fun args h => match args with | [.s a, .s b] => some (.b (schemeB a b), h) | _ => none
def starB (p : List Int) : Bool := decide (p.take 2 = [42, 46])
def hostB (p l : List Int) : Bool := if l = [] then false else if p = [42] then true else if starB p = true then (addrL l).isNone && decide (p.length ≤ l.length) && endsL l (p.drop 1) else decide (p = l) && ((addrL l).isNone || decide (l = [49, 50, 55, 46, 48, 46, 48, 46, 49]))
theorem okV_2 (o : Option Int) : (okV o).2 = !o.isNone := by cases o <;> rfl
def rHostMatchC : Ct := fun args h => match args with | [.s p, .s l] => if l.length ≤ 1048576 then some (.b (hostB p l), h) else none | _ => none
end GoD

/-! Ports and paths of sources as the document matches them. -/
namespace GoD
open Go Go.Proofs
set_option linter.unusedVariables false
set_option linter.unusedSimpArgs false
set_option maxHeartbeats 4000000
set_option maxRecDepth 100000
/-- digits as a number -/
def numD (l : List Int) : Int := l.foldl (fun n c => 10 * n + (c - 48)) 0
theorem numD_snoc (l : List Int) (c : Int) : numD (l ++ [c]) = 10 * numD l + (c - 48) := by simp [numD]
theorem numD_take (l : List Int) {i : Nat} (h : i < l.length) : numD (l.take (i + 1)) = 10 * numD (l.take i) + (l[i] - 48) := by rw [snoc_take l h, numD_snoc]
def portP (l : List Int) : Bool := l.all digitB && decide (l.length ≤ 5)
theorem digit_of {l : List Int} (h : l.all digitB = true) {c : Int} (hc : c ∈ l) : 48 ≤ c ∧ c ≤ 57 := of_decide_eq_true (List.all_eq_true.1 h c hc)
theorem numD_le {l : List Int} (h : l.all digitB = true) : ∀ i, i ≤ 5 → i ≤ l.length → 0 ≤ numD (l.take i) ∧ numD (l.take i) < 10 ^ i
  | 0, _, _ => by simp [numD]
  | i + 1, h1, h2 => by
    have ih := numD_le h i (by omega) (by omega)
    have hd := digit_of h (List.getElem_mem (show i < l.length by omega))
    rw [numD_take l (by omega), Int.pow_succ]
    omega
def portB (l sch : List Int) (p : Int) : Bool := if l = [] then (defaultL sch).2 && decide (portL sch p = (defaultL sch).1) else if l = [42] then true else decide (numD l = portL sch p) || (decide (numD l = 80) && decide (portL sch p = 443))
def rPortMatchC : Ct := fun args h => match args with | [.s l, .agg [.s a, .s b, .s c, .s d, .i .i64 p, .s e, .b q, .s f, .b g, .s k]] => if l = [] ∨ l = [42] ∨ portP l = true then some (.b (portB l a p), h) else none | _ => none
end GoD

/-! Paths of sources as the document matches them. -/
namespace GoD
open Go Go.Proofs
set_option linter.unusedVariables false
set_option linter.unusedSimpArgs false
set_option maxHeartbeats 4000000
set_option maxRecDepth 100000
/-- are the segments of one the other's first ones, decoded? -/
def segB : List (List Int) → List (List Int) → Bool
  | [], _ => true
  | x :: s, y :: t => decide (decodeL x = decodeL y) && segB s t
  | _ :: _, [] => false
def pathB (p l : List Int) : Bool :=
  if p = [] ∨ (p = [47] ∧ l = []) then true
  else if p.getLast? = some 47 then decide ((splitL 47 p).length ≤ (splitL 47 l).length) && segB (splitL 47 p).dropLast (splitL 47 l)
  else decide ((splitL 47 p).length = (splitL 47 l).length) && segB (splitL 47 p) (splitL 47 l)
theorem segB_drop {a b : List (List Int)} {i : Nat} (h1 : i < a.length) (h2 : i < b.length) : segB (a.drop i) (b.drop i) = (decide (decodeL a[i] = decodeL b[i]) && segB (a.drop (i + 1)) (b.drop (i + 1))) := by
  rw [List.drop_eq_getElem_cons h1, List.drop_eq_getElem_cons h2, segB]
def rPathMatchC : Ct := fun args h => match args with | [.s p, .s l] => if p.length ≤ 1048576 ∧ l.length ≤ 1048576 then some (.b (pathB p l), h) else none | _ => none
end GoD

/-! Labels of host patterns as the document reads them. -/
namespace GoD
open Go Go.Proofs
set_option linter.unusedVariables false
set_option linter.unusedSimpArgs false
set_option maxHeartbeats 4000000
set_option maxRecDepth 100000
def labB (c : Int) : Bool := letterB c || digitB c || decide (c = 45) || decide (c = 95)
/-- how many bytes of a label stand there -/
def labelN : List Int → Nat
  | [] => 0
  | c :: t => if labB c = true then labelN t + 1 else 0
theorem labelN_le : ∀ l, labelN l ≤ l.length
  | [] => by simp [labelN]
  | c :: t => by
    have := labelN_le t
    unfold labelN
    split <;> simp <;> omega
def rLabelC : Ct := fun args h => match args with | [.s l] => some (.i .i64 (labelN l), h) | _ => none
/-- how many bytes of labels with points between stand there; 0: none -/
def labelsG : Nat → List Int → Nat
  | 0, _ => 0
  | f + 1, l => if labelN l = 0 then 0 else match l.drop (labelN l) with
    | 46 :: r => if labelsG f r = 0 then 0 else labelN l + 1 + labelsG f r
    | _ => labelN l
def labelsN (l : List Int) : Nat := labelsG (l.length + 1) l
theorem labelsG_fuel : ∀ (f g : Nat) (l : List Int), l.length < f → l.length < g → labelsG f l = labelsG g l
  | 0, _, l, h, _ => by omega
  | _, 0, l, _, h => by omega
  | f + 1, g + 1, l, h1, h2 => by
    rw [labelsG, labelsG]
    split
    · rfl
    · split
      · rename_i r hr
        have : r.length < l.length := by have := congrArg List.length hr; simp at this; omega
        rw [labelsG_fuel f g r (by omega) (by omega)]
      · rfl
theorem labelsN_eq (l : List Int) : labelsN l = if labelN l = 0 then 0 else match l.drop (labelN l) with
    | 46 :: r => if labelsN r = 0 then 0 else labelN l + 1 + labelsN r
    | _ => labelN l := by
  unfold labelsN
  rw [labelsG]
  split
  · rfl
  · split
    · rename_i r hr
      have : r.length < l.length := by have := congrArg List.length hr; simp at this; omega
      rw [labelsG_fuel l.length (r.length + 1) r (by omega) (by omega)]
    · rfl
def tailN (n : Nat) : List Int → Nat
  | c :: r => if c = 46 then (if labelsN r = 0 then 0 else n + 1 + labelsN r) else n
  | [] => n
theorem labelsN_tail (l : List Int) : labelsN l = if labelN l = 0 then 0 else tailN (labelN l) (l.drop (labelN l)) := by
  rw [labelsN_eq]
  split
  · rfl
  · split
    · rename_i r hr
      rw [hr, tailN, if_pos rfl]
    · rename_i h
      match hd : l.drop (labelN l) with
      | [] => rfl
      | c :: r => rw [tailN, if_neg fun e => h r (by rw [hd, e])]
theorem labelsN_pos {n : Nat} {r : List Int} (h : labelN r ≠ 0) : tailN n (46 :: r) = tailN (n + 1 + labelN r) (r.drop (labelN r)) := by
  rw [tailN, if_pos rfl, labelsN_tail, if_neg h]
  match r.drop (labelN r) with
  | [] => simp [tailN, h]
  | c :: q =>
    by_cases h1 : c = 46
    · by_cases h2 : labelsN q = 0
      · simp [tailN, h1, h2]
      · simp [tailN, h1, h2]; omega
    · simp [tailN, h1, h]
def rLabelsC : Ct := fun args h => match args with | [.s l] => some (.i .i64 (labelsN l), h) | _ => none
end GoD
