import Derived.Test.YtopejcaiabebpaaDoorEC
/-! Decimals as the document answers them. -/
namespace GoD
open Go Go.Proofs
set_option linter.unusedVariables false
set_option linter.unusedSimpArgs false
set_option maxHeartbeats 4000000
set_option maxRecDepth 100000
def revD (n : Nat) : List Int := if h : n = 0 then [] else (48 + ((n % 10 : Nat) : Int)) :: revD (n / 10)
theorem revD_0 : revD 0 = [] := by rw [revD]; simp
theorem revD_s {n : Nat} (h : 0 < n) : revD n = (48 + ((n % 10 : Nat) : Int)) :: revD (n / 10) := by rw [revD, dif_neg (by omega)]
theorem revD_len : ∀ (k n : Nat), n < 10 ^ k → (revD n).length ≤ k
  | 0, n, h => by have : n = 0 := by simpa using h
                  subst this; simp [revD_0]
  | k + 1, n, h => by
    by_cases h0 : n = 0
    · subst h0; simp [revD_0]
    · rw [revD_s (by omega)]
      have := revD_len k (n / 10) (by rw [Nat.pow_succ] at h; omega)
      simp; omega
theorem decD_rev {n : Nat} (h : 0 < n) : decD n = (revD n).reverse := by
  induction n using Nat.strongRecOn with
  | _ n ih =>
    rw [decD, revD_s h]
    split
    · rename_i h1
      rw [Nat.div_eq_of_lt h1, revD_0, Nat.mod_eq_of_lt h1]; rfl
    · rename_i h1
      rw [ih (n / 10) (by omega) (by omega)]; simp
/-- a number as a text -/
def decI (n : Int) : List Int := if n < 0 then 45 :: decD (-n).toNat else decD n.toNat
theorem tdiv10 (u : Nat) : (u : Int).tdiv 10 = ((u / 10 : Nat) : Int) := rfl
theorem tmod10 (u : Nat) : (u : Int).tmod 10 = ((u % 10 : Nat) : Int) := rfl
theorem wu64m (x : Int) : IntKind.u64.wrap x = x % 18446744073709551616 := by unfold IntKind.wrap; simp [IntKind.signed, IntKind.bits]
theorem wu32m (x : Int) : IntKind.u32.wrap x = x % 4294967296 := by unfold IntKind.wrap; simp [IntKind.signed, IntKind.bits]
theorem ldN_b1 {l : List Int} {i : Nat} (h : i < l.length) : ldN (bts l) i 1 = some [.i .u8 l[i]] := by
  have h2 : i < (bts l).length := by rw [bts_len]; exact h
  rw [ldN, if_pos (by omega), List.drop_eq_getElem_cons h2]
  simp [bts]
theorem wu64 {x : Int} (h : 0 ≤ x ∧ x < 18446744073709551616) : IntKind.u64.wrap x = x := by rw [wrap_iff]; simpa [lo, hi, IntKind.signed, IntKind.bits] using h
def rDecimalC : Ct := fun args h => match args with | [.i .i64 n] => some (.s (decI n), h) | _ => none
end GoD

/-! Percents, digits, parts as the document answers them. -/
namespace GoD
open Go Go.Proofs
set_option linter.unusedVariables false
set_option linter.unusedSimpArgs false
set_option maxHeartbeats 4000000
set_option maxRecDepth 100000
def rAsciiC : Ct := fun args h => match args with | [.s l] => some (.b (asciiB l), h) | _ => none
theorem rAscii_ok : CtOk Tryd.prog G0 13 rAsciiC := by
  refine ct_plain (n := 1) fol sound_nil (by kernel_rfl) Tryd.func13 rfl fun args h v h' hc r xs H hr hx => ?_
  unfold rAsciiC at hc; split at hc <;> (try split at hc) <;> cases hc
  rename_i l
  obtain ⟨⟨hs, hl⟩, _⟩ := str_of hx
  refine ⟨rfl, rfl, by simp [renV, bndV], ?_⟩
  simp -implicitDefEqProofs [go_sem, Tryd.f13]
  refine run_inv _ _ _ _ _ (fun (i : Nat) t h1 => i ≤ l.length ∧ get t 0 = .s l ∧ get t 3 = .i .i64 i ∧ asciiB (l.drop i) = asciiB l ∧ Ext h h1) (fun i => l.length - i) _ (x := 0) ⟨by simp, rfl, rfl, rfl, Ext.refl h⟩ ?_
  rintro i t h1 ⟨hi, t0, t3, hd, he⟩ ih
  by_cases hlt : i < l.length
  · obtain ⟨d, hc⟩ : ∃ d, l[i] = d := ⟨_, rfl⟩
    rw [List.drop_eq_getElem_cons hlt, hc, asciiB_cons] at hd
    by_cases c1 : 128 ≤ d
    · rw [decide_eq_false (by omega), Bool.false_and] at hd
      simp -implicitDefEqProofs [go_sem, Tryd.f13, t0, t3, hlt, hc, c1, ← hd, he]
    · rw [decide_eq_true (by omega), Bool.true_and] at hd
      simp -implicitDefEqProofs [go_sem, Tryd.f13, t0, t3, hlt, hc, c1]
      refine ih (i + 1) _ _ (by omega) ⟨by omega, ?_⟩
      simp -implicitDefEqProofs [go_sem, t0, t3, i64_1 hl hlt, he, hd]
  · have e0 : l.drop i = [] := List.drop_eq_nil_of_le (by omega)
    rw [e0] at hd
    simp -implicitDefEqProofs [go_sem, Tryd.f13, t0, t3, hlt, ← hd, he]
    rfl
def rHexC : Ct := fun args h => match args with | [.i .u8 c] => some (.i .i64 (hexv c), h) | _ => none
def rDigitsC : Ct := fun args h => match args with | [.s l, .i .i64 b] => some (.b (digitsB b l && !decide (l = [])), h) | _ => none
def rDecodeC : Ct := fun args h => match args with | [.s l] => if l.length ≤ 1048576 then some (.s (decodeL l), h) else none | _ => none
end GoD

/-! Addresses as the document answers them. -/
namespace GoD
open Go Go.Proofs
set_option linter.unusedVariables false
set_option linter.unusedSimpArgs false
set_option maxHeartbeats 4000000
set_option maxRecDepth 100000
theorem ldN_s1 {l : List (List Int)} {i : Nat} (h : i < l.length) : ldN (sts l) i 1 = some [.s l[i]] := by
  have h2 : i < (sts l).length := by rw [sts_len]; exact h
  rw [ldN, if_pos (by omega), List.drop_eq_getElem_cons h2]
  simp [sts]
def rPartsC : Ct := fun args h => match args with | [.s l] => if l.length ≤ 1048576 then some (.sl h.length 0 (partsL l).length 1, h ++ [⟨2, false, sts (splitL 46 l)⟩]) else none | _ => none
def rPartC : Ct := fun args h => match args with | [.s l] => if l.length ≤ 1048576 then some (.tup [.i .u64 (okV (pieceV l)).1, .b (okV (pieceV l)).2], h) else none | _ => none
theorem accV_ge {b : Int} (hb : 0 ≤ b) : ∀ {l : List Int} {n m : Int}, 0 ≤ n → (∀ c ∈ l, 0 ≤ hexv c) → accV b n l = some m → 0 ≤ m ∧ (n < 4294967296 → m < 4294967296)
  | [], n, m, hn, _, h => by simp [accV] at h; subst h; exact ⟨hn, id⟩
  | c :: t, n, m, hn, hc, h => by
    rw [accV] at h
    split at h
    · cases h
    · rename_i h1
      have := Int.mul_nonneg hb hn
      have h2 := hc c List.mem_cons_self
      obtain ⟨h3, h4⟩ := accV_ge hb (by omega) (fun x hx => hc x (List.mem_cons_of_mem _ hx)) h
      exact ⟨h3, fun _ => h4 (by omega)⟩
/-- the first loop in a code -/
def loopC : Code → Option Code
  | .loop a => some a
  | .seq a b => match loopC a with | some c => some c | none => loopC b
  | .cond _ a b => match loopC a with | some c => some c | none => loopC b
  | .block _ a => loopC a
  | _ => none
def loop1 (f : Func) : Code := (f.body.bind loopC).getD .skip
end GoD

/-! Addresses as the document answers them: numbers. -/
namespace GoD
open Go Go.Proofs
set_option linter.unusedVariables false
set_option linter.unusedSimpArgs false
set_option maxHeartbeats 4000000
set_option maxRecDepth 100000
def rNumberC : Ct := fun args h => match args with | [.s l] => if l.length ≤ 1048576 then some (.tup [.i .u32 (okV (numberL l)).1, .b (okV (numberL l)).2], h) else none | _ => none
def rAddressC : Ct := fun args h => match args with | [.i .u32 a] => some (.s (textL a), h) | _ => none
theorem decI_nn {n : Int} (h : 0 ≤ n) : decI n = decD n.toNat := by rw [decI, if_neg (by omega)]
theorem decD_len (n : Nat) (h : n < 256) : (decD n).length ≤ 3 := by
  by_cases h0 : n = 0
  · subst h0; rw [decD]; simp
  · rw [decD_rev (by omega), List.length_reverse]; exact revD_len 3 n (by omega)
theorem and255 {c : Int} (h : 0 ≤ c ∧ c < 4294967296) : Go.bits .and .u32 c 255 = c % 256 :=
  bits_mask .u32 32 (by decide) (fun n h₀ h₁ => by rw [wu32m]; omega) 8 (by decide) c h.1 (by omega)
end GoD

/-! Hosts and URLs' ports as the document answers them. -/
namespace GoD
open Go Go.Proofs
set_option linter.unusedVariables false
set_option linter.unusedSimpArgs false
set_option maxHeartbeats 4000000
set_option maxRecDepth 100000
def rIsAddressC : Ct := fun args h => match args with | [.s l] => if l.length ≤ 1048576 then some (.tup [.i .u32 (okV (addrL l)).1, .b (okV (addrL l)).2], h) else none | _ => none
def rNumericC : Ct := fun args h => match args with | [.s l] => if l.length ≤ 1048576 then some (.b (numericB ((partsL l).getLastD [])), h) else none | _ => none
theorem hexv_x : hexv 120 = -1 := rfl
theorem hexv_X : hexv 88 = -1 := rfl
def defaultL (l : List Int) : Int × Bool := if l = [104, 116, 116, 112] ∨ l = [119, 115] then (80, true) else if l = [104, 116, 116, 112, 115] ∨ l = [119, 115, 115] then (443, true) else if l = [102, 116, 112] then (21, true) else (0, false)
def rDefaultC : Ct := fun args h => match args with | [.s l] => some (.tup [.i .i64 (defaultL l).1, .b (defaultL l).2], h) | _ => none
end GoD
