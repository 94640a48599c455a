import Derived.Test.YtcaaebjjgbcjpaaGreatDoorOH
import Derived.Test.YtcaaebjjgbcjpaaGreatDoorET
import Derived.Test.YtcaaebjjgbcjpaaGreatDoorOE
import Derived.Test.YtcaaebjjgbcjpaaGreatDoorOP
import Derived.Test.YtcaaebjjgbcjpaaGreatDoorEX
/-! UTF-8: what the library answers is what the document answers. -/
namespace GoD
open Go Go.Proofs
set_option linter.unusedVariables false
set_option linter.unusedSimpArgs false
set_option maxHeartbeats 8000000
set_option maxRecDepth 100000
theorem b63 {c : Int} (h : 0 ≤ c ∧ c < 256) : Go.bits .and .u8 c 63 = c % 64 := by
  have key : ∀ n : Nat, n < 256 → Go.bits .and .u8 (n : Int) 63 = (n : Int) % 64 := by decide +kernel
  have := key c.toNat (by omega)
  rwa [Int.toNat_of_nonneg h.1] at this
theorem b192 {c : Int} (h : 0 ≤ c ∧ c < 256) : Go.bits .and .u8 c 192 = 128 ↔ c / 64 = 2 := by
  have key : ∀ n : Nat, n < 256 → (Go.bits .and .u8 (n : Int) 192 = 128 ↔ (n : Int) / 64 = 2) := by decide +kernel
  have := key c.toNat (by omega)
  rwa [Int.toNat_of_nonneg h.1] at this
theorem b31 {c : Int} (h : 0 ≤ c ∧ c < 256) : Go.bits .and .i64 (IntKind.i64.wrap c) 31 = c % 32 := by
  have key : ∀ n : Nat, n < 256 → Go.bits .and .i64 (IntKind.i64.wrap (n : Int)) 31 = (n : Int) % 32 := by decide +kernel
  have := key c.toNat (by omega)
  rwa [Int.toNat_of_nonneg h.1] at this
theorem b15 {c : Int} (h : 0 ≤ c ∧ c < 256) : Go.bits .and .i64 (IntKind.i64.wrap c) 15 = c % 16 := by
  have key : ∀ n : Nat, n < 256 → Go.bits .and .i64 (IntKind.i64.wrap (n : Int)) 15 = (n : Int) % 16 := by decide +kernel
  have := key c.toNat (by omega)
  rwa [Int.toNat_of_nonneg h.1] at this
theorem b7 {c : Int} (h : 0 ≤ c ∧ c < 256) : Go.bits .and .i64 (IntKind.i64.wrap c) 7 = c % 8 := by
  have key : ∀ n : Nat, n < 256 → Go.bits .and .i64 (IntKind.i64.wrap (n : Int)) 7 = (n : Int) % 8 := by decide +kernel
  have := key c.toNat (by omega)
  rwa [Int.toNat_of_nonneg h.1] at this
theorem or_i64 (a b : Nat) (ha : a < 9223372036854775808) (hb : b < 9223372036854775808) : Go.bits .or .i64 (a : Int) (b : Int) = ((a ||| b : Nat) : Int) := by
  have hx : a ||| b < 2 ^ 63 := Nat.or_lt_two_pow (by omega) (by omega)
  have h1 : (BitVec.ofInt 64 (a : Int)).toNat = a := by
    rw [BitVec.ofInt_natCast, BitVec.toNat_ofNat]; exact Nat.mod_eq_of_lt (by omega)
  have h2 : (BitVec.ofInt 64 (b : Int)).toNat = b := by
    rw [BitVec.ofInt_natCast, BitVec.toNat_ofNat]; exact Nat.mod_eq_of_lt (by omega)
  show IntKind.i64.wrap ((BitVec.ofInt 64 (a : Int) ||| BitVec.ofInt 64 (b : Int)).toNat : Int) = _
  rw [BitVec.toNat_or, h1, h2]
  exact w64 (by omega)
theorem runeStep_eq {u c : Int} (hu : 0 ≤ u ∧ u < 1000000) (h : 0 ≤ c ∧ c < 256) : runeStep u c = u * 64 + c % 64 := by
  unfold runeStep
  rw [b63 h]
  have e1 : IntKind.i64.wrap (u * 64) = ((u.toNat * 64 : Nat) : Int) := by rw [w64 (by omega)]; omega
  have e2 : IntKind.i64.wrap (c % 64) = ((c.toNat % 64 : Nat) : Int) := by rw [w64 (by omega)]; omega
  rw [e1, e2, or_i64 _ _ (by omega) (by omega)]
  have : u.toNat * 64 ||| c.toNat % 64 = u.toNat * 64 + c.toNat % 64 := by
    have := Nat.two_pow_add_eq_or_of_lt (i := 6) (b := c.toNat % 64) (by omega) u.toNat
    rw [Nat.mul_comm]
    exact this.symm
  rw [this]
  omega
/-- a byte of the middle -/
def cont (c : Int) : Prop := c / 64 = 2
instance (c : Int) : Decidable (cont c) := inferInstanceAs (Decidable (c / 64 = 2))
theorem runeG_2 {u : Int} {t : List Int} (ht : ∀ c ∈ t, 0 ≤ c ∧ c < 256) (hu : 0 ≤ u ∧ u < 32) : runeG 1 u t = match t with
    | a :: _ => if cont a then some (u * 64 + a % 64) else none
    | [] => none := by
  match t with
  | [] => rfl
  | a :: t =>
    have ha := ht a (by simp)
    unfold runeG
    by_cases c : cont a
    · rw [if_pos ((b192 ha).2 c)]
      simp only [runeG, if_pos c]
      rw [runeStep_eq (by omega) ha]
    · rw [if_neg (fun e => c ((b192 ha).1 e))]
      simp only [if_neg c]
theorem runeG_3 {u : Int} {t : List Int} (ht : ∀ c ∈ t, 0 ≤ c ∧ c < 256) (hu : 0 ≤ u ∧ u < 16) : runeG 2 u t = match t with
    | a :: b :: _ => if cont a ∧ cont b then some ((u * 64 + a % 64) * 64 + b % 64) else none
    | _ => none := by
  match t with
  | [] => rfl
  | [a] => 
    unfold runeG
    split <;> rfl
  | a :: b :: t =>
    have ha := ht a (by simp)
    have hb := ht b (by simp)
    unfold runeG
    by_cases c : cont a
    · rw [if_pos ((b192 ha).2 c), runeStep_eq (by omega) ha]
      unfold runeG
      by_cases d : cont b
      · rw [if_pos ((b192 hb).2 d), runeStep_eq (by omega) hb]
        simp only [runeG, if_pos (And.intro c d)]
      · rw [if_neg (fun e => d ((b192 hb).1 e))]
        simp only [if_neg (fun x : cont a ∧ cont b => d x.2)]
    · rw [if_neg (fun e => c ((b192 ha).1 e))]
      simp only [if_neg (fun x : cont a ∧ cont b => c x.1)]
theorem runeG_4 {u : Int} {t : List Int} (ht : ∀ c ∈ t, 0 ≤ c ∧ c < 256) (hu : 0 ≤ u ∧ u < 8) : runeG 3 u t = match t with
    | a :: b :: d :: _ => if cont a ∧ cont b ∧ cont d then some (((u * 64 + a % 64) * 64 + b % 64) * 64 + d % 64) else none
    | _ => none := by
  match t with
  | [] => rfl
  | [a] => 
    unfold runeG
    split <;> rfl
  | [a, b] => 
    unfold runeG
    split
    · unfold runeG
      split <;> rfl
    · rfl
  | a :: b :: d :: t =>
    have ha := ht a (by simp)
    have hb := ht b (by simp)
    have hd := ht d (by simp)
    unfold runeG
    by_cases c : cont a
    · rw [if_pos ((b192 ha).2 c), runeStep_eq (by omega) ha]
      unfold runeG
      by_cases c2 : cont b
      · rw [if_pos ((b192 hb).2 c2), runeStep_eq (by omega) hb]
        unfold runeG
        by_cases c3 : cont d
        · rw [if_pos ((b192 hd).2 c3), runeStep_eq (by omega) hd]
          simp only [runeG, if_pos (And.intro c (And.intro c2 c3))]
        · rw [if_neg (fun e => c3 ((b192 hd).1 e))]
          simp only [if_neg (fun x : cont a ∧ cont b ∧ cont d => c3 x.2.2)]
      · rw [if_neg (fun e => c2 ((b192 hb).1 e))]
        simp only [if_neg (fun x : cont a ∧ cont b ∧ cont d => c2 x.2.1)]
    · rw [if_neg (fun e => c ((b192 ha).1 e))]
      simp only [if_neg (fun x : cont a ∧ cont b ∧ cont d => c x.1)]
/-- the library's decoder, over a list -/
def decN (c : Int) (t : List Int) : Nat × Nat := Lib.decodeN (t.length + 1) c.toNat (t.getD 0 0).toNat (t.getD 1 0).toNat (t.getD 2 0).toNat
theorem dec_rune {c : Int} {t : List Int} (hc : 0 ≤ c ∧ c < 256) (ht : ∀ c ∈ t, 0 ≤ c ∧ c < 256) : ((decN c t).1 = 65533 ∧ (decN c t).2 = 1 ∧ runeN c t = 0) ∨ (¬ ((decN c t).1 = 65533 ∧ (decN c t).2 = 1) ∧ runeN c t = (decN c t).2 ∧ runeN c t ≠ 0) := by
  unfold runeN
  by_cases c1 : c < 128
  · rw [if_pos c1]
    have : decN c t = (c.toNat, 1) := by unfold decN Lib.decodeN; rw [if_pos (by omega)]
    rw [this]
    exact .inr ⟨by simp; omega, rfl, by simp⟩
  rw [if_neg c1]
  by_cases c2 : 194 ≤ c ∧ c < 224
  · rw [if_pos c2, b31 hc]
    unfold runeF
    rw [runeG_2 ht (by omega)]
    match t, ht with
    | [], _ =>
      have : decN c [] = (65533, 1) := by
        rw [show decN c [] = Lib.decodeN 1 c.toNat 0 0 0 from rfl]
        unfold Lib.decodeN
        rw [if_neg (by omega), if_neg (by omega), if_neg (by omega), if_neg (by omega)]
      rw [this]
      exact .inl ⟨rfl, rfl, by simp⟩
    | a :: t, ht =>
      have ha := ht a (by simp)
      simp only [List.length_cons]
      rw [if_neg (by omega)]
      by_cases k : cont a
      · simp only [if_pos k]
        unfold cont at k
        have : decN c (a :: t) = (c.toNat % 32 * 64 + a.toNat % 64, 2) := by
          unfold decN Lib.decodeN
          simp only [List.getD_cons_zero, List.length_cons]
          rw [if_neg (by omega), if_pos ⟨by omega, by omega, by omega⟩, if_pos (by omega)]
        rw [this, if_neg (by omega)]
        exact .inr ⟨by simp, rfl, by simp⟩
      · simp only [if_neg k]
        unfold cont at k
        have : decN c (a :: t) = (65533, 1) := by
          unfold decN Lib.decodeN
          simp only [List.getD_cons_zero, List.length_cons]
          rw [if_neg (by omega), if_neg (by omega), if_neg (by omega), if_neg (by omega)]
        rw [this]
        exact .inl ⟨rfl, rfl, by trivial⟩
  rw [if_neg c2]
  by_cases c3 : 224 ≤ c ∧ c < 240
  · rw [if_pos c3, b15 hc]
    unfold runeF
    rw [runeG_3 ht (by omega)]
    match t, ht with
    | [], _ =>
      have : decN c [] = (65533, 1) := by
        rw [show decN c [] = Lib.decodeN 1 c.toNat 0 0 0 from rfl]
        unfold Lib.decodeN
        rw [if_neg (by omega), if_neg (by omega), if_neg (by omega), if_neg (by omega)]
      rw [this]
      exact .inl ⟨rfl, rfl, by simp⟩
    | [a], _ =>
      have : decN c [a] = (65533, 1) := by
        rw [show decN c [a] = Lib.decodeN 2 c.toNat a.toNat 0 0 from rfl]
        unfold Lib.decodeN
        rw [if_neg (by omega), if_neg (by omega), if_neg (by omega), if_neg (by omega)]
      rw [this]
      exact .inl ⟨rfl, rfl, by simp⟩
    | a :: b :: t, ht =>
      have ha := ht a (by simp)
      have hb := ht b (by simp)
      simp only [List.length_cons]
      rw [if_neg (by omega)]
      by_cases k : cont a ∧ cont b
      · simp only [if_pos k]
        unfold cont at k
        by_cases v : (c % 16 * 64 + a % 64) * 64 + b % 64 < 2048 ∨ 1114111 < (c % 16 * 64 + a % 64) * 64 + b % 64 ∨ (55296 ≤ (c % 16 * 64 + a % 64) * 64 + b % 64 ∧ (c % 16 * 64 + a % 64) * 64 + b % 64 ≤ 57343)
        · rw [if_pos v]
          refine .inl ?_
          have : decN c (a :: b :: t) = (65533, 1) := by
            unfold decN Lib.decodeN
            simp only [List.getD_cons_zero, List.getD_cons_succ, List.length_cons]
            rw [if_neg (by omega), if_neg (by omega), if_pos ⟨by omega, ⟨by omega, by omega⟩, by omega, by omega⟩, if_neg (by omega)]
          rw [this]
          exact ⟨rfl, rfl, by trivial⟩
        · rw [if_neg v]
          have : (decN c (a :: b :: t)).2 = 3 := by
            unfold decN Lib.decodeN
            simp only [List.getD_cons_zero, List.getD_cons_succ, List.length_cons]
            rw [if_neg (by omega), if_neg (by omega), if_pos ⟨by omega, ⟨by omega, by omega⟩, by omega, by omega⟩, if_pos (by omega)]
          rw [this]
          exact .inr ⟨by simp, rfl, by simp⟩
      · simp only [if_neg k]
        unfold cont at k
        have : decN c (a :: b :: t) = (65533, 1) := by
          unfold decN Lib.decodeN
          simp only [List.getD_cons_zero, List.getD_cons_succ, List.length_cons]
          rw [if_neg (by omega), if_neg (by omega), if_neg (by omega), if_neg (by omega)]
        rw [this]
        exact .inl ⟨rfl, rfl, by trivial⟩
  rw [if_neg c3]
  by_cases c4 : 240 ≤ c ∧ c < 245
  · rw [if_pos c4, b7 hc]
    unfold runeF
    rw [runeG_4 ht (by omega)]
    match t, ht with
    | [], _ =>
      have : decN c [] = (65533, 1) := by
        rw [show decN c [] = Lib.decodeN 1 c.toNat 0 0 0 from rfl]
        unfold Lib.decodeN
        rw [if_neg (by omega), if_neg (by omega), if_neg (by omega), if_neg (by omega)]
      rw [this]
      exact .inl ⟨rfl, rfl, by simp⟩
    | [a], _ =>
      have : decN c [a] = (65533, 1) := by
        rw [show decN c [a] = Lib.decodeN 2 c.toNat a.toNat 0 0 from rfl]
        unfold Lib.decodeN
        rw [if_neg (by omega), if_neg (by omega), if_neg (by omega), if_neg (by omega)]
      rw [this]
      exact .inl ⟨rfl, rfl, by simp⟩
    | [a, b], _ =>
      have : decN c [a, b] = (65533, 1) := by
        rw [show decN c [a, b] = Lib.decodeN 3 c.toNat a.toNat b.toNat 0 from rfl]
        unfold Lib.decodeN
        rw [if_neg (by omega), if_neg (by omega), if_neg (by omega), if_neg (by omega)]
      rw [this]
      exact .inl ⟨rfl, rfl, by simp⟩
    | a :: b :: d :: t, ht =>
      have ha := ht a (by simp)
      have hb := ht b (by simp)
      have hd := ht d (by simp)
      simp only [List.length_cons]
      rw [if_neg (by omega)]
      by_cases k : cont a ∧ cont b ∧ cont d
      · simp only [if_pos k]
        unfold cont at k
        by_cases v : ((c % 8 * 64 + a % 64) * 64 + b % 64) * 64 + d % 64 < 65536 ∨ 1114111 < ((c % 8 * 64 + a % 64) * 64 + b % 64) * 64 + d % 64 ∨ (55296 ≤ ((c % 8 * 64 + a % 64) * 64 + b % 64) * 64 + d % 64 ∧ ((c % 8 * 64 + a % 64) * 64 + b % 64) * 64 + d % 64 ≤ 57343)
        · rw [if_pos v]
          refine .inl ?_
          have : decN c (a :: b :: d :: t) = (65533, 1) := by
            unfold decN Lib.decodeN
            simp only [List.getD_cons_zero, List.getD_cons_succ, List.length_cons]
            rw [if_neg (by omega), if_neg (by omega), if_neg (by omega), if_pos ⟨by omega, ⟨by omega, by omega⟩, ⟨by omega, by omega⟩, by omega, by omega⟩, if_neg (by omega)]
          rw [this]
          exact ⟨rfl, rfl, by trivial⟩
        · rw [if_neg v]
          have : (decN c (a :: b :: d :: t)).2 = 4 := by
            unfold decN Lib.decodeN
            simp only [List.getD_cons_zero, List.getD_cons_succ, List.length_cons]
            rw [if_neg (by omega), if_neg (by omega), if_neg (by omega), if_pos ⟨by omega, ⟨by omega, by omega⟩, ⟨by omega, by omega⟩, by omega, by omega⟩, if_pos (by omega)]
          rw [this]
          exact .inr ⟨by simp, rfl, by simp⟩
      · simp only [if_neg k]
        unfold cont at k
        have : decN c (a :: b :: d :: t) = (65533, 1) := by
          unfold decN Lib.decodeN
          simp only [List.getD_cons_zero, List.getD_cons_succ, List.length_cons]
          rw [if_neg (by omega), if_neg (by omega), if_neg (by omega), if_neg (by omega)]
        rw [this]
        exact .inl ⟨rfl, rfl, by trivial⟩
  rw [if_neg c4]
  refine .inl ?_
  have : decN c t = (65533, 1) := by
    have h0 : ∀ i, (t.getD i 0).toNat < 256 := fun i => by
      rw [List.getD_eq_getElem?_getD]
      cases e : t[i]? with
      | none => simp
      | some x => have := ht x (List.mem_of_getElem? e); simp; omega
    have h1 := h0 0
    have h2 := h0 1
    have h3 := h0 2
    unfold decN Lib.decodeN
    repeat' split
    all_goals first | rfl | (exfalso; omega)
  rw [this]
  exact ⟨rfl, rfl, by trivial⟩
theorem decL_eq {c : Int} {t : List Int} (hc : 0 ≤ c ∧ c < 256) (ht : ∀ c ∈ t, 0 ≤ c ∧ c < 256) : Lib.decodeL ((c :: t).map fun c => UInt8.ofNat c.toNat) = decN c t := by
  unfold Lib.decodeL
  rw [Lib.decode_at]
  unfold decN
  have hg : ∀ (l : List UInt8) i, (ByteArray.mk l.toArray).get! i = l.getD i 0 := fun l i => by
    show (l.toArray)[i]! = _
    simp [getElem!_def, List.getD_eq_getElem?_getD]
    cases l[i]? <;> rfl
  have hsz : (ByteArray.mk ((c :: t).map fun c => UInt8.ofNat c.toNat).toArray).size - 0 = t.length + 1 := by simp [ByteArray.size]
  have hn : ∀ (l : List Int), (∀ c ∈ l, 0 ≤ c ∧ c < 256) → ∀ i, ((l.map fun c => UInt8.ofNat c.toNat).getD i 0).toNat = (l.getD i 0).toNat := fun l hl i => by
    rw [List.getD_eq_getElem?_getD, List.getD_eq_getElem?_getD, List.getElem?_map]
    cases e : l[i]? with
    | none => rfl
    | some x => have := hl x (List.mem_of_getElem? e); simp; omega
  have hct : ∀ x ∈ c :: t, 0 ≤ x ∧ x < 256 := fun x hx => by
    rcases List.mem_cons.1 hx with rfl | h
    · exact hc
    · exact ht x h
  rw [hsz, hg, hg, hg, hg, hn _ hct, hn _ hct, hn _ hct, hn _ hct]
  rfl
theorem brokenN_le (l : List Int) : brokenN l ≤ l.length := by
  suffices h : ∀ n (l : List Int), l.length ≤ n → brokenN l ≤ l.length from h _ l (Nat.le_refl _)
  intro n
  induction n with
  | zero => intro l h; rw [List.length_eq_zero_iff.1 (show l.length = 0 by omega)]; exact Nat.le_refl _
  | succ n ih =>
    intro l h
    match l with
    | [] => exact Nat.le_refl _
    | c :: t =>
      rw [brokenN_cons]
      split
      · omega
      · have := ih (t.drop (runeN c t - 1)) (by simp at h ⊢; omega)
        have := runeN_le c t
        simp at *
        omega
theorem validR_eq : ∀ (n : Nat) (l : List Int), l.length ≤ n → (∀ c ∈ l, 0 ≤ c ∧ c < 256) → validR l = utf8B l
  | _, [], _, _ => rfl
  | 0, c :: t, h, _ => by simp at h
  | n + 1, c :: t, h, hb => by
    have hc := hb c (by simp)
    have ht : ∀ x ∈ t, 0 ≤ x ∧ x < 256 := fun x hx => hb x (by simp [hx])
    unfold validR
    rw [toBA_list, Lib.validD_step _ (by simp), decL_eq hc ht]
    unfold utf8B
    rw [brokenN_cons]
    rcases dec_rune hc ht with ⟨h1, h2, h3⟩ | ⟨h1, h2, h3⟩
    · rw [if_pos ⟨h1, h2⟩, if_pos h3]; rfl
    · rw [if_neg h1, if_neg h3, ← h2, ← List.map_drop]
      obtain ⟨k, hk⟩ : ∃ k, runeN c t = k + 1 := ⟨runeN c t - 1, by omega⟩
      have hle := runeN_le c t
      rw [hk] at hle ⊢
      rw [List.drop_succ_cons, Nat.add_sub_cancel]
      have ih := validR_eq n (t.drop k) (by simp at h ⊢; omega) (fun x hx => ht x (List.mem_of_mem_drop hx))
      unfold validR utf8B at ih
      rw [toBA_list] at ih
      rw [ih]
      have := brokenN_le (t.drop k)
      rw [List.length_drop] at this ⊢
      simp only [List.length_cons]
      exact decide_eq_decide.2 ⟨fun e => by omega, fun e => by omega⟩
end GoD

/-! Blanks around: what the library cuts is what the document cuts. -/
namespace GoD
open Go Go.Proofs
set_option linter.unusedVariables false
set_option linter.unusedSimpArgs false
set_option maxHeartbeats 8000000
set_option maxRecDepth 100000
/-- the decoder over a list of bytes -/
theorem dec_list (s : ByteArray) (i : Nat) : Utf8.decode s i = Lib.decodeN (s.data.toList.length - i) (s.data.toList.getD i 0).toNat (s.data.toList.getD (i + 1) 0).toNat (s.data.toList.getD (i + 2) 0).toNat (s.data.toList.getD (i + 3) 0).toNat := by
  have hg : ∀ i, s.get! i = s.data.toList.getD i 0 := fun i => by
    show s.data[i]! = _
    simp [getElem!_def, List.getD_eq_getElem?_getD]
    cases s.data[i]? <;> rfl
  rw [Lib.decode_at, hg, hg, hg, hg]
  rfl
theorem decN_ascii {n b0 b1 b2 b3 : Nat} (h : b0 < 128) : Lib.decodeN n b0 b1 b2 b3 = (b0, 1) := by unfold Lib.decodeN; rw [if_pos h]
theorem decN_high {n b0 b1 b2 b3 : Nat} (h : ¬ b0 < 128) : 128 ≤ (Lib.decodeN n b0 b1 b2 b3).1 := by
  unfold Lib.decodeN
  rw [if_neg h]
  repeat' split
  all_goals (simp only; omega)
theorem blankR_high {x : Nat} (h : 128 ≤ x) : blankR x = false := decide_eq_false (by omega)
/-- how many blanks ahead -/
def bl (c : UInt8) : Bool := decide (c.toNat ≤ 32)
theorem left_from (s : ByteArray) : ∀ (f pos : Nat), s.size - pos ≤ f → Lib.idxFuncFrom blankR false s f pos = if (s.data.toList.drop pos).dropWhile bl = [] then -1 else ((s.size - ((s.data.toList.drop pos).dropWhile bl).length : Nat) : Int)
  | 0, pos, h => by
    have : s.data.toList.drop pos = [] := List.drop_eq_nil_of_le (by rw [Array.length_toList]; show s.size ≤ pos; omega)
    rw [this]; rfl
  | f + 1, pos, h => by
    unfold Lib.idxFuncFrom
    by_cases hp : pos < s.size
    · rw [if_pos hp]
      have hl : pos < s.data.toList.length := by rw [Array.length_toList]; exact hp
      have hsz : s.data.toList.length = s.size := Array.length_toList
      have hd := List.drop_eq_getElem_cons hl
      have hg : s.data.toList.getD pos 0 = s.data.toList[pos] := by rw [List.getD_eq_getElem?_getD, List.getElem?_eq_getElem hl]; rfl
      rw [dec_list, hg]
      by_cases hb : (s.data.toList[pos]).toNat < 128
      · rw [decN_ascii hb]
        by_cases hb2 : (s.data.toList[pos]).toNat ≤ 32
        · rw [if_neg (by show ¬ blankR _ = false; rw [show blankR (s.data.toList[pos]).toNat = true from decide_eq_true hb2]; simp), left_from s f (pos + 1) (by omega), hd, List.dropWhile_cons_of_pos (show bl _ = true from decide_eq_true hb2)]
        · rw [if_pos (show blankR _ = false from decide_eq_false hb2), hd, List.dropWhile_cons_of_neg (by show ¬ bl _ = true; rw [show bl _ = false from decide_eq_false hb2]; simp), if_neg (by simp)]
          rw [← hd, List.length_drop, hsz]
          omega
      · rw [if_pos (blankR_high (decN_high hb)), hd, List.dropWhile_cons_of_neg (by show ¬ bl _ = true; rw [show bl _ = false from decide_eq_false (by omega)]; simp), if_neg (by simp)]
        rw [← hd, List.length_drop, hsz]
        omega
    · rw [if_neg hp]
      have : s.data.toList.drop pos = [] := List.drop_eq_nil_of_le (by rw [Array.length_toList]; show s.size ≤ pos; omega)
      rw [this]; rfl
theorem dropW_suffix {α : Type} (p : α → Bool) : ∀ l : List α, l.dropWhile p = l.drop (l.length - (l.dropWhile p).length)
  | [] => rfl
  | c :: t => by
    cases h : p c with
    | true =>
      rw [List.dropWhile_cons_of_pos h]
      have ih := dropW_suffix p t
      have hle : (t.dropWhile p).length ≤ t.length := (List.dropWhile_sublist p).length_le
      rw [show (c :: t).length - (t.dropWhile p).length = (t.length - (t.dropWhile p).length) + 1 by simp; omega, List.drop_succ_cons]
      exact ih
    | false => rw [List.dropWhile_cons_of_neg (by simp [h]), Nat.sub_self]; rfl
theorem trimLeft_list (s : ByteArray) : (Lib.trimLeftF blankR s).data.toList = s.data.toList.dropWhile bl := by
  unfold Lib.trimLeftF Lib.idxFunc
  have hsz : s.data.toList.length = s.size := Array.length_toList
  rw [left_from s s.size 0 (by omega), List.drop_zero]
  by_cases h : s.data.toList.dropWhile bl = []
  · rw [if_pos h, if_pos rfl, h]
  · rw [if_neg h, if_neg (by omega), Int.toNat_natCast, Lib.extract_data]
    have := dropW_suffix bl s.data.toList
    rw [hsz] at this
    rw [List.take_of_length_le (by rw [List.length_drop, hsz]; omega)]
    exact this.symm
def decB (l : List UInt8) : Nat × Nat := Lib.decodeN l.length (l.getD 0 0).toNat (l.getD 1 0).toNat (l.getD 2 0).toNat (l.getD 3 0).toNat
theorem decB_eq (l : List UInt8) : Lib.decodeL l = decB l := by
  unfold Lib.decodeL
  rw [dec_list]; rfl
theorem decB_app {X B : List UInt8} (hX : X ≠ []) (hB : ∀ c ∈ B, c.toNat ≤ 32) : decB (X ++ B) = decB X := by
  have hz : ∀ i, (B.getD i 0).toNat ≤ 32 := fun i => by
    rw [List.getD_eq_getElem?_getD]
    cases e : B[i]? with
    | none => simp
    | some x => exact hB x (List.mem_of_getElem? e)
  have h0 := hz 0
  have h1 := hz 1
  have h2 := hz 2
  generalize e0 : B.getD 0 0 = x0 at h0
  generalize e1 : B.getD 1 0 = x1 at h1
  generalize e2 : B.getD 2 0 = x2 at h2
  have n0 : ¬ x0.toNat / 64 = 2 := by omega
  match X, hX with
  | [a], _ =>
    rw [show decB ([a] ++ B) = Lib.decodeN (B.length + 1) a.toNat (B.getD 0 0).toNat (B.getD 1 0).toNat (B.getD 2 0).toNat from rfl, show decB [a] = Lib.decodeN 1 a.toNat 0 0 0 from rfl, e0, e1, e2]
    unfold Lib.decodeN
    simp [n0]
  | [a, b], _ =>
    rw [show decB ([a, b] ++ B) = Lib.decodeN (B.length + 1 + 1) a.toNat b.toNat (B.getD 0 0).toNat (B.getD 1 0).toNat from rfl, show decB [a, b] = Lib.decodeN 2 a.toNat b.toNat 0 0 from rfl, e0, e1]
    unfold Lib.decodeN
    simp [n0]
  | [a, b, e], _ =>
    rw [show decB ([a, b, e] ++ B) = Lib.decodeN (B.length + 1 + 1 + 1) a.toNat b.toNat e.toNat (B.getD 0 0).toNat from rfl, show decB [a, b, e] = Lib.decodeN 3 a.toNat b.toNat e.toNat 0 from rfl, e0]
    unfold Lib.decodeN
    simp [n0]
  | a :: b :: e :: g :: t, _ =>
    rw [show decB ((a :: b :: e :: g :: t) ++ B) = Lib.decodeN ((t ++ B).length + 1 + 1 + 1 + 1) a.toNat b.toNat e.toNat g.toNat from rfl, show decB (a :: b :: e :: g :: t) = Lib.decodeN (t.length + 1 + 1 + 1 + 1) a.toNat b.toNat e.toNat g.toNat from rfl]
    unfold Lib.decodeN
    simp only [show 1 < (t ++ B).length + 1 + 1 + 1 + 1 by omega, show 2 < (t ++ B).length + 1 + 1 + 1 + 1 by omega, show 3 < (t ++ B).length + 1 + 1 + 1 + 1 by omega, show 1 < t.length + 1 + 1 + 1 + 1 by omega, show 2 < t.length + 1 + 1 + 1 + 1 by omega, show 3 < t.length + 1 + 1 + 1 + 1 by omega]
theorem decB_one {b : UInt8} : (decB [b]).2 = 1 := by
  rw [show decB [b] = Lib.decodeN 1 b.toNat 0 0 0 from rfl]
  unfold Lib.decodeN
  repeat' split
  all_goals first | rfl | (exfalso; omega)
/-- without blanks at the end -/
def rt (l : List UInt8) : List UInt8 := (l.reverse.dropWhile bl).reverse
theorem rt_snoc (q : List UInt8) (c : UInt8) : rt (q ++ [c]) = if c.toNat ≤ 32 then rt q else q ++ [c] := by
  unfold rt
  rw [List.reverse_append, List.reverse_singleton, List.singleton_append]
  split
  · rename_i h; rw [List.dropWhile_cons_of_pos (show bl c = true from decide_eq_true h)]
  · rename_i h; rw [List.dropWhile_cons_of_neg (by rw [show bl c = false from decide_eq_false h]; simp), List.reverse_cons, List.reverse_reverse]
theorem last_high {q : List UInt8} {c : UInt8} (h : ¬ c.toNat < 128) : 128 ≤ (Lib.decodeLastL (q ++ [c])).1 := by
  unfold Lib.decodeLastL
  rw [if_neg (by simp)]
  have hg : (q ++ [c]).getD ((q ++ [c]).length - 1) 0 = c := by simp
  rw [hg, if_neg h]
  simp only
  split
  · rename_i he
    rw [decB_eq] at he ⊢
    by_cases hd : (((q ++ [c]).drop (Lib.lastStart (q ++ [c]))).getD 0 0).toNat < 128
    · exfalso
      have : decB ((q ++ [c]).drop (Lib.lastStart (q ++ [c]))) = (_, 1) := decN_ascii hd
      rw [this] at he
      simp only at he
      have hls : Lib.lastStart (q ++ [c]) = q.length := by simp at he; omega
      rw [hls] at hd
      simp at hd
      exact h hd
    · exact decN_high hd
  · simp [Utf8.runeError]
theorem right_from (s : ByteArray) : ∀ (f i : Nat), i ≤ f → i ≤ s.size → Lib.lastIdxFuncFrom blankR false s f i = if rt (s.data.toList.take i) = [] then -1 else (((rt (s.data.toList.take i)).length - (Lib.decodeLastL (rt (s.data.toList.take i))).2 : Nat) : Int)
  | f, 0, _, _ => by rw [Lib.lastIdxFuncFrom_zero]; rfl
  | f + 1, i + 1, h, hs => by
    unfold Lib.lastIdxFuncFrom
    have hsz : s.data.toList.length = s.size := Array.length_toList
    have hl : i < s.data.toList.length := by omega
    have ht : s.data.toList.take (i + 1) = s.data.toList.take i ++ [s.data.toList[i]] := by rw [List.take_add_one, List.getElem?_eq_getElem hl]; rfl
    rw [if_pos (by omega), ht, rt_snoc]
    have hlen : (s.data.toList.take i ++ [s.data.toList[i]]).length = i + 1 := by simp; omega
    have hg : (s.data.toList.take i ++ [s.data.toList[i]]).getD ((s.data.toList.take i ++ [s.data.toList[i]]).length - 1) 0 = s.data.toList[i] := by simp
    by_cases hb : (s.data.toList[i]).toNat < 128
    · have hd : Lib.decodeLastL (s.data.toList.take i ++ [s.data.toList[i]]) = ((s.data.toList[i]).toNat, 1) := by
        unfold Lib.decodeLastL
        rw [if_neg (by simp), hg, if_pos hb]
      by_cases hb2 : (s.data.toList[i]).toNat ≤ 32
      · rw [hd, if_pos hb2, if_neg (by show ¬ blankR _ = false; rw [show blankR (s.data.toList[i]).toNat = true from decide_eq_true hb2]; simp)]
        exact right_from s f i (by omega) (by omega)
      · rw [if_neg hb2, hlen, hd, if_pos (show blankR _ = false from decide_eq_false hb2), if_neg (by simp)]
    · rw [if_pos (blankR_high (last_high hb)), if_neg (show ¬ (s.data.toList[i]).toNat ≤ 32 by omega), if_neg (by simp), hlen]
theorem rt_pre : ∀ l : List UInt8, ∃ B, l = rt l ++ B ∧ ∀ c ∈ B, c.toNat ≤ 32 := fun l => by
  suffices h : ∀ n (l : List UInt8), l.length = n → ∃ B, l = rt l ++ B ∧ ∀ c ∈ B, c.toNat ≤ 32 from h _ l rfl
  intro n
  induction n with
  | zero => intro l h; rw [List.length_eq_zero_iff.1 h]; exact ⟨[], rfl, by simp⟩
  | succ n ih =>
    intro l h
    obtain ⟨q, c, rfl⟩ : ∃ q c, l = q ++ [c] := by
      rcases List.eq_nil_or_concat l with rfl | ⟨q, c, rfl⟩
      · simp at h
      · exact ⟨q, c, by simp⟩
    rw [rt_snoc]
    split
    · rename_i hc
      obtain ⟨B, e, hB⟩ := ih q (by simpa using h)
      refine ⟨B ++ [c], by rw [← List.append_assoc, ← e], fun x hx => ?_⟩
      rcases List.mem_append.1 hx with h1 | h1
      · exact hB x h1
      · obtain rfl := List.mem_singleton.1 h1; exact hc
    · exact ⟨[], by simp, by simp⟩
theorem rt_last {l : List UInt8} (h : rt l ≠ []) : ∃ q c, rt l = q ++ [c] ∧ ¬ c.toNat ≤ 32 := by
  suffices hh : ∀ n (l : List UInt8), l.length = n → rt l ≠ [] → ∃ q c, rt l = q ++ [c] ∧ ¬ c.toNat ≤ 32 from hh _ l rfl h
  intro n
  induction n with
  | zero => intro l hl h; rw [List.length_eq_zero_iff.1 hl] at h; exact absurd rfl h
  | succ n ih =>
    intro l hl h
    obtain ⟨q, c, rfl⟩ : ∃ q c, l = q ++ [c] := by
      rcases List.eq_nil_or_concat l with rfl | ⟨q, c, rfl⟩
      · simp at hl
      · exact ⟨q, c, by simp⟩
    rw [rt_snoc] at h ⊢
    split
    · rename_i hc; rw [if_pos hc] at h; exact ih q (by simpa using hl) h
    · rename_i hc; exact ⟨q, c, rfl, hc⟩
theorem fwd {q B : List UInt8} {c : UInt8} (hB : ∀ x ∈ B, x.toNat ≤ 32) : (Lib.decodeLastL (q ++ [c])).2 ≤ q.length + 1 ∧ (decB ((q ++ [c] ++ B).drop (q.length + 1 - (Lib.decodeLastL (q ++ [c])).2))).2 = (Lib.decodeLastL (q ++ [c])).2 := by
  have hw := Lib.decodeLastL_width (q ++ [c]) (by simp)
  have hlen : (q ++ [c]).length = q.length + 1 := by simp
  rw [hlen] at hw
  refine ⟨hw.2, ?_⟩
  have hg : (q ++ [c]).getD ((q ++ [c]).length - 1) 0 = c := by simp
  have hone : (q ++ [c] ++ B).drop q.length = [c] ++ B := by rw [List.append_assoc, List.drop_left]
  unfold Lib.decodeLastL at hw ⊢
  rw [if_neg (by simp), hg] at hw ⊢
  by_cases hb : c.toNat < 128
  · rw [if_pos hb]
    simp only
    rw [Nat.add_sub_cancel, hone, decB_app (by simp) hB, decB_one]
  · rw [if_neg hb] at hw ⊢
    simp only at hw ⊢
    split
    · rename_i he
      rw [decB_eq] at he ⊢
      rw [hlen] at he
      have hls : q.length + 1 - (decB ((q ++ [c]).drop (Lib.lastStart (q ++ [c])))).2 = Lib.lastStart (q ++ [c]) := by omega
      have hwp := Lib.decodeL_width ((q ++ [c]).drop (Lib.lastStart (q ++ [c])))
      rw [decB_eq] at hwp
      rw [hls, List.drop_append_of_le_length (by rw [hlen]; omega), decB_app (by intro e; have := congrArg List.length e; rw [List.length_drop, hlen] at this; simp at this; omega) hB]
    · simp only
      rw [Nat.add_sub_cancel, hone, decB_app (by simp) hB, decB_one]
theorem trimRight_list (s : ByteArray) : (Lib.trimRightF blankR s).data.toList = rt s.data.toList := by
  unfold Lib.trimRightF Lib.rightEndF Lib.lastIdxFunc
  have hsz : s.data.toList.length = s.size := Array.length_toList
  have hall : s.data.toList.take s.size = s.data.toList := List.take_of_length_le (by omega)
  rw [right_from s s.size s.size (Nat.le_refl _) (Nat.le_refl _), hall]
  obtain ⟨B, hl, hB⟩ := rt_pre s.data.toList
  by_cases h : rt s.data.toList = []
  · rw [if_pos h, if_neg (by omega), h]
    simp [Lib.extract_data]
  · rw [if_neg h]
    obtain ⟨q, c, hq, hc⟩ := rt_last h
    obtain ⟨hw, hf⟩ := fwd (q := q) (c := c) (B := B) hB
    rw [← hq] at hw hf
    have hlen : (rt s.data.toList).length = q.length + 1 := by rw [hq]; simp
    rw [if_pos (by omega), Int.toNat_natCast, hlen]
    have hwp := Lib.decodeLastL_width (rt s.data.toList) (by rw [hlen]; omega)
    have hex : (s.extract (q.length + 1 - (Lib.decodeLastL (rt s.data.toList)).2) s.size).data.toList = s.data.toList.drop (q.length + 1 - (Lib.decodeLastL (rt s.data.toList)).2) := by
      rw [Lib.extract_data, List.take_of_length_le (by rw [List.length_drop, hsz]; omega)]
    have hle : q.length + 1 ≤ s.size := by rw [← hsz]; rw [hl, List.length_append, hlen]; omega
    have hgo : Lib.decodeGoB (s.extract (q.length + 1 - (Lib.decodeLastL (rt s.data.toList)).2) s.size) = decB (s.data.toList.drop (q.length + 1 - (Lib.decodeLastL (rt s.data.toList)).2)) := by
      unfold Lib.decodeGoB
      have hsz2 : (s.extract (q.length + 1 - (Lib.decodeLastL (rt s.data.toList)).2) s.size).size ≠ 0 := by
        have : (s.extract (q.length + 1 - (Lib.decodeLastL (rt s.data.toList)).2) s.size).data.toList.length = _ := congrArg List.length hex
        rw [Array.length_toList, List.length_drop, hsz] at this
        intro e
        have e2 : (s.extract (q.length + 1 - (Lib.decodeLastL (rt s.data.toList)).2) s.size).data.size = 0 := e
        omega
      rw [if_neg hsz2, dec_list, hex]; rfl
    rw [hgo]
    have hd : decB (s.data.toList.drop (q.length + 1 - (Lib.decodeLastL (rt s.data.toList)).2)) = decB ((rt s.data.toList ++ B).drop (q.length + 1 - (Lib.decodeLastL (rt s.data.toList)).2)) := by rw [← hl]
    rw [hd, hf, show q.length + 1 - (Lib.decodeLastL (rt s.data.toList)).2 + (Lib.decodeLastL (rt s.data.toList)).2 = q.length + 1 by omega, Lib.extract_data, List.drop_zero, Nat.sub_zero, ← hlen]
    have : s.data.toList.take (rt s.data.toList).length = (rt s.data.toList ++ B).take (rt s.data.toList).length := by rw [← hl]
    rw [this, List.take_left]
theorem trimL_eq : ∀ l : List Int, trimL l = l.dropWhile fun c => decide (c ≤ 32)
  | [] => rfl
  | c :: t => by
    rw [trimL]
    split
    · rename_i h; rw [List.dropWhile_cons_of_pos (by simpa using h)]; exact trimL_eq t
    · rename_i h; rw [List.dropWhile_cons_of_neg (by simpa using h)]
theorem dropW_map {α β : Type} (f : α → β) (p : β → Bool) (r : α → Bool) : ∀ l : List α, (∀ c ∈ l, p (f c) = r c) → (l.map f).dropWhile p = (l.dropWhile r).map f
  | [], _ => rfl
  | c :: t, h => by
    have hc := h c (by simp)
    rw [List.map_cons]
    cases e : r c with
    | true => rw [List.dropWhile_cons_of_pos (by rw [hc, e]), List.dropWhile_cons_of_pos e]; exact dropW_map f p r t fun x hx => h x (by simp [hx])
    | false => rw [List.dropWhile_cons_of_neg (by rw [hc, e]; simp), List.dropWhile_cons_of_neg (by rw [e]; simp)]; rfl
theorem trimGo_eq {l : List Int} (hb : ∀ c ∈ l, 0 ≤ c ∧ c < 256) : trimGo l = trimR (trimL l) := by
  unfold trimGo ofBA Lib.trimF
  rw [trimRight_list, trimLeft_list, toBA_list]
  have hbl : ∀ c : Int, 0 ≤ c ∧ c < 256 → bl (c.toNat.toUInt8) = decide (c ≤ 32) := fun c h => by
    unfold bl
    have : (c.toNat.toUInt8).toNat = c.toNat := by simp; omega
    rw [this]
    exact decide_eq_decide.2 (by omega)
  rw [dropW_map _ bl (fun c => decide (c ≤ 32)) l fun c hc => hbl c (hb c hc)]
  unfold rt trimR
  rw [trimL_eq, trimL_eq, ← List.map_reverse, dropW_map _ bl (fun c => decide (c ≤ 32)) _ fun c hc => hbl c (hb c ((List.dropWhile_sublist _).mem (List.mem_reverse.1 hc))), ← List.map_reverse, List.map_map]
  conv => rhs; rw [← List.map_id ((List.dropWhile (fun c => decide (c ≤ 32)) (List.dropWhile (fun c => decide (c ≤ 32)) l).reverse).reverse)]
  refine List.map_congr_left fun c hc => ?_
  have := hb c ((List.dropWhile_sublist _).mem (List.mem_reverse.1 ((List.dropWhile_sublist _).mem (List.mem_reverse.1 hc))))
  simp; omega
theorem rm_keep (l : List Int) : rmL l = l.filter keepB := by
  unfold rmL
  congr 1
  funext c
  unfold rmB keepB
  by_cases h1 : c = 13 <;> by_cases h2 : c = 10 <;> by_cases h3 : c = 9 <;> simp [h1, h2, h3]
theorem clean_go {l : List Int} (hb : ∀ c ∈ l, 0 ≤ c ∧ c < 256) : rmL (trimGo l) = cleanL l := by rw [trimGo_eq hb, rm_keep]; rfl
end GoD

/-! url.Parse answers as the document does. -/
namespace GoD
open Go Go.Proofs
set_option linter.unusedVariables false
set_option linter.unusedSimpArgs false
set_option maxHeartbeats 8000000
set_option maxRecDepth 100000
theorem upL_take {m : List Int} : ∀ l : List Int, ∀ c ∈ l.take (upL m l), c ∉ m
  | [], c, h => by simp at h
  | d :: t, c, h => by
    rw [upL] at h
    split at h
    · simp at h
    · rename_i hd
      rw [List.take_succ_cons] at h
      rcases List.mem_cons.1 h with rfl | h
      · exact hd
      · exact upL_take t c h
theorem upL_drop {m : List Int} : ∀ l : List Int, l.drop (upL m l) = [] ∨ ∃ c t, l.drop (upL m l) = c :: t ∧ c ∈ m
  | [] => .inl rfl
  | d :: t => by
    rw [upL]
    split
    · rename_i hd; exact .inr ⟨d, t, rfl, hd⟩
    · rw [List.drop_succ_cons]; exact upL_drop t
/-- the scheme -/
theorem cnt_up {t : List Int} (h : (t.drop (cntL schB t)).head? = some 58) : upL [58] t = cntL schB t := by
  induction t with
  | nil => simp at h
  | cons c t ih =>
    unfold cntL at h ⊢
    split at h
    · rename_i hc
      rw [if_pos hc]
      rw [List.drop_succ_cons] at h
      have hne : c ∉ [58] := fun e => by
        obtain rfl := List.mem_singleton.1 e
        revert hc; decide
      rw [upL, if_neg hne, ih h]
    · rename_i hc
      rw [if_neg hc]
      simp at h
      rw [upL, if_pos (by simp [h])]
theorem cnt_all {t : List Int} (h : (t.take (upL [58] t)).all schB = true) (hd : (t.drop (upL [58] t)).head? = some 58) : cntL schB t = upL [58] t := by
  induction t with
  | nil => rfl
  | cons c t ih =>
    by_cases hc : c = 58
    · subst hc
      rw [upL, if_pos (by simp)]
      unfold cntL
      rw [if_neg (by decide)]
    · have hne : c ∉ [58] := fun e => hc (List.mem_singleton.1 e)
      rw [upL, if_neg hne] at h hd ⊢
      rw [List.take_succ_cons, List.all_cons, Bool.and_eq_true] at h
      rw [List.drop_succ_cons] at hd
      unfold cntL
      rw [if_pos h.1, ih h.2 hd]
theorem def_nil : (defaultL (lowerL [])).2 = false := rfl
theorem passK_head (m l : List Int) : passK m l = 1 ↔ ∃ c, l.head? = some c ∧ c ∈ m := by
  cases l with
  | nil => simp [passK]
  | cons d t =>
    unfold passK
    by_cases h : d ∈ m <;> simp [h]
theorem schemeN_cons (c : Int) (t : List Int) : schemeN (c :: t) = if letterB c = true then (if (t.drop (cntL schB t)).head? = some 58 then cntL schB t + 1 else 0) else 0 := rfl
/-- what the program reads of the scheme -/
theorem sch_eq (l : List Int) (u : Url) (hb : ∀ c ∈ l, 0 ≤ c ∧ c < 256) : if (defaultL (lowerL (l.take (schemeN l)))).2 = true then schUR l u = (true, l.drop (schemeN l + 1), { u with sch := lowerL (l.take (schemeN l)) }) else (schUR l u).1 = false := by
  match l with
  | [] => rfl
  | c :: t =>
    by_cases h1 : letterB c = true ∧ (t.drop (cntL schB t)).head? = some 58
    · have hs : schemeN (c :: t) = cntL schB t + 1 := by rw [schemeN_cons, if_pos h1.1, if_pos h1.2]
      have hne : c ∉ [58] := fun e => by
        obtain rfl := List.mem_singleton.1 e
        have := h1.1
        revert this; decide
      have hu : upL [58] (c :: t) = schemeN (c :: t) := by rw [upL, if_neg hne, cnt_up h1.2, hs]
      have hok : schOk ((c :: t).take (upL [58] (c :: t))) = true := by
        rw [hu, hs, List.take_succ_cons, schOk, h1.1, Bool.true_and]
        have : ∀ t : List Int, (t.take (cntL schB t)).all schB = true := fun t => by
          induction t with
          | nil => rfl
          | cons d t ih =>
            unfold cntL
            split
            · rename_i hd; rw [List.take_succ_cons, List.all_cons, hd, ih]; rfl
            · rfl
        exact this t
      have hp : passK [58] ((c :: t).drop (schemeN (c :: t))) = 1 := by
        rw [passK_head, hs, List.drop_succ_cons]
        exact ⟨58, h1.2, by simp⟩
      unfold schUR
      rw [if_pos hok, hu, hp]
      by_cases hd : (defaultL (lowerL ((c :: t).take (schemeN (c :: t))))).2 = true
      · rw [if_pos hd, if_pos hd, List.drop_drop]; rfl
      · rw [if_neg hd, if_neg hd]
    · have hs : schemeN (c :: t) = 0 := by
        rw [schemeN_cons]
        split
        · rename_i h2; rw [if_neg (fun e => h1 ⟨h2, e⟩)]
        · rfl
      rw [hs, List.take_zero, def_nil, if_neg (by simp)]
      unfold schUR
      by_cases hok : schOk ((c :: t).take (upL [58] (c :: t))) = true
      · rw [if_pos hok]
        by_cases hd : (defaultL (lowerL ((c :: t).take (upL [58] (c :: t))))).2 = true
        · rw [if_pos hd]
          simp only
          apply decide_eq_false
          intro hp
          rw [passK_head] at hp
          obtain ⟨x, hx, hxm⟩ := hp
          obtain rfl := List.mem_singleton.1 hxm
          by_cases hc : c = 58
          · subst hc
            rw [upL, if_pos (by simp)] at hd
            rw [List.take_zero, def_nil] at hd
            cases hd
          · have hne : c ∉ [58] := fun e => hc (List.mem_singleton.1 e)
            rw [upL, if_neg hne] at hok hx
            rw [List.take_succ_cons, schOk, Bool.and_eq_true] at hok
            rw [List.drop_succ_cons] at hx
            exact h1 ⟨hok.1, by rw [cnt_all hok.2 hx]; exact hx⟩
        · rw [if_neg hd]
      · rw [if_neg hok]
/-- cut at a byte -/
theorem cut_up (c : Int) : ∀ l : List Int, cut1 c l = (l.take (upL [c] l), l.drop (upL [c] l + 1)) := by
  have key : ∀ l : List Int, (0 ≤ idxL c l ∧ idxL c l = (upL [c] l : Int)) ∨ (idxL c l = -1 ∧ upL [c] l = l.length) := by
    intro l
    induction l with
    | nil => exact .inr ⟨rfl, rfl⟩
    | cons d t ih =>
      rw [idxL, upL]
      by_cases h : d = c
      · rw [if_pos h, if_pos (by simp [h])]; exact .inl ⟨Int.le_refl _, rfl⟩
      · have hm : d ∉ [c] := by simpa using h
        rw [if_neg h, if_neg hm]
        rcases ih with ⟨h1, h2⟩ | ⟨h1, h2⟩
        · rw [if_neg (by omega)]; exact .inl ⟨by omega, by rw [h2]; rfl⟩
        · rw [if_pos h1, h2]; exact .inr ⟨rfl, by simp⟩
  intro l
  unfold cut1
  rcases key l with ⟨h1, h2⟩ | ⟨h1, h2⟩
  · rw [if_pos h1, h2]; rfl
  · rw [if_neg (by omega), h2, List.take_length, List.drop_eq_nil_of_le (by omega)]
theorem last_at : lastG (-1) 0 = fun s => lastU 64 s := by
  have key : ∀ (l : List Int) (a i : Int), lastG a i l = if 0 ≤ lastU 64 l then i + lastU 64 l else a := by
    intro l
    induction l with
    | nil => intro a i; rfl
    | cons d t ih =>
      intro a i
      rw [lastG, lastU, ih]
      have := (lastU_ge 64 t).1
      by_cases h : 0 ≤ lastU 64 t
      · rw [if_pos h]
        split
        · split <;> omega
        · omega
      · rw [if_neg h]
        by_cases hd : d = 64
        · simp [hd]; omega
        · simp [hd]; omega
  funext s
  rw [key]
  have := (lastU_ge 64 s).1
  split <;> omega
end GoD

/-! url.Parse answers as the document does: points, paths. -/
namespace GoD
open Go Go.Proofs
set_option linter.unusedVariables false
set_option linter.unusedSimpArgs false
set_option maxHeartbeats 8000000
set_option maxRecDepth 100000
/-- each %2e a point -/
def RB (s : List UInt8) : List UInt8 := Lib.replaceAll s [37, 50, 101] [46]
theorem RB_k (s : List UInt8) : RB s = Lib.replaceK [37, 50, 101] [46] (Lib.count s [37, 50, 101]) s := by
  unfold RB Lib.replaceAll Lib.replace Lib.replaceNum
  rw [if_neg (by decide), if_pos (.inl (by decide))]
theorem RB_none {s : List UInt8} (h : Lib.index s [37, 50, 101] = -1) : RB s = s := by rw [RB_k, Lib.count_miss h]; rfl
theorem RB_at {s : List UInt8} {i : Nat} (h : Lib.index s [37, 50, 101] = i) : RB s = s.take i ++ 46 :: RB (s.drop (i + 3)) := by
  rw [RB_k, Lib.count_hit (by simp) h, Nat.add_comm, Lib.replaceK_hit _ _ _ _ _ h, RB_k, List.append_assoc]; rfl
theorem RB_hit (t : List UInt8) : RB (37 :: 50 :: 101 :: t) = 46 :: RB t := by
  rw [RB_at (i := 0) (by rw [Lib.index, if_pos (by simp [List.isPrefixOf])]; rfl)]; rfl
theorem RB_miss {c : UInt8} {t : List UInt8} (h : ([37, 50, 101] : List UInt8).isPrefixOf (c :: t) = false) : RB (c :: t) = c :: RB t := by
  have hge := Lib.index_ge t [37, 50, 101]
  have hi : Lib.index (c :: t) [37, 50, 101] = if Lib.index t [37, 50, 101] == -1 then -1 else Lib.index t [37, 50, 101] + 1 := by rw [Lib.index, h]; rfl
  by_cases e : Lib.index t [37, 50, 101] = -1
  · rw [RB_none e, RB_none (by rw [hi, e]; rfl)]
  · rw [if_neg (by simpa using e)] at hi
    obtain ⟨i, hn⟩ : ∃ i : Nat, Lib.index t [37, 50, 101] = i := ⟨(Lib.index t [37, 50, 101]).toNat, by omega⟩
    rw [RB_at (i := i + 1) (by rw [hi, hn]; rfl), RB_at hn]; rfl
def u8 (c : Int) : UInt8 := c.toNat.toUInt8
theorem u8_eq {c : Int} (h : 0 ≤ c ∧ c < 256) (k : Nat) (hk : k < 256) : u8 c = UInt8.ofNat k ↔ c = k := by
  unfold u8
  constructor
  · intro e
    have := congrArg UInt8.toNat e
    simp at this
    omega
  · rintro rfl; rfl
theorem dots_RB : ∀ (f : Nat) (x : List Int) (n : Nat), x.length ≤ f → (∀ c ∈ x, 0 ≤ c ∧ c < 256) → (RB (x.map u8) = List.replicate n 46 ↔ dotsL x = some n)
  | f, [], n, _, _ => by
    rw [List.map_nil, RB_none (by rfl), dotsL]
    cases n with
    | zero => simp
    | succ n => simp [List.replicate_succ]
  | 0, c :: t, n, h, _ => by simp at h
  | f + 1, c :: t, n, h, hb => by
    have hc := hb c (by simp)
    have ht : ∀ c ∈ t, 0 ≤ c ∧ c < 256 := fun d hd => hb d (by simp [hd])
    simp at h
    rw [dotsL_cons]
    by_cases k : ∃ r, t = 50 :: 101 :: r ∧ c = 37
    · obtain ⟨r, rfl, rfl⟩ := k
      rw [show (List.map u8 (37 :: 50 :: 101 :: r)) = 37 :: 50 :: 101 :: r.map u8 from rfl, RB_hit, if_neg (by decide), if_pos rfl, dotsT, if_pos ⟨rfl, rfl⟩]
      cases n with
      | zero => simp
      | succ n =>
        have ih := dots_RB f r n (by simp at h; omega) (fun d hd => ht d (by simp [hd]))
        rw [List.replicate_succ, List.cons.injEq, ih]
        simp
    · have hm : ([37, 50, 101] : List UInt8).isPrefixOf (u8 c :: t.map u8) = false := by
        match t, k, ht with
        | [], _, _ => simp [List.isPrefixOf]
        | [a], _, _ => simp [List.isPrefixOf]
        | a :: b :: r, k, ht =>
          have ha := ht a (by simp)
          have hb' := ht b (by simp)
          cases hh : ([37, 50, 101] : List UInt8).isPrefixOf (u8 c :: List.map u8 (a :: b :: r)) with
          | false => rfl
          | true =>
            exfalso
            simp [List.isPrefixOf] at hh
            obtain ⟨e1, e2, e3⟩ := hh
            have e1 := (u8_eq hc 37 (by omega)).1 e1.symm
            have e2 := (u8_eq ha 50 (by omega)).1 e2.symm
            have e3 := (u8_eq hb' 101 (by omega)).1 e3.symm
            exact k ⟨r, by rw [e2, e3]; rfl, e1⟩
      rw [List.map_cons, RB_miss hm]
      by_cases h46 : c = 46
      · rw [if_pos h46]
        subst h46
        cases n with
        | zero => simp
        | succ n =>
          rw [List.replicate_succ, List.cons.injEq, dots_RB f t n (by omega) ht]
          simp
          intro _; rfl
      · rw [if_neg h46]
        have hnone : (if c = 37 then dotsT t else none) = none := by
          split
          · rename_i h37
            match t, k with
            | [], _ => rfl
            | [a], _ => rfl
            | a :: b :: r, k =>
              rw [dotsT, if_neg fun e => k ⟨r, by rw [e.1, e.2], h37⟩]
          · rfl
        rw [hnone]
        cases n with
        | zero => simp
        | succ n =>
          rw [List.replicate_succ, List.cons.injEq]
          constructor
          · rintro ⟨e, _⟩; exact absurd ((u8_eq hc 46 (by omega)).1 e) h46
          · intro e; cases e
theorem lowerL_byte {l : List Int} (h : ∀ c ∈ l, 0 ≤ c ∧ c < 256) : ∀ c ∈ lowerL l, 0 ≤ c ∧ c < 256 := by
  intro c hc
  unfold lowerL at hc
  obtain ⟨d, hd, rfl⟩ := List.mem_map.1 hc
  have := h d hd
  unfold lowB
  split <;> omega
theorem dotR_eq {l : List Int} (hb : ∀ c ∈ l, 0 ≤ c ∧ c < 256) (n : Nat) : dotR l = List.replicate n 46 ↔ dotsL (lowerL l) = some n := by
  rw [← dots_RB _ _ n (Nat.le_refl _) (lowerL_byte hb)]
  unfold dotR replGo ofBA
  rw [toBA_list, toBA_list, toBA_list]
  show (RB ((lowerL l).map u8)).map (fun d => (d.toNat : Int)) = _ ↔ _
  constructor
  · intro e
    have h1 : ∀ d : UInt8, u8 ((d.toNat : Nat) : Int) = d := fun d => by simp [u8]
    have h2 := congrArg (List.map u8) e
    rw [List.map_map, List.map_replicate] at h2
    have h3 : (u8 ∘ fun d : UInt8 => (d.toNat : Int)) = id := by funext d; exact h1 d
    rw [h3, List.map_id] at h2
    exact h2
  · intro e; rw [e, List.map_replicate]; rfl
theorem dots_eq {l : List Int} (hb : ∀ c ∈ l, 0 ≤ c ∧ c < 256) : dotsU l = dotsN l := by
  have h1 := dotR_eq hb 1
  have h2 := dotR_eq hb 2
  rw [show List.replicate 1 (46 : Int) = [46] from rfl] at h1
  rw [show List.replicate 2 (46 : Int) = [46, 46] from rfl] at h2
  have h0 := dotR_eq hb 0
  unfold dotsU dotsN
  cases e : dotsL (lowerL l) with
  | none =>
    rw [e] at h1 h2
    rw [if_neg (fun x => by have := h1.1 x; cases this), if_neg (fun x => by have := h2.1 x; cases this)]
  | some n =>
    rw [e] at h1 h2
    simp only [Option.some.injEq] at h1 h2
    by_cases c1 : n = 1
    · rw [if_pos (h1.2 c1), c1]; rfl
    · by_cases c2 : n = 2
      · rw [if_neg (fun x => c1 (h1.1 x)), if_pos (h2.2 c2), c2]; rfl
      · rw [if_neg (fun x => c1 (h1.1 x)), if_neg (fun x => c2 (h2.1 x))]
        simp only
        split <;> omega
end GoD
