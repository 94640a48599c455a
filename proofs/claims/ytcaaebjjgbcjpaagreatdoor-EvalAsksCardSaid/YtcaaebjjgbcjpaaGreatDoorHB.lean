import Derived.Test.YtcaaebjjgbcjpaaGreatDoorEC
/-! Addresses in three bases, as they are written and read. -/
namespace GoD
set_option linter.unusedVariables false
set_option linter.unusedSimpArgs false
set_option maxRecDepth 100000
def dgB (d : Nat) : Int := if d < 10 then 48 + (d : Int) else 87 + (d : Int)
def digsB (b n : Nat) : List Int := if h : n < b ∨ b < 2 then [dgB n] else digsB b (n / b) ++ [dgB (n % b)]
termination_by n
decreasing_by
  simp only [not_or, Nat.not_lt] at h
  exact Nat.div_lt_self (by omega) (by omega)
theorem hexv_dg {d : Nat} (h : d < 16) : hexv (dgB d) = d := by
  have : ∀ d < 16, hexv (dgB d) = d := by decide
  exact this d h
theorem accV_snoc (b : Int) : ∀ (xs : List Int) (n c : Int), accV b n (xs ++ [c]) = (accV b n xs).bind fun m => if b * m + hexv c ≥ 4294967296 then none else some (b * m + hexv c)
  | [], n, c => by
    simp only [List.nil_append, accV, Option.bind_some]
  | x :: xs, n, c => by
    simp only [List.cons_append, accV]
    split
    · rfl
    · exact accV_snoc b xs _ c
theorem digs_acc {b : Nat} (h2 : 2 ≤ b) (h16 : b ≤ 16) : ∀ n : Nat, n < 4294967296 → accV b 0 (digsB b n) = some (n : Int) := by
  intro n
  induction n using Nat.strongRecOn with
  | _ n ih =>
    intro hn
    unfold digsB
    split
    · rename_i h
      have h1 : n < b := by omega
      simp only [accV, hexv_dg (show n < 16 by omega), Int.mul_zero, Int.zero_add]
      rw [if_neg (by omega)]
    · rename_i h
      simp only [not_or, Nat.not_lt] at h
      have hlt : n / b < n := Nat.div_lt_self (by omega) (by omega)
      have hm := Nat.mod_lt n (show 0 < b by omega)
      rw [accV_snoc, ih _ hlt (by omega), Option.bind_some, hexv_dg (by omega)]
      have e : (b : Int) * ((n / b : Nat) : Int) + ((n % b : Nat) : Int) = n := by
        have := Nat.div_add_mod n b
        exact_mod_cast this
      rw [e, if_neg (by omega)]
theorem dg_digit {b d : Nat} (h : d < b) (h16 : b ≤ 16) : 0 ≤ hexv (dgB d) ∧ hexv (dgB d) < b := by
  rw [hexv_dg (by omega)]; omega
theorem digs_mem {b : Nat} (h2 : 2 ≤ b) : ∀ (n : Nat) (c : Int), c ∈ digsB b n → ∃ d, d < b ∧ c = dgB d := by
  intro n
  induction n using Nat.strongRecOn with
  | _ n ih =>
    intro c hc
    unfold digsB at hc
    split at hc
    · simp at hc
      exact ⟨n, by omega, hc⟩
    · rename_i h
      simp only [not_or, Nat.not_lt] at h
      rcases List.mem_append.1 hc with hc | hc
      · exact ih _ (Nat.div_lt_self (by omega) (by omega)) c hc
      · simp at hc
        exact ⟨n % b, Nat.mod_lt _ (by omega), hc⟩
theorem digs_ne (b n : Nat) : digsB b n ≠ [] := by
  unfold digsB
  split <;> simp
theorem digs_head {b : Nat} (h2 : 2 ≤ b) : ∀ n : Nat, 0 < n → ∃ d t, digsB b n = dgB d :: t ∧ 0 < d ∧ d < b := by
  intro n
  induction n using Nat.strongRecOn with
  | _ n ih =>
    intro hn
    unfold digsB
    split
    · exact ⟨n, [], rfl, hn, by omega⟩
    · rename_i h
      simp only [not_or, Nat.not_lt] at h
      obtain ⟨d, t, e, h1, h3⟩ := ih (n / b) (Nat.div_lt_self (by omega) (by omega)) (Nat.div_pos h.1 (by omega))
      exact ⟨d, t ++ [dgB (n % b)], by rw [e]; rfl, h1, h3⟩
theorem digs_all {b n : Nat} (h2 : 2 ≤ b) (h16 : b ≤ 16) : digitsB b (digsB b n) = true := by
  unfold digitsB
  rw [List.all_eq_true]
  intro c hc
  obtain ⟨d, hd, rfl⟩ := digs_mem h2 n c hc
  exact decide_eq_true (dg_digit hd h16)
/-- an address's part in a base: 0 ten, 1 eight, else sixteen; X as it is written -/
def wrB (k : Int) (x : Int) (n : Nat) : List Int := if k = 0 then digsB 10 n else if k = 1 then 48 :: digsB 8 n else 48 :: x :: digsB 16 n
theorem dg_le {d : Nat} (h : d < 16) : 48 ≤ dgB d ∧ dgB d ≤ 102 ∧ (d < 10 → dgB d ≤ 57) ∧ (¬ d < 10 → 97 ≤ dgB d) := by
  unfold dgB
  split <;> omega
theorem wr_piece {k x : Int} {n : Nat} (hx : x = 88 ∨ x = 120) (hn : n < 4294967296) : pieceV (wrB k x n) = some (n : Int) := by
  unfold wrB
  split
  · -- ten
    have hh : hexP (digsB 10 n) = false := by
      cases hd : digsB 10 n with
      | nil => rfl
      | cons c t =>
        cases t with
        | nil => rfl
        | cons d t =>
          obtain ⟨e, he, rfl⟩ := digs_mem (b := 10) (by omega) n d (by rw [hd]; simp)
          have := dg_le (d := e) (by omega)
          have h57 := this.2.2.1 he
          simp only [hexP, Bool.and_eq_false_iff, Bool.or_eq_false_iff, beq_eq_false_iff_ne]
          exact .inr ⟨by omega, by omega⟩
    have hz : ¬ (1 < (digsB 10 n).length ∧ (digsB 10 n).head? = some 48) := by
      rintro ⟨h1, h3⟩
      have hn0 : 0 < n := by
        rcases Nat.eq_zero_or_pos n with rfl | h
        · exfalso; unfold digsB at h1; simp at h1
        · exact h
      obtain ⟨d, t, e, h4, h5⟩ := digs_head (b := 10) (by omega) n hn0
      rw [e] at h3
      simp at h3
      unfold dgB at h3
      split at h3 <;> omega
    unfold pieceV baseV restV
    rw [hh]
    simp only [if_neg hz, Bool.false_eq_true, if_false]
    rw [if_neg]
    · exact digs_acc (b := 10) (by omega) (by omega) n hn
    · rintro (h | h)
      · exact digs_ne _ _ h
      · rw [show (10 : Int) = ((10 : Nat) : Int) from rfl, digs_all (by omega) (by omega)] at h; cases h
  · split
    · -- eight
      have hh : hexP (48 :: digsB 8 n) = false := by
        cases hd : digsB 8 n with
        | nil => rfl
        | cons d t =>
          obtain ⟨e, he, rfl⟩ := digs_mem (b := 8) (by omega) n d (by rw [hd]; simp)
          have := dg_le (d := e) (by omega)
          have h57 := this.2.2.1 (by omega)
          simp only [hexP, Bool.and_eq_false_iff, Bool.or_eq_false_iff, beq_eq_false_iff_ne]
          exact .inr ⟨by omega, by omega⟩
      have hz : 1 < (48 :: digsB 8 n).length ∧ (48 :: digsB 8 n : List Int).head? = some 48 := by
        refine ⟨?_, rfl⟩
        have := digs_ne 8 n
        cases hd : digsB 8 n with
        | nil => exact absurd hd this
        | cons _ _ => simp
      unfold pieceV baseV restV
      rw [hh]
      simp only [if_pos hz, Bool.false_eq_true, if_false, List.drop_succ_cons, List.drop_zero]
      rw [if_neg]
      · exact digs_acc (b := 8) (by omega) (by omega) n hn
      · rintro (h | h)
        · cases h
        · rw [show (8 : Int) = ((8 : Nat) : Int) from rfl, digs_all (by omega) (by omega)] at h; cases h
    · -- sixteen
      have hh : hexP (48 :: x :: digsB 16 n) = true := by
        rcases hx with rfl | rfl <;> rfl
      unfold pieceV baseV restV
      rw [hh]
      simp only [if_true, List.drop_succ_cons, List.drop_zero]
      rw [if_neg]
      · exact digs_acc (b := 16) (by omega) (by omega) n hn
      · rintro (h | h)
        · cases h
        · rw [show (16 : Int) = ((16 : Nat) : Int) from rfl, digs_all (by omega) (by omega)] at h; cases h
theorem wr_mem {k x : Int} {n : Nat} {c : Int} (hc : c ∈ wrB k x n) : c = x ∨ (48 ≤ c ∧ c ≤ 57) ∨ (97 ≤ c ∧ c ≤ 102) := by
  have key : ∀ b, 2 ≤ b → b ≤ 16 → c ∈ digsB b n → (48 ≤ c ∧ c ≤ 57) ∨ (97 ≤ c ∧ c ≤ 102) := fun b h1 h2 h => by
    obtain ⟨d, hd, rfl⟩ := digs_mem h1 n c h
    have := dg_le (d := d) (by omega)
    by_cases h10 : d < 10
    · have := this.2.2.1 h10; omega
    · have := this.2.2.2 h10; omega
  unfold wrB at hc
  split at hc
  · exact .inr (key 10 (by omega) (by omega) hc)
  · split at hc
    · rcases List.mem_cons.1 hc with rfl | hc
      · exact .inr (.inl ⟨by omega, by omega⟩)
      · exact .inr (key 8 (by omega) (by omega) hc)
    · rcases List.mem_cons.1 hc with rfl | hc
      · exact .inr (.inl ⟨by omega, by omega⟩)
      · rcases List.mem_cons.1 hc with rfl | hc
        · exact .inl rfl
        · exact .inr (key 16 (by omega) (by omega) hc)
theorem wr_ne (k x : Int) (n : Nat) : wrB k x n ≠ [] := by
  unfold wrB
  split
  · exact digs_ne _ _
  · split <;> simp
theorem wr_dot {k x : Int} {n : Nat} (hx : x = 88 ∨ x = 120) : 46 ∉ wrB k x n := fun h => by
  rcases wr_mem h with h | h | h <;> omega
def fourB (k x : Int) (a b c d : Nat) : List Int := wrB k x a ++ 46 :: (wrB k x b ++ 46 :: (wrB k x c ++ 46 :: (wrB k x d ++ 46 :: [])))
theorem four_parts {k x : Int} {a b c d : Nat} (hx : x = 88 ∨ x = 120) : partsL (fourB k x a b c d) = [wrB k x a, wrB k x b, wrB k x c, wrB k x d] := by
  unfold partsL fourB
  rw [splitL_cons (wr_dot hx), splitL_cons (wr_dot hx), splitL_cons (wr_dot hx), splitL_cons (wr_dot hx)]
  simp [splitL]
theorem one_parts {k x : Int} {a : Nat} (hx : x = 88 ∨ x = 120) : partsL (wrB k x a) = [wrB k x a] := by
  unfold partsL
  rw [splitL_none (wr_dot hx)]
  simp
theorem two_parts {k x : Int} {a b : Nat} (hx : x = 88 ∨ x = 120) : partsL (wrB k x a ++ 46 :: wrB k x b) = [wrB k x a, wrB k x b] := by
  unfold partsL
  rw [splitL_cons (wr_dot hx), splitL_none (wr_dot hx)]
  have := wr_ne k x b
  simp [this]
theorem numL_one {left : Nat} {p : List Int} {n : Int} (hp : pieceV p = some n) (h : n < 2 ^ (8 * left)) : numL left [p] = some n := by rw [numL, hp, Option.bind_some, if_pos h]
theorem numL_cons {left : Nat} {p : List Int} {r : List (List Int)} {n v : Int} (hp : pieceV p = some n) (hr : r ≠ []) (h : ¬ n > 255) (hv : numL (left - 1) r = some v) : numL left (p :: r) = some (n * 2 ^ (8 * (left - 1)) + v) := by
  rw [numL_more hr, hp, Option.bind_some, if_neg h, hv]; rfl
theorem p24 : (2 : Int) ^ (8 * (4 - 1)) = 16777216 := by decide
theorem p16 : (2 : Int) ^ (8 * (3 - 1)) = 65536 := by decide
theorem p8 : (2 : Int) ^ (8 * (2 - 1)) = 256 := by decide
theorem p8' : (2 : Int) ^ (8 * 1) = 256 := by decide
theorem p24' : (2 : Int) ^ (8 * 3) = 16777216 := by decide
theorem p32' : (2 : Int) ^ (8 * 4) = 4294967296 := by decide
theorem one_num {k x : Int} {a : Nat} (hx : x = 88 ∨ x = 120) (ha : a < 4294967296) : numberL (wrB k x a) = some (a : Int) := by
  unfold numberL
  rw [one_parts hx, if_neg (by simp)]
  exact numL_one (wr_piece hx ha) (by rw [p32']; omega)
theorem two_num {k x : Int} {a b : Nat} (hx : x = 88 ∨ x = 120) (ha : a < 256) (hb : b < 16777216) : numberL (wrB k x a ++ 46 :: wrB k x b) = some ((a : Int) * 16777216 + b) := by
  unfold numberL
  rw [two_parts hx, if_neg (by simp), numL_cons (left := 4) (wr_piece hx (by omega)) (by simp) (by omega) (numL_one (left := 3) (wr_piece hx (by omega)) (by rw [p24']; omega)), p24]
theorem four_num {k x : Int} {a b c d : Nat} (hx : x = 88 ∨ x = 120) (ha : a < 256) (hb : b < 256) (hc : c < 256) (hd : d < 256) : numberL (fourB k x a b c d) = some ((a : Int) * 16777216 + ((b : Int) * 65536 + ((c : Int) * 256 + d))) := by
  unfold numberL
  rw [four_parts hx, if_neg (by simp), numL_cons (left := 4) (wr_piece hx (by omega)) (by simp) (by omega) (numL_cons (left := 3) (wr_piece hx (by omega)) (by simp) (by omega) (numL_cons (left := 2) (wr_piece hx (by omega)) (by simp) (by omega) (numL_one (left := 1) (wr_piece hx (by omega)) (by rw [p8']; omega)))), p24, p16, p8]
theorem dec_none : ∀ {l : List Int}, 37 ∉ l → decodeL l = l
  | [], _ => rfl
  | c :: t, h => by
    rw [List.mem_cons, not_or] at h
    rw [decodeL_other (fun _ _ _ _ e => absurd e.symm h.1), dec_none h.2]
theorem low_same {l : List Int} (h : ∀ c ∈ l, ¬ (65 ≤ c ∧ c ≤ 90)) : lowerL l = l := by
  unfold lowerL
  conv => rhs; rw [← List.map_id l]
  refine List.map_congr_left fun c hc => ?_
  unfold lowB
  rw [if_neg (h c hc)]; rfl
theorem digs_low {b n : Nat} (h2 : 2 ≤ b) (h16 : b ≤ 16) : lowerL (digsB b n) = digsB b n := low_same fun c hc => by
  obtain ⟨d, hd, rfl⟩ := digs_mem h2 n c hc
  have := dg_le (d := d) (by omega)
  by_cases h10 : d < 10
  · have := this.2.2.1 h10; omega
  · have := this.2.2.2 h10; omega
theorem lower_app (a b : List Int) : lowerL (a ++ b) = lowerL a ++ lowerL b := by simp [lowerL]
theorem lower_cons (c : Int) (b : List Int) : lowerL (c :: b) = lowB c :: lowerL b := rfl
theorem wr_low (k : Int) (n : Nat) : lowerL (wrB k 88 n) = wrB k 120 n := by
  unfold wrB
  split
  · exact digs_low (by omega) (by omega)
  · split
    · rw [lower_cons, digs_low (by omega) (by omega)]; rfl
    · rw [lower_cons, lower_cons, digs_low (by omega) (by omega)]; rfl
theorem four_low (k : Int) (a b c d : Nat) : lowerL (fourB k 88 a b c d) = fourB k 120 a b c d := by
  unfold fourB
  simp only [lower_app, lower_cons, wr_low]
  rfl
theorem wr_numeric {k : Int} {n : Nat} : numericB (wrB k 120 n) = true := by
  unfold numericB
  have d10 : ∀ b : Nat, b ≤ 10 → 2 ≤ b → digitsB 10 (digsB b n) = true := fun b h1 h2 => by
    unfold digitsB
    rw [List.all_eq_true]
    intro c hc
    obtain ⟨d, hd, rfl⟩ := digs_mem h2 n c hc
    have := dg_digit hd (show b ≤ 16 by omega)
    exact decide_eq_true ⟨this.1, by omega⟩
  unfold wrB
  split
  · have hh : hexP (digsB 10 n) = false := by
      cases hd : digsB 10 n with
      | nil => rfl
      | cons c t =>
        cases t with
        | nil => rfl
        | cons d t =>
          obtain ⟨e, he, rfl⟩ := digs_mem (b := 10) (by omega) n d (by rw [hd]; simp)
          have := (dg_le (d := e) (by omega)).2.2.1 he
          have h48 := (dg_le (d := e) (by omega)).1
          simp only [hexP, Bool.and_eq_false_iff, Bool.or_eq_false_iff, beq_eq_false_iff_ne]
          exact .inr ⟨by omega, by omega⟩
    rw [hh]
    have := digs_ne 10 n
    simp [this, d10 10 (by omega) (by omega)]
  · split
    · have hh : hexP (48 :: digsB 8 n) = false := by
        cases hd : digsB 8 n with
        | nil => rfl
        | cons d t =>
          obtain ⟨e, he, rfl⟩ := digs_mem (b := 8) (by omega) n d (by rw [hd]; simp)
          have := (dg_le (d := e) (by omega)).2.2.1 (by omega)
          have h48 := (dg_le (d := e) (by omega)).1
          simp only [hexP, Bool.and_eq_false_iff, Bool.or_eq_false_iff, beq_eq_false_iff_ne]
          exact .inr ⟨by omega, by omega⟩
      rw [hh]
      have e : digitsB 10 (48 :: digsB 8 n) = true := by rw [digitsB_cons, d10 8 (by omega) (by omega)]; rfl
      simp [e]
    · have hh : hexP (48 :: 120 :: digsB 16 n) = true := rfl
      rw [hh]
      simp only [if_true, List.drop_succ_cons, List.drop_zero]
      exact digs_all (b := 16) (by omega) (by omega)
theorem four_mem {k x : Int} {a b c d : Nat} {z : Int} (h : z ∈ fourB k x a b c d) : z = 46 ∨ z = x ∨ (48 ≤ z ∧ z ≤ 57) ∨ (97 ≤ z ∧ z ≤ 102) := by
  unfold fourB at h
  simp only [List.mem_append, List.mem_cons, List.not_mem_nil, or_false] at h
  rcases h with h | h | h | h | h | h | h | h <;> first | exact .inl h | exact .inr (wr_mem h)
theorem four_host {k : Int} {a b c d : Nat} (ha : a < 256) (hb : b < 256) (hc : c < 256) (hd : d < 256) : hostL (fourB k 88 a b c d) = some (textL ((a : Int) * 16777216 + ((b : Int) * 65536 + ((c : Int) * 256 + d)))) := by
  have e1 : decodeL (fourB k 88 a b c d) = fourB k 88 a b c d := dec_none fun h => by
    rcases four_mem h with h | h | h | h <;> omega
  unfold hostL
  rw [e1, four_low]
  have e2 : ¬ (fourB k 120 a b c d = [] ∨ (fourB k 120 a b c d).any forbB = true) := by
    rintro (h | h)
    · have := wr_ne k 120 a
      unfold fourB at h
      simp at h
    · obtain ⟨z, hz, hf⟩ := List.any_eq_true.1 h
      have hm := four_mem hz
      have key : z = 46 ∨ z = 120 ∨ (48 ≤ z ∧ z ≤ 57) ∨ (97 ≤ z ∧ z ≤ 102) → forbB z = false := by
        intro hm
        unfold forbB
        have : z ≠ 35 ∧ z ≠ 37 ∧ z ≠ 47 ∧ z ≠ 58 ∧ z ≠ 60 ∧ z ≠ 62 ∧ z ≠ 63 ∧ z ≠ 64 ∧ z ≠ 91 ∧ z ≠ 92 ∧ z ≠ 93 ∧ z ≠ 94 ∧ z ≠ 124 := by omega
        simp [this]
        omega
      rw [key hm] at hf; cases hf
  rw [if_neg e2, four_parts (.inr rfl)]
  have e3 : ([wrB k 120 a, wrB k 120 b, wrB k 120 c, wrB k 120 d] : List (List Int)).getLastD [] = wrB k 120 d := rfl
  rw [e3, if_pos wr_numeric, four_num (.inr rfl) ha hb hc hd]
  rfl
end GoD
