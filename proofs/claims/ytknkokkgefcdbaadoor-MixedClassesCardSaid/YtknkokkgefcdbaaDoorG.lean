import Derived.Test.YtknkokkgefcdbaaDoorF
namespace Go.Proofs.YtknkokkgefcdbaaDoor.PA
open Go.RowKit Go.Proofs.YtknkokkgefcdbaaDoorW.PrintWords Go.Proofs.YtknkokkgefcdbaaDoorW.PrintLast Go.Proofs.YtknkokkgefcdbaaDoorW.PrintMore Go.Proofs.YtknkokkgefcdbaaDoorPL
open Go.Proofs.YtknkokkgefcdbaaDoorWS (lowB lowerL hexv decodeL splitL partsL digitsB hexP accV baseV restV partV numL numberL numericB decD textL forbB hostL addrL domainB resV)
set_option linter.unusedVariables false
set_option linter.unusedSimpArgs false
/-! Numbers that are written are read -/
/-- the value of decimal digits behind n -/
def valD : Int → List Int → Int
  | n, [] => n
  | n, c :: t => valD (10 * n + (c - 48)) t
def DecB (xs : List Int) : Prop := ∀ c ∈ xs, 48 ≤ c ∧ c ≤ 57
theorem hexv_dec {c : Int} (h : 48 ≤ c ∧ c ≤ 57) : hexv c = c - 48 := by unfold hexv; rw [if_pos h]
theorem valD_ge : ∀ {xs : List Int} {n : Int}, DecB xs → 0 ≤ n → n ≤ valD n xs
  | [], n, _, _ => Int.le_refl n
  | c :: t, n, h, h0 => by
    have hc := h c (by simp)
    have := valD_ge (n := 10 * n + (c - 48)) (fun x hx => h x (List.mem_cons_of_mem _ hx)) (by omega)
    rw [valD]; omega
theorem accV_val : ∀ {xs : List Int} {n : Int}, DecB xs → 0 ≤ n → n < 4294967296 → accV 10 n xs = if valD n xs < 4294967296 then some (valD n xs) else none
  | [], n, _, _, h1 => by rw [accV, valD, if_pos h1]
  | c :: t, n, h, h0, h1 => by
    have hc := h c (by simp)
    have ht : DecB t := fun x hx => h x (List.mem_cons_of_mem _ hx)
    rw [accV, valD, hexv_dec hc]
    by_cases e : 10 * n + (c - 48) ≥ 4294967296
    · rw [if_pos e, if_neg]
      have := valD_ge (n := 10 * n + (c - 48)) ht (by omega)
      omega
    · rw [if_neg e]
      exact accV_val ht (by omega) (by omega)
theorem valD_append : ∀ (xs ys : List Int) (n : Int), valD n (xs ++ ys) = valD (valD n xs) ys
  | [], _, _ => rfl
  | c :: t, ys, n => by rw [List.cons_append, valD, valD, valD_append t ys]
theorem decD_decB : ∀ (n : Nat), DecB (decD n) := by
  intro n
  induction n using Nat.strongRecOn with
  | ind n ih =>
    by_cases h : n < 10
    · rw [decD_small h]
      intro c hc
      obtain rfl := List.mem_singleton.1 hc
      omega
    · rw [decD_big h]
      intro c hc
      rcases List.mem_append.1 hc with hc | hc
      · exact ih (n / 10) (by omega) c hc
      · obtain rfl := List.mem_singleton.1 hc
        omega
theorem decD_val : ∀ (n : Nat), valD 0 (decD n) = (n : Int) := by
  intro n
  induction n using Nat.strongRecOn with
  | ind n ih =>
    by_cases h : n < 10
    · rw [decD_small h, valD, valD]; omega
    · rw [decD_big h, valD_append, ih (n / 10) (by omega), valD, valD]; omega
theorem decD_ne (n : Nat) : decD n ≠ [] := by
  by_cases h : n < 10
  · rw [decD_small h]; simp
  · rw [decD_big h]; simp
theorem decD_head : ∀ (n : Nat), 1 < (decD n).length → (decD n).head? ≠ some 48 := by
  intro n
  induction n using Nat.strongRecOn with
  | ind n ih =>
    intro hl
    by_cases h : n < 10
    · rw [decD_small h] at hl; simp at hl
    · by_cases h2 : n / 10 < 10
      · rw [decD_big h, decD_small h2]
        simp
        omega
      · have hq := ih (n / 10) (by omega) (by
          rw [decD_big h2, List.length_append]
          have := List.length_pos_iff.2 (decD_ne (n / 10 / 10))
          simp only [List.length_singleton]; omega)
        rw [decD_big h]
        cases e : decD (n / 10) with
        | nil => exact absurd e (decD_ne _)
        | cons x t => rw [e] at hq; simpa using hq
theorem decB_dig {xs : List Int} (h : DecB xs) : digitsB 10 xs = true := by
  unfold digitsB
  rw [List.all_eq_true]
  intro c hc
  have := h c hc
  rw [hexv_dec this]
  exact decide_eq_true (by omega)
theorem partV_decD (n : Nat) : partV (decD n) = if (n : Int) < 4294967296 then some (n : Int) else none := by
  have hd := decB_dig (decD_decB n)
  rw [partV_dec (dig10_nohex hd) (fun x => decD_head n x.1 x.2), if_neg (by simp [decD_ne, hd]), accV_val (decD_decB n) (by omega) (by omega), decD_val]
theorem decD_nodot (n : Nat) : (46 : Int) ∉ decD n := fun h => by
  have := decD_decB n 46 h
  omega
/-! an address that is written is read -/
theorem split_text (a : Int) : splitL 46 (textL a) = [decD (a / 16777216).toNat, decD (a / 65536 % 256).toNat, decD (a / 256 % 256).toNat, decD (a % 256).toNat] := by
  unfold textL
  rw [show decD (a / 16777216).toNat ++ [46] ++ decD (a / 65536 % 256).toNat ++ [46] ++ decD (a / 256 % 256).toNat ++ [46] ++ decD (a % 256).toNat = decD (a / 16777216).toNat ++ 46 :: (decD (a / 65536 % 256).toNat ++ 46 :: (decD (a / 256 % 256).toNat ++ 46 :: decD (a % 256).toNat)) by simp]
  rw [splitL_at (decD_nodot _), splitL_at (decD_nodot _), splitL_at (decD_nodot _), splitL_none (decD_nodot _)]
theorem parts_text (a : Int) : partsL (textL a) = [decD (a / 16777216).toNat, decD (a / 65536 % 256).toNat, decD (a / 256 % 256).toNat, decD (a % 256).toNat] := by
  unfold partsL
  rw [split_text, if_neg]
  rintro ⟨_, h⟩
  simp at h
  exact decD_ne _ h
theorem number_text {a : Int} (h0 : 0 ≤ a) (h1 : a < 4294967296) : numberL (textL a) = some a := by
  unfold numberL
  rw [parts_text, if_neg (by simp)]
  rw [numL, partV_decD, if_pos (by omega), Option.bind_some, if_neg (by omega), numL, partV_decD, if_pos (by omega), Option.bind_some, if_neg (by omega), numL, partV_decD, if_pos (by omega), Option.bind_some, if_neg (by omega), numL, partV_decD, if_pos (by omega), Option.bind_some, if_pos (by simp only [Nat.reduceSub, Nat.reduceMul, Int.reducePow]; omega)]
  simp only [Option.map_some, Nat.reduceSub, Nat.reduceMul, Int.reducePow]
  congr 1
  omega
theorem addr_text {a : Int} (h0 : 0 ≤ a) (h1 : a < 4294967296) : addrL (textL a) = some a := by
  unfold addrL
  rw [number_text h0 h1, Option.bind_some, if_pos rfl]
/-! what was read is read as itself -/
theorem decodeL_id : ∀ {xs : List Int}, (37 : Int) ∉ xs → decodeL xs = xs
  | [], _ => rfl
  | c :: t, h => by
    rw [decodeL_cons (Or.inl (fun e => h (by simp [e]))), decodeL_id (fun e => h (List.mem_cons_of_mem _ e))]
theorem lowB_low (c : Int) : lowB (lowB c) = lowB c := by unfold lowB; omega
theorem lowerL_low (xs : List Int) : lowerL (lowerL xs) = lowerL xs := by
  unfold lowerL
  rw [List.map_map]
  exact List.map_congr_left fun c _ => lowB_low c
/-- a host that is read: in small letters, without what may not be -/
theorem host_fixed {xs h : List Int} (e : hostL xs = some h) : h ≠ [] ∧ decodeL h = h ∧ lowerL h = h ∧ h.any forbB = false := by
  rw [hostL_eq] at e
  split at e
  · cases e
  · rename_i h1
    split at e
    · cases e
    · rename_i h2
      unfold finL at e
      split at e
      · obtain ⟨n, hn, rfl⟩ := Option.map_eq_some_iff.1 e
        have hc : ∀ c ∈ textL n, (48 ≤ c ∧ c ≤ 57) ∨ c = 46 := by
          intro c hc
          unfold textL at hc
          simp only [List.mem_append, List.mem_singleton] at hc
          rcases hc with ((((((hc | hc) | hc) | hc) | hc) | hc) | hc)
          all_goals first | exact Or.inr hc | exact Or.inl (decD_decB _ c hc)
        refine ⟨?_, decodeL_id (fun m => by have := hc 37 m; omega), ?_, ?_⟩
        · unfold textL
          simp
        · unfold lowerL
          conv => rhs; rw [← List.map_id (textL n)]
          refine List.map_congr_left fun c m => ?_
          have := hc c m
          show lowB c = c
          unfold lowB; omega
        · rw [List.any_eq_false]
          intro c m
          have := hc c m
          have hr : 0 ≤ c ∧ c < 256 := textL_bytes c m
          have key : ∀ k : Fin 256, ((48 ≤ (k.val : Int) ∧ (k.val : Int) ≤ 57) ∨ (k.val : Int) = 46) → forbB (k.val : Int) = false := by decide +kernel
          have q := key ⟨c.toNat, by omega⟩
          rw [show ((c.toNat : Nat) : Int) = c by omega] at q
          simp [q this]
      · obtain rfl := Option.some.inj e
        have hf : (lowerL (decodeL xs)).any forbB = false := by simpa using h2
        refine ⟨h1, decodeL_id (fun m => ?_), lowerL_low _, hf⟩
        rw [List.any_eq_false] at hf
        exact hf 37 m (by decide)
/-- what is read hangs on its small letters behind the percents alone -/
theorem host_same {xs ys : List Int} (h : lowerL (decodeL xs) = lowerL (decodeL ys)) : hostL xs = hostL ys := by
  rw [hostL_eq, hostL_eq, h]
theorem num_last {d : List Int} {n : Int} (h : numberL d = some n) (h2 : numericB ((partsL d).getLastD []) = true) : True := trivial
theorem numeric_dec (n : Nat) : numericB (decD n) = true := by
  have hd := decB_dig (decD_decB n)
  unfold numericB
  rw [if_neg (by rw [dig10_nohex hd]; simp), hd]
  simp [decD_ne]
theorem host_text {a : Int} (h0 : 0 ≤ a) (h1 : a < 4294967296) (hd : decodeL (textL a) = textL a) (hl : lowerL (textL a) = textL a) (hn : textL a ≠ []) (hf : (textL a).any forbB = false) : hostL (textL a) = some (textL a) := by
  rw [hostL_eq, hd, hl, if_neg hn, if_neg (by rw [hf]; simp)]
  unfold finL
  rw [parts_text, show List.getLastD [decD (a / 16777216).toNat, decD (a / 65536 % 256).toNat, decD (a / 256 % 256).toNat, decD (a % 256).toNat] [] = decD (a % 256).toNat from rfl, if_pos (numeric_dec _), number_text h0 h1]
  rfl
theorem host_back {xs h : List Int} (e : hostL xs = some h) : hostL h = some h := by
  obtain ⟨f1, f2, f3, f4⟩ := host_fixed e
  have e' := e
  rw [hostL_eq] at e
  split at e
  · cases e
  · split at e
    · cases e
    · unfold finL at e
      split at e
      · obtain ⟨n, hn, rfl⟩ := Option.map_eq_some_iff.1 e
        exact host_text (numberL_range hn).1 (numberL_range hn).2 f2 f3 f1 f4
      · rename_i h3
        obtain rfl := Option.some.inj e
        rw [hostL_eq, f2, f3, if_neg f1, if_neg (by rw [f4]; simp)]
        unfold finL
        rw [if_neg h3]
theorem textL_length (a : Int) (h0 : 0 ≤ a) (h1 : a < 4294967296) : (textL a).length < 2000 := by
  unfold textL
  have l0 := decD_length (a / 16777216).toNat
  have l1 := decD_length (a / 65536 % 256).toNat
  have l2 := decD_length (a / 256 % 256).toNat
  have l3 := decD_length (a % 256).toNat
  simp only [List.length_append, List.length_cons, List.length_nil]
  omega
theorem hostL_length {xs h : List Int} (e : hostL xs = some h) : h.length ≤ xs.length + 2000 := by
  rw [hostL_eq] at e
  split at e
  · cases e
  · split at e
    · cases e
    · unfold finL at e
      split at e
      · obtain ⟨n, hn, rfl⟩ := Option.map_eq_some_iff.1 e
        have := textL_length n (numberL_range hn).1 (numberL_range hn).2
        omega
      · obtain rfl := Option.some.inj e
        have := dec_low_length xs
        omega
end Go.Proofs.YtknkokkgefcdbaaDoor.PA
