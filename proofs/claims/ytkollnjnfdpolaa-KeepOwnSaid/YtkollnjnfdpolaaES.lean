import Derived.Test.YtkollnjnfdpolaaDC
/-! What the document says, over lists of bytes. -/
namespace GoD
set_option linter.unusedVariables false
theorem cut_at {α : Type} {l : List α} {f i : Nat} (h1 : f ≤ i) (h2 : i < l.length) : l.drop f = (l.drop f).take (i - f) ++ l[i] :: l.drop (i + 1) := by
  have e : l.drop i = l[i] :: l.drop (i + 1) := List.drop_eq_getElem_cons h2
  rw [← e]
  have : l.drop i = (l.drop f).drop (i - f) := by rw [List.drop_drop]; congr 1; omega
  rw [this, List.take_append_drop]
theorem cut_snoc {α : Type} {l : List α} {f i : Nat} (h1 : f ≤ i) (h2 : i < l.length) : (l.drop f).take (i + 1 - f) = (l.drop f).take (i - f) ++ [l[i]] := by
  have h3 : i - f < (l.drop f).length := by simp; omega
  have : i + 1 - f = (i - f) + 1 := by omega
  rw [this, List.take_succ_eq_append_getElem h3, List.getElem_drop]
  congr 3; omega
theorem cut_all {α : Type} {l : List α} {f : Nat} : (l.drop f).take (l.length - f) = l.drop f := List.take_of_length_le (by simp)
def lowB (c : Int) : Int := if 65 ≤ c ∧ c ≤ 90 then c + 32 else c
def lowerL (xs : List Int) : List Int := xs.map lowB
def hexv (c : Int) : Int := if 48 ≤ c ∧ c ≤ 57 then c - 48 else if 97 ≤ c ∧ c ≤ 102 then c - 87 else if 65 ≤ c ∧ c ≤ 70 then c - 55 else -1
def decodeL : List Int → List Int
  | c :: a :: b :: t => if c = 37 ∧ 0 ≤ hexv a ∧ 0 ≤ hexv b then (16 * hexv a + hexv b) :: decodeL t else c :: decodeL (a :: b :: t)
  | l => l
theorem hexv_le (c : Int) : -1 ≤ hexv c ∧ hexv c ≤ 15 := by
  unfold hexv
  split
  · omega
  · split
    · omega
    · split <;> omega
theorem decodeL_hex {a b : Int} {t : List Int} (ha : 0 ≤ hexv a) (hb : 0 ≤ hexv b) : decodeL (37 :: a :: b :: t) = (16 * hexv a + hexv b) :: decodeL t := by rw [decodeL, if_pos ⟨rfl, ha, hb⟩]
theorem decodeL_other {c : Int} {t : List Int} (h : ∀ a b r, t = a :: b :: r → c = 37 → 0 ≤ hexv a → 0 ≤ hexv b → False) : decodeL (c :: t) = c :: decodeL t := by
  match t with
  | [] => rfl
  | [a] => simp [decodeL]
  | a :: b :: r => rw [decodeL, if_neg fun e => h a b r rfl e.1 e.2.1 e.2.2]
theorem decodeL_len : ∀ l : List Int, (decodeL l).length ≤ l.length
  | [] => by simp [decodeL]
  | [a] => by simp [decodeL]
  | [a, b] => by simp [decodeL]
  | c :: a :: b :: t => by
    have h1 := decodeL_len t
    have h2 := decodeL_len (a :: b :: t)
    unfold decodeL
    split <;> simp at * <;> omega
def splitL (sep : Int) : List Int → List (List Int)
  | [] => [[]]
  | c :: t => if c = sep then [] :: splitL sep t else match splitL sep t with
    | [] => [[c]]
    | p :: ps => (c :: p) :: ps
theorem splitL_ne (sep : Int) : ∀ l, splitL sep l ≠ []
  | [] => by simp [splitL]
  | c :: t => by
    unfold splitL
    split
    · simp
    · split <;> simp
theorem splitL_none {sep : Int} : ∀ {l : List Int}, sep ∉ l → splitL sep l = [l]
  | [], _ => rfl
  | c :: t, h => by
    rw [List.mem_cons, not_or] at h
    rw [splitL, if_neg fun e => h.1 e.symm, splitL_none h.2]
theorem splitL_cons {sep : Int} {r : List Int} : ∀ {l : List Int}, sep ∉ l → splitL sep (l ++ sep :: r) = l :: splitL sep r
  | [], _ => by simp [splitL]
  | c :: t, h => by
    rw [List.mem_cons, not_or] at h
    rw [List.cons_append, splitL, if_neg fun e => h.1 e.symm, splitL_cons h.2]
theorem splitL_len (sep : Int) : ∀ l : List Int, (splitL sep l).length ≤ l.length + 1
  | [] => by simp [splitL]
  | c :: t => by
    have ih := splitL_len sep t
    unfold splitL
    split
    · simp; omega
    · split <;> simp_all; omega
def partsL (xs : List Int) : List (List Int) :=
  if 1 < (splitL 46 xs).length ∧ (splitL 46 xs).getLast? = some [] then (splitL 46 xs).dropLast else splitL 46 xs
def digitsB (base : Int) (xs : List Int) : Bool := xs.all fun c => decide (0 ≤ hexv c ∧ hexv c < base)
def hexP : List Int → Bool
  | a :: b :: _ => a == 48 && (b == 120 || b == 88)
  | _ => false
def accV (base : Int) : Int → List Int → Option Int
  | n, [] => some n
  | n, c :: t => if base * n + hexv c ≥ 4294967296 then none else accV base (base * n + hexv c) t
def baseV (xs : List Int) : Int := if hexP xs then 16 else if 1 < xs.length ∧ xs.head? = some 48 then 8 else 10
def restV (xs : List Int) : List Int := if hexP xs then xs.drop 2 else if 1 < xs.length ∧ xs.head? = some 48 then xs.drop 1 else xs
def pieceV (xs : List Int) : Option Int := if xs = [] ∨ digitsB (baseV xs) (restV xs) = false then none else accV (baseV xs) 0 (restV xs)
theorem partsL_len (l : List Int) : (partsL l).length ≤ l.length + 1 := by
  have := splitL_len 46 l
  unfold partsL
  split <;> simp <;> omega
theorem partsL_take (l : List Int) : partsL l = (splitL 46 l).take (partsL l).length := by
  unfold partsL
  split
  · rw [List.dropLast_eq_take]; simp
  · simp
theorem partsL_ne (l : List Int) : partsL l ≠ [] := by
  have h0 := splitL_ne 46 l
  unfold partsL
  split
  · rename_i h
    intro e
    have := congrArg List.length e
    simp at this
    omega
  · exact h0
def okV : Option Int → Int × Bool
  | none => (0, false)
  | some n => (n, true)
def numL : Nat → List (List Int) → Option Int
  | _, [] => none
  | left, [p] => (pieceV p).bind fun n => if n < 2 ^ (8 * left) then some n else none
  | left, p :: q :: t => (pieceV p).bind fun n => if n > 255 then none else (numL (left - 1) (q :: t)).map fun v => n * 2 ^ (8 * (left - 1)) + v
theorem numL_more {left : Nat} {p : List Int} {r : List (List Int)} (h : r ≠ []) : numL left (p :: r) = (pieceV p).bind fun n => if n > 255 then none else (numL (left - 1) r).map fun v => n * 2 ^ (8 * (left - 1)) + v := by
  match r with
  | [] => exact absurd rfl h
  | q :: t => rfl
theorem splitL_mem {c : Int} : ∀ {l p : List Int}, p ∈ splitL c l → p.length ≤ l.length
  | [], p, h => by simp [splitL] at h; simp [h]
  | d :: t, p, h => by
    have ih := fun {p} => @splitL_mem c t p
    unfold splitL at h
    split at h
    · rcases List.mem_cons.1 h with h | h
      · simp [h]
      · have := ih h; simp; omega
    · split at h
      · simp at h; simp [h]
      · rename_i q qs e
        rcases List.mem_cons.1 h with h | h
        · have := ih (p := q) (by rw [e]; exact List.mem_cons_self); simp [h]; omega
        · have := ih (p := p) (by rw [e]; exact List.mem_cons_of_mem _ h); simp; omega
theorem pieceV_le {l : List Int} {n : Int} (h : pieceV l = some n) : 0 ≤ n ∧ n < 4294967296 := by
  have key : ∀ (b : Int) (hb : 0 ≤ b) (l : List Int) (n m : Int), 0 ≤ n → n < 4294967296 → (∀ c ∈ l, 0 ≤ hexv c) → accV b n l = some m → 0 ≤ m ∧ m < 4294967296 := by
    intro b hb l
    induction l with
    | nil => intro n m h0 h1 _ h; simp [accV] at h; omega
    | cons c t ih =>
      intro n m h0 h1 hc h
      rw [accV] at h
      split at h
      · cases h
      · rename_i h2
        have := Int.mul_nonneg hb h0
        have h3 := hc c List.mem_cons_self
        exact ih _ _ (by omega) (by omega) (fun x hx => hc x (List.mem_cons_of_mem _ hx)) h
  unfold pieceV at h
  split at h
  · cases h
  · rename_i h1
    have h2 : digitsB (baseV l) (restV l) = true := by
      cases hd : digitsB (baseV l) (restV l) with
      | true => rfl
      | false => exact absurd (.inr hd) h1
    refine key (baseV l) ?_ (restV l) 0 n (by omega) (by omega) (fun c hc => (of_decide_eq_true (List.all_eq_true.1 h2 c hc) : 0 ≤ hexv c ∧ _).1) h
    unfold baseV
    split
    · omega
    · split <;> omega
def numberL (xs : List Int) : Option Int := if 4 < (partsL xs).length then none else numL 4 (partsL xs)
def numericB (xs : List Int) : Bool := if hexP xs then digitsB 16 (xs.drop 2) else xs != [] && digitsB 10 xs
def decD (n : Nat) : List Int := if h : n < 10 then [48 + (n : Int)] else decD (n / 10) ++ [48 + ((n % 10 : Nat) : Int)]
def textL (a : Int) : List Int := decD (a / 16777216).toNat ++ [46] ++ decD (a / 65536 % 256).toNat ++ [46] ++ decD (a / 256 % 256).toNat ++ [46] ++ decD (a % 256).toNat
def forbB (c : Int) : Bool := decide (c ≤ 32) || decide (127 ≤ c) || [35, 37, 47, 58, 60, 62, 63, 64, 91, 92, 93, 94, 124].contains c
def hostL (xs : List Int) : Option (List Int) :=
  if lowerL (decodeL xs) = [] ∨ (lowerL (decodeL xs)).any forbB = true then none
  else if numericB ((partsL (lowerL (decodeL xs))).getLastD []) then (numberL (lowerL (decodeL xs))).map textL
  else some (lowerL (decodeL xs))
def addrL (xs : List Int) : Option Int := (numberL xs).bind fun n => if textL n = xs then some n else none
def domainB (xs : List Int) : Bool := hostL xs == some xs && (addrL xs).isNone
def blB (c : Int) : Bool := [9, 10, 12, 13, 32].contains c
def blanksG : List Int → List Int → List (List Int)
  | cur, [] => if cur = [] then [] else [cur]
  | cur, c :: t => if blB c = true then (if cur = [] then blanksG [] t else cur :: blanksG [] t) else blanksG (cur ++ [c]) t
def blanksL (xs : List Int) : List (List Int) := blanksG [] xs
theorem blanksG_blank {cur t : List Int} {c : Int} (h : blB c = true) : blanksG cur (c :: t) = (if cur = [] then [] else [cur]) ++ blanksG [] t := by
  rw [blanksG, if_pos h]
  split <;> simp
theorem blanksG_other {cur t : List Int} {c : Int} (h : blB c = false) : blanksG cur (c :: t) = blanksG (cur ++ [c]) t := by
  rw [blanksG, if_neg (by simp [h])]
theorem blB_iff {c : Int} : blB c = true ↔ c = 9 ∨ c = 10 ∨ c = 12 ∨ c = 13 ∨ c = 32 := by simp [blB]
theorem blanksG_len : ∀ (l cur : List Int), (blanksG cur l).length ≤ l.length + 1
  | [], cur => by unfold blanksG; split <;> simp
  | c :: t, cur => by
    have h1 := blanksG_len t
    unfold blanksG
    split
    · split
      · have := h1 []; simp; omega
      · have := h1 []; simp; omega
    · have := h1 (cur ++ [c]); simp; omega
def asciiB (xs : List Int) : Bool := xs.all fun c => decide (c < 128)
abbrev Dr := List Int × List (List Int)
def cspStep (acc : List Dr) (p : List Int) : List Dr :=
  if asciiB p = false ∨ blanksL p = [] then acc
  else if (acc.any fun d => d.1 == lowerL ((blanksL p).headD [])) = true then acc
  else acc ++ [(lowerL ((blanksL p).headD []), (blanksL p).drop 1)]
def cspL (xs : List Int) : List Dr := (splitL 59 xs).foldl cspStep []
def findL (l : List Dr) : List (List Int) → Option Dr
  | [] => none
  | n :: ns => match l.find? (fun d => d.1 == n) with
    | some d => some d
    | none => findL l ns
theorem asciiB_cons (c : Int) (t : List Int) : asciiB (c :: t) = (decide (c < 128) && asciiB t) := rfl
theorem digitsB_cons (b c : Int) (t : List Int) : digitsB b (c :: t) = (decide (0 ≤ hexv c ∧ hexv c < b) && digitsB b t) := rfl
def letterB (c : Int) : Bool := decide (97 ≤ c ∧ c ≤ 122) || decide (65 ≤ c ∧ c ≤ 90)
def digitB (c : Int) : Bool := decide (48 ≤ c ∧ c ≤ 57)
end GoD
