import Derived.Test.YtknkokkgefcdbaaDoorPL
namespace Go.Proofs.YtknkokkgefcdbaaDoorWS
open Go.RowKit Go.Proofs.YtknkokkgefcdbaaDoorW.PrintWords Go.Proofs.YtknkokkgefcdbaaDoorPL
set_option linter.unusedVariables false
/-! What the document says, over lists of bytes -/
def lowB (c : Int) : Int := if 65 ≤ c ∧ c ≤ 90 then c + 32 else c
def lowerL (xs : List Int) : List Int := xs.map lowB
def hexv (c : Int) : Int := if 48 ≤ c ∧ c ≤ 57 then c - 48 else if 97 ≤ c ∧ c ≤ 102 then c - 87 else if 65 ≤ c ∧ c ≤ 70 then c - 55 else -1
def decodeL : List Int → List Int
  | c :: a :: b :: t => if c = 37 ∧ 0 ≤ hexv a ∧ 0 ≤ hexv b then (16 * hexv a + hexv b) :: decodeL t else c :: decodeL (a :: b :: t)
  | l => l
def splitL (sep : Int) : List Int → List (List Int)
  | [] => [[]]
  | c :: t => if c = sep then [] :: splitL sep t else match splitL sep t with
    | [] => [[c]]
    | p :: ps => (c :: p) :: ps
def partsL (xs : List Int) : List (List Int) :=
  if 1 < (splitL 46 xs).length ∧ (splitL 46 xs).getLast? = some [] then (splitL 46 xs).dropLast else splitL 46 xs
def digitsB (base : Int) (xs : List Int) : Bool := xs.all fun c => decide (0 ≤ hexv c ∧ hexv c < base)
def hexP : List Int → Bool
  | a :: b :: _ => a == 48 && (b == 120 || b == 88)
  | _ => false
def accV (base : Int) : Int → List Int → Option Int
  | n, [] => some n
  | n, c :: t => if base * n + hexv c ≥ 4294967296 then none else accV base (base * n + hexv c) t
def baseV (xs : List Int) : Int := if hexP xs then 16 else if 1 < xs.length ∧ xs.head? = some 48 then 8 else 10
def restV (xs : List Int) : List Int := if hexP xs then xs.drop 2 else if 1 < xs.length ∧ xs.head? = some 48 then xs.drop 1 else xs
def partV (xs : List Int) : Option Int := if xs = [] ∨ digitsB (baseV xs) (restV xs) = false then none else accV (baseV xs) 0 (restV xs)
def resV : Option Int → Int × Bool
  | none => (0, false)
  | some n => (n, true)
def numL : Nat → List (List Int) → Option Int
  | _, [] => none
  | left, [p] => (partV p).bind fun n => if n < 2 ^ (8 * left) then some n else none
  | left, p :: q :: t => (partV p).bind fun n => if n > 255 then none else (numL (left - 1) (q :: t)).map fun v => n * 2 ^ (8 * (left - 1)) + v
def numberL (xs : List Int) : Option Int := if 4 < (partsL xs).length then none else numL 4 (partsL xs)
def numericB (xs : List Int) : Bool := if hexP xs then digitsB 16 (xs.drop 2) else xs != [] && digitsB 10 xs
def decD (n : Nat) : List Int := if h : n < 10 then [48 + (n : Int)] else decD (n / 10) ++ [48 + ((n % 10 : Nat) : Int)]
def textL (a : Int) : List Int := decD (a / 16777216).toNat ++ [46] ++ decD (a / 65536 % 256).toNat ++ [46] ++ decD (a / 256 % 256).toNat ++ [46] ++ decD (a % 256).toNat
def forbB (c : Int) : Bool := decide (c ≤ 32) || decide (127 ≤ c) || [35, 37, 47, 58, 60, 62, 63, 64, 91, 92, 93, 94, 124].contains c
def hostL (xs : List Int) : Option (List Int) :=
  if lowerL (decodeL xs) = [] ∨ (lowerL (decodeL xs)).any forbB = true then none
  else if numericB ((partsL (lowerL (decodeL xs))).getLastD []) then (numberL (lowerL (decodeL xs))).map textL
  else some (lowerL (decodeL xs))
def addrL (xs : List Int) : Option Int := (numberL xs).bind fun n => if textL n = xs then some n else none
def domainB (xs : List Int) : Bool := hostL xs == some xs && (addrL xs).isNone
end Go.Proofs.YtknkokkgefcdbaaDoorWS
