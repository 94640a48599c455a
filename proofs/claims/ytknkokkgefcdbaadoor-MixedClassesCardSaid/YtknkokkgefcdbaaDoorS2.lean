import Derived.Test.YtknkokkgefcdbaaDoorS
namespace Go.Proofs.YtknkokkgefcdbaaDoorWS
open Go.RowKit Go.Proofs.YtknkokkgefcdbaaDoorW.PrintWords Go.Proofs.YtknkokkgefcdbaaDoorPL
set_option linter.unusedVariables false
/-! What the document says of policies, over lists of bytes -/
def blB (c : Int) : Bool := [9, 10, 12, 13, 32].contains c
def blanksG : List Int → List Int → List (List Int)
  | cur, [] => if cur = [] then [] else [cur]
  | cur, c :: t => if blB c = true then (if cur = [] then blanksG [] t else cur :: blanksG [] t) else blanksG (cur ++ [c]) t
def blanksL (xs : List Int) : List (List Int) := blanksG [] xs
def asciiB (xs : List Int) : Bool := xs.all fun c => decide (c < 128)
abbrev Dr := List Int × List (List Int)
def cspStep (acc : List Dr) (p : List Int) : List Dr :=
  if asciiB p = false ∨ blanksL p = [] then acc
  else if (acc.any fun d => d.1 == lowerL ((blanksL p).headD [])) = true then acc
  else acc ++ [(lowerL ((blanksL p).headD []), (blanksL p).drop 1)]
def cspL (xs : List Int) : List Dr := (splitL 59 xs).foldl cspStep []
def findL (l : List Dr) : List (List Int) → Option Dr
  | [] => none
  | n :: ns => match l.find? (fun d => d.1 == n) with
    | some d => some d
    | none => findL l ns
def dirL (d : Dr) : List Int := d.1 ++ (d.2.map fun x => 32 :: x).flatten
def ctextL : List Dr → List Int
  | [] => []
  | d :: t => dirL d ++ (t.map fun e => 59 :: 32 :: dirL e).flatten
end Go.Proofs.YtknkokkgefcdbaaDoorWS
