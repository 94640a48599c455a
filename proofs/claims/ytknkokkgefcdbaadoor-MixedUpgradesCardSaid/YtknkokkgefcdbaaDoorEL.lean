import Derived.Test.YtknkokkgefcdbaaDoorEK
/-! Ports and paths of sources as the document matches them. -/
namespace GoD
open Go Go.Proofs
set_option linter.unusedVariables false
set_option linter.unusedSimpArgs false
set_option maxHeartbeats 4000000
set_option maxRecDepth 100000
/-- digits as a number -/
def numD (l : List Int) : Int := l.foldl (fun n c => 10 * n + (c - 48)) 0
theorem numD_snoc (l : List Int) (c : Int) : numD (l ++ [c]) = 10 * numD l + (c - 48) := by simp [numD]
theorem numD_take (l : List Int) {i : Nat} (h : i < l.length) : numD (l.take (i + 1)) = 10 * numD (l.take i) + (l[i] - 48) := by rw [snoc_take l h, numD_snoc]
def portP (l : List Int) : Bool := l.all digitB && decide (l.length ≤ 5)
theorem digit_of {l : List Int} (h : l.all digitB = true) {c : Int} (hc : c ∈ l) : 48 ≤ c ∧ c ≤ 57 := of_decide_eq_true (List.all_eq_true.1 h c hc)
theorem numD_le {l : List Int} (h : l.all digitB = true) : ∀ i, i ≤ 5 → i ≤ l.length → 0 ≤ numD (l.take i) ∧ numD (l.take i) < 10 ^ i
  | 0, _, _ => by simp [numD]
  | i + 1, h1, h2 => by
    have ih := numD_le h i (by omega) (by omega)
    have hd := digit_of h (List.getElem_mem (show i < l.length by omega))
    rw [numD_take l (by omega), Int.pow_succ]
    omega
def portB (l sch : List Int) (p : Int) : Bool := if l = [] then (defaultL sch).2 && decide (portL sch p = (defaultL sch).1) else if l = [42] then true else decide (numD l = portL sch p) || (decide (numD l = 80) && decide (portL sch p = 443))
def rPortMatchC : Ct := fun args h => match args with | [.s l, .agg [.s a, .s b, .s c, .s d, .i .i64 p, .s e, .b q, .s f, .b g, .s k]] => if l = [] ∨ l = [42] ∨ portP l = true then some (.b (portB l a p), h) else none | _ => none
end GoD
