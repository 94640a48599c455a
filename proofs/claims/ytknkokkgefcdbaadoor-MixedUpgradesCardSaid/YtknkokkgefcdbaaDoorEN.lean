import Derived.Test.YtknkokkgefcdbaaDoorEM
/-! Labels of host patterns as the document reads them. -/
namespace GoD
open Go Go.Proofs
set_option linter.unusedVariables false
set_option linter.unusedSimpArgs false
set_option maxHeartbeats 4000000
set_option maxRecDepth 100000
def labB (c : Int) : Bool := letterB c || digitB c || decide (c = 45) || decide (c = 95)
/-- how many bytes of a label stand there -/
def labelN : List Int → Nat
  | [] => 0
  | c :: t => if labB c = true then labelN t + 1 else 0
theorem labelN_le : ∀ l, labelN l ≤ l.length
  | [] => by simp [labelN]
  | c :: t => by
    have := labelN_le t
    unfold labelN
    split <;> simp <;> omega
def rLabelC : Ct := fun args h => match args with | [.s l] => some (.i .i64 (labelN l), h) | _ => none
/-- how many bytes of labels with points between stand there; 0: none -/
def labelsG : Nat → List Int → Nat
  | 0, _ => 0
  | f + 1, l => if labelN l = 0 then 0 else match l.drop (labelN l) with
    | 46 :: r => if labelsG f r = 0 then 0 else labelN l + 1 + labelsG f r
    | _ => labelN l
def labelsN (l : List Int) : Nat := labelsG (l.length + 1) l
theorem labelsG_fuel : ∀ (f g : Nat) (l : List Int), l.length < f → l.length < g → labelsG f l = labelsG g l
  | 0, _, l, h, _ => by omega
  | _, 0, l, _, h => by omega
  | f + 1, g + 1, l, h1, h2 => by
    rw [labelsG, labelsG]
    split
    · rfl
    · split
      · rename_i r hr
        have : r.length < l.length := by have := congrArg List.length hr; simp at this; omega
        rw [labelsG_fuel f g r (by omega) (by omega)]
      · rfl
theorem labelsN_eq (l : List Int) : labelsN l = if labelN l = 0 then 0 else match l.drop (labelN l) with
    | 46 :: r => if labelsN r = 0 then 0 else labelN l + 1 + labelsN r
    | _ => labelN l := by
  unfold labelsN
  rw [labelsG]
  split
  · rfl
  · split
    · rename_i r hr
      have : r.length < l.length := by have := congrArg List.length hr; simp at this; omega
      rw [labelsG_fuel l.length (r.length + 1) r (by omega) (by omega)]
    · rfl
def tailN (n : Nat) : List Int → Nat
  | c :: r => if c = 46 then (if labelsN r = 0 then 0 else n + 1 + labelsN r) else n
  | [] => n
theorem labelsN_tail (l : List Int) : labelsN l = if labelN l = 0 then 0 else tailN (labelN l) (l.drop (labelN l)) := by
  rw [labelsN_eq]
  split
  · rfl
  · split
    · rename_i r hr
      rw [hr, tailN, if_pos rfl]
    · rename_i h
      match hd : l.drop (labelN l) with
      | [] => rfl
      | c :: r => rw [tailN, if_neg fun e => h r (by rw [hd, e])]
theorem labelsN_pos {n : Nat} {r : List Int} (h : labelN r ≠ 0) : tailN n (46 :: r) = tailN (n + 1 + labelN r) (r.drop (labelN r)) := by
  rw [tailN, if_pos rfl, labelsN_tail, if_neg h]
  match r.drop (labelN r) with
  | [] => simp [tailN, h]
  | c :: q =>
    by_cases h1 : c = 46
    · by_cases h2 : labelsN q = 0
      · simp [tailN, h1, h2]
      · simp [tailN, h1, h2]; omega
    · simp [tailN, h1, h]
def rLabelsC : Ct := fun args h => match args with | [.s l] => some (.i .i64 (labelsN l), h) | _ => none
end GoD
