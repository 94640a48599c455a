import Derived.Test.YtknkokkgefcdbaaDoorEW
/-! Whether one of some expressions matches, as the document says. -/
namespace GoD
open Go Go.Proofs
set_option linter.unusedVariables false
set_option linter.unusedSimpArgs false
set_option maxHeartbeats 4000000
set_option maxRecDepth 100000
theorem cntL_all (p : Int → Bool) : ∀ l : List Int, (l.take (cntL p l)).all p = true
  | [] => by simp [cntL]
  | c :: t => by
    have := cntL_all p t
    rw [cntL]
    split
    · rename_i h; rw [List.take_succ_cons, List.all_cons, h, this]; rfl
    · simp
theorem src4_po {sch ho po s : List Int} (h : portQ po) : portQ (src4 sch ho po s).po := by
  unfold src4
  split
  · exact .inl rfl
  · split
    · exact h
    · exact .inl rfl
theorem src4_pa (sch ho po s : List Int) : (src4 sch ho po s).pa.length ≤ s.length := by
  unfold src4
  split
  · simp [exprZ]
  · split <;> simp [exprZ]
theorem src3_po (sch ho : List Int) : ∀ s, portQ (src3 sch ho s).po
  | [] => src4_po (.inl rfl)
  | c :: r => by
    rw [src3]
    split
    · split
      · exact src4_po (.inr (.inl rfl))
      · split
        · exact .inl rfl
        · rename_i h
          refine src4_po (.inr (.inr ?_))
          have h2 := cntL_all digitB r
          have h3 := cntL_le digitB r
          rw [portP, h2, decide_eq_true (by simp; omega)]; rfl
    · exact src4_po (.inl rfl)
theorem src3_pa (sch ho : List Int) : ∀ s, (src3 sch ho s).pa.length ≤ s.length
  | [] => src4_pa _ _ _ _
  | c :: r => by
    rw [src3]
    split
    · split
      · exact Nat.le_trans (src4_pa _ _ _ _) (by simp; omega)
      · split
        · simp [exprZ]
        · exact Nat.le_trans (src4_pa _ _ _ _) (by simp; omega)
    · exact src4_pa _ _ _ _
theorem src2_po (sch s : List Int) : portQ (src2 sch s).po := by
  unfold src2
  split
  · exact .inl rfl
  · exact src3_po _ _ _
theorem src2_pa (sch s : List Int) : (src2 sch s).pa.length ≤ s.length := by
  unfold src2
  split
  · simp [exprZ]
  · exact Nat.le_trans (src3_pa _ _ _) (by simp)
theorem srcL_po (s : List Int) : portQ (srcL s).po := by
  unfold srcL src1
  repeat' split
  all_goals first | exact .inl rfl | exact src2_po _ _
theorem srcL_pa (s : List Int) : (srcL s).pa.length ≤ s.length := by
  unfold srcL src1
  repeat' split
  all_goals first | exact Nat.zero_le _ | exact Nat.le_trans (src2_pa _ _) (by simp)
def listB (y : List (List Int)) (us uh : List Int) (up : Int) (path os oh : List Int) (op rd : Int) : Bool := y.any fun s => matchB (srcL s) us uh up path os oh op rd
def rListC : Ct := fun args h => match args with
  | [.sl bl o n 1, .agg [.s a, .s b, .s c, .s d, .i .i64 p, .s e, .b q, .s f, .b g, .s x], .agg [.s os, .s oh, .i .i64 op], .i .i64 rd] => (match strsAt h bl o n with
    | some y => if d.length ≤ 1048576 ∧ e.length ≤ 1048576 ∧ (∀ s ∈ y, s.length ≤ 1048576) then some (.b (listB y a d p e os oh op rd), h) else none
    | none => none)
  | _ => none
end GoD
