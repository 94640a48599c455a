import Derived.Test.YtgldmliemeadpaaDoorET
/-! URLs as the document reads them. -/
namespace GoD
open Go Go.Proofs
set_option linter.unusedVariables false
set_option linter.unusedSimpArgs false
set_option maxHeartbeats 4000000
set_option maxRecDepth 100000
structure Url where
  sch : List Int
  us : List Int
  pa : List Int
  ho : List Int
  po : Int
  path : List Int
  q : Bool
  qu : List Int
  f : Bool
  fr : List Int
def Url.cells (u : Url) : List V := [.s u.sch, .s u.us, .s u.pa, .s u.ho, .i .i64 u.po, .s u.path, .b u.q, .s u.qu, .b u.f, .s u.fr]
def Url.V (u : Url) : V := .agg u.cells
def skipL : List Int → List Int
  | [] => []
  | c :: t => if c = 47 ∨ c = 92 then skipL t else c :: t
theorem skipL_len : ∀ l, (skipL l).length ≤ l.length
  | [] => by simp [skipL]
  | c :: t => by
    have := skipL_len t
    rw [skipL]
    split <;> simp; omega
def cutF (s : List Int) : List Int := s.take (upL [35] s)
def url3 (sch s1 : List Int) (ho : List Int) (po : Int) (a s2 : List Int) : Url :=
  { sch := sch, us := userL a [], pa := passL a [], ho := ho, po := po
    path := pathL ((cutF s2).take (upL [63] (cutF s2)))
    q := decide (upL [63] (cutF s2) < (cutF s2).length), qu := if upL [63] (cutF s2) < (cutF s2).length then encL 2 ((cutF s2).drop (upL [63] (cutF s2) + 1)) else []
    f := decide (upL [35] s2 < s2.length), fr := if upL [35] s2 < s2.length then encL 1 (s2.drop (upL [35] s2 + 1)) else [] }
def url2 (sch s1 : List Int) : Option Url := match authW sch (restL (s1.take (upL [47, 92, 63, 35] s1))) [] 0 with
  | (false, _, _) => none
  | (true, ho, po) => some (url3 sch s1 ho po (s1.take (upL [47, 92, 63, 35] s1)) (s1.drop (upL [47, 92, 63, 35] s1)))
def url1 (s : List Int) : Option Url := if (defaultL (lowerL (s.take (schemeN s)))).2 = true then url2 (lowerL (s.take (schemeN s))) (skipL (s.drop (schemeN s + 1))) else none
def urlL (l : List Int) : Option Url := if 65536 < l.length then none else if utf8B l = true then url1 (cleanL l) else none
def urlZ : Url := ⟨[], [], [], [], 0, [], false, [], false, []⟩
def urlAns : Option Url → V
  | none => .tup [urlZ.V, .i .i64 8]
  | some u => .tup [u.V, .i .i64 0]
def rURLC : Ct := fun args h => match args with | [.s l] => some (urlAns (urlL l), h) | _ => none
theorem urlAns_flat (o : Option Url) (m : Nat) : renV id (urlAns o) = urlAns o ∧ bndV m (urlAns o) := by cases o <;> simp [urlAns, Url.V, Url.cells, renV, bndV, renL, bndL]
def urlBk (u : Url) : Blk := ⟨2, true, u.cells⟩
def urlS (sch : List Int) : Url := ⟨sch, [], [], [], 0, [], false, [], false, []⟩
end GoD

/-! Source expressions as the document reads them. -/
namespace GoD
open Go Go.Proofs
set_option linter.unusedVariables false
set_option linter.unusedSimpArgs false
set_option maxHeartbeats 4000000
set_option maxRecDepth 100000
structure Expr5 where
  kind : Int
  sch : List Int
  ho : List Int
  po : List Int
  pa : List Int
def Expr5.cells (e : Expr5) : List V := [.i .i64 e.kind, .s e.sch, .s e.ho, .s e.po, .s e.pa]
def Expr5.V (e : Expr5) : V := .agg e.cells
def exprZ : Expr5 := ⟨0, [], [], [], []⟩
def pathC (c : Int) : Bool := decide (33 ≤ c) && decide (c ≤ 126) && !decide (c ∈ [63, 35, 59, 44])
def pathOk (s : List Int) : Bool := s.all pathC
def src4 (sch ho po s : List Int) : Expr5 := if s ≠ [] ∧ s.head? ≠ some 47 then exprZ else if pathOk s = true then ⟨4, sch, ho, po, s⟩ else exprZ
def src3 (sch ho : List Int) : List Int → Expr5
  | [] => src4 sch ho [] []
  | c :: r => if c = 58 then (if r.head? = some 42 then src4 sch ho [42] (r.drop 1) else if cntL digitB r = 0 ∨ 5 < cntL digitB r then exprZ else src4 sch ho (r.take (cntL digitB r)) (r.drop (cntL digitB r))) else src4 sch ho [] (c :: r)
def src2 (sch s : List Int) : Expr5 := if hostPartN s = 0 then exprZ else src3 sch (lowerL (s.take (hostPartN s))) (s.drop (hostPartN s))
def src1 (s : List Int) : Expr5 := if 0 < schemeN s ∧ schemeN s + 1 = s.length then ⟨3, lowerL (s.take (schemeN s)), [], [], []⟩ else if 0 < schemeN s ∧ (s.drop (schemeN s)).take 3 = [58, 47, 47] then src2 (lowerL (s.take (schemeN s))) (s.drop (schemeN s + 3)) else src2 [] s
def srcL (s : List Int) : Expr5 := if s = [42] then ⟨1, [], [], [], []⟩ else if lowerL s = [39, 115, 101, 108, 102, 39] then ⟨2, [], [], [], []⟩ else if 2 ≤ s.length ∧ s.head? = some 39 ∧ s.getLast? = some 39 then ⟨5, [], [], [], []⟩ else src1 s
theorem hostPartN_le (l : List Int) : hostPartN l ≤ l.length := by
  match l with
  | [] => simp [hostPartN]
  | [a] =>
    rw [hostPartN]
    split
    · simp
    · exact labelsN_le _
  | a :: b :: r =>
    have h1 := labelsN_le r
    have h2 := labelsN_le (a :: b :: r)
    rw [hostPartN]
    split
    · split
      · split <;> simp <;> omega
      · simp
    · exact h2
def exprBk (e : Expr5) : Blk := ⟨2, true, e.cells⟩
theorem pathOk_cons (c : Int) (t : List Int) : pathOk (c :: t) = (pathC c && pathOk t) := rfl
def rSourceC : Ct := fun args h => match args with | [.s l] => if l.length ≤ 1048576 then some ((srcL l).V, h) else none | _ => none
theorem Expr5.flat (e : Expr5) (m : Nat) : renV id e.V = e.V ∧ bndV m e.V := by simp [Expr5.V, Expr5.cells, renV, bndV, renL, bndL]
end GoD

/-! Whether an expression matches a URL, as the document says. -/
namespace GoD
open Go Go.Proofs
set_option linter.unusedVariables false
set_option linter.unusedSimpArgs false
set_option maxHeartbeats 4000000
set_option maxRecDepth 100000
def httpT : List Int := [104, 116, 116, 112]
def httpsT : List Int := [104, 116, 116, 112, 115]
def wsT : List Int := [119, 115]
def wssT : List Int := [119, 115, 115]
def ownB (us uh : List Int) (up : Int) (os oh : List Int) (op : Int) : Bool :=
  (decide (os = us) && decide (oh = uh) && decide (op = portL us up) && !oNull os oh op) ||
  (!oNull os oh op && decide (oh = uh) && (decide (op = portL us up) || (normalB os op && normalB us (portL us up))) && (decide (us = httpsT) || decide (us = wssT) || (decide (os = httpT) && decide (us = wsT))))
def namedB (e : Expr5) (us uh : List Int) (up : Int) (path os oh : List Int) (op rd : Int) : Bool :=
  (if e.sch = [] then oNull os oh op || schemeB os us else schemeB e.sch us) && hostB e.ho uh && portB e.po us up && (decide (rd ≠ 0) || pathB e.pa path)
def matchB (e : Expr5) (us uh : List Int) (up : Int) (path os oh : List Int) (op rd : Int) : Bool :=
  if e.kind = 1 then decide (us ∈ [httpT, httpsT, wsT, wssT]) || decide (us = os) else if e.kind = 2 then ownB us uh up os oh op
  else if e.kind = 3 then schemeB e.sch us else if e.kind = 4 then namedB e us uh up path os oh op rd else false
def portQ (l : List Int) : Prop := l = [] ∨ l = [42] ∨ portP l = true
instance (l : List Int) : Decidable (portQ l) := by unfold portQ; exact inferInstance
def rMatchC : Ct := fun args h => match args with
  | [.agg [.i .i64 k, .s es, .s eh, .s ep, .s ea], .agg [.s a, .s b, .s c, .s d, .i .i64 p, .s e, .b q, .s f, .b g, .s x], .agg [.s os, .s oh, .i .i64 op], .i .i64 rd] =>
    if portQ ep ∧ d.length ≤ 1048576 ∧ e.length ≤ 1048576 ∧ ea.length ≤ 1048576 then some (.b (matchB ⟨k, es, eh, ep, ea⟩ a d p e os oh op rd), h) else none
  | _ => none
theorem oNull_eq (a b : List Int) (p : Int) : (a.isEmpty && (b.isEmpty && decide (p = 0))) = oNull a b p := by cases a <;> cases b <;> simp [oNull]
end GoD

/-! Whether one of some expressions matches, as the document says. -/
namespace GoD
open Go Go.Proofs
set_option linter.unusedVariables false
set_option linter.unusedSimpArgs false
set_option maxHeartbeats 4000000
set_option maxRecDepth 100000
theorem cntL_all (p : Int → Bool) : ∀ l : List Int, (l.take (cntL p l)).all p = true
  | [] => by simp [cntL]
  | c :: t => by
    have := cntL_all p t
    rw [cntL]
    split
    · rename_i h; rw [List.take_succ_cons, List.all_cons, h, this]; rfl
    · simp
theorem src4_po {sch ho po s : List Int} (h : portQ po) : portQ (src4 sch ho po s).po := by
  unfold src4
  split
  · exact .inl rfl
  · split
    · exact h
    · exact .inl rfl
theorem src4_pa (sch ho po s : List Int) : (src4 sch ho po s).pa.length ≤ s.length := by
  unfold src4
  split
  · simp [exprZ]
  · split <;> simp [exprZ]
theorem src3_po (sch ho : List Int) : ∀ s, portQ (src3 sch ho s).po
  | [] => src4_po (.inl rfl)
  | c :: r => by
    rw [src3]
    split
    · split
      · exact src4_po (.inr (.inl rfl))
      · split
        · exact .inl rfl
        · rename_i h
          refine src4_po (.inr (.inr ?_))
          have h2 := cntL_all digitB r
          have h3 := cntL_le digitB r
          rw [portP, h2, decide_eq_true (by simp; omega)]; rfl
    · exact src4_po (.inl rfl)
theorem src3_pa (sch ho : List Int) : ∀ s, (src3 sch ho s).pa.length ≤ s.length
  | [] => src4_pa _ _ _ _
  | c :: r => by
    rw [src3]
    split
    · split
      · exact Nat.le_trans (src4_pa _ _ _ _) (by simp; omega)
      · split
        · simp [exprZ]
        · exact Nat.le_trans (src4_pa _ _ _ _) (by simp; omega)
    · exact src4_pa _ _ _ _
theorem src2_po (sch s : List Int) : portQ (src2 sch s).po := by
  unfold src2
  split
  · exact .inl rfl
  · exact src3_po _ _ _
theorem src2_pa (sch s : List Int) : (src2 sch s).pa.length ≤ s.length := by
  unfold src2
  split
  · simp [exprZ]
  · exact Nat.le_trans (src3_pa _ _ _) (by simp)
theorem srcL_po (s : List Int) : portQ (srcL s).po := by
  unfold srcL src1
  repeat' split
  all_goals first | exact .inl rfl | exact src2_po _ _
theorem srcL_pa (s : List Int) : (srcL s).pa.length ≤ s.length := by
  unfold srcL src1
  repeat' split
  all_goals first | exact Nat.zero_le _ | exact Nat.le_trans (src2_pa _ _) (by simp)
def listB (y : List (List Int)) (us uh : List Int) (up : Int) (path os oh : List Int) (op rd : Int) : Bool := y.any fun s => matchB (srcL s) us uh up path os oh op rd
def rListC : Ct := fun args h => match args with
  | [.sl bl o n 1, .agg [.s a, .s b, .s c, .s d, .i .i64 p, .s e, .b q, .s f, .b g, .s x], .agg [.s os, .s oh, .i .i64 op], .i .i64 rd] => (match strsAt h bl o n with
    | some y => if d.length ≤ 1048576 ∧ e.length ≤ 1048576 ∧ (∀ s ∈ y, s.length ≤ 1048576) then some (.b (listB y a d p e os oh op rd), h) else none
    | none => none)
  | _ => none
end GoD
