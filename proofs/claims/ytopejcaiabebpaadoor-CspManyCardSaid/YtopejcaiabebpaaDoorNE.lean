import Derived.Test.YtopejcaiabebpaaDoorNC
/-! Which directive decides, as the program answers it. -/
namespace GoD
open Go Go.Proofs
set_option linter.unusedVariables false
set_option linter.unusedSimpArgs false
set_option maxHeartbeats 4000000
set_option maxRecDepth 100000

def dfltT : List Int := [100, 101, 102, 97, 117, 108, 116, 45, 115, 114, 99]
def chainL (d : List Int) : List (List Int) :=
  if d = [] then [[99, 111, 110, 110, 101, 99, 116, 45, 115, 114, 99], [100, 101, 102, 97, 117, 108, 116, 45, 115, 114, 99]]
  else if d = [115, 99, 114, 105, 112, 116] then [[115, 99, 114, 105, 112, 116, 45, 115, 114, 99, 45, 101, 108, 101, 109], [115, 99, 114, 105, 112, 116, 45, 115, 114, 99], [100, 101, 102, 97, 117, 108, 116, 45, 115, 114, 99]]
  else if d = [115, 116, 121, 108, 101] then [[115, 116, 121, 108, 101, 45, 115, 114, 99, 45, 101, 108, 101, 109], [115, 116, 121, 108, 101, 45, 115, 114, 99], [100, 101, 102, 97, 117, 108, 116, 45, 115, 114, 99]]
  else if d = [105, 109, 97, 103, 101] then [[105, 109, 103, 45, 115, 114, 99], [100, 101, 102, 97, 117, 108, 116, 45, 115, 114, 99]]
  else if d = [102, 111, 110, 116] then [[102, 111, 110, 116, 45, 115, 114, 99], [100, 101, 102, 97, 117, 108, 116, 45, 115, 114, 99]]
  else if d = [109, 97, 110, 105, 102, 101, 115, 116] then [[109, 97, 110, 105, 102, 101, 115, 116, 45, 115, 114, 99], [100, 101, 102, 97, 117, 108, 116, 45, 115, 114, 99]]
  else if d = [97, 117, 100, 105, 111] ∨ d = [118, 105, 100, 101, 111] ∨ d = [116, 114, 97, 99, 107] then [[109, 101, 100, 105, 97, 45, 115, 114, 99], [100, 101, 102, 97, 117, 108, 116, 45, 115, 114, 99]]
  else if d = [111, 98, 106, 101, 99, 116] ∨ d = [101, 109, 98, 101, 100] then [[111, 98, 106, 101, 99, 116, 45, 115, 114, 99], [100, 101, 102, 97, 117, 108, 116, 45, 115, 114, 99]]
  else if d = [102, 114, 97, 109, 101] ∨ d = [105, 102, 114, 97, 109, 101] then [[102, 114, 97, 109, 101, 45, 115, 114, 99], [99, 104, 105, 108, 100, 45, 115, 114, 99], [100, 101, 102, 97, 117, 108, 116, 45, 115, 114, 99]]
  else if d = [119, 111, 114, 107, 101, 114] ∨ d = [115, 104, 97, 114, 101, 100, 119, 111, 114, 107, 101, 114] ∨ d = [115, 101, 114, 118, 105, 99, 101, 119, 111, 114, 107, 101, 114] then [[119, 111, 114, 107, 101, 114, 45, 115, 114, 99], [99, 104, 105, 108, 100, 45, 115, 114, 99], [115, 99, 114, 105, 112, 116, 45, 115, 114, 99], [100, 101, 102, 97, 117, 108, 116, 45, 115, 114, 99]]
  else []
def pDChainC : Ct := fun args h => match args with | [.s d] => some (.sl h.length 0 (chainL d).length 1, h ++ [⟨2, false, sts (chainL d)⟩]) | _ => none
end GoD

/-! Whether policies allow a fetch, as the program answers it. -/
namespace GoD
open Go Go.Proofs
set_option linter.unusedVariables false
set_option linter.unusedSimpArgs false
set_option maxHeartbeats 4000000
set_option maxRecDepth 100000
theorem chainL_len (d : List Int) : (chainL d).length ≤ 4 := by
  have key : ∀ (p : Prop) [Decidable p] (x y : List (List Int)), x.length ≤ 4 → y.length ≤ 4 → (if p then x else y).length ≤ 4 := fun p _ x y h1 h2 => by split <;> assumption
  unfold chainL
  repeat (refine key _ _ _ (by decide) ?_)
  decide
def allowB (p ds a d : List Int) (po : Int) (e os oh : List Int) (op rd : Int) : Bool := match findL (cspL p) (chainL ds) with
  | none => true
  | some x => listB x.2 a d po e os oh op rd
theorem findL_mem {l : List Dr} : ∀ {ns : List (List Int)} {d : Dr}, findL l ns = some d → d ∈ l
  | [], d, h => by cases h
  | n :: ns, d, h => by
    unfold findL at h
    split at h
    · rename_i d' hf
      obtain rfl := Option.some.inj h
      exact List.mem_of_find?_eq_some hf
    · exact findL_mem h
def pAllowsC : Ct := fun args h => match args with
  | [.s pp, .s ds, .agg [.s a, .s b, .s c, .s d, .i .i64 p, .s e, .b q, .s f, .b g, .s x], .agg [.s os, .s oh, .i .i64 op], .i .i64 rd] =>
    if pp.length ≤ 1048576 ∧ d.length ≤ 1048576 ∧ e.length ≤ 1048576 then some (.b (allowB pp ds a d p e os oh op rd), h) else none
  | _ => none
def pAllC : Ct := fun args h => match args with
  | [.sl bl o n 1, .s ds, .agg [.s a, .s b, .s c, .s d, .i .i64 p, .s e, .b q, .s f, .b g, .s x], .agg [.s os, .s oh, .i .i64 op], .i .i64 rd] => (match strsAt h bl o n with
    | some y => if d.length ≤ 1048576 ∧ e.length ≤ 1048576 ∧ (∀ s ∈ y, s.length ≤ 1048576) then some (.b (y.all fun s => allowB s ds a d p e os oh op rd), h) else none
    | none => none)
  | _ => none
end GoD
