import Derived.Test.YtkollnjnfdpolaaKA
/-! Runs that are known, and the orders of this program's regions. -/
namespace GoD
open Go Go.Proofs
set_option linter.unusedVariables false
set_option linter.unusedSimpArgs false
set_option maxRecDepth 100000
def mI (n : Int) : V := .i .i64 n
def mY (n : Int) : V := .i .u8 n
def nilC : Ct := fun _ _ => none
/-- a run that is known: at these arguments, in this heap -/
def memC (a : List V) (h : Heap) (v : V) (k : Heap) (c : Ct) : Ct := fun a' h' => if (beqL a' a && beqH h' h) = true then some (v, k) else c a' h'
theorem nilC_ok {P : Program} {G : Nat → List V} {f : FuncId} : CtOk P G f nilC := fun _ _ _ _ hc => by cases hc
theorem memC_ok {P : Program} {G : Nat → List V} {f : FuncId} {a : List V} {h : Heap} {v : V} {k : Heap} {c : Ct} (h1 : Known P G f a h v k) (h2 : CtOk P G f c) : CtOk P G f (memC a h v k c) := fun a' h' v' k' hc => by
  unfold memC at hc
  split at hc
  · rename_i hq
    simp only [Bool.and_eq_true] at hq
    obtain rfl := beqL_eq hq.1
    obtain rfl := beqH_eq hq.2
    obtain ⟨rfl, rfl⟩ := Prod.mk.inj (Option.some.inj hc)
    exact h1
  · exact h2 _ _ _ _ hc
def pm6 (f : Nat) : List (Nat × List Nat × List Nat) := (888888888, [], []) ::
  if f = 5 then [(22, List.range 27, [])] else
  if f = 8 then [(15, List.range 13, [2000083])] else
  if f = 11 then [(5, List.range 12, [1000022, 2000027])] else
  if f = 14 then [(5, List.range 7, [1000017, 2000019])] else
  if f = 15 then [(8, List.range 11, [1000028, 2000033])] else
  if f = 24 then [(6, List.range 13, [1000029])] else
  if f = 29 then [(1, List.range 6, [1000007, 2000009]), (4, List.range 13, [])] else
  if f = 38 then [(9, List.range 11, [2000027, 2000030])] else
  if f = 47 then [(2, List.range 11, [2000018]), (7, List.range 11, [2000037])] else
  if f = 48 then [(2, List.range 10, [2000040, 2000042]), (3, List.range 20, [2000061, 2000062])] else
  if f = 49 then [(6, List.range 15, [])] else
  if f = 53 then [(1, List.range 23, [])] else
  if f = 60 then [(1, List.range 17, [2000017])] else
  if f = 64 then [(9, List.range 22, [])] else
  []
set_option maxHeartbeats 4000000 in
theorem okA : okAll Try.prog [] pm6 = true := by kernel_rfl
noncomputable def ext0 : List (FuncId × Ct) := [(54, pCRCC)]
theorem ext0_ok : Sound (ctx Try.prog (fun _ => []) ext0) := sound_cons pCRC_ok sound_nil
end GoD
