import Derived.Test.YtkollnjnfdpolaaKA
/-! Runs that are known, and the orders of this program's regions. -/
namespace GoD
open Go Go.Proofs
set_option linter.unusedVariables false
set_option linter.unusedSimpArgs false
set_option maxRecDepth 100000
def mI (n : Int) : V := .i .i64 n
def mY (n : Int) : V := .i .u8 n
def nilC : Ct := fun _ _ => none
/-- a run that is known: at these arguments, in this heap -/
def memC (a : List V) (h : Heap) (v : V) (k : Heap) (c : Ct) : Ct := fun a' h' => if (beqL a' a && beqH h' h) = true then some (v, k) else c a' h'
/-- the same, but that a block is not looked at -/
def killC (b : Nat) (a : List V) (h : Heap) (v : V) (k : Heap) (c : Ct) : Ct := fun a' h' => if (beqL a' a && beqH (h'.set b dead) h) = true then some (v, k) else c a' h'
/-- what is not wanted any more need not be there -/
theorem Ok.kill {P : Program} {G : Nat → List V} {f : FuncId} {args : List V} {h h' : Heap} {v : V} {b : Nat} (hok : Ok P G f args (h.set b dead) v h') : Ok P G f args h v h' := by
  have key : ∀ (i : Nat) (B : Blk), (h.set b dead)[i]? = some B → Own B → h[i]? = some B := by
    intro i B hi ho
    rw [List.getElem?_set] at hi
    split at hi
    · split at hi
      · obtain rfl := Option.some.inj hi
        exact absurd ho own_dead
      · cases hi
    · exact hi
  intro r w xs hr hx
  refine (hok r w xs (hr.kill b) hx).mono ?_
  rintro e w' ⟨x, r', h1, h2, h3, h4⟩
  refine ⟨x, r', h1, h2, h3, ⟨h4.pre, h4.size, h4.os, h4.tape, h4.output, fun k hk hn => h4.block k hk fun i B L a1 a2 a3 => hn i B L (key i B a1 a2) a2 a3, fun i B L a1 a2 a3 a4 => ?_⟩⟩
  obtain ⟨j, B', L', c1, c2, c3, c4⟩ := h4.own i B L a1 a2 a3 a4
  exact ⟨j, B', L', key j B' c1 c2, c2, c3, c4⟩
theorem nilC_ok {P : Program} {G : Nat → List V} {f : FuncId} : CtOk P G f nilC := fun _ _ _ _ hc => by cases hc
theorem memC_ok {P : Program} {G : Nat → List V} {f : FuncId} {a : List V} {h : Heap} {v : V} {k : Heap} {c : Ct} (h1 : Known P G f a h v k) (h2 : CtOk P G f c) : CtOk P G f (memC a h v k c) := fun a' h' v' k' hc => by
  unfold memC at hc
  split at hc
  · rename_i hq
    simp only [Bool.and_eq_true] at hq
    obtain rfl := beqL_eq hq.1
    obtain rfl := beqH_eq hq.2
    obtain ⟨rfl, rfl⟩ := Prod.mk.inj (Option.some.inj hc)
    exact h1
  · exact h2 _ _ _ _ hc
theorem killC_ok {P : Program} {G : Nat → List V} {f : FuncId} {b : Nat} {a : List V} {h : Heap} {v : V} {k : Heap} {c : Ct} (h1 : Known P G f a h v k) (hf : callableB P f = true) (h2 : CtOk P G f c) : CtOk P G f (killC b a h v k c) := fun a' h' v' k' hc => by
  unfold killC at hc
  split at hc
  · rename_i hq
    simp only [Bool.and_eq_true] at hq
    obtain rfl := beqL_eq hq.1
    have hh := beqH_eq hq.2
    obtain ⟨rfl, rfl⟩ := Prod.mk.inj (Option.some.inj hc)
    refine .inl ⟨callable_of hf, Ok.kill (b := b) ?_⟩
    rw [hh]
    rcases h1 with ⟨_, h3⟩ | ⟨rfl, h3⟩
    · exact h3
    · intro r w xs hr hx
      exfalso
      obtain ⟨x, e1, _⟩ := h3 r xs w hx
      obtain ⟨fn, hf', hb, hn⟩ := callable_of hf
      have hn' : ¬ fn.name = "runtime.NumGoroutine" := by simpa using hn
      have hb' : ¬ fn.body = none := fun e => by rw [e] at hb; cases hb
      rw [callFunc] at e1
      simp [hf', Sem.run] at e1
      rw [if_neg hn', if_neg hb'] at e1
      cases e1
  · exact h2 _ _ _ _ hc
def pm6 (f : Nat) : List (Nat × List Nat × List Nat) := (888888888, [], []) ::
  if f = 5 then [(22, List.range 27, [])] else
  if f = 8 then [(15, List.range 13, [2000083])] else
  if f = 11 then [(5, List.range 12, [1000022, 2000027])] else
  if f = 14 then [(5, List.range 7, [1000017, 2000019])] else
  if f = 15 then [(8, List.range 11, [1000028, 2000033])] else
  if f = 24 then [(6, List.range 13, [1000029])] else
  if f = 29 then [(1, List.range 6, [1000007, 2000009]), (4, List.range 13, [])] else
  if f = 38 then [(9, List.range 11, [2000027, 2000030])] else
  if f = 47 then [(2, List.range 11, [2000018]), (7, List.range 11, [2000037])] else
  if f = 48 then [(2, List.range 10, [2000040, 2000042]), (3, List.range 20, [2000061, 2000062])] else
  if f = 49 then [(6, List.range 15, [])] else
  if f = 53 then [(1, List.range 23, [])] else
  if f = 60 then [(1, List.range 17, [2000017])] else
  if f = 64 then [(9, List.range 22, [])] else
  []
set_option maxHeartbeats 4000000 in
theorem okA : okAll Try.prog [] pm6 = true := by kernel_rfl
noncomputable def ext0 : List (FuncId × Ct) := [(54, pCRCC)]
theorem ext0_ok : Sound (ctx Try.prog (fun _ => []) ext0) := sound_cons pCRC_ok sound_nil
end GoD
