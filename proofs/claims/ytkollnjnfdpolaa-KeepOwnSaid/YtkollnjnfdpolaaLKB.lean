import Derived.Test.YtkollnjnfdpolaaKG
import Derived.Below
import Derived.OpenShut
import Derived.Test.YtkollnjnfdpolaaV0
/-! The laws' answers, told to their rows. -/
set_option maxRecDepth 100000
namespace GoD
open Go Go.Proofs Go.RowKit
set_option linter.unusedVariables false
set_option linter.unusedSimpArgs false
theorem ok_of {P : Program} {G : Nat → List V} {f : FuncId} {args : List V} {h h' : Heap} {v : V} (hk : Known P G f args h v h') (hc : callableB P f = true) : Ok P G f args h v h' := by
  rcases hk with ⟨_, h⟩ | ⟨rfl, h⟩
  · exact h
  · intro r w xs hr hx
    exfalso
    obtain ⟨x, h1, _⟩ := h r xs w hx
    obtain ⟨fn, hf, hb, hn⟩ := callable_of hc
    have hn' : ¬ fn.name = "runtime.NumGoroutine" := by simpa using hn
    have hb' : ¬ fn.body = none := fun e => by rw [e] at hb; cases hb
    rw [callFunc] at h1
    simp [hf, Sem.run] at h1
    rw [if_neg hn', if_neg hb'] at h1
    cases h1
theorem law_calls {P : Program} {G : Nat → List V} {f : FuncId} {args : List V} {h h' : Heap} {r : List (Option Loc)} {w : World} {xs : List Value} (hok : Ok P G f args h (.b true) h') (hst : ∀ (i : Nat) (b : Blk), h[i]? = some b → ¬ Own b) (hr : HR G r h w.heap) (hx : RL r args xs) : Calls P f xs.toArray w fun e w' => e = .returned (.bool true) ∧ Below w.heap.size w w' := by
  refine (hok r w xs hr hx).mono ?_
  rintro e w' ⟨x, r', rfl, h2, h3, h4⟩
  cases h2
  exact ⟨rfl, h4.os, h4.tape, h4.output, h4.size, fun k hk => h4.block k hk fun i b L h5 h6 => absurd h6 (hst i b h5)⟩
theorem R_str {r : List (Option Loc)} {s : ByteArray} (h : s.size ≤ 281474976710656) : R r (.s (ofBA s)) (.string s) := by
  have := R.s (r := r) (ofBA s) (str_ofBA h)
  rwa [toBA_ofBA] at this
theorem HR_nil (w : World) : HR G0 [] [] w.heap := ⟨rfl, fun i b y h => by simp at h, fun i b h => by simp at h, fun i j b b' L L' h => by simp at h, fun g h => absurd rfl h, fun g h => absurd rfl h, fun i b y h => by simp at h⟩
end GoD
namespace Go.Proofs.Ytkollnjnfdpolaa.PD
open Go Go.Proofs Go.RowKit GoD Go.Proofs.YtkollnjnfdpolaaW.PrintWords
theorem wrap_of {a : Int} (h : (Lit.int .i64 a).wf = true) : IntKind.i64.wrap a = a := by
  have h : -9223372036854775808 ≤ a ∧ a ≤ 9223372036854775807 := by simpa [Lit.wf, IntKind.has, IntKind.min, IntKind.max, IntKind.signed, IntKind.bits] using h
  exact w64 (by omega)
theorem ofBA_size (s : ByteArray) : (ofBA s).length = s.size := by
  unfold ofBA
  rw [List.length_map, Array.length_toList]
  rfl
def KeepOwn.f (a0 a1 : Int) : Option Bool := if IntKind.i64.wrap a0 = a0 ∧ IntKind.i64.wrap a1 = a1 then some true else none
theorem KeepOwn.calls (a0 a1 : Int) (r : Bool) (w : World) (h : KeepOwn.f a0 a1 = some r) : Calls Try.prog 4 #[.int .i64 a0, .int .i64 a1] w fun e w' => e = .returned (.bool r) ∧ Below w.heap.size w w' := by
  unfold KeepOwn.f at h
  split at h
  · rename_i h0
    obtain rfl := Option.some.inj h
    exact law_calls (ok_of (pLawO_ok _ _ _ _ (show pLawOC [.i .i64 a0, .i .i64 a1] [] = some (.b true, []) from rfl)) (by kernel_rfl)) (fun i b h => by simp at h) (HR_nil w) (.cons (.i _ _ h0.1) (.cons (.i _ _ h0.2) .nil))
  · cases h
theorem II.holds {a0 a1 : Int} (h : (Lit.int .i64 a0).wf = true) (h1 : (Lit.int .i64 a1).wf = true) : KeepOwn.f a0 a1 = some true := if_pos ⟨wrap_of h, wrap_of h1⟩
end Go.Proofs.Ytkollnjnfdpolaa.PD
