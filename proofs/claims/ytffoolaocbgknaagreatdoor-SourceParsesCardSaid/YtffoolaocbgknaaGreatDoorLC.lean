import Derived.Test.YtffoolaocbgknaaGreatDoorLB
import Derived.Below
/-! How a law's answer is told to its row. -/
namespace GoD
open Go Go.Proofs Go.RowKit
set_option linter.unusedVariables false
set_option linter.unusedSimpArgs false
theorem ok_of {P : Program} {G : Nat → List V} {f : FuncId} {args : List V} {h h' : Heap} {v : V} (hk : Known P G f args h v h') (hc : callableB P f = true) : Ok P G f args h v h' := by
  rcases hk with ⟨_, h⟩ | ⟨rfl, h⟩
  · exact h
  · intro r w xs hr hx
    exfalso
    obtain ⟨x, h1, _⟩ := h r xs w hx
    obtain ⟨fn, hf, hb, hn⟩ := callable_of hc
    have hn' : ¬ fn.name = "runtime.NumGoroutine" := by simpa using hn
    have hb' : ¬ fn.body = none := fun e => by rw [e] at hb; cases hb
    rw [callFunc] at h1
    simp [hf, Sem.run] at h1
    rw [if_neg hn', if_neg hb'] at h1
    cases h1
theorem law_calls {P : Program} {G : Nat → List V} {f : FuncId} {args : List V} {h h' : Heap} {r : List (Option Loc)} {w : World} {xs : List Value} (hok : Ok P G f args h (.b true) h') (hst : ∀ (i : Nat) (b : Blk), h[i]? = some b → b.st ≠ 2) (hr : HR G r h w.heap) (hx : RL r args xs) : Calls P f xs.toArray w fun e w' => e = .returned (.bool true) ∧ Below w.heap.size w w' := by
  refine (hok r w xs hr hx).mono ?_
  rintro e w' ⟨x, r', rfl, h2, h3, h4⟩
  cases h2
  exact ⟨rfl, h4.os, h4.tape, h4.output, h4.size, fun k hk => h4.block k hk fun i b L h5 h6 => absurd h6 (hst i b h5)⟩
theorem R_str {r : List (Option Loc)} {s : ByteArray} (h : s.size ≤ 281474976710656) : R r (.s (ofBA s)) (.string s) := by
  have := R.s (r := r) (ofBA s) (str_ofBA h)
  rwa [toBA_ofBA] at this
theorem HR_nil (w : World) : HR G0 [] [] w.heap := ⟨rfl, fun i b y h => by simp at h, fun i b h => by simp at h, fun i j b b' L L' h => by simp at h, fun g h => absurd rfl h, fun g h => absurd rfl h⟩
end GoD
namespace Go.Proofs.YtffoolaocbgknaaGreatDoor.PD
open Go Go.Proofs Go.RowKit GoD
def SourceParses.f (a0 : ByteArray) : Option Bool := if a0.size ≤ 281474976710656 then some true else none
theorem SourceParses.calls (a0 : ByteArray) (r : Bool) (w : World) (h : SourceParses.f a0 = some r) : Calls Tryz.prog 3 #[.string a0] w fun e w' => e = .returned (.bool r) ∧ Below w.heap.size w w' := by
  unfold SourceParses.f at h
  split at h
  · rename_i h0
    obtain rfl := Option.some.inj h
    exact law_calls (ok_of (pLaw1_ok [.s (ofBA a0)] [] _ _ rfl) (by kernel_rfl)) (fun i b h => by simp at h) (HR_nil w) (.cons (R_str h0) .nil)
  · cases h
theorem SourceParses.holds (a0 : ByteArray) (h : a0.size ≤ 140737488351232) : SourceParses.f a0 = some true := if_pos (by omega)
end Go.Proofs.YtffoolaocbgknaaGreatDoor.PD
