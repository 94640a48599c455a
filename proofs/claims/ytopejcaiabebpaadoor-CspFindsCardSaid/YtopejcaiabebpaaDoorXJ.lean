/- strings.Join: the shelf's contract, in the print's form. -/
import Derived.Test.YtopejcaiabebpaaDoorPAx0
import Derived.Test.YtopejcaiabebpaaDoorSH
namespace Go.Proofs.YtopejcaiabebpaaDoor.PA
open Go.RowKit Go.Proofs.YtopejcaiabebpaaDoorW.PrintWords Go.Proofs.YtopejcaiabebpaaDoorW.PrintLast Go.Proofs.YtopejcaiabebpaaDoorW.PrintMore
set_option linter.unusedVariables false
def strings_Join.f (l0 : List ByteArray) (a1 : ByteArray) : Option ByteArray :=
  if l0.length ≤ 140737488355328 then (if (Lib.join (l0.map (·.data.toList)) a1.data.toList).length ≤ 140737488355328 then some ⟨(Lib.join (l0.map (·.data.toList)) a1.data.toList).toArray⟩ else none) else none
theorem spot_none {w : World} {a : Addr} {v : Value} (h : w.cell? a = some v) : a.spot = none := by
  unfold World.cell? at h
  split at h
  · by_cases hs : a.spot.isSome
    · rw [if_pos hs] at h; cases h
    · simpa using hs
  · cases h
theorem strings_Join.calls (A0 : Option Addr) (c0 : Nat) (l0 : List ByteArray) (a1 : ByteArray) (r : ByteArray) (w : World) (hr0 : Kd.C Kd.string w A0 l0.length l0) (hc0 : l0.length ≤ c0) (h : strings_Join.f l0 a1 = some r) :
    Calls Tryd.prog 31 #[.slice A0 l0.length c0, .string a1] w fun e w' => e = .returned (.string r) ∧ Below w.heap.size w w' := by
  unfold strings_Join.f at h
  by_cases h1 : l0.length ≤ 140737488355328
  case neg => rw [if_neg h1] at h; cases h
  rw [if_pos h1] at h
  by_cases h2 : (Lib.join (l0.map (·.data.toList)) a1.data.toList).length ≤ 140737488355328
  case neg => rw [if_neg h2] at h; cases h
  rw [if_pos h2] at h
  obtain rfl := Option.some.inj h
  by_cases h0 : l0.length = 0
  · obtain rfl := List.eq_nil_of_length_eq_zero h0
    refine (Tryd.strings_Join_none A0 c0 a1 w).mono ?_
    rintro e w' ⟨rfl, rfl⟩
    exact ⟨rfl, Below.refl _ _⟩
  · obtain ⟨ad, rfl, hx⟩ := hr0.2.2 (by omega)
    have hcell : ∀ (j : Nat) (x : ByteArray), l0[j]? = some x → w.cell? (ad.add j) = some (.string x) := by
      intro j x hj
      obtain ⟨c, hc, hk, hu⟩ := hx j x hj
      have hk' : c = [.string x] := hk
      subst hk'
      have := hu 0 _ rfl
      rwa [show Kd.string.sz = 1 from rfl, Nat.mul_one, Nat.add_zero] at this
    have hsp : ad.spot = none := by
      have := spot_none (hcell 0 _ (List.getElem?_eq_getElem (by omega)))
      simpa [Addr.add] using this
    have hlt := World.block_lt_of_cell? w _ (hcell 0 _ (List.getElem?_eq_getElem (by omega)))
    obtain ⟨b, o, s⟩ := ad
    obtain rfl : s = none := hsp
    refine (Tryd.strings_Join b o c0 l0 a1 w (fun j x hj => by have h := hcell j x hj; simp only [Addr.add] at h; split at h <;> simp_all) hlt h1 hc0 h2).mono ?_
    rintro e w' ⟨rfl, hb⟩
    exact ⟨rfl, hb⟩
end Go.Proofs.YtopejcaiabebpaaDoor.PA
