import Derived.Test.YtopejcaiabebpaaDoorLC
import Derived.Test.YtopejcaiabebpaaDoorNL
/-! The law's answer, told to its row: a row of numbers. -/
namespace GoD
open Go Go.Proofs Go.RowKit
theorem intsV_its : ∀ l : List Int, intsV (its l) = some l
  | [] => rfl
  | x :: l => by
    show (intsV (its l)).map (x :: ·) = some (x :: l)
    rw [intsV_its l]; rfl
theorem intsAt_arg (xs : List Int) : intsAt [⟨1, false, its xs⟩] 0 0 xs.length = some xs := by
  have e : ldN (its xs) 0 xs.length = some (its xs) := by
    unfold ldN
    rw [if_pos (by simp [its])]
    rw [List.drop_zero, List.take_of_length_le (by simp [its])]
  have g : hget [⟨1, false, its xs⟩] 0 = ⟨1, false, its xs⟩ := rfl
  unfold intsAt
  rw [g]
  simp only [e, intsV_its]
end GoD
namespace Go.Proofs.YtopejcaiabebpaaDoor.PD
open Go Go.Proofs Go.RowKit GoD Go.Proofs.YtopejcaiabebpaaDoorW.PrintWords
set_option maxRecDepth 100000
theorem slice_argI {P : Program} {w : World} {base n c : Nat} {t e : TypeId} {A : Option Addr} {xs : List Int} (hu : P.underlying t = some (.slice e)) (hv : Value.okWide P w .any base t (.slice A n c)) (hC : (Kd.int .i64).C w A n xs) (hl : n ≤ c) (hb : n ≤ 281474976710656) (hs : ∀ s ∈ xs, IntKind.i64.wrap s = s) :
    ∃ y, HR G0 [y] [⟨1, false, its xs⟩] w.heap ∧ R [y] (.sl 0 0 n 1) (.slice A n c) := by
  obtain ⟨h1, _, h3⟩ := hC
  unfold Value.okWide at hv
  simp only [hu] at hv
  unfold Cell.okWide at hv
  simp only [hu] at hv
  unfold Cell.ok at hv
  simp only [hu] at hv
  cases A with
  | none =>
    match n, c, hv with
    | 0, 0, _ =>
      have : xs = [] := List.length_eq_zero_iff.1 h1
      subst this
      exact ⟨none, HR_one (.inl rfl), .sn 0 1 rfl⟩
  | some a =>
    obtain ⟨_, _, hh⟩ := hv
    obtain ⟨_, hsp, row, cells, hsh, _⟩ := hh
    obtain ⟨b, o, sp⟩ := a
    simp only at hsp
    subst hsp
    have hblk : ∃ cs e fz, w.heap[b]? = some (.cells cs e fz) := by
      unfold World.shape? at hsh
      split at hsh
      · rename_i cs e fz hx; exact ⟨cs, e, fz, hx⟩
      · cases hsh
    obtain ⟨cs, e', fz, hcs⟩ := hblk
    refine ⟨some ⟨b, o, c⟩, HR_one (.inr ⟨cs, e', fz, hcs, fun j v hj => ?_, (fun h => by cases h), (fun h => by cases h)⟩), ?_⟩
    · simp only [its, List.getElem?_map] at hj
      cases hxj : xs[j]? with
      | none => rw [hxj] at hj; simp at hj
      | some s =>
        rw [hxj] at hj
        simp at hj
        subst hj
        have hj0 : 0 < n := by have := (List.getElem?_eq_some_iff.1 hxj).1; omega
        obtain ⟨ad, hA, hcell⟩ := h3 hj0
        have hA := Option.some.inj hA
        subst hA
        obtain ⟨c', hc1, hR, hc2⟩ := hcell j s hxj
        have hR : c' = [.int .i64 s] := hR
        subst hR
        have h4 := hc2 0 (.int .i64 s) rfl
        have h5 : w.cell? ⟨b, o + j, none⟩ = some (.int .i64 s) := by
          rw [show (Kd.int .i64).sz = 1 from rfl, Nat.mul_one, Nat.add_zero] at h4
          unfold Addr.add at h4
          split at h4
          · rename_i h0; subst h0; exact h4
          · exact h4
        unfold World.cell? at h5
        simp only [hcs] at h5
        exact ⟨.int .i64 s, by simpa using h5, .i _ _ (hs s (List.mem_of_getElem? hxj))⟩
    · have := R.sl (r := [some ⟨b, o, c⟩]) 0 0 n 1 c ⟨b, o, c⟩ rfl (by simp) hl hb
      simpa using this
def CspMany.f (x0 : List Int) : Option Bool := if x0.length ≤ 281474976710656 ∧ (∀ s ∈ x0, IntKind.i64.wrap s = s) then some true else none
theorem CspMany.calls (A0 : Option Addr) (c0 : Nat) (x0 : List Int) (r : Bool) (w : World) (hC0 : (Kd.int .i64).C w A0 x0.length x0) (hl0 : x0.length ≤ c0) {base : Nat} (hv : Value.okWide Tryd.prog w .any base 31 (.slice A0 x0.length c0)) (h : CspMany.f x0 = some r) : Calls Tryd.prog 5 #[.slice A0 x0.length c0] w fun e w' => e = .returned (.bool r) ∧ Below w.heap.size w w' := by
  unfold CspMany.f at h
  split at h
  · rename_i h0
    obtain ⟨h0, h4⟩ := h0
    obtain rfl := Option.some.inj h
    obtain ⟨y, hy1, hy2⟩ := slice_argI Tryd.underlying31 hv hC0 hl0 h0 h4
    have hM : pLawMC [.sl 0 0 x0.length 1] [⟨1, false, its x0⟩] = some (.b true, [⟨1, false, its x0⟩]) := by simp only [pLawMC, intsAt_arg x0]
    exact law_calls (ok_of (pLawM_ok _ _ _ _ hM) (by kernel_rfl)) (fun i b h => by cases i with | zero => simp at h; subst h; simp | succ i => simp at h) hy1 (.cons hy2 .nil)
  · cases h
theorem LI1.holds {x0 : List Int} (h : x0.length * 8 ≤ 140737488351232) (h1 : ∀ x ∈ x0, (Lit.int .i64 x).wf = true) : CspMany.f x0 = some true := if_pos ⟨by omega, fun s hs => wrap_of (h1 s hs)⟩
end Go.Proofs.YtopejcaiabebpaaDoor.PD
