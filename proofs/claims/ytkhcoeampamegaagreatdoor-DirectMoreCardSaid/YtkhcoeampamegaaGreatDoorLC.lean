import Derived.Test.YtkhcoeampamegaaGreatDoorLA
import Derived.Below
import Derived.OpenShut
import Derived.Test.YtkhcoeampamegaaGreatDoorV0
/-! How a law's answer is told to its row. -/
set_option maxRecDepth 100000
namespace GoD
open Go Go.Proofs Go.RowKit
set_option linter.unusedVariables false
set_option linter.unusedSimpArgs false
theorem ok_of {P : Program} {G : Nat → List V} {f : FuncId} {args : List V} {h h' : Heap} {v : V} (hk : Known P G f args h v h') (hc : callableB P f = true) : Ok P G f args h v h' := by
  rcases hk with ⟨_, h⟩ | ⟨rfl, h⟩
  · exact h
  · intro r w xs hr hx
    exfalso
    obtain ⟨x, h1, _⟩ := h r xs w hx
    obtain ⟨fn, hf, hb, hn⟩ := callable_of hc
    have hn' : ¬ fn.name = "runtime.NumGoroutine" := by simpa using hn
    have hb' : ¬ fn.body = none := fun e => by rw [e] at hb; cases hb
    rw [callFunc] at h1
    simp [hf, Sem.run] at h1
    rw [if_neg hn', if_neg hb'] at h1
    cases h1
theorem law_calls {P : Program} {G : Nat → List V} {f : FuncId} {args : List V} {h h' : Heap} {r : List (Option Loc)} {w : World} {xs : List Value} (hok : Ok P G f args h (.b true) h') (hst : ∀ (i : Nat) (b : Blk), h[i]? = some b → b.st ≠ 2) (hr : HR G r h w.heap) (hx : RL r args xs) : Calls P f xs.toArray w fun e w' => e = .returned (.bool true) ∧ Below w.heap.size w w' := by
  refine (hok r w xs hr hx).mono ?_
  rintro e w' ⟨x, r', rfl, h2, h3, h4⟩
  cases h2
  exact ⟨rfl, h4.os, h4.tape, h4.output, h4.size, fun k hk => h4.block k hk fun i b L h5 h6 => absurd h6 (hst i b h5)⟩
theorem R_str {r : List (Option Loc)} {s : ByteArray} (h : s.size ≤ 281474976710656) : R r (.s (ofBA s)) (.string s) := by
  have := R.s (r := r) (ofBA s) (str_ofBA h)
  rwa [toBA_ofBA] at this
theorem HR_nil (w : World) : HR G0 [] [] w.heap := ⟨rfl, fun i b y h => by simp at h, fun i b h => by simp at h, fun i j b b' L L' h => by simp at h, fun g h => absurd rfl h, fun g h => absurd rfl h⟩
theorem HR_one {w : World} {y : Option Loc} {l : List V} (h : BlkOk [y] w.heap ⟨1, false, l⟩ y) : HR G0 [y] [⟨1, false, l⟩] w.heap where
  len := rfl
  blk i b z h1 h2 := by
    cases i with
    | zero => simp at h1 h2; subst h1 h2; exact h
    | succ i => simp at h1
  st i b h1 := by
    cases i with
    | zero => simp at h1; subst h1; exact Nat.le_succ 1
    | succ i => simp at h1
  uniq i j b b' L L' h1 h2 h3 := by
    cases i with
    | zero => simp at h1; subst h1; exact absurd h3 (by simp)
    | succ i => simp at h1
  glob g h := absurd rfl h
  globn g h := absurd rfl h
end GoD
namespace Go.Proofs.YtkhcoeampamegaaGreatDoor.PD
open Go Go.Proofs Go.RowKit GoD Go.Proofs.YtkhcoeampamegaaGreatDoorW.PrintWords
theorem slice_arg {P : Program} {w : World} {base n c : Nat} {t e : TypeId} {A : Option Addr} {xs : List ByteArray} (hu : P.underlying t = some (.slice e)) (hv : Value.okWide P w .any base t (.slice A n c)) (hC : Kd.string.C w A n xs) (hl : n ≤ c) (hb : n ≤ 281474976710656) (hs : ∀ s ∈ xs, s.size ≤ 281474976710656) :
    ∃ y, HR G0 [y] [⟨1, false, sts (xs.map ofBA)⟩] w.heap ∧ R [y] (.sl 0 0 n 1) (.slice A n c) := by
  obtain ⟨h1, _, h3⟩ := hC
  unfold Value.okWide at hv
  simp only [hu] at hv
  unfold Cell.okWide at hv
  simp only [hu] at hv
  unfold Cell.ok at hv
  simp only [hu] at hv
  cases A with
  | none =>
    match n, c, hv with
    | 0, 0, _ =>
      have : xs = [] := List.length_eq_zero_iff.1 h1
      subst this
      exact ⟨none, HR_one (.inl rfl), .sn 0 1 rfl⟩
  | some a =>
    obtain ⟨_, _, hh⟩ := hv
    obtain ⟨_, hsp, row, cells, hsh, _⟩ := hh
    obtain ⟨b, o, sp⟩ := a
    simp only at hsp
    subst hsp
    have hblk : ∃ cs e fz, w.heap[b]? = some (.cells cs e fz) := by
      unfold World.shape? at hsh
      split at hsh
      · rename_i cs e fz hx; exact ⟨cs, e, fz, hx⟩
      · cases hsh
    obtain ⟨cs, e', fz, hcs⟩ := hblk
    refine ⟨some ⟨b, o, c⟩, HR_one (.inr ⟨cs, e', fz, hcs, fun j v hj => ?_, (fun h => by cases h), (fun h => by cases h)⟩), ?_⟩
    · simp only [sts, List.getElem?_map, List.map_map] at hj
      cases hxj : xs[j]? with
      | none => rw [hxj] at hj; simp at hj
      | some s =>
        rw [hxj] at hj
        simp at hj
        subst hj
        have hj0 : 0 < n := by have := (List.getElem?_eq_some_iff.1 hxj).1; omega
        obtain ⟨ad, hA, hcell⟩ := h3 hj0
        have hA := Option.some.inj hA
        subst hA
        obtain ⟨c', hc1, hR, hc2⟩ := hcell j s hxj
        have hR : c' = [.string s] := hR
        subst hR
        have h4 := hc2 0 (.string s) rfl
        have h5 : w.cell? ⟨b, o + j, none⟩ = some (.string s) := by
          rw [show Kd.string.sz = 1 from rfl, Nat.mul_one, Nat.add_zero] at h4
          unfold Addr.add at h4
          split at h4
          · rename_i h0; subst h0; exact h4
          · exact h4
        unfold World.cell? at h5
        simp only [hcs] at h5
        exact ⟨.string s, by simpa using h5, R_str (hs s (List.mem_of_getElem? hxj))⟩
    · have := R.sl (r := [some ⟨b, o, c⟩]) 0 0 n 1 c ⟨b, o, c⟩ rfl (by simp) hl hb
      simpa using this
theorem strsAt_arg (xs : List ByteArray) : strsAt [⟨1, false, sts (xs.map ofBA)⟩] 0 0 xs.length = some (xs.map ofBA) := by
  have := strsAt_of (h := [⟨1, false, sts (xs.map ofBA)⟩]) (b := 0) (st := 0) (n := xs.length) (x := false) (z := xs.map ofBA) rfl (by simp)
  rw [this, List.take_of_length_le (by simp)]
theorem short_arg {xs : List ByteArray} (h : ∀ s ∈ xs, s.size ≤ 281474976710656) : ∀ p ∈ xs.map ofBA, p.length ≤ 281474976710656 := by
  intro p hp
  obtain ⟨s, hs, rfl⟩ := List.mem_map.1 hp
  exact (str_ofBA (h s hs)).2
def S1.f (a0 : ByteArray) : Option Bool := if a0.size ≤ 281474976710656 then some true else none
theorem S1.calls {f : FuncId} {C : Ct} (ok : CtOk Tryz.prog G0 f C) (hC : ∀ l, C [.s l] [] = some (.b true, [])) (hf : callableB Tryz.prog f = true) (a0 : ByteArray) (r : Bool) (w : World) (h : S1.f a0 = some r) : Calls Tryz.prog f #[.string a0] w fun e w' => e = .returned (.bool r) ∧ Below w.heap.size w w' := by
  unfold S1.f at h
  split at h
  · rename_i h0
    obtain rfl := Option.some.inj h
    exact law_calls (ok_of (ok _ _ _ _ (hC _)) hf) (fun i b h => by simp at h) (HR_nil w) (.cons (R_str h0) .nil)
  · cases h
theorem S1.holds {a0 : ByteArray} (h : a0.size ≤ 140737488351232) : S1.f a0 = some true := if_pos (by omega)
def S2.f (a0 a1 : ByteArray) : Option Bool := if a0.size ≤ 281474976710656 ∧ a1.size ≤ 281474976710656 then some true else none
theorem S2.calls {f : FuncId} {C : Ct} (ok : CtOk Tryz.prog G0 f C) (hC : ∀ l m, C [.s l, .s m] [] = some (.b true, [])) (hf : callableB Tryz.prog f = true) (a0 a1 : ByteArray) (r : Bool) (w : World) (h : S2.f a0 a1 = some r) : Calls Tryz.prog f #[.string a0, .string a1] w fun e w' => e = .returned (.bool r) ∧ Below w.heap.size w w' := by
  unfold S2.f at h
  split at h
  · rename_i h0
    obtain rfl := Option.some.inj h
    exact law_calls (ok_of (ok _ _ _ _ (hC _ _)) hf) (fun i b h => by simp at h) (HR_nil w) (.cons (R_str h0.1) (.cons (R_str h0.2) .nil))
  · cases h
theorem S2.holds {a0 a1 : ByteArray} (h : a0.size ≤ 140737488351232) (h1 : a1.size ≤ 140737488351232) : S2.f a0 a1 = some true := if_pos (by omega)
def S3.f (a0 a1 a2 : ByteArray) : Option Bool := if a0.size ≤ 281474976710656 ∧ a1.size ≤ 281474976710656 ∧ a2.size ≤ 281474976710656 then some true else none
theorem S3.calls {f : FuncId} {C : Ct} (ok : CtOk Tryz.prog G0 f C) (hC : ∀ l m n, C [.s l, .s m, .s n] [] = some (.b true, [])) (hf : callableB Tryz.prog f = true) (a0 a1 a2 : ByteArray) (r : Bool) (w : World) (h : S3.f a0 a1 a2 = some r) : Calls Tryz.prog f #[.string a0, .string a1, .string a2] w fun e w' => e = .returned (.bool r) ∧ Below w.heap.size w w' := by
  unfold S3.f at h
  split at h
  · rename_i h0
    obtain rfl := Option.some.inj h
    exact law_calls (ok_of (ok _ _ _ _ (hC _ _ _)) hf) (fun i b h => by simp at h) (HR_nil w) (.cons (R_str h0.1) (.cons (R_str h0.2.1) (.cons (R_str h0.2.2) .nil)))
  · cases h
theorem S3.holds {a0 a1 a2 : ByteArray} (h : a0.size ≤ 140737488351232) (h1 : a1.size ≤ 140737488351232) (h2 : a2.size ≤ 140737488351232) : S3.f a0 a1 a2 = some true := if_pos (by omega)
/-- a row of texts, two texts, a number -/
def LSSI.f (x0 : List ByteArray) (a1 a2 : ByteArray) (a3 : Int) : Option Bool := if x0.length ≤ 281474976710656 ∧ a1.size ≤ 281474976710656 ∧ a2.size ≤ 281474976710656 ∧ IntKind.i64.wrap a3 = a3 ∧ (∀ s ∈ x0, s.size ≤ 281474976710656) then some true else none
theorem LSSI.calls {f : FuncId} {C : Ct} {t e : TypeId} (hu : Tryz.prog.underlying t = some (.slice e)) (ok : CtOk Tryz.prog G0 f C) (hC : ∀ h n y l m k, strsAt h 0 0 n = some y → (∀ p ∈ y, p.length ≤ 281474976710656) → C [.sl 0 0 n 1, .s l, .s m, .i .i64 k] h = some (.b true, h)) (hf : callableB Tryz.prog f = true) (A0 : Option Addr) (c0 : Nat) (x0 : List ByteArray) (a1 a2 : ByteArray) (a3 : Int) (r : Bool) (w : World) (hC0 : Kd.string.C w A0 x0.length x0) (hl0 : x0.length ≤ c0) {base : Nat} (hv : Value.okWide Tryz.prog w .any base t (.slice A0 x0.length c0)) (h : LSSI.f x0 a1 a2 a3 = some r) : Calls Tryz.prog f #[.slice A0 x0.length c0, .string a1, .string a2, .int .i64 a3] w fun e w' => e = .returned (.bool r) ∧ Below w.heap.size w w' := by
  unfold LSSI.f at h
  split at h
  · rename_i h0
    obtain ⟨h0, h1, h2, h3, h4⟩ := h0
    obtain rfl := Option.some.inj h
    obtain ⟨y, hy1, hy2⟩ := slice_arg hu hv hC0 hl0 h0 h4
    exact law_calls (ok_of (ok _ _ _ _ (hC _ _ _ _ _ _ (strsAt_arg x0) (short_arg h4))) hf) (fun i b h => by cases i with | zero => simp at h; subst h; simp | succ i => simp at h) hy1 (.cons hy2 (.cons (R_str h1) (.cons (R_str h2) (.cons (.i _ _ h3) .nil))))
  · cases h
theorem wrap_of {a : Int} (h : (Lit.int .i64 a).wf = true) : IntKind.i64.wrap a = a := by
  have h : -9223372036854775808 ≤ a ∧ a ≤ 9223372036854775807 := by simpa [Lit.wf, IntKind.has, IntKind.min, IntKind.max, IntKind.signed, IntKind.bits] using h
  exact w64 (by omega)
theorem LSSI.holds {x0 : List ByteArray} {a1 a2 : ByteArray} {a3 : Int} (h : x0.length * 16 ≤ 140737488351232 ∧ ∀ s ∈ x0, s.size ≤ 140737488351232) (h1 : a1.size ≤ 140737488351232) (h2 : a2.size ≤ 140737488351232) (h3 : (Lit.int .i64 a3).wf = true) : LSSI.f x0 a1 a2 a3 = some true := if_pos ⟨by omega, by omega, by omega, wrap_of h3, fun s hs => Nat.le_trans (h.2 s hs) (by omega)⟩
end Go.Proofs.YtkhcoeampamegaaGreatDoor.PD
