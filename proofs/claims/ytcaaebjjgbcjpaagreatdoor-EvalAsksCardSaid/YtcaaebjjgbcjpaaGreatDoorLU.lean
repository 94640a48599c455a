import Derived.Test.YtcaaebjjgbcjpaaGreatDoorOH
import Derived.Test.YtcaaebjjgbcjpaaGreatDoorDC
import Derived.Test.YtcaaebjjgbcjpaaGreatDoorEC
import Derived.Below
import Derived.OpenShut
import Derived.SizedLaws
import Derived.ChangeSame
import Derived.Lib.LaidU8T
import Derived.Shelf.Vars
import Derived.Test.YtcaaebjjgbcjpaaGreatDoorV0
/-! How a law's answer is told to its row, where the row lists tables. -/
set_option maxRecDepth 100000
namespace Go
section
variable {H : Type} {enc : TypeId × Value → H} {P : Program} {w : World} {base : Nat} {spare : Nat → Bool} {held : Bool}
theorem trod_struct10 {t : TypeId} {f0 f1 f2 f3 f4 f5 f6 f7 f8 f9 : Field} {fuel : Nat} {cs : List Value} {x : DataW H × List MemPlace} (ht : P.underlying t = some (.struct #[f0, f1, f2, f3, f4, f5, f6, f7, f8, f9])) (h : DataW.trod enc P w base spare held fuel t cs = some x) :
    ∃ y0 y1 y2 y3 y4 y5 y6 y7 y8 y9 n, x = (.agg [y0.1, y1.1, y2.1, y3.1, y4.1, y5.1, y6.1, y7.1, y8.1, y9.1], y0.2 ++ (y1.2 ++ (y2.2 ++ (y3.2 ++ (y4.2 ++ (y5.2 ++ (y6.2 ++ (y7.2 ++ (y8.2 ++ y9.2))))))))) ∧ cs.length = P.cellsOf t ∧ DataW.trod enc P w base spare held n f0.type ((cs.drop f0.offset).take (P.cellsOf f0.type)) = some y0 ∧ DataW.trod enc P w base spare held n f1.type ((cs.drop f1.offset).take (P.cellsOf f1.type)) = some y1 ∧ DataW.trod enc P w base spare held n f2.type ((cs.drop f2.offset).take (P.cellsOf f2.type)) = some y2 ∧ DataW.trod enc P w base spare held n f3.type ((cs.drop f3.offset).take (P.cellsOf f3.type)) = some y3 ∧ DataW.trod enc P w base spare held n f4.type ((cs.drop f4.offset).take (P.cellsOf f4.type)) = some y4 ∧ DataW.trod enc P w base spare held n f5.type ((cs.drop f5.offset).take (P.cellsOf f5.type)) = some y5 ∧ DataW.trod enc P w base spare held n f6.type ((cs.drop f6.offset).take (P.cellsOf f6.type)) = some y6 ∧ DataW.trod enc P w base spare held n f7.type ((cs.drop f7.offset).take (P.cellsOf f7.type)) = some y7 ∧ DataW.trod enc P w base spare held n f8.type ((cs.drop f8.offset).take (P.cellsOf f8.type)) = some y8 ∧ DataW.trod enc P w base spare held n f9.type ((cs.drop f9.offset).take (P.cellsOf f9.type)) = some y9 := by
  obtain ⟨xs, n, _, rfl, hl, hlen, hf⟩ := DataW.trod_struct ht h
  match xs, hlen with
  | [y0, y1, y2, y3, y4, y5, y6, y7, y8, y9], _ => exact ⟨y0, y1, y2, y3, y4, y5, y6, y7, y8, y9, n, by simp, hl, by simpa using hf 0 f0 rfl, by simpa using hf 1 f1 rfl, by simpa using hf 2 f2 rfl, by simpa using hf 3 f3 rfl, by simpa using hf 4 f4 rfl, by simpa using hf 5 f5 rfl, by simpa using hf 6 f6 rfl, by simpa using hf 7 f7 rfl, by simpa using hf 8 f8 rfl, by simpa using hf 9 f9 rfl⟩
theorem trod_struct10_mk {t : TypeId} {f0 f1 f2 f3 f4 f5 f6 f7 f8 f9 : Field} {n : Nat} {cs : List Value} {y0 y1 y2 y3 y4 y5 y6 y7 y8 y9 : DataW H × List MemPlace} (ht : P.underlying t = some (.struct #[f0, f1, f2, f3, f4, f5, f6, f7, f8, f9])) (hl : cs.length = P.cellsOf t) (h0 : DataW.trod enc P w base spare held n f0.type ((cs.drop f0.offset).take (P.cellsOf f0.type)) = some y0) (h1 : DataW.trod enc P w base spare held n f1.type ((cs.drop f1.offset).take (P.cellsOf f1.type)) = some y1) (h2 : DataW.trod enc P w base spare held n f2.type ((cs.drop f2.offset).take (P.cellsOf f2.type)) = some y2) (h3 : DataW.trod enc P w base spare held n f3.type ((cs.drop f3.offset).take (P.cellsOf f3.type)) = some y3) (h4 : DataW.trod enc P w base spare held n f4.type ((cs.drop f4.offset).take (P.cellsOf f4.type)) = some y4) (h5 : DataW.trod enc P w base spare held n f5.type ((cs.drop f5.offset).take (P.cellsOf f5.type)) = some y5) (h6 : DataW.trod enc P w base spare held n f6.type ((cs.drop f6.offset).take (P.cellsOf f6.type)) = some y6) (h7 : DataW.trod enc P w base spare held n f7.type ((cs.drop f7.offset).take (P.cellsOf f7.type)) = some y7) (h8 : DataW.trod enc P w base spare held n f8.type ((cs.drop f8.offset).take (P.cellsOf f8.type)) = some y8) (h9 : DataW.trod enc P w base spare held n f9.type ((cs.drop f9.offset).take (P.cellsOf f9.type)) = some y9) : DataW.trod enc P w base spare held (n + 1) t cs = some (.agg [y0.1, y1.1, y2.1, y3.1, y4.1, y5.1, y6.1, y7.1, y8.1, y9.1], y0.2 ++ (y1.2 ++ (y2.2 ++ (y3.2 ++ (y4.2 ++ (y5.2 ++ (y6.2 ++ (y7.2 ++ (y8.2 ++ y9.2))))))))) := by
  have := Go.ChangeShapes.trod_struct_mk (enc := enc) (w := w) (base := base) (spare := spare) (held := held) (n := n) (xs := [y0, y1, y2, y3, y4, y5, y6, y7, y8, y9]) ht hl (by simp [h0, h1, h2, h3, h4, h5, h6, h7, h8, h9])
  simpa using this
end
theorem sized_agg {H : Type} {P : Program} {ts : List TypeId} {ds : List (DataW H)} (h : (DataW.weightsEach P ts ds).all (· ≤ reachBytes) = true) {j i : Nat} {t : TypeId} {b : List UInt8} {xs : List (DataW H)} {fs : Array Field} {u : TypeId} (ht : ts[j]? = some t) (hd : ds[j]? = some (.agg xs)) (hu : P.underlying t = some (.struct fs)) (hi : (fs.toList.map (·.type))[i]? = some u) (hx : xs[i]? = some (.lit (.string b))) : b.length ≤ 140737488351232 := by
  have key : ∀ n, n ∈ DataW.weights P t (DataW.agg xs) → n ≤ 140737488351232 := fun n hn => by
    have := List.all_eq_true.1 h n (DataW.weights_mem_each ht hd n hn)
    have hr : reachBytes = 140737488351232 := rfl
    rw [← hr]
    simpa using this
  refine key _ ?_
  simp only [DataW.weights, hu]
  exact DataW.weights_mem_each hi hx _ (by simp [DataW.weights])
end Go
namespace GoD
open Go Go.Proofs Go.RowKit
set_option linter.unusedVariables false
set_option linter.unusedSimpArgs false
theorem ok_of {P : Program} {G : Nat → List V} {f : FuncId} {args : List V} {h h' : Heap} {v : V} (hk : Known P G f args h v h') (hc : callableB P f = true) : Ok P G f args h v h' := by
  rcases hk with ⟨_, h⟩ | ⟨rfl, h⟩
  · exact h
  · intro r w xs hr hx
    exfalso
    obtain ⟨x, h1, _⟩ := h r xs w hx
    obtain ⟨fn, hf, hb, hn⟩ := callable_of hc
    have hn' : ¬ fn.name = "runtime.NumGoroutine" := by simpa using hn
    have hb' : ¬ fn.body = none := fun e => by rw [e] at hb; cases hb
    rw [callFunc] at h1
    simp [hf, Sem.run] at h1
    rw [if_neg hn', if_neg hb'] at h1
    cases h1
theorem law_calls {P : Program} {G : Nat → List V} {f : FuncId} {args : List V} {h h' : Heap} {r : List (Option Loc)} {w : World} {xs : List Value} (hok : Ok P G f args h (.b true) h') (hst : ∀ (i : Nat) (b : Blk), h[i]? = some b → ¬ Own b) (hr : HR G r h w.heap) (hx : RL r args xs) : Calls P f xs.toArray w fun e w' => e = .returned (.bool true) ∧ Below w.heap.size w w' := by
  refine (hok r w xs hr hx).mono ?_
  rintro e w' ⟨x, r', rfl, h2, h3, h4⟩
  cases h2
  exact ⟨rfl, h4.os, h4.tape, h4.output, h4.size, fun k hk => h4.block k hk fun i b L h5 h6 => absurd h6 (hst i b h5)⟩
theorem R_str {r : List (Option Loc)} {s : ByteArray} (h : s.size ≤ 281474976710656) : R r (.s (ofBA s)) (.string s) := by
  have := R.s (r := r) (ofBA s) (str_ofBA h)
  rwa [toBA_ofBA] at this
/-- what the tables hold -/
def GT (w : World) : Prop := ∀ g, G0 g ≠ [] → ∃ c e fz, w.heap[g]? = some (.cells c e fz) ∧ ∀ (j : Nat) (v : V), (G0 g)[j]? = some v → ∃ x, c[j]? = some x ∧ R [] v x
theorem some_int {P : Program} {w : World} {g : Nat} {t : TypeId} {zero : Array Value}
    (h : w.ShapedOpen P) (hg : g < P.globals.size) (h0 : ((begin P (fun _ _ => 0) default).world.heap[g]?).bind Obj.row? = some (zero, t)) (hz : zero.size = 1)
    (hb : P.buildable t = true) (hc : P.cellTypes P.depth t = some [t]) (hu : P.underlying t = some (.int .i64)) :
    ∃ m, w.cell? ⟨g, 0, none⟩ = some (.int .i64 m) ∧ IntKind.i64.wrap m = m := by
  obtain ⟨cs, hh, hs, hr⟩ := h.1 g zero t hg h0
  obtain ⟨ts, hts, _, hall⟩ := hr hb
  rw [hc] at hts
  cases hts
  have h1 : 0 < cs.size := by omega
  obtain ⟨u, hu', hok⟩ := hall 0 cs[0] (by simp [h1])
  have : u = t := by simpa using hu'.symm
  subst this
  have hcell : w.cell? ⟨g, 0, none⟩ = some cs[0] := by simp [World.cell?, hh, h1]
  rw [hcell]
  unfold Cell.ok at hok
  rw [hu] at hok
  cases hv : cs[0] <;> rw [hv] at hok <;> simp at hok
  case int k' n =>
    have h2 : -9223372036854775808 ≤ n ∧ n ≤ 9223372036854775807 := by simpa [IntKind.has, IntKind.min, IntKind.max, IntKind.signed, IntKind.bits] using hok.2
    exact ⟨n, by rw [hok.1], w64 (by omega)⟩
theorem cells_of {w : World} {g j : Nat} {x : Value} (h : w.cell? ⟨g, j, none⟩ = some x) : ∃ c e fz, w.heap[g]? = some (.cells c e fz) ∧ c[j]? = some x := by
  unfold World.cell? at h
  cases hw : w.heap[g]? with
  | none => rw [hw] at h; cases h
  | some o =>
    rw [hw] at h
    cases o with
    | cells c e fz => exact ⟨c, e, fz, rfl, by simpa using h⟩
    | _ => simp at h
theorem tab1 {w : World} (ht : Lib.Utf8Tabs 0 1 w) : ∃ c e fz, w.heap[0]? = some (.cells c e fz) ∧ ∀ (j : Nat) (v : V), ((List.range 256).map (fun c => V.i .u8 (Lib.firstT c)))[j]? = some v → ∃ x, c[j]? = some x ∧ R [] v x := by
  obtain ⟨c, e, fz, h1, _⟩ := cells_of (ht.1 0 (by omega))
  refine ⟨c, e, fz, h1, fun j v hj => ?_⟩
  rw [List.getElem?_map] at hj
  by_cases hlt : j < 256
  · rw [List.getElem?_range hlt] at hj
    obtain rfl := Option.some.inj hj
    have := ht.1 j hlt
    rw [cell_of h1] at this
    refine ⟨_, this, .i _ _ ?_⟩
    exact (show ∀ i, i < 256 → IntKind.u8.wrap (Lib.firstT i) = Lib.firstT i by decide +kernel) j hlt
  · rw [List.getElem?_eq_none (by simp; omega)] at hj; cases hj
theorem tab2 {w : World} (ht : Lib.Utf8Tabs 0 1 w) : ∃ c e fz, w.heap[1]? = some (.cells c e fz) ∧ ∀ (j : Nat) (v : V), ((List.range 16).flatMap (fun i => [V.i .u8 (Lib.accLo i), V.i .u8 (Lib.accHi i)]))[j]? = some v → ∃ x, c[j]? = some x ∧ R [] v x := by
  obtain ⟨c, e, fz, h1, _⟩ := cells_of (ht.2 0 (by omega)).1
  refine ⟨c, e, fz, h1, fun j v hj => ?_⟩
  have hk : ∀ i, i < 16 → (c[2 * i]? = some (.int .u8 (Lib.accLo i)) ∧ c[2 * i + 1]? = some (.int .u8 (Lib.accHi i))) := fun i hi => by
    have := ht.2 i hi
    rw [cell_of h1, cell_of h1] at this
    exact this
  by_cases hlt : j < 32
  · have hl : ((List.range 16).flatMap (fun i => [V.i .u8 (Lib.accLo i), V.i .u8 (Lib.accHi i)]))[j]? = some (if j % 2 = 0 then V.i .u8 (Lib.accLo (j / 2)) else V.i .u8 (Lib.accHi (j / 2))) := by
      clear hj hk
      revert j
      intro j hlt
      rcases (show j = 0 ∨ j = 1 ∨ j = 2 ∨ j = 3 ∨ j = 4 ∨ j = 5 ∨ j = 6 ∨ j = 7 ∨ j = 8 ∨ j = 9 ∨ j = 10 ∨ j = 11 ∨ j = 12 ∨ j = 13 ∨ j = 14 ∨ j = 15 ∨ j = 16 ∨ j = 17 ∨ j = 18 ∨ j = 19 ∨ j = 20 ∨ j = 21 ∨ j = 22 ∨ j = 23 ∨ j = 24 ∨ j = 25 ∨ j = 26 ∨ j = 27 ∨ j = 28 ∨ j = 29 ∨ j = 30 ∨ j = 31 by omega) with rfl | rfl | rfl | rfl | rfl | rfl | rfl | rfl | rfl | rfl | rfl | rfl | rfl | rfl | rfl | rfl | rfl | rfl | rfl | rfl | rfl | rfl | rfl | rfl | rfl | rfl | rfl | rfl | rfl | rfl | rfl | rfl <;> rfl
    rw [hl] at hj
    obtain rfl := Option.some.inj hj
    have hw1 : ∀ i, i < 16 → IntKind.u8.wrap (Lib.accLo i) = Lib.accLo i := by decide +kernel
    have hw2 : ∀ i, i < 16 → IntKind.u8.wrap (Lib.accHi i) = Lib.accHi i := by decide +kernel
    split
    · rename_i he
      have := (hk (j / 2) (by omega)).1
      rw [show 2 * (j / 2) = j by omega] at this
      exact ⟨_, this, .i _ _ (hw1 _ (by omega))⟩
    · rename_i he
      have := (hk (j / 2) (by omega)).2
      rw [show 2 * (j / 2) + 1 = j by omega] at this
      exact ⟨_, this, .i _ _ (hw2 _ (by omega))⟩
  · rw [List.getElem?_eq_none (by rw [show ((List.range 16).flatMap (fun i => [V.i .u8 (Lib.accLo i), V.i .u8 (Lib.accHi i)])).length = 32 from rfl]; omega)] at hj; cases hj
theorem GT_of {w : World} (ht : Lib.Utf8Tabs 0 1 w) (hm : ∃ m, w.cell? ⟨2, 0, none⟩ = some (.int .i64 m) ∧ IntKind.i64.wrap m = m) : GT w := by
  intro g hg
  unfold G0 at hg ⊢
  split at hg
  · rename_i e; subst e; rw [if_pos rfl]; exact tab1 ht
  · rename_i e1
    split at hg
    · rename_i e; subst e; rw [if_neg e1, if_pos rfl]; exact tab2 ht
    · rename_i e2
      split at hg
      · rename_i e
        subst e
        rw [if_neg e1, if_neg e2, if_pos rfl]
        obtain ⟨m, h1, h2⟩ := hm
        obtain ⟨c, e, fz, h3, h4⟩ := cells_of h1
        refine ⟨c, e, fz, h3, fun j v hj => ?_⟩
        cases j with
        | zero => simp at hj; subst hj; exact ⟨_, h4, .ai _ _ h2⟩
        | succ j => simp at hj
      · exact absurd rfl hg
theorem GT_row {w : World} (hsh : w.ShapedOpen Tryz.prog) (ht : Lib.Utf8Tabs 0 1 w) : GT w := GT_of ht (some_int (zero := #[.int .i64 0]) (t := 3) hsh (of_decide_eq_true (by kernel_rfl)) (by kernel_rfl) rfl (by kernel_rfl) (by kernel_rfl) Tryz.underlying3)
theorem HR_nil {w : World} (hg : GT w) : HR G0 [] [] w.heap := ⟨rfl, fun i b y h => by simp at h, fun i b h => by simp at h, fun i j b b' L L' h => by simp at h, hg, fun g _ i b L h => by simp at h, fun i b y h => by simp at h⟩
theorem HR_one {w : World} (hg : GT w) {y : Option Loc} {l : List V} (h : BlkOk [y] w.heap ⟨1, false, l⟩ y) : HR G0 [y] [⟨1, false, l⟩] w.heap where
  len := rfl
  blk i b z h1 h2 := by
    cases i with
    | zero => simp at h1 h2; subst h1 h2; exact h
    | succ i => simp at h1
  st i b h1 := by
    cases i with
    | zero => simp at h1; subst h1; exact Nat.le_succ 1
    | succ i => simp at h1
  uniq i j b b' L L' h1 h2 h3 := by
    cases i with
    | zero => simp at h1; subst h1; exact absurd h3 (by simp [Own])
    | succ i => simp at h1
  glob := hg
  globn g _ i b L h1 h2 := by
    cases i with
    | zero => simp at h1; subst h1; exact absurd h2 (by simp [Own])
    | succ i => simp at h1
  maps i b y h1 h2 := by
    cases i with
    | zero => simp at h1; subst h1; cases h2
    | succ i => simp at h1
end GoD
namespace Go.Proofs.YtcaaebjjgbcjpaaGreatDoor.PD
open Go Go.Proofs Go.RowKit GoD Go.Proofs.YtcaaebjjgbcjpaaGreatDoorW.PrintWords
theorem slice_arg {P : Program} {w : World} {base n c : Nat} {t e : TypeId} {A : Option Addr} {xs : List ByteArray} (hg : GT w) (hu : P.underlying t = some (.slice e)) (hv : Value.okWide P w .any base t (.slice A n c)) (hC : Kd.string.C w A n xs) (hl : n ≤ c) (hb : n ≤ 281474976710656) (hs : ∀ s ∈ xs, s.size ≤ 281474976710656) :
    ∃ y, HR G0 [y] [⟨1, false, sts (xs.map ofBA)⟩] w.heap ∧ R [y] (.sl 0 0 n 1) (.slice A n c) := by
  obtain ⟨h1, _, h3⟩ := hC
  unfold Value.okWide at hv
  simp only [hu] at hv
  unfold Cell.okWide at hv
  simp only [hu] at hv
  unfold Cell.ok at hv
  simp only [hu] at hv
  cases A with
  | none =>
    match n, c, hv with
    | 0, 0, _ =>
      have : xs = [] := List.length_eq_zero_iff.1 h1
      subst this
      exact ⟨none, HR_one hg (.inl rfl), .sn 0 1 rfl⟩
  | some a =>
    obtain ⟨_, _, hh⟩ := hv
    obtain ⟨_, hsp, row, cells, hsh, _⟩ := hh
    obtain ⟨b, o, sp⟩ := a
    simp only at hsp
    subst hsp
    have hblk : ∃ cs e fz, w.heap[b]? = some (.cells cs e fz) := by
      unfold World.shape? at hsh
      split at hsh
      · rename_i cs e fz hx; exact ⟨cs, e, fz, hx⟩
      · cases hsh
    obtain ⟨cs, e', fz, hcs⟩ := hblk
    refine ⟨some ⟨b, o, c⟩, HR_one hg (.inr ⟨cs, e', fz, hcs, fun j v hj => ?_, (fun h => by cases h), (fun h => by cases h)⟩), ?_⟩
    · simp only [sts, List.getElem?_map, List.map_map] at hj
      cases hxj : xs[j]? with
      | none => rw [hxj] at hj; simp at hj
      | some s =>
        rw [hxj] at hj
        simp at hj
        subst hj
        have hj0 : 0 < n := by have := (List.getElem?_eq_some_iff.1 hxj).1; omega
        obtain ⟨ad, hA, hcell⟩ := h3 hj0
        have hA := Option.some.inj hA
        subst hA
        obtain ⟨c', hc1, hR, hc2⟩ := hcell j s hxj
        have hR : c' = [.string s] := hR
        subst hR
        have h4 := hc2 0 (.string s) rfl
        have h5 : w.cell? ⟨b, o + j, none⟩ = some (.string s) := by
          rw [show Kd.string.sz = 1 from rfl, Nat.mul_one, Nat.add_zero] at h4
          unfold Addr.add at h4
          split at h4
          · rename_i h0; subst h0; exact h4
          · exact h4
        unfold World.cell? at h5
        simp only [hcs] at h5
        exact ⟨.string s, by simpa using h5, R_str (hs s (List.mem_of_getElem? hxj))⟩
    · have := R.sl (r := [some ⟨b, o, c⟩]) 0 0 n 1 c ⟨b, o, c⟩ rfl (by simp) hl hb
      simpa using this
theorem strsAt_arg (xs : List ByteArray) : strsAt [⟨1, false, sts (xs.map ofBA)⟩] 0 0 xs.length = some (xs.map ofBA) := by
  have := strsAt_of (h := [⟨1, false, sts (xs.map ofBA)⟩]) (b := 0) (st := 0) (n := xs.length) (x := false) (z := xs.map ofBA) rfl (by simp)
  rw [this, List.take_of_length_le (by simp)]
theorem short_arg {xs : List ByteArray} (h : ∀ s ∈ xs, s.size ≤ 281474976710656) : ∀ p ∈ xs.map ofBA, p.length ≤ 281474976710656 := by
  intro p hp
  obtain ⟨s, hs, rfl⟩ := List.mem_map.1 hp
  exact (str_ofBA (h s hs)).2
theorem wrap_of {a : Int} (h : (Lit.int .i64 a).wf = true) : IntKind.i64.wrap a = a := by
  have h : -9223372036854775808 ≤ a ∧ a ≤ 9223372036854775807 := by simpa [Lit.wf, IntKind.has, IntKind.min, IntKind.max, IntKind.signed, IntKind.bits] using h
  exact w64 (by omega)
end Go.Proofs.YtcaaebjjgbcjpaaGreatDoor.PD
