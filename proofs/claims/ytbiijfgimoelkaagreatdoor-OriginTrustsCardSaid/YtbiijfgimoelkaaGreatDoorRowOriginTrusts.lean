/- OriginTrusts: for every input the call returns true, and each argument reads afterwards as it read before. The row lists what package-level variables of Go's library hold at the start; the card ties that to the program's text. -/
import Derived.Test.YtbiijfgimoelkaaGreatDoorRd
import Derived.Test.YtbiijfgimoelkaaGreatDoorLVB
import Derived.Test.YtbiijfgimoelkaaGreatDoorCards
import Derived.Test.YtbiijfgimoelkaaGreatDoorTie
import Derived.WalkKit
import Derived.ProofKit
import Derived.OpenShut
import Derived.ShutString
import Derived.ChangeOld
import Derived.Below
import Derived.SizedLaws
import Derived.Test.YtbiijfgimoelkaaGreatDoorV0
import Derived.Deep.Strs
import Derived.Deep.DeepHandedRow
namespace Go.Proofs.YtbiijfgimoelkaaGreatDoor.originTrusts
open Go.ChangeShapes Go.WideShapes Go.ChangeAt Go.RowKit Go.Proofs.YtbiijfgimoelkaaGreatDoor.PD Go.Proofs.YtbiijfgimoelkaaGreatDoorW.PrintWords 
open Go.ChangeMaps (open_string shut_string)
set_option linter.unusedVariables false
theorem own : ownKnob Tryz.prog.godebug = none := by kernel_rfl
theorem laidOut : laidOutB Tryz.prog = true := by kernel_rfl
set_option maxRecDepth 100000 in
theorem contract (H : Type) (enc : TypeId × Value → H) (W : World) (base : Nat) (args : Array Value) (ds gs : List (DataW H)) (before : List MemPlace)
    (hval0 : ∀ (j : Nat) t v, Tryz.f6.params[j]? = some t → args[j]? = some v → Value.okWide Tryz.prog W .any base t v)
    (hW : DataW.Whole enc Tryz.prog Tryz.f6.params.toList Rows.originTrustsSpec.vars false W args.toList ds gs before)
    (hsz0 : (DataW.weightsEach Tryz.prog (Tryz.f6.params.toList ++ Rows.originTrustsSpec.plain.varTypes Tryz.prog) (ds ++ gs)).all (· ≤ reachBytes) = true) (hsh : W.ShapedOpen Tryz.prog) (hL : laidMetH Tryz.prog Rows.originTrustsRow.laid W) :
    Calls Tryz.prog 6 args W fun e W' => ∃ v, e = .returned v ∧ Rows.originTrustsSpec.post enc Tryz.prog Tryz.f6 false true false false W args v W' := by
  have hval := hval0
  have hsz := hsz0
  have hW' := hW
  obtain ⟨p, q, hA0, hV, rfl, hfz, hnd⟩ := hW
  have hA : DataW.TrodAll enc Tryz.prog W 0 (fun _ => true) true Tryz.f6.params.toList args.toList ds p := hA0
  rw [Tryz.params6] at hA hval hsz
  obtain ⟨v0, vs0, d0, ds0, p0, q0, hargs, rfl, rfl, h0, r0⟩ := trodAll_cons hA
  obtain ⟨v1, vs1, d1, ds1, p1, q1, rfl, rfl, rfl, h1, r1⟩ := trodAll_cons r0
  obtain ⟨v2, vs2, d2, ds2, p2, q2, rfl, rfl, rfl, h2, r2⟩ := trodAll_cons r1
  obtain ⟨rfl, rfl, rfl⟩ := trodAll_nil r2
  obtain rfl : args = #[v0, v1, v2] := by cases args; simp_all
  obtain ⟨rfl, rfl⟩ := trodVars_none hV
  obtain ⟨cs0, rfl, hz0⟩ := okWide_struct Tryz.underlying23 (hval 0 23 v0 rfl rfl)
  rw [show Tryz.prog.cellsOf 23 = 3 by kernel_rfl] at hz0
  obtain ⟨l0⟩ := cs0
  obtain ⟨c0_0, c0_1, c0_2, rfl⟩ : ∃ c0_0 c0_1 c0_2, l0 = [c0_0, c0_1, c0_2] := by
    match l0, hz0 with
    | [c0_0, c0_1, c0_2], _ => exact ⟨_, _, _, rfl⟩
  obtain ⟨fu0, hf0⟩ := h0
  obtain ⟨z0_0, z0_1, z0_2, m0, hx0, _, t0_0, t0_1, t0_2⟩ := Go.Deep.trod_struct3 Tryz.underlying23 hf0
  obtain ⟨a0_0, e0_0, rfl, w0_0⟩ := DataW.trod_string Tryz.underlying9 t0_0
  obtain ⟨a0_1, e0_1, rfl, w0_1⟩ := DataW.trod_string Tryz.underlying9 t0_1
  obtain ⟨a0_2, e0_2, rfl, w0_2⟩ := DataW.trod_int Tryz.underlying3 t0_2
  simp [Value.cells, (show Tryz.prog.cellsOf 9 = 1 by kernel_rfl), (show Tryz.prog.cellsOf 3 = 1 by kernel_rfl)] at e0_0 e0_1 e0_2
  subst e0_0 e0_1 e0_2
  simp only [Prod.mk.injEq] at hx0
  obtain ⟨rfl, rfl⟩ := hx0
  have bk0 : ∀ (W' : World) (sp : Nat → Bool), DataW.Trod enc Tryz.prog W' 0 sp true 23 (.agg #[.string a0_0, .string a0_1, .int .i64 a0_2]) (.agg [.lit (.string a0_0.data.toList), .lit (.string a0_1.data.toList), .lit (.int .i64 a0_2)]) [] := fun W' sp => ⟨2, by
    have f0 : DataW.trod enc Tryz.prog W' 0 sp true 1 9 [.string a0_0] = some (.lit (.string a0_0.data.toList), []) := by simp [DataW.trod, Tryz.underlying9, w0_0]
    have f1 : DataW.trod enc Tryz.prog W' 0 sp true 1 9 [.string a0_1] = some (.lit (.string a0_1.data.toList), []) := by simp [DataW.trod, Tryz.underlying9, w0_1]
    have f2 : DataW.trod enc Tryz.prog W' 0 sp true 1 3 [.int .i64 a0_2] = some (.lit (.int .i64 a0_2), []) := by simp [DataW.trod, Tryz.underlying3, w0_2]
    have := Go.Deep.trod_struct3_mk (enc := enc) (w := W') (base := 0) (spare := sp) (held := true) (n := 1) (cs := [.string a0_0, .string a0_1, .int .i64 a0_2]) Tryz.underlying23 (by kernel_rfl) (by simpa [(show Tryz.prog.cellsOf 9 = 1 by kernel_rfl)] using f0) (by simpa [(show Tryz.prog.cellsOf 9 = 1 by kernel_rfl)] using f1) (by simpa [(show Tryz.prog.cellsOf 3 = 1 by kernel_rfl)] using f2)
    simpa [Value.cells] using this⟩
  obtain ⟨cs1, rfl, hz1⟩ := okWide_struct Tryz.underlying23 (hval 1 23 v1 rfl rfl)
  rw [show Tryz.prog.cellsOf 23 = 3 by kernel_rfl] at hz1
  obtain ⟨l1⟩ := cs1
  obtain ⟨c1_0, c1_1, c1_2, rfl⟩ : ∃ c1_0 c1_1 c1_2, l1 = [c1_0, c1_1, c1_2] := by
    match l1, hz1 with
    | [c1_0, c1_1, c1_2], _ => exact ⟨_, _, _, rfl⟩
  obtain ⟨fu1, hf1⟩ := h1
  obtain ⟨z1_0, z1_1, z1_2, m1, hx1, _, t1_0, t1_1, t1_2⟩ := Go.Deep.trod_struct3 Tryz.underlying23 hf1
  obtain ⟨a1_0, e1_0, rfl, w1_0⟩ := DataW.trod_string Tryz.underlying9 t1_0
  obtain ⟨a1_1, e1_1, rfl, w1_1⟩ := DataW.trod_string Tryz.underlying9 t1_1
  obtain ⟨a1_2, e1_2, rfl, w1_2⟩ := DataW.trod_int Tryz.underlying3 t1_2
  simp [Value.cells, (show Tryz.prog.cellsOf 9 = 1 by kernel_rfl), (show Tryz.prog.cellsOf 3 = 1 by kernel_rfl)] at e1_0 e1_1 e1_2
  subst e1_0 e1_1 e1_2
  simp only [Prod.mk.injEq] at hx1
  obtain ⟨rfl, rfl⟩ := hx1
  have bk1 : ∀ (W' : World) (sp : Nat → Bool), DataW.Trod enc Tryz.prog W' 0 sp true 23 (.agg #[.string a1_0, .string a1_1, .int .i64 a1_2]) (.agg [.lit (.string a1_0.data.toList), .lit (.string a1_1.data.toList), .lit (.int .i64 a1_2)]) [] := fun W' sp => ⟨2, by
    have f0 : DataW.trod enc Tryz.prog W' 0 sp true 1 9 [.string a1_0] = some (.lit (.string a1_0.data.toList), []) := by simp [DataW.trod, Tryz.underlying9, w1_0]
    have f1 : DataW.trod enc Tryz.prog W' 0 sp true 1 9 [.string a1_1] = some (.lit (.string a1_1.data.toList), []) := by simp [DataW.trod, Tryz.underlying9, w1_1]
    have f2 : DataW.trod enc Tryz.prog W' 0 sp true 1 3 [.int .i64 a1_2] = some (.lit (.int .i64 a1_2), []) := by simp [DataW.trod, Tryz.underlying3, w1_2]
    have := Go.Deep.trod_struct3_mk (enc := enc) (w := W') (base := 0) (spare := sp) (held := true) (n := 1) (cs := [.string a1_0, .string a1_1, .int .i64 a1_2]) Tryz.underlying23 (by kernel_rfl) (by simpa [(show Tryz.prog.cellsOf 9 = 1 by kernel_rfl)] using f0) (by simpa [(show Tryz.prog.cellsOf 9 = 1 by kernel_rfl)] using f1) (by simpa [(show Tryz.prog.cellsOf 3 = 1 by kernel_rfl)] using f2)
    simpa [Value.cells] using this⟩
  obtain ⟨a2, rfl, rfl, rfl, y2⟩ := open_string Tryz.underlying9 (hval 2 9 v2 rfl rfl) h2
  have w2 : a2.size ≤ 140737488351232 := by
    have z := sized_string hsz (j := 2) (t := 9) rfl rfl
    rw [Array.length_toList] at z
    exact z
  clear hA0
  have hp : OriginTrusts.f a0_0 a0_1 a0_2 a1_0 a1_1 a1_2 a2 = some true := by
    exact OriginTrusts.holds (by have z := sized_agg hsz (j := 0) (i := 0) (t := 23) rfl rfl Tryz.underlying23 rfl rfl; rw [Array.length_toList] at z; exact z) (by have z := sized_agg hsz (j := 0) (i := 1) (t := 23) rfl rfl Tryz.underlying23 rfl rfl; rw [Array.length_toList] at z; exact z) w0_2 (by have z := sized_agg hsz (j := 1) (i := 0) (t := 23) rfl rfl Tryz.underlying23 rfl rfl; rw [Array.length_toList] at z; exact z) (by have z := sized_agg hsz (j := 1) (i := 1) (t := 23) rfl rfl Tryz.underlying23 rfl rfl; rw [Array.length_toList] at z; exact z) w1_2 w2
  refine (OriginTrusts.calls a0_0 a0_1 a0_2 a1_0 a1_1 a1_2 a2 true W  (GoD.GT_row hsh (utf8Tabs_of_readsT (U8Types.of196 Tryz.lays196) ⟨by kernel_rfl, by kernel_rfl, by kernel_rfl, by kernel_rfl, by kernel_rfl, by kernel_rfl, by kernel_rfl⟩ (Lib.laidMet.reads hL (.tail _ (.head _))) (Lib.laidMet.reads hL (.head _))))  hp).mono ?_
  intro e W' ⟨he, bel0⟩
  have bel : Below W.heap.size W W' := bel0
  subst he
  exact ⟨_, rfl, _, _, _, [], _, [], hW', trodAll_mk1 (shut_bool Tryz.underlying4 _), (trodAll_cons_mk (bk0 _ _) (trodAll_cons_mk (bk1 _ _) (trodAll_cons_mk (shut_string Tryz.underlying9 y2) trodAll_mk0))), rfl, bel.frame _, fun h => by cases h⟩
set_option maxRecDepth 100000 in
/-- A world for the witness: the settled one, the tables holding what the row lists. -/
def setRanges : Obj → Obj
  | .cells _ t frozen => .cells #[.int .u8 128, .int .u8 191, .int .u8 160, .int .u8 191, .int .u8 128, .int .u8 159, .int .u8 144, .int .u8 191, .int .u8 128, .int .u8 143, .int .u8 0, .int .u8 0, .int .u8 0, .int .u8 0, .int .u8 0, .int .u8 0, .int .u8 0, .int .u8 0, .int .u8 0, .int .u8 0, .int .u8 0, .int .u8 0, .int .u8 0, .int .u8 0, .int .u8 0, .int .u8 0, .int .u8 0, .int .u8 0, .int .u8 0, .int .u8 0, .int .u8 0, .int .u8 0] t frozen
  | o => o
def setFirst : Obj → Obj
  | .cells _ t frozen => .cells ((Go.Pinned.utf8FirstZ.map fun (n : Nat) => Value.int .u8 (n : Int)).toArray) t frozen
  | o => o
noncomputable def laidWorld (os : Os) : World :=
  { World.holding Tryz.prog os ⟨#[], #[], []⟩ with heap := ((World.holding Tryz.prog os ⟨#[], #[], []⟩).heap.modify 1 setRanges).modify 0 setFirst }
theorem laid_met (os : Os) : laidMet Tryz.prog Rows.originTrustsRow.laid ((laidWorld os).forCall (fun _ _ => 0) ⟨#[], #[.agg #[.string ByteArray.empty, .string ByteArray.empty, .int .i64 0], .agg #[.string ByteArray.empty, .string ByteArray.empty, .int .i64 0], .string ByteArray.empty], []⟩).memory :=
  laidMet_of_run' 8 (by kernel_rfl) (by kernel_rfl)
theorem reads (os : Os) {H : Type} (enc : TypeId × Value → H) : ∃ places, DataW.whole enc Tryz.prog ((laidWorld os).forCall (fun _ _ => 0) ⟨#[], #[.agg #[.string ByteArray.empty, .string ByteArray.empty, .int .i64 0], .agg #[.string ByteArray.empty, .string ByteArray.empty, .int .i64 0], .string ByteArray.empty], []⟩).memory Tryz.f6.params.toList Rows.originTrustsSpec.vars false (#[.agg #[.string ByteArray.empty, .string ByteArray.empty, .int .i64 0], .agg #[.string ByteArray.empty, .string ByteArray.empty, .int .i64 0], .string ByteArray.empty] : Array Value).toList 8 = some ([.agg [.lit (.string []), .lit (.string []), .lit (.int .i64 0)], .agg [.lit (.string []), .lit (.string []), .lit (.int .i64 0)], .lit (.string [])], [], places) :=
  ⟨[], by kernel_rfl⟩
set_option maxRecDepth 100000 in
theorem lifted (os : Os) (started : os.Started) (H : Type) (enc : TypeId × Value → H) (F : Stop.Interp) :
    ReturnsInHanded {} Tryz.checked os 6 .any ((OpenSpec.ofChange Rows.originTrustsSpec).preRow enc Tryz.prog Tryz.f6 Rows.originTrustsRow.domain false Rows.originTrustsRow.laid) (((OpenSpec.ofChange Rows.originTrustsSpec).at F).post enc Tryz.prog Tryz.f6 false true false false) := by
  obtain ⟨places, hx⟩ := reads os enc
  refine returnsInHanded_of_row (C := Tryz.checked) (s := OpenSpec.ofChange Rows.originTrustsSpec) own started (by kernel_rfl) Tryz.func6
    (witness_row_at (enc := enc) (C := Tryz.checked) false (laidWorld os) #[.agg #[.string ByteArray.empty, .string ByteArray.empty, .int .i64 0], .agg #[.string ByteArray.empty, .string ByteArray.empty, .int .i64 0], .string ByteArray.empty] rfl (by kernel_rfl) (by kernel_rfl) (by kernel_rfl)
      (OpenSpec.preRow_of_cond 8 hx (by kernel_rfl) (fun k hk => by cases hk) (by kernel_rfl) (laid_met os))) ?_
  intro W base args ds gs before hval hW _ hcond hsz hL hsh _
  exact contract H enc W base args ds gs before hval hW hsz hsh hL
theorem said : Rows.OriginTrustsSaid :=
  OpenClaim.holds_of_cond 6 Tryz.f6 rfl rfl rfl rfl rfl rfl rfl ⟨rfl, rfl, rfl, rfl, rfl⟩ rfl rfl rfl rfl rfl (by kernel_rfl) Tryz.func6 (by kernel_rfl)
    (of_decide_eq_true (by kernel_rfl)) (by unfold Func.isWrapper; first | (rw [if_pos (by decide +kernel)]; kernel_rfl) | (rw [if_neg (by decide +kernel)]; exact ⟨rfl, rfl⟩))
    (fun os started H enc _ F => by rw [OpenClaim.pre_eq_preRow]; exact lifted os started H enc F)
theorem plain (f : FuncId) (fn : Func) (hf : Tryz.pinned.checked.prog.funcNamed "parapet/parapetlaw12.OriginTrusts" = some f) (hfn : Tryz.pinned.checked.prog.funcs[f]? = some fn) :
    true = Tryz.pinned.checked.prog.looks [] ∧ ∀ (j : Nat) t, fn.params[j]? = some t → Tryz.pinned.checked.prog.wantsStandIn t = false := by
  obtain rfl : f = 6 := Option.some.inj ((show Tryz.prog.funcNamed "parapet/parapetlaw12.OriginTrusts" = some 6 by kernel_rfl).symm.trans hf) |>.symm
  obtain rfl : fn = Tryz.f6 := (Option.some.inj (Tryz.func6.symm.trans hfn)).symm
  refine ⟨by kernel_rfl, fun j t ht => ?_⟩
  rw [Tryz.params6] at ht
  have hm : t = 23 ∨ t = 23 ∨ t = 9 := by have := Array.mem_of_getElem? ht; simpa using this
  rcases hm with rfl | rfl | rfl
  · exact (show Tryz.prog.wantsStandIn 23 = false by kernel_rfl)
  · exact (show Tryz.prog.wantsStandIn 23 = false by kernel_rfl)
  · exact (show Tryz.prog.wantsStandIn 9 = false by kernel_rfl)
theorem proved : Rows.OriginTrustsCardSaid :=
  Claim7.holds_tied_plain_at .later [] _ _ _ _ said (fun _ h => by cases h) (by kernel_rfl) (fun _ h => by cases h) originTrusts_row_tie rfl ⟨rfl, rfl⟩ (by kernel_rfl) rfl plain (by kernel_rfl)
end Go.Proofs.YtbiijfgimoelkaaGreatDoor.originTrusts
namespace Go.Proofs.YtbiijfgimoelkaaGreatDoor
/-- The row, under a short name, for the claim. -/
theorem originTrusts_holds : Rows.OriginTrustsCardSaid := originTrusts.proved
#print axioms originTrusts_holds
end Go.Proofs.YtbiijfgimoelkaaGreatDoor
