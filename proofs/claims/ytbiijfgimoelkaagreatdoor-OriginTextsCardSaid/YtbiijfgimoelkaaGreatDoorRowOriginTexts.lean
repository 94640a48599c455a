/- OriginTexts: for every input the call returns true, and each argument reads afterwards as it read before. The row lists what package-level variables of Go's library hold at the start; the card ties that to the program's text. -/
import Derived.Test.YtbiijfgimoelkaaGreatDoorRd
import Derived.Test.YtbiijfgimoelkaaGreatDoorLVA
import Derived.Test.YtbiijfgimoelkaaGreatDoorCards
import Derived.Test.YtbiijfgimoelkaaGreatDoorTie
import Derived.WalkKit
import Derived.ProofKit
import Derived.OpenShut
import Derived.ShutString
import Derived.ChangeOld
import Derived.Below
import Derived.SizedLaws
import Derived.Test.YtbiijfgimoelkaaGreatDoorV0
import Derived.Deep.Strs
import Derived.Deep.DeepHandedRow
namespace Go.Proofs.YtbiijfgimoelkaaGreatDoor.originTexts
open Go.ChangeShapes Go.WideShapes Go.ChangeAt Go.RowKit Go.Proofs.YtbiijfgimoelkaaGreatDoor.PD Go.Proofs.YtbiijfgimoelkaaGreatDoorW.PrintWords 
open Go.ChangeMaps (open_string shut_string)
set_option linter.unusedVariables false
theorem own : ownKnob Tryz.prog.godebug = none := by kernel_rfl
theorem laidOut : laidOutB Tryz.prog = true := by kernel_rfl
set_option maxRecDepth 100000 in
theorem contract (H : Type) (enc : TypeId × Value → H) (W : World) (base : Nat) (args : Array Value) (ds gs : List (DataW H)) (before : List MemPlace)
    (hval0 : ∀ (j : Nat) t v, Tryz.f3.params[j]? = some t → args[j]? = some v → Value.okWide Tryz.prog W .any base t v)
    (hW : DataW.Whole enc Tryz.prog Tryz.f3.params.toList Rows.originTextsSpec.vars false W args.toList ds gs before)
    (hsz0 : (DataW.weightsEach Tryz.prog (Tryz.f3.params.toList ++ Rows.originTextsSpec.plain.varTypes Tryz.prog) (ds ++ gs)).all (· ≤ reachBytes) = true) (hsh : W.ShapedOpen Tryz.prog) (hL : laidMetH Tryz.prog Rows.originTextsRow.laid W) :
    Calls Tryz.prog 3 args W fun e W' => ∃ v, e = .returned v ∧ Rows.originTextsSpec.post enc Tryz.prog Tryz.f3 false true false false W args v W' := by
  have hval := hval0
  have hsz := hsz0
  have hW' := hW
  obtain ⟨p, q, hA0, hV, rfl, hfz, hnd⟩ := hW
  have hA : DataW.TrodAll enc Tryz.prog W 0 (fun _ => true) true Tryz.f3.params.toList args.toList ds p := hA0
  rw [Tryz.params3] at hA hval hsz
  obtain ⟨v0, vs0, d0, ds0, p0, q0, hargs, rfl, rfl, h0, r0⟩ := trodAll_cons hA
  obtain ⟨v1, vs1, d1, ds1, p1, q1, rfl, rfl, rfl, h1, r1⟩ := trodAll_cons r0
  obtain ⟨rfl, rfl, rfl⟩ := trodAll_nil r1
  obtain rfl : args = #[v0, v1] := by cases args; simp_all
  obtain ⟨rfl, rfl⟩ := trodVars_none hV
  obtain ⟨cs0, rfl, hz0⟩ := okWide_struct Tryz.underlying23 (hval 0 23 v0 rfl rfl)
  rw [show Tryz.prog.cellsOf 23 = 3 by kernel_rfl] at hz0
  obtain ⟨l0⟩ := cs0
  obtain ⟨c0_0, c0_1, c0_2, rfl⟩ : ∃ c0_0 c0_1 c0_2, l0 = [c0_0, c0_1, c0_2] := by
    match l0, hz0 with
    | [c0_0, c0_1, c0_2], _ => exact ⟨_, _, _, rfl⟩
  obtain ⟨fu0, hf0⟩ := h0
  obtain ⟨z0_0, z0_1, z0_2, m0, hx0, _, t0_0, t0_1, t0_2⟩ := Go.Deep.trod_struct3 Tryz.underlying23 hf0
  obtain ⟨a0_0, e0_0, rfl, w0_0⟩ := DataW.trod_string Tryz.underlying9 t0_0
  obtain ⟨a0_1, e0_1, rfl, w0_1⟩ := DataW.trod_string Tryz.underlying9 t0_1
  obtain ⟨a0_2, e0_2, rfl, w0_2⟩ := DataW.trod_int Tryz.underlying3 t0_2
  simp [Value.cells, (show Tryz.prog.cellsOf 9 = 1 by kernel_rfl), (show Tryz.prog.cellsOf 3 = 1 by kernel_rfl)] at e0_0 e0_1 e0_2
  subst e0_0 e0_1 e0_2
  simp only [Prod.mk.injEq] at hx0
  obtain ⟨rfl, rfl⟩ := hx0
  have bk0 : ∀ (W' : World) (sp : Nat → Bool), DataW.Trod enc Tryz.prog W' 0 sp true 23 (.agg #[.string a0_0, .string a0_1, .int .i64 a0_2]) (.agg [.lit (.string a0_0.data.toList), .lit (.string a0_1.data.toList), .lit (.int .i64 a0_2)]) [] := fun W' sp => ⟨2, by
    have f0 : DataW.trod enc Tryz.prog W' 0 sp true 1 9 [.string a0_0] = some (.lit (.string a0_0.data.toList), []) := by simp [DataW.trod, Tryz.underlying9, w0_0]
    have f1 : DataW.trod enc Tryz.prog W' 0 sp true 1 9 [.string a0_1] = some (.lit (.string a0_1.data.toList), []) := by simp [DataW.trod, Tryz.underlying9, w0_1]
    have f2 : DataW.trod enc Tryz.prog W' 0 sp true 1 3 [.int .i64 a0_2] = some (.lit (.int .i64 a0_2), []) := by simp [DataW.trod, Tryz.underlying3, w0_2]
    have := Go.Deep.trod_struct3_mk (enc := enc) (w := W') (base := 0) (spare := sp) (held := true) (n := 1) (cs := [.string a0_0, .string a0_1, .int .i64 a0_2]) Tryz.underlying23 (by kernel_rfl) (by simpa [(show Tryz.prog.cellsOf 9 = 1 by kernel_rfl)] using f0) (by simpa [(show Tryz.prog.cellsOf 9 = 1 by kernel_rfl)] using f1) (by simpa [(show Tryz.prog.cellsOf 3 = 1 by kernel_rfl)] using f2)
    simpa [Value.cells] using this⟩
  obtain ⟨cs1, rfl, hz1⟩ := okWide_struct Tryz.underlying25 (hval 1 25 v1 rfl rfl)
  rw [show Tryz.prog.cellsOf 25 = 10 by kernel_rfl] at hz1
  obtain ⟨l1⟩ := cs1
  obtain ⟨c1_0, c1_1, c1_2, c1_3, c1_4, c1_5, c1_6, c1_7, c1_8, c1_9, rfl⟩ : ∃ c1_0 c1_1 c1_2 c1_3 c1_4 c1_5 c1_6 c1_7 c1_8 c1_9, l1 = [c1_0, c1_1, c1_2, c1_3, c1_4, c1_5, c1_6, c1_7, c1_8, c1_9] := by
    match l1, hz1 with
    | [c1_0, c1_1, c1_2, c1_3, c1_4, c1_5, c1_6, c1_7, c1_8, c1_9], _ => exact ⟨_, _, _, _, _, _, _, _, _, _, rfl⟩
  obtain ⟨fu1, hf1⟩ := h1
  obtain ⟨z1_0, z1_1, z1_2, z1_3, z1_4, z1_5, z1_6, z1_7, z1_8, z1_9, m1, hx1, _, t1_0, t1_1, t1_2, t1_3, t1_4, t1_5, t1_6, t1_7, t1_8, t1_9⟩ := trod_struct10 Tryz.underlying25 hf1
  obtain ⟨a1_0, e1_0, rfl, w1_0⟩ := DataW.trod_string Tryz.underlying9 t1_0
  obtain ⟨a1_1, e1_1, rfl, w1_1⟩ := DataW.trod_string Tryz.underlying9 t1_1
  obtain ⟨a1_2, e1_2, rfl, w1_2⟩ := DataW.trod_string Tryz.underlying9 t1_2
  obtain ⟨a1_3, e1_3, rfl, w1_3⟩ := DataW.trod_string Tryz.underlying9 t1_3
  obtain ⟨a1_4, e1_4, rfl, w1_4⟩ := DataW.trod_int Tryz.underlying3 t1_4
  obtain ⟨a1_5, e1_5, rfl, w1_5⟩ := DataW.trod_string Tryz.underlying9 t1_5
  obtain ⟨a1_6, e1_6, rfl⟩ := DataW.trod_bool Tryz.underlying4 t1_6
  obtain ⟨a1_7, e1_7, rfl, w1_7⟩ := DataW.trod_string Tryz.underlying9 t1_7
  obtain ⟨a1_8, e1_8, rfl⟩ := DataW.trod_bool Tryz.underlying4 t1_8
  obtain ⟨a1_9, e1_9, rfl, w1_9⟩ := DataW.trod_string Tryz.underlying9 t1_9
  simp [Value.cells, (show Tryz.prog.cellsOf 9 = 1 by kernel_rfl), (show Tryz.prog.cellsOf 3 = 1 by kernel_rfl), (show Tryz.prog.cellsOf 4 = 1 by kernel_rfl)] at e1_0 e1_1 e1_2 e1_3 e1_4 e1_5 e1_6 e1_7 e1_8 e1_9
  subst e1_0 e1_1 e1_2 e1_3 e1_4 e1_5 e1_6 e1_7 e1_8 e1_9
  simp only [Prod.mk.injEq] at hx1
  obtain ⟨rfl, rfl⟩ := hx1
  have bk1 : ∀ (W' : World) (sp : Nat → Bool), DataW.Trod enc Tryz.prog W' 0 sp true 25 (.agg #[.string a1_0, .string a1_1, .string a1_2, .string a1_3, .int .i64 a1_4, .string a1_5, .bool a1_6, .string a1_7, .bool a1_8, .string a1_9]) (.agg [.lit (.string a1_0.data.toList), .lit (.string a1_1.data.toList), .lit (.string a1_2.data.toList), .lit (.string a1_3.data.toList), .lit (.int .i64 a1_4), .lit (.string a1_5.data.toList), .lit (.bool a1_6), .lit (.string a1_7.data.toList), .lit (.bool a1_8), .lit (.string a1_9.data.toList)]) [] := fun W' sp => ⟨2, by
    have f0 : DataW.trod enc Tryz.prog W' 0 sp true 1 9 [.string a1_0] = some (.lit (.string a1_0.data.toList), []) := by simp [DataW.trod, Tryz.underlying9, w1_0]
    have f1 : DataW.trod enc Tryz.prog W' 0 sp true 1 9 [.string a1_1] = some (.lit (.string a1_1.data.toList), []) := by simp [DataW.trod, Tryz.underlying9, w1_1]
    have f2 : DataW.trod enc Tryz.prog W' 0 sp true 1 9 [.string a1_2] = some (.lit (.string a1_2.data.toList), []) := by simp [DataW.trod, Tryz.underlying9, w1_2]
    have f3 : DataW.trod enc Tryz.prog W' 0 sp true 1 9 [.string a1_3] = some (.lit (.string a1_3.data.toList), []) := by simp [DataW.trod, Tryz.underlying9, w1_3]
    have f4 : DataW.trod enc Tryz.prog W' 0 sp true 1 3 [.int .i64 a1_4] = some (.lit (.int .i64 a1_4), []) := by simp [DataW.trod, Tryz.underlying3, w1_4]
    have f5 : DataW.trod enc Tryz.prog W' 0 sp true 1 9 [.string a1_5] = some (.lit (.string a1_5.data.toList), []) := by simp [DataW.trod, Tryz.underlying9, w1_5]
    have f6 : DataW.trod enc Tryz.prog W' 0 sp true 1 4 [.bool a1_6] = some (.lit (.bool a1_6), []) := by simp [DataW.trod, Tryz.underlying4]
    have f7 : DataW.trod enc Tryz.prog W' 0 sp true 1 9 [.string a1_7] = some (.lit (.string a1_7.data.toList), []) := by simp [DataW.trod, Tryz.underlying9, w1_7]
    have f8 : DataW.trod enc Tryz.prog W' 0 sp true 1 4 [.bool a1_8] = some (.lit (.bool a1_8), []) := by simp [DataW.trod, Tryz.underlying4]
    have f9 : DataW.trod enc Tryz.prog W' 0 sp true 1 9 [.string a1_9] = some (.lit (.string a1_9.data.toList), []) := by simp [DataW.trod, Tryz.underlying9, w1_9]
    have := trod_struct10_mk (enc := enc) (w := W') (base := 0) (spare := sp) (held := true) (n := 1) (cs := [.string a1_0, .string a1_1, .string a1_2, .string a1_3, .int .i64 a1_4, .string a1_5, .bool a1_6, .string a1_7, .bool a1_8, .string a1_9]) Tryz.underlying25 (by kernel_rfl) (by simpa [(show Tryz.prog.cellsOf 9 = 1 by kernel_rfl)] using f0) (by simpa [(show Tryz.prog.cellsOf 9 = 1 by kernel_rfl)] using f1) (by simpa [(show Tryz.prog.cellsOf 9 = 1 by kernel_rfl)] using f2) (by simpa [(show Tryz.prog.cellsOf 9 = 1 by kernel_rfl)] using f3) (by simpa [(show Tryz.prog.cellsOf 3 = 1 by kernel_rfl)] using f4) (by simpa [(show Tryz.prog.cellsOf 9 = 1 by kernel_rfl)] using f5) (by simpa [(show Tryz.prog.cellsOf 4 = 1 by kernel_rfl)] using f6) (by simpa [(show Tryz.prog.cellsOf 9 = 1 by kernel_rfl)] using f7) (by simpa [(show Tryz.prog.cellsOf 4 = 1 by kernel_rfl)] using f8) (by simpa [(show Tryz.prog.cellsOf 9 = 1 by kernel_rfl)] using f9)
    simpa [Value.cells] using this⟩
  clear hA0
  have hp : OriginTexts.f a0_0 a0_1 a0_2 a1_0 a1_1 a1_2 a1_3 a1_4 a1_5 a1_6 a1_7 a1_8 a1_9 = some true := by
    exact OriginTexts.holds (by have z := sized_agg hsz (j := 0) (i := 0) (t := 23) rfl rfl Tryz.underlying23 rfl rfl; rw [Array.length_toList] at z; exact z) (by have z := sized_agg hsz (j := 0) (i := 1) (t := 23) rfl rfl Tryz.underlying23 rfl rfl; rw [Array.length_toList] at z; exact z) w0_2 (by have z := sized_agg hsz (j := 1) (i := 0) (t := 25) rfl rfl Tryz.underlying25 rfl rfl; rw [Array.length_toList] at z; exact z) (by have z := sized_agg hsz (j := 1) (i := 1) (t := 25) rfl rfl Tryz.underlying25 rfl rfl; rw [Array.length_toList] at z; exact z) (by have z := sized_agg hsz (j := 1) (i := 2) (t := 25) rfl rfl Tryz.underlying25 rfl rfl; rw [Array.length_toList] at z; exact z) (by have z := sized_agg hsz (j := 1) (i := 3) (t := 25) rfl rfl Tryz.underlying25 rfl rfl; rw [Array.length_toList] at z; exact z) w1_4 (by have z := sized_agg hsz (j := 1) (i := 5) (t := 25) rfl rfl Tryz.underlying25 rfl rfl; rw [Array.length_toList] at z; exact z) (by have z := sized_agg hsz (j := 1) (i := 7) (t := 25) rfl rfl Tryz.underlying25 rfl rfl; rw [Array.length_toList] at z; exact z) (by have z := sized_agg hsz (j := 1) (i := 9) (t := 25) rfl rfl Tryz.underlying25 rfl rfl; rw [Array.length_toList] at z; exact z)
  refine (OriginTexts.calls a0_0 a0_1 a0_2 a1_0 a1_1 a1_2 a1_3 a1_4 a1_5 a1_6 a1_7 a1_8 a1_9 true W  (GoD.GT_row hsh (utf8Tabs_of_readsT (U8Types.of196 Tryz.lays196) ⟨by kernel_rfl, by kernel_rfl, by kernel_rfl, by kernel_rfl, by kernel_rfl, by kernel_rfl, by kernel_rfl⟩ (Lib.laidMet.reads hL (.tail _ (.head _))) (Lib.laidMet.reads hL (.head _))))  hp).mono ?_
  intro e W' ⟨he, bel0⟩
  have bel : Below W.heap.size W W' := bel0
  subst he
  exact ⟨_, rfl, _, _, _, [], _, [], hW', trodAll_mk1 (shut_bool Tryz.underlying4 _), (trodAll_cons_mk (bk0 _ _) (trodAll_cons_mk (bk1 _ _) trodAll_mk0)), rfl, bel.frame _, fun h => by cases h⟩
set_option maxRecDepth 100000 in
/-- A world for the witness: the settled one, the tables holding what the row lists. -/
def setRanges : Obj → Obj
  | .cells _ t frozen => .cells #[.int .u8 128, .int .u8 191, .int .u8 160, .int .u8 191, .int .u8 128, .int .u8 159, .int .u8 144, .int .u8 191, .int .u8 128, .int .u8 143, .int .u8 0, .int .u8 0, .int .u8 0, .int .u8 0, .int .u8 0, .int .u8 0, .int .u8 0, .int .u8 0, .int .u8 0, .int .u8 0, .int .u8 0, .int .u8 0, .int .u8 0, .int .u8 0, .int .u8 0, .int .u8 0, .int .u8 0, .int .u8 0, .int .u8 0, .int .u8 0, .int .u8 0, .int .u8 0] t frozen
  | o => o
def setFirst : Obj → Obj
  | .cells _ t frozen => .cells ((Go.Pinned.utf8FirstZ.map fun (n : Nat) => Value.int .u8 (n : Int)).toArray) t frozen
  | o => o
noncomputable def laidWorld (os : Os) : World :=
  { World.holding Tryz.prog os ⟨#[], #[], []⟩ with heap := ((World.holding Tryz.prog os ⟨#[], #[], []⟩).heap.modify 1 setRanges).modify 0 setFirst }
theorem laid_met (os : Os) : laidMet Tryz.prog Rows.originTextsRow.laid ((laidWorld os).forCall (fun _ _ => 0) ⟨#[], #[.agg #[.string ByteArray.empty, .string ByteArray.empty, .int .i64 0], .agg #[.string ByteArray.empty, .string ByteArray.empty, .string ByteArray.empty, .string ByteArray.empty, .int .i64 0, .string ByteArray.empty, .bool false, .string ByteArray.empty, .bool false, .string ByteArray.empty]], []⟩).memory :=
  laidMet_of_run' 8 (by kernel_rfl) (by kernel_rfl)
theorem reads (os : Os) {H : Type} (enc : TypeId × Value → H) : ∃ places, DataW.whole enc Tryz.prog ((laidWorld os).forCall (fun _ _ => 0) ⟨#[], #[.agg #[.string ByteArray.empty, .string ByteArray.empty, .int .i64 0], .agg #[.string ByteArray.empty, .string ByteArray.empty, .string ByteArray.empty, .string ByteArray.empty, .int .i64 0, .string ByteArray.empty, .bool false, .string ByteArray.empty, .bool false, .string ByteArray.empty]], []⟩).memory Tryz.f3.params.toList Rows.originTextsSpec.vars false (#[.agg #[.string ByteArray.empty, .string ByteArray.empty, .int .i64 0], .agg #[.string ByteArray.empty, .string ByteArray.empty, .string ByteArray.empty, .string ByteArray.empty, .int .i64 0, .string ByteArray.empty, .bool false, .string ByteArray.empty, .bool false, .string ByteArray.empty]] : Array Value).toList 8 = some ([.agg [.lit (.string []), .lit (.string []), .lit (.int .i64 0)], .agg [.lit (.string []), .lit (.string []), .lit (.string []), .lit (.string []), .lit (.int .i64 0), .lit (.string []), .lit (.bool false), .lit (.string []), .lit (.bool false), .lit (.string [])]], [], places) :=
  ⟨[], by kernel_rfl⟩
set_option maxRecDepth 100000 in
theorem lifted (os : Os) (started : os.Started) (H : Type) (enc : TypeId × Value → H) (F : Stop.Interp) :
    ReturnsInHanded {} Tryz.checked os 3 .any ((OpenSpec.ofChange Rows.originTextsSpec).preRow enc Tryz.prog Tryz.f3 Rows.originTextsRow.domain false Rows.originTextsRow.laid) (((OpenSpec.ofChange Rows.originTextsSpec).at F).post enc Tryz.prog Tryz.f3 false true false false) := by
  obtain ⟨places, hx⟩ := reads os enc
  refine returnsInHanded_of_row (C := Tryz.checked) (s := OpenSpec.ofChange Rows.originTextsSpec) own started (by kernel_rfl) Tryz.func3
    (witness_row_at (enc := enc) (C := Tryz.checked) false (laidWorld os) #[.agg #[.string ByteArray.empty, .string ByteArray.empty, .int .i64 0], .agg #[.string ByteArray.empty, .string ByteArray.empty, .string ByteArray.empty, .string ByteArray.empty, .int .i64 0, .string ByteArray.empty, .bool false, .string ByteArray.empty, .bool false, .string ByteArray.empty]] rfl (by kernel_rfl) (by kernel_rfl) (by kernel_rfl)
      (OpenSpec.preRow_of_cond 8 hx (by kernel_rfl) (fun k hk => by cases hk) (by kernel_rfl) (laid_met os))) ?_
  intro W base args ds gs before hval hW _ hcond hsz hL hsh _
  exact contract H enc W base args ds gs before hval hW hsz hsh hL
theorem said : Rows.OriginTextsSaid :=
  OpenClaim.holds_of_cond 3 Tryz.f3 rfl rfl rfl rfl rfl rfl rfl ⟨rfl, rfl, rfl, rfl, rfl⟩ rfl rfl rfl rfl rfl (by kernel_rfl) Tryz.func3 (by kernel_rfl)
    (of_decide_eq_true (by kernel_rfl)) (by unfold Func.isWrapper; first | (rw [if_pos (by decide +kernel)]; kernel_rfl) | (rw [if_neg (by decide +kernel)]; exact ⟨rfl, rfl⟩))
    (fun os started H enc _ F => by rw [OpenClaim.pre_eq_preRow]; exact lifted os started H enc F)
theorem plain (f : FuncId) (fn : Func) (hf : Tryz.pinned.checked.prog.funcNamed "parapet/parapetlaw12.OriginTexts" = some f) (hfn : Tryz.pinned.checked.prog.funcs[f]? = some fn) :
    true = Tryz.pinned.checked.prog.looks [] ∧ ∀ (j : Nat) t, fn.params[j]? = some t → Tryz.pinned.checked.prog.wantsStandIn t = false := by
  obtain rfl : f = 3 := Option.some.inj ((show Tryz.prog.funcNamed "parapet/parapetlaw12.OriginTexts" = some 3 by kernel_rfl).symm.trans hf) |>.symm
  obtain rfl : fn = Tryz.f3 := (Option.some.inj (Tryz.func3.symm.trans hfn)).symm
  refine ⟨by kernel_rfl, fun j t ht => ?_⟩
  rw [Tryz.params3] at ht
  have hm : t = 23 ∨ t = 25 := by have := Array.mem_of_getElem? ht; simpa using this
  rcases hm with rfl | rfl
  · exact (show Tryz.prog.wantsStandIn 23 = false by kernel_rfl)
  · exact (show Tryz.prog.wantsStandIn 25 = false by kernel_rfl)
theorem proved : Rows.OriginTextsCardSaid :=
  Claim7.holds_tied_plain_at .later [] _ _ _ _ said (fun _ h => by cases h) (by kernel_rfl) (fun _ h => by cases h) originTexts_row_tie rfl ⟨rfl, rfl⟩ (by kernel_rfl) rfl plain (by kernel_rfl)
end Go.Proofs.YtbiijfgimoelkaaGreatDoor.originTexts
namespace Go.Proofs.YtbiijfgimoelkaaGreatDoor
/-- The row, under a short name, for the claim. -/
theorem originTexts_holds : Rows.OriginTextsCardSaid := originTexts.proved
#print axioms originTexts_holds
end Go.Proofs.YtbiijfgimoelkaaGreatDoor
