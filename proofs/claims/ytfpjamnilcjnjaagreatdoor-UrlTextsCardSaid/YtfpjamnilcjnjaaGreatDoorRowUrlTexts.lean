/- UrlTexts: for every input the call returns true, and each argument reads afterwards as it read before. The row lists what package-level variables of Go's library hold at the start; the card ties that to the program's text. -/
import Derived.Test.YtfpjamnilcjnjaaGreatDoorRd
import Derived.Test.YtfpjamnilcjnjaaGreatDoorLW
import Derived.Test.YtfpjamnilcjnjaaGreatDoorCards
import Derived.Test.YtfpjamnilcjnjaaGreatDoorTie
import Derived.WalkKit
import Derived.ProofKit
import Derived.OpenShut
import Derived.ShutString
import Derived.ChangeOld
import Derived.Below
import Derived.SizedLaws
import Derived.Test.YtfpjamnilcjnjaaGreatDoorV0
import Derived.Deep.Strs
import Derived.Deep.DeepHandedRow
namespace Go.Proofs.YtfpjamnilcjnjaaGreatDoor.urlTexts
open Go.ChangeShapes Go.WideShapes Go.ChangeAt Go.RowKit Go.Proofs.YtfpjamnilcjnjaaGreatDoor.PD Go.Proofs.YtfpjamnilcjnjaaGreatDoorW.PrintWords 
open Go.ChangeMaps (open_string shut_string)
set_option linter.unusedVariables false
theorem own : ownKnob Tryz.prog.godebug = none := by kernel_rfl
theorem laidOut : laidOutB Tryz.prog = true := by kernel_rfl
set_option maxRecDepth 100000 in
theorem contract (H : Type) (enc : TypeId × Value → H) (W : World) (base : Nat) (args : Array Value) (ds gs : List (DataW H)) (before : List MemPlace)
    (hval0 : ∀ (j : Nat) t v, Tryz.f4.params[j]? = some t → args[j]? = some v → Value.okWide Tryz.prog W .any base t v)
    (hW : DataW.Whole enc Tryz.prog Tryz.f4.params.toList Rows.urlTextsSpec.vars false W args.toList ds gs before)
    (hsz0 : (DataW.weightsEach Tryz.prog (Tryz.f4.params.toList ++ Rows.urlTextsSpec.plain.varTypes Tryz.prog) (ds ++ gs)).all (· ≤ reachBytes) = true) (hsh : W.ShapedOpen Tryz.prog) (hL : laidMetH Tryz.prog Rows.urlTextsRow.laid W) :
    Calls Tryz.prog 4 args W fun e W' => ∃ v, e = .returned v ∧ Rows.urlTextsSpec.post enc Tryz.prog Tryz.f4 false true false false W args v W' := by
  have hval := hval0
  have hsz := hsz0
  have hW' := hW
  obtain ⟨p, q, hA0, hV, rfl, hfz, hnd⟩ := hW
  have hA : DataW.TrodAll enc Tryz.prog W 0 (fun _ => true) true Tryz.f4.params.toList args.toList ds p := hA0
  rw [Tryz.params4] at hA hval hsz
  obtain ⟨v0, vs0, d0, ds0, p0, q0, hargs, rfl, rfl, h0, r0⟩ := trodAll_cons hA
  obtain ⟨rfl, rfl, rfl⟩ := trodAll_nil r0
  obtain rfl : args = #[v0] := by cases args; simp_all
  obtain ⟨rfl, rfl⟩ := trodVars_none hV
  obtain ⟨cs0, rfl, hz0⟩ := okWide_struct Tryz.underlying24 (hval 0 24 v0 rfl rfl)
  rw [show Tryz.prog.cellsOf 24 = 10 by kernel_rfl] at hz0
  obtain ⟨l0⟩ := cs0
  obtain ⟨c0_0, c0_1, c0_2, c0_3, c0_4, c0_5, c0_6, c0_7, c0_8, c0_9, rfl⟩ : ∃ c0_0 c0_1 c0_2 c0_3 c0_4 c0_5 c0_6 c0_7 c0_8 c0_9, l0 = [c0_0, c0_1, c0_2, c0_3, c0_4, c0_5, c0_6, c0_7, c0_8, c0_9] := by
    match l0, hz0 with
    | [c0_0, c0_1, c0_2, c0_3, c0_4, c0_5, c0_6, c0_7, c0_8, c0_9], _ => exact ⟨_, _, _, _, _, _, _, _, _, _, rfl⟩
  obtain ⟨fu0, hf0⟩ := h0
  obtain ⟨z0_0, z0_1, z0_2, z0_3, z0_4, z0_5, z0_6, z0_7, z0_8, z0_9, m0, hx0, _, t0_0, t0_1, t0_2, t0_3, t0_4, t0_5, t0_6, t0_7, t0_8, t0_9⟩ := trod_struct10 Tryz.underlying24 hf0
  obtain ⟨a0_0, e0_0, rfl, w0_0⟩ := DataW.trod_string Tryz.underlying9 t0_0
  obtain ⟨a0_1, e0_1, rfl, w0_1⟩ := DataW.trod_string Tryz.underlying9 t0_1
  obtain ⟨a0_2, e0_2, rfl, w0_2⟩ := DataW.trod_string Tryz.underlying9 t0_2
  obtain ⟨a0_3, e0_3, rfl, w0_3⟩ := DataW.trod_string Tryz.underlying9 t0_3
  obtain ⟨a0_4, e0_4, rfl, w0_4⟩ := DataW.trod_int Tryz.underlying3 t0_4
  obtain ⟨a0_5, e0_5, rfl, w0_5⟩ := DataW.trod_string Tryz.underlying9 t0_5
  obtain ⟨a0_6, e0_6, rfl⟩ := DataW.trod_bool Tryz.underlying4 t0_6
  obtain ⟨a0_7, e0_7, rfl, w0_7⟩ := DataW.trod_string Tryz.underlying9 t0_7
  obtain ⟨a0_8, e0_8, rfl⟩ := DataW.trod_bool Tryz.underlying4 t0_8
  obtain ⟨a0_9, e0_9, rfl, w0_9⟩ := DataW.trod_string Tryz.underlying9 t0_9
  simp [Value.cells, (show Tryz.prog.cellsOf 9 = 1 by kernel_rfl), (show Tryz.prog.cellsOf 3 = 1 by kernel_rfl), (show Tryz.prog.cellsOf 4 = 1 by kernel_rfl)] at e0_0 e0_1 e0_2 e0_3 e0_4 e0_5 e0_6 e0_7 e0_8 e0_9
  subst e0_0 e0_1 e0_2 e0_3 e0_4 e0_5 e0_6 e0_7 e0_8 e0_9
  simp only [Prod.mk.injEq] at hx0
  obtain ⟨rfl, rfl⟩ := hx0
  have bk0 : ∀ (W' : World) (sp : Nat → Bool), DataW.Trod enc Tryz.prog W' 0 sp true 24 (.agg #[.string a0_0, .string a0_1, .string a0_2, .string a0_3, .int .i64 a0_4, .string a0_5, .bool a0_6, .string a0_7, .bool a0_8, .string a0_9]) (.agg [.lit (.string a0_0.data.toList), .lit (.string a0_1.data.toList), .lit (.string a0_2.data.toList), .lit (.string a0_3.data.toList), .lit (.int .i64 a0_4), .lit (.string a0_5.data.toList), .lit (.bool a0_6), .lit (.string a0_7.data.toList), .lit (.bool a0_8), .lit (.string a0_9.data.toList)]) [] := fun W' sp => ⟨2, by
    have f0 : DataW.trod enc Tryz.prog W' 0 sp true 1 9 [.string a0_0] = some (.lit (.string a0_0.data.toList), []) := by simp [DataW.trod, Tryz.underlying9, w0_0]
    have f1 : DataW.trod enc Tryz.prog W' 0 sp true 1 9 [.string a0_1] = some (.lit (.string a0_1.data.toList), []) := by simp [DataW.trod, Tryz.underlying9, w0_1]
    have f2 : DataW.trod enc Tryz.prog W' 0 sp true 1 9 [.string a0_2] = some (.lit (.string a0_2.data.toList), []) := by simp [DataW.trod, Tryz.underlying9, w0_2]
    have f3 : DataW.trod enc Tryz.prog W' 0 sp true 1 9 [.string a0_3] = some (.lit (.string a0_3.data.toList), []) := by simp [DataW.trod, Tryz.underlying9, w0_3]
    have f4 : DataW.trod enc Tryz.prog W' 0 sp true 1 3 [.int .i64 a0_4] = some (.lit (.int .i64 a0_4), []) := by simp [DataW.trod, Tryz.underlying3, w0_4]
    have f5 : DataW.trod enc Tryz.prog W' 0 sp true 1 9 [.string a0_5] = some (.lit (.string a0_5.data.toList), []) := by simp [DataW.trod, Tryz.underlying9, w0_5]
    have f6 : DataW.trod enc Tryz.prog W' 0 sp true 1 4 [.bool a0_6] = some (.lit (.bool a0_6), []) := by simp [DataW.trod, Tryz.underlying4]
    have f7 : DataW.trod enc Tryz.prog W' 0 sp true 1 9 [.string a0_7] = some (.lit (.string a0_7.data.toList), []) := by simp [DataW.trod, Tryz.underlying9, w0_7]
    have f8 : DataW.trod enc Tryz.prog W' 0 sp true 1 4 [.bool a0_8] = some (.lit (.bool a0_8), []) := by simp [DataW.trod, Tryz.underlying4]
    have f9 : DataW.trod enc Tryz.prog W' 0 sp true 1 9 [.string a0_9] = some (.lit (.string a0_9.data.toList), []) := by simp [DataW.trod, Tryz.underlying9, w0_9]
    have := trod_struct10_mk (enc := enc) (w := W') (base := 0) (spare := sp) (held := true) (n := 1) (cs := [.string a0_0, .string a0_1, .string a0_2, .string a0_3, .int .i64 a0_4, .string a0_5, .bool a0_6, .string a0_7, .bool a0_8, .string a0_9]) Tryz.underlying24 (by kernel_rfl) (by simpa [(show Tryz.prog.cellsOf 9 = 1 by kernel_rfl)] using f0) (by simpa [(show Tryz.prog.cellsOf 9 = 1 by kernel_rfl)] using f1) (by simpa [(show Tryz.prog.cellsOf 9 = 1 by kernel_rfl)] using f2) (by simpa [(show Tryz.prog.cellsOf 9 = 1 by kernel_rfl)] using f3) (by simpa [(show Tryz.prog.cellsOf 3 = 1 by kernel_rfl)] using f4) (by simpa [(show Tryz.prog.cellsOf 9 = 1 by kernel_rfl)] using f5) (by simpa [(show Tryz.prog.cellsOf 4 = 1 by kernel_rfl)] using f6) (by simpa [(show Tryz.prog.cellsOf 9 = 1 by kernel_rfl)] using f7) (by simpa [(show Tryz.prog.cellsOf 4 = 1 by kernel_rfl)] using f8) (by simpa [(show Tryz.prog.cellsOf 9 = 1 by kernel_rfl)] using f9)
    simpa [Value.cells] using this⟩
  clear hA0
  have hp : UrlTexts.f a0_0 a0_1 a0_2 a0_3 a0_4 a0_5 a0_6 a0_7 a0_8 a0_9 = some true := by
    exact UrlTexts.holds (by have z := sized_agg hsz (j := 0) (i := 0) (t := 24) rfl rfl Tryz.underlying24 rfl rfl; rw [Array.length_toList] at z; exact z) (by have z := sized_agg hsz (j := 0) (i := 1) (t := 24) rfl rfl Tryz.underlying24 rfl rfl; rw [Array.length_toList] at z; exact z) (by have z := sized_agg hsz (j := 0) (i := 2) (t := 24) rfl rfl Tryz.underlying24 rfl rfl; rw [Array.length_toList] at z; exact z) (by have z := sized_agg hsz (j := 0) (i := 3) (t := 24) rfl rfl Tryz.underlying24 rfl rfl; rw [Array.length_toList] at z; exact z) w0_4 (by have z := sized_agg hsz (j := 0) (i := 5) (t := 24) rfl rfl Tryz.underlying24 rfl rfl; rw [Array.length_toList] at z; exact z) (by have z := sized_agg hsz (j := 0) (i := 7) (t := 24) rfl rfl Tryz.underlying24 rfl rfl; rw [Array.length_toList] at z; exact z) (by have z := sized_agg hsz (j := 0) (i := 9) (t := 24) rfl rfl Tryz.underlying24 rfl rfl; rw [Array.length_toList] at z; exact z)
  refine (UrlTexts.calls a0_0 a0_1 a0_2 a0_3 a0_4 a0_5 a0_6 a0_7 a0_8 a0_9 true W  (GoD.GT_row hsh (utf8Tabs_of_readsT (U8Types.of196 Tryz.lays196) ⟨by kernel_rfl, by kernel_rfl, by kernel_rfl, by kernel_rfl, by kernel_rfl, by kernel_rfl, by kernel_rfl⟩ (Lib.laidMet.reads hL (.tail _ (.head _))) (Lib.laidMet.reads hL (.head _))))  hp).mono ?_
  intro e W' ⟨he, bel0⟩
  have bel : Below W.heap.size W W' := bel0
  subst he
  exact ⟨_, rfl, _, _, _, [], _, [], hW', trodAll_mk1 (shut_bool Tryz.underlying4 _), (trodAll_cons_mk (bk0 _ _) trodAll_mk0), rfl, bel.frame _, fun h => by cases h⟩
set_option maxRecDepth 100000 in
/-- A world for the witness: the settled one, the tables holding what the row lists. -/
def setRanges : Obj → Obj
  | .cells _ t frozen => .cells #[.int .u8 128, .int .u8 191, .int .u8 160, .int .u8 191, .int .u8 128, .int .u8 159, .int .u8 144, .int .u8 191, .int .u8 128, .int .u8 143, .int .u8 0, .int .u8 0, .int .u8 0, .int .u8 0, .int .u8 0, .int .u8 0, .int .u8 0, .int .u8 0, .int .u8 0, .int .u8 0, .int .u8 0, .int .u8 0, .int .u8 0, .int .u8 0, .int .u8 0, .int .u8 0, .int .u8 0, .int .u8 0, .int .u8 0, .int .u8 0, .int .u8 0, .int .u8 0] t frozen
  | o => o
def setFirst : Obj → Obj
  | .cells _ t frozen => .cells ((Go.Pinned.utf8FirstZ.map fun (n : Nat) => Value.int .u8 (n : Int)).toArray) t frozen
  | o => o
noncomputable def laidWorld (os : Os) : World :=
  { World.holding Tryz.prog os ⟨#[], #[], []⟩ with heap := ((World.holding Tryz.prog os ⟨#[], #[], []⟩).heap.modify 1 setRanges).modify 0 setFirst }
theorem laid_met (os : Os) : laidMet Tryz.prog Rows.urlTextsRow.laid ((laidWorld os).forCall (fun _ _ => 0) ⟨#[], #[.agg #[.string ByteArray.empty, .string ByteArray.empty, .string ByteArray.empty, .string ByteArray.empty, .int .i64 0, .string ByteArray.empty, .bool false, .string ByteArray.empty, .bool false, .string ByteArray.empty]], []⟩).memory :=
  laidMet_of_run' 8 (by kernel_rfl) (by kernel_rfl)
theorem reads (os : Os) {H : Type} (enc : TypeId × Value → H) : ∃ places, DataW.whole enc Tryz.prog ((laidWorld os).forCall (fun _ _ => 0) ⟨#[], #[.agg #[.string ByteArray.empty, .string ByteArray.empty, .string ByteArray.empty, .string ByteArray.empty, .int .i64 0, .string ByteArray.empty, .bool false, .string ByteArray.empty, .bool false, .string ByteArray.empty]], []⟩).memory Tryz.f4.params.toList Rows.urlTextsSpec.vars false (#[.agg #[.string ByteArray.empty, .string ByteArray.empty, .string ByteArray.empty, .string ByteArray.empty, .int .i64 0, .string ByteArray.empty, .bool false, .string ByteArray.empty, .bool false, .string ByteArray.empty]] : Array Value).toList 8 = some ([.agg [.lit (.string []), .lit (.string []), .lit (.string []), .lit (.string []), .lit (.int .i64 0), .lit (.string []), .lit (.bool false), .lit (.string []), .lit (.bool false), .lit (.string [])]], [], places) :=
  ⟨[], by kernel_rfl⟩
set_option maxRecDepth 100000 in
theorem lifted (os : Os) (started : os.Started) (H : Type) (enc : TypeId × Value → H) (F : Stop.Interp) :
    ReturnsInHanded {} Tryz.checked os 4 .any ((OpenSpec.ofChange Rows.urlTextsSpec).preRow enc Tryz.prog Tryz.f4 Rows.urlTextsRow.domain false Rows.urlTextsRow.laid) (((OpenSpec.ofChange Rows.urlTextsSpec).at F).post enc Tryz.prog Tryz.f4 false true false false) := by
  obtain ⟨places, hx⟩ := reads os enc
  refine returnsInHanded_of_row (C := Tryz.checked) (s := OpenSpec.ofChange Rows.urlTextsSpec) own started (by kernel_rfl) Tryz.func4
    (witness_row_at (enc := enc) (C := Tryz.checked) false (laidWorld os) #[.agg #[.string ByteArray.empty, .string ByteArray.empty, .string ByteArray.empty, .string ByteArray.empty, .int .i64 0, .string ByteArray.empty, .bool false, .string ByteArray.empty, .bool false, .string ByteArray.empty]] rfl (by kernel_rfl) (by kernel_rfl) (by kernel_rfl)
      (OpenSpec.preRow_of_cond 8 hx (by kernel_rfl) (fun k hk => by cases hk) (by kernel_rfl) (laid_met os))) ?_
  intro W base args ds gs before hval hW _ hcond hsz hL hsh _
  exact contract H enc W base args ds gs before hval hW hsz hsh hL
theorem said : Rows.UrlTextsSaid :=
  OpenClaim.holds_of_cond 4 Tryz.f4 rfl rfl rfl rfl rfl rfl rfl ⟨rfl, rfl, rfl, rfl, rfl⟩ rfl rfl rfl rfl rfl (by kernel_rfl) Tryz.func4 (by kernel_rfl)
    (of_decide_eq_true (by kernel_rfl)) (by unfold Func.isWrapper; first | (rw [if_pos (by decide +kernel)]; kernel_rfl) | (rw [if_neg (by decide +kernel)]; exact ⟨rfl, rfl⟩))
    (fun os started H enc _ F => by rw [OpenClaim.pre_eq_preRow]; exact lifted os started H enc F)
theorem plain (f : FuncId) (fn : Func) (hf : Tryz.pinned.checked.prog.funcNamed "parapet/parapetlaw11.UrlTexts" = some f) (hfn : Tryz.pinned.checked.prog.funcs[f]? = some fn) :
    true = Tryz.pinned.checked.prog.looks [] ∧ ∀ (j : Nat) t, fn.params[j]? = some t → Tryz.pinned.checked.prog.wantsStandIn t = false := by
  obtain rfl : f = 4 := Option.some.inj ((show Tryz.prog.funcNamed "parapet/parapetlaw11.UrlTexts" = some 4 by kernel_rfl).symm.trans hf) |>.symm
  obtain rfl : fn = Tryz.f4 := (Option.some.inj (Tryz.func4.symm.trans hfn)).symm
  refine ⟨by kernel_rfl, fun j t ht => ?_⟩
  rw [Tryz.params4] at ht
  obtain rfl : t = 24 := by have := Array.mem_of_getElem? ht; simp at this; exact this
  exact (show Tryz.prog.wantsStandIn 24 = false by kernel_rfl)
theorem proved : Rows.UrlTextsCardSaid :=
  Claim7.holds_tied_plain_at .later [] _ _ _ _ said (fun _ h => by cases h) (by kernel_rfl) (fun _ h => by cases h) urlTexts_row_tie rfl ⟨rfl, rfl⟩ (by kernel_rfl) rfl plain (by kernel_rfl)
end Go.Proofs.YtfpjamnilcjnjaaGreatDoor.urlTexts
namespace Go.Proofs.YtfpjamnilcjnjaaGreatDoor
/-- The row, under a short name, for the claim. -/
theorem urlTexts_holds : Rows.UrlTextsCardSaid := urlTexts.proved
#print axioms urlTexts_holds
end Go.Proofs.YtfpjamnilcjnjaaGreatDoor
