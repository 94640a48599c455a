/- EvalAsks: for every input the call returns true, and each argument reads afterwards as it read before. The row lists what package-level variables of Go's library hold at the start; the card ties that to the program's text. -/
import Derived.Test.YtcaaebjjgbcjpaaGreatDoorRd
import Derived.Test.YtcaaebjjgbcjpaaGreatDoorLEA
import Derived.Test.YtcaaebjjgbcjpaaGreatDoorCards
import Derived.Test.YtcaaebjjgbcjpaaGreatDoorTie
import Derived.Deep.SlicePairs
import Derived.Test.YtcaaebjjgbcjpaaGreatDoorFactA
import Derived.Test.YtcaaebjjgbcjpaaGreatDoorFactB
import Derived.Test.YtcaaebjjgbcjpaaGreatDoorFactC
import Derived.Test.YtcaaebjjgbcjpaaGreatDoorFactD
import Derived.Test.YtcaaebjjgbcjpaaGreatDoorFactE
import Derived.Test.YtcaaebjjgbcjpaaGreatDoorFactF
import Derived.WalkKit
import Derived.ProofKit
import Derived.OpenShut
import Derived.ShutString
import Derived.ChangeOld
import Derived.Below
import Derived.SizedLaws
import Derived.Test.YtcaaebjjgbcjpaaGreatDoorV0
import Derived.Deep.Strs
import Derived.Deep.DeepHandedRow
namespace Go.Proofs.YtcaaebjjgbcjpaaGreatDoor.evalAsks
open Go.ChangeShapes Go.WideShapes Go.ChangeAt Go.RowKit Go.Proofs.YtcaaebjjgbcjpaaGreatDoor.PD Go.Proofs.YtcaaebjjgbcjpaaGreatDoorW.PrintWords 
open Go.ChangeMaps (open_string shut_string)
set_option linter.unusedVariables false
theorem own : ownKnob Tryz.prog.godebug = none := by kernel_rfl
theorem laidOut : laidOutB Tryz.prog = true := by kernel_rfl
set_option maxRecDepth 100000 in
theorem contract (H : Type) (enc : TypeId × Value → H) (W : World) (base : Nat) (args : Array Value) (ds gs : List (DataW H)) (before : List MemPlace)
    (hval0 : ∀ (j : Nat) t v, Tryz.f3.params[j]? = some t → args[j]? = some v → Value.okWide Tryz.prog W .any base t v)
    (hW : DataW.Whole enc Tryz.prog Tryz.f3.params.toList Rows.evalAsksSpec.vars false W args.toList ds gs before)
    (hsz0 : (DataW.weightsEach Tryz.prog (Tryz.f3.params.toList ++ Rows.evalAsksSpec.plain.varTypes Tryz.prog) (ds ++ gs)).all (· ≤ reachBytes) = true) (hsh : W.ShapedOpen Tryz.prog) (hL : laidMetH Tryz.prog Rows.evalAsksRow.laid W) :
    Calls Tryz.prog 3 args W fun e W' => ∃ v, e = .returned v ∧ Rows.evalAsksSpec.post enc Tryz.prog Tryz.f3 false true false false W args v W' := by
  have hval := hval0
  have hsz := hsz0
  have hW' := hW
  obtain ⟨p, q, hA0, hV, rfl, hfz, hnd⟩ := hW
  have hA : DataW.TrodAll enc Tryz.prog W 0 (fun _ => true) true Tryz.f3.params.toList args.toList ds p := hA0
  rw [Tryz.params3] at hA hval hsz
  obtain ⟨v0, vs0, d0, ds0, p0, q0, hargs, rfl, rfl, h0, r0⟩ := trodAll_cons hA
  obtain ⟨v1, vs1, d1, ds1, p1, q1, rfl, rfl, rfl, h1, r1⟩ := trodAll_cons r0
  obtain ⟨rfl, rfl, rfl⟩ := trodAll_nil r1
  obtain rfl : args = #[v0, v1] := by cases args; simp_all
  obtain ⟨rfl, rfl⟩ := trodVars_none hV
  have k0 := h0
  have lt0 : ∀ x ∈ p0, x.block < W.heap.size := by obtain ⟨m, hm⟩ := k0; exact DataW.trod_lt m _ _ _ hm
  have k1 := h1
  have lt1 : ∀ x ∈ p1, x.block < W.heap.size := by obtain ⟨m, hm⟩ := k1; exact DataW.trod_lt m _ _ _ hm
  obtain ⟨cs0, rfl, hz0⟩ := okWide_struct Tryz.underlying23 (hval 0 23 v0 rfl rfl)
  rw [show Tryz.prog.cellsOf 23 = 2 by kernel_rfl] at hz0
  obtain ⟨l0⟩ := cs0
  obtain ⟨c0_0, c0_1, rfl⟩ : ∃ c0_0 c0_1, l0 = [c0_0, c0_1] := by
    match l0, hz0 with
    | [c0_0, c0_1], _ => exact ⟨_, _, rfl⟩
  obtain ⟨fu0, hf0⟩ := h0
  obtain ⟨z0_0, z0_1, m0, hx0, _, t0_0, t0_1⟩ := trod_struct2 Tryz.underlying23 hf0
  obtain ⟨a0_0, e0_0, rfl, w0_0⟩ := DataW.trod_string Tryz.underlying9 t0_0
  obtain ⟨a0_1, e0_1, rfl, w0_1⟩ := DataW.trod_string Tryz.underlying9 t0_1
  simp [Value.cells, (show Tryz.prog.cellsOf 9 = 1 by kernel_rfl)] at e0_0 e0_1
  subst e0_0 e0_1
  have hd0 := (Prod.mk.inj hx0).1
  simp only at hd0
  obtain ⟨cs1, rfl, hz1⟩ := okWide_struct Tryz.underlying26 (hval 1 26 v1 rfl rfl)
  rw [show Tryz.prog.cellsOf 26 = 8 by kernel_rfl] at hz1
  obtain ⟨l1⟩ := cs1
  obtain ⟨c1_0, c1_1, c1_2, c1_3, c1_4, c1_5, c1_6, c1_7, rfl⟩ : ∃ c1_0 c1_1 c1_2 c1_3 c1_4 c1_5 c1_6 c1_7, l1 = [c1_0, c1_1, c1_2, c1_3, c1_4, c1_5, c1_6, c1_7] := by
    match l1, hz1 with
    | [c1_0, c1_1, c1_2, c1_3, c1_4, c1_5, c1_6, c1_7], _ => exact ⟨_, _, _, _, _, _, _, _, rfl⟩
  obtain ⟨fu1, hf1⟩ := h1
  obtain ⟨z1_0, z1_1, z1_2, z1_3, z1_4, z1_5, z1_6, z1_7, m1, hx1, _, t1_0, t1_1, t1_2, t1_3, t1_4, t1_5, t1_6, t1_7⟩ := Go.trod_struct8 Tryz.underlying26 hf1
  obtain ⟨a1_0, e1_0, rfl, w1_0⟩ := DataW.trod_string Tryz.underlying9 t1_0
  obtain ⟨a1_1, e1_1, rfl, w1_1⟩ := DataW.trod_string Tryz.underlying9 t1_1
  obtain ⟨a1_2, e1_2, rfl, w1_2⟩ := DataW.trod_string Tryz.underlying9 t1_2
  obtain ⟨a1_3, e1_3, rfl, w1_3⟩ := DataW.trod_string Tryz.underlying9 t1_3
  obtain ⟨a1_4, e1_4, rfl⟩ := DataW.trod_bool Tryz.underlying4 t1_4
  obtain ⟨a1_5, e1_5, rfl⟩ := DataW.trod_bool Tryz.underlying4 t1_5
  obtain ⟨a1_6, e1_6, rfl, w1_6⟩ := DataW.trod_int Tryz.underlying3 t1_6
  simp [Value.cells, (show Tryz.prog.cellsOf 9 = 1 by kernel_rfl), (show Tryz.prog.cellsOf 4 = 1 by kernel_rfl), (show Tryz.prog.cellsOf 3 = 1 by kernel_rfl)] at e1_0 e1_1 e1_2 e1_3 e1_4 e1_5 e1_6
  subst e1_0 e1_1 e1_2 e1_3 e1_4 e1_5 e1_6
  have hg : GoD.GT W := (GoD.GT_row hsh (utf8Tabs_of_readsT (U8Types.of196 Tryz.lays196) ⟨by kernel_rfl, by kernel_rfl, by kernel_rfl, by kernel_rfl, by kernel_rfl, by kernel_rfl, by kernel_rfl⟩ (Lib.laidMet.reads hL (.tail _ (.head _))) (Lib.laidMet.reads hL (.head _))))
  have hd1 := (Prod.mk.inj hx1).1
  simp only at hd1
  subst hd0 hd1
  obtain ⟨fs, v7, y, e1_7, hR, hv, hfl, hfn⟩ := GoD.fields_arg hg Tryz.underlying24 Tryz.underlying46 (by kernel_rfl) rfl rfl (by kernel_rfl) (by kernel_rfl) Tryz.underlying9 Tryz.underlying9 (by kernel_rfl) t1_7 (Go.sized_part hsz (j := 1) (i := 7) rfl rfl Tryz.underlying26 rfl rfl)
  simp [Value.cells, (show Tryz.prog.cellsOf 24 = 1 by kernel_rfl)] at e1_7
  subst e1_7
  have s0 := sized_agg hsz (j := 0) (i := 0) (t := 23) rfl rfl Tryz.underlying23 rfl rfl
  have s1 := sized_agg hsz (j := 0) (i := 1) (t := 23) rfl rfl Tryz.underlying23 rfl rfl
  have s2 := sized_agg hsz (j := 1) (i := 0) (t := 26) rfl rfl Tryz.underlying26 rfl rfl
  have s3 := sized_agg hsz (j := 1) (i := 1) (t := 26) rfl rfl Tryz.underlying26 rfl rfl
  have s4 := sized_agg hsz (j := 1) (i := 2) (t := 26) rfl rfl Tryz.underlying26 rfl rfl
  have s5 := sized_agg hsz (j := 1) (i := 3) (t := 26) rfl rfl Tryz.underlying26 rfl rfl
  rw [Array.length_toList] at s0 s1 s2 s3 s4 s5
  have big : ∀ {b : ByteArray}, b.data.size ≤ 140737488351232 → b.size ≤ 281474976710656 := fun h => Nat.le_trans h (by decide)
  have hwr : IntKind.i64.wrap a1_6 = a1_6 := wrap_of w1_6
  clear hA0
  refine (GoD.evalAsks_calls (big s0) (big s1) (big s2) (big s3) (big s4) (big s5) hwr hR hv hfl hfn).mono ?_
  intro e W' ⟨he, bel0⟩
  have bel : Below W.heap.size W W' := bel0
  subst he
  exact ⟨_, rfl, _, _, _, [], _, [], hW', trodAll_mk1 (shut_bool Tryz.underlying4 _), (trodAll_cons_mk (Below.trod laidOut (by kernel_rfl) (of_decide_eq_true (by kernel_rfl)) k0 bel lt0) (trodAll_cons_mk (Below.trod laidOut (by kernel_rfl) (of_decide_eq_true (by kernel_rfl)) k1 bel lt1) trodAll_mk0)), rfl, bel.frame _, fun h => by cases h⟩
set_option maxRecDepth 100000 in
/-- A world for the witness: the settled one, the tables holding what the row lists. -/
def setRanges : Obj → Obj
  | .cells _ t frozen => .cells #[.int .u8 128, .int .u8 191, .int .u8 160, .int .u8 191, .int .u8 128, .int .u8 159, .int .u8 144, .int .u8 191, .int .u8 128, .int .u8 143, .int .u8 0, .int .u8 0, .int .u8 0, .int .u8 0, .int .u8 0, .int .u8 0, .int .u8 0, .int .u8 0, .int .u8 0, .int .u8 0, .int .u8 0, .int .u8 0, .int .u8 0, .int .u8 0, .int .u8 0, .int .u8 0, .int .u8 0, .int .u8 0, .int .u8 0, .int .u8 0, .int .u8 0, .int .u8 0] t frozen
  | o => o
def setFirst : Obj → Obj
  | .cells _ t frozen => .cells ((Go.Pinned.utf8FirstZ.map fun (n : Nat) => Value.int .u8 (n : Int)).toArray) t frozen
  | o => o
noncomputable def laidWorld (os : Os) : World :=
  { World.holding Tryz.prog os ⟨#[], #[], []⟩ with heap := ((World.holding Tryz.prog os ⟨#[], #[], []⟩).heap.modify 1 setRanges).modify 0 setFirst }
theorem laid_met (os : Os) : laidMet Tryz.prog Rows.evalAsksRow.laid ((laidWorld os).forCall (fun _ _ => 0) ⟨#[], #[.agg #[.string ByteArray.empty, .string ByteArray.empty], .agg #[.string ByteArray.empty, .string ByteArray.empty, .string ByteArray.empty, .string ByteArray.empty, .bool false, .bool false, .int .i64 0, .slice none 0 0]], []⟩).memory :=
  laidMet_of_run' 8 (by kernel_rfl) (by kernel_rfl)
theorem reads (os : Os) {H : Type} (enc : TypeId × Value → H) : ∃ places, DataW.whole enc Tryz.prog ((laidWorld os).forCall (fun _ _ => 0) ⟨#[], #[.agg #[.string ByteArray.empty, .string ByteArray.empty], .agg #[.string ByteArray.empty, .string ByteArray.empty, .string ByteArray.empty, .string ByteArray.empty, .bool false, .bool false, .int .i64 0, .slice none 0 0]], []⟩).memory Tryz.f3.params.toList Rows.evalAsksSpec.vars false (#[.agg #[.string ByteArray.empty, .string ByteArray.empty], .agg #[.string ByteArray.empty, .string ByteArray.empty, .string ByteArray.empty, .string ByteArray.empty, .bool false, .bool false, .int .i64 0, .slice none 0 0]] : Array Value).toList 8 = some ([.agg [.lit (.string []), .lit (.string [])], .agg [.lit (.string []), .lit (.string []), .lit (.string []), .lit (.string []), .lit (.bool false), .lit (.bool false), .lit (.int .i64 0), .nil]], [], places) :=
  ⟨[], by kernel_rfl⟩
set_option maxRecDepth 100000 in
theorem lifted (os : Os) (started : os.Started) (H : Type) (enc : TypeId × Value → H) (F : Stop.Interp) :
    ReturnsInHanded {} Tryz.checked os 3 .any ((OpenSpec.ofChange Rows.evalAsksSpec).preRow enc Tryz.prog Tryz.f3 Rows.evalAsksRow.domain false Rows.evalAsksRow.laid) (((OpenSpec.ofChange Rows.evalAsksSpec).at F).post enc Tryz.prog Tryz.f3 false true false false) := by
  obtain ⟨places, hx⟩ := reads os enc
  refine returnsInHanded_of_row (C := Tryz.checked) (s := OpenSpec.ofChange Rows.evalAsksSpec) own started (by kernel_rfl) Tryz.func3
    (witness_row_at (enc := enc) (C := Tryz.checked) false (laidWorld os) #[.agg #[.string ByteArray.empty, .string ByteArray.empty], .agg #[.string ByteArray.empty, .string ByteArray.empty, .string ByteArray.empty, .string ByteArray.empty, .bool false, .bool false, .int .i64 0, .slice none 0 0]] rfl (by kernel_rfl) (by kernel_rfl) (by kernel_rfl)
      (OpenSpec.preRow_of_cond 8 hx (by kernel_rfl) (fun k hk => by cases hk) (by kernel_rfl) (laid_met os))) ?_
  intro W base args ds gs before hval hW _ hcond hsz hL hsh _
  exact contract H enc W base args ds gs before hval hW hsz hsh hL
theorem a2 {a b : Bool} (ha : a = true) (hb : b = true) : (a && b) = true := by rw [ha, hb]; rfl
theorem closed : joinedFacts Tryz.pinned.checked.prog 3 Tryz.f3 (OpenSpec.ofChange Rows.evalAsksSpec).bare Rows.evalAsksRow = true := by
  unfold joinedFacts
  exact (a2 (a2 (a2 (a2 (a2 (a2 (a2 (a2 (a2 (a2 (a2 (a2 (a2 (a2 (a2 (a2 (a2 (a2 (a2 (a2 (a2 (a2 (a2 (a2 (a2 (a2 (a2 (a2 (a2 (a2 (a2 j0 j1) j2) j3) j4) j5) j6) j7) j8) j9) j10) j11) j12) j13) j14) j15) j16) j17) j18) j19) j20) j21) j22) j23) j24) j25) j26) j27) (by kernel_rfl)) j29) j30) j31)
theorem said : Rows.EvalAsksSaid :=
  OpenClaim.holds_of_cond 3 Tryz.f3 rfl rfl rfl rfl rfl rfl rfl ⟨rfl, rfl, rfl, rfl, rfl⟩ rfl rfl rfl rfl rfl (by kernel_rfl) Tryz.func3 closed
    (of_decide_eq_true (by kernel_rfl)) (by unfold Func.isWrapper; first | (rw [if_pos (by decide +kernel)]; kernel_rfl) | (rw [if_neg (by decide +kernel)]; exact ⟨rfl, rfl⟩))
    (fun os started H enc _ F => by rw [OpenClaim.pre_eq_preRow]; exact lifted os started H enc F)
theorem plain (f : FuncId) (fn : Func) (hf : Tryz.pinned.checked.prog.funcNamed "parapet/parapetlaw23.EvalAsks" = some f) (hfn : Tryz.pinned.checked.prog.funcs[f]? = some fn) :
    true = Tryz.pinned.checked.prog.looks [] ∧ ∀ (j : Nat) t, fn.params[j]? = some t → Tryz.pinned.checked.prog.wantsStandIn t = false := by
  obtain rfl : f = 3 := Option.some.inj ((show Tryz.prog.funcNamed "parapet/parapetlaw23.EvalAsks" = some 3 by kernel_rfl).symm.trans hf) |>.symm
  obtain rfl : fn = Tryz.f3 := (Option.some.inj (Tryz.func3.symm.trans hfn)).symm
  refine ⟨by kernel_rfl, fun j t ht => ?_⟩
  rw [Tryz.params3] at ht
  have hm : t = 23 ∨ t = 26 := by have := Array.mem_of_getElem? ht; simpa using this
  rcases hm with rfl | rfl
  · exact (show Tryz.prog.wantsStandIn 23 = false by kernel_rfl)
  · exact (show Tryz.prog.wantsStandIn 26 = false by kernel_rfl)
theorem proved : Rows.EvalAsksCardSaid :=
  Claim7.holds_tied_plain_at .later [] _ _ _ _ said (fun _ h => by cases h) (by kernel_rfl) (fun _ h => by cases h) evalAsks_row_tie rfl ⟨rfl, rfl⟩ (by kernel_rfl) rfl plain goes
end Go.Proofs.YtcaaebjjgbcjpaaGreatDoor.evalAsks
namespace Go.Proofs.YtcaaebjjgbcjpaaGreatDoor
/-- The row, under a short name, for the claim. -/
theorem evalAsks_holds : Rows.EvalAsksCardSaid := evalAsks.proved
#print axioms evalAsks_holds
end Go.Proofs.YtcaaebjjgbcjpaaGreatDoor
