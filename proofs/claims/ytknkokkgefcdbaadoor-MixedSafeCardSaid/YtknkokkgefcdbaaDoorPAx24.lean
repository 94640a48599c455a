-- written by pp.py, a program of this session's, which runs the kit's print with turns of its own; Lean checks it
import Derived.Test.YtknkokkgefcdbaaDoorBP
import Derived.Test.YtknkokkgefcdbaaDoorPAx0
import Derived.Test.YtknkokkgefcdbaaDoorPAx15
import Derived.Test.YtknkokkgefcdbaaDoorPAx21
import Derived.Test.YtknkokkgefcdbaaDoorPAx29
import Derived.Test.YtknkokkgefcdbaaDoorPAx23
namespace Go.Proofs.YtknkokkgefcdbaaDoor.PA
open Go.RowKit Go.Proofs.YtknkokkgefcdbaaDoorW.PrintWords Go.Proofs.YtknkokkgefcdbaaDoorW.PrintLast Go.Proofs.YtknkokkgefcdbaaDoorW.PrintMore
attribute [local go_sem] max2_int min2_int max_two min_two max_three min_three max_four min_four   -- for this text's walks alone
set_option linter.unusedVariables false
set_option linter.unusedSimpArgs false

/-! ### parapetlaw18_MixedSafe: function 4 -/
mutual
def parapetlaw18_MixedSafe.j0 : Nat → ByteArray → Bool → ByteArray → ByteArray → ByteArray → ByteArray → Int → ByteArray → Bool → ByteArray → Bool → ByteArray → Option (Bool)
  | 0, _, _, _, _, _, _, _, _, _, _, _, _ => none
  | k + 1, x1, x23, x394000, x394001, x394002, x394003, x394004, x394005, x394006, x394007, x394008, x394009 => if x23 = true then ((parapetlaw18_awake.f k).bind fun t394 => (some t394)) else ((mixed_Class.f k (⟨#[104, 116, 116, 112, 115]⟩ : ByteArray) (⟨#[97]⟩ : ByteArray) 443 x394000 x394001 x394002 x394003 x394004 x394005 x394006 x394007 x394008 x394009 x1).bind fun t396 => ((parapetref9_Secure.f k x394000 x394001 x394002 x394003 x394004 x394005 x394006 x394007 x394008 x394009).bind fun t397 => (if t397 = true then (parapetlaw18_MixedSafe.j1 k x1 t396 true x394000 x394001 x394002 x394003 x394004 x394005 x394006 x394007 x394008 x394009) else (parapetlaw18_MixedSafe.j1 k x1 t396 (x1.toList == ([100, 111, 99, 117, 109, 101, 110, 116] : List UInt8)) x394000 x394001 x394002 x394003 x394004 x394005 x394006 x394007 x394008 x394009))))
def parapetlaw18_MixedSafe.j1 : Nat → ByteArray → Int → Bool → ByteArray → ByteArray → ByteArray → ByteArray → Int → ByteArray → Bool → ByteArray → Bool → ByteArray → Option (Bool)
  | 0, _, _, _, _, _, _, _, _, _, _, _, _, _ => none
  | k + 1, x1, x8, x35, x394000, x394001, x394002, x394003, x394004, x394005, x394006, x394007, x394008, x394009 => if x35 = true then (if x8 = 0 then ((parapetlaw18_awake.f k).bind fun t398 => (some t398)) else (some false)) else (if x1.toList = ([105, 109, 97, 103, 101] : List UInt8) then ((parapetref9_IsAddress.f k x394003).bind fun bt399 => (if ((x8 == 1) == (!bt399.2)) = true then (if x8 = 0 then (some false) else ((parapetlaw18_awake.f k).bind fun t401 => (some t401))) else (some false))) else (if x1.toList = ([97, 117, 100, 105, 111] : List UInt8) then ((parapetref9_IsAddress.f k x394003).bind fun bt402 => (if ((x8 == 1) == (!bt402.2)) = true then (if x8 = 0 then (some false) else ((parapetlaw18_awake.f k).bind fun t404 => (some t404))) else (some false))) else ((parapetref9_IsAddress.f k x394003).bind fun bt405 => (if x1.toList = ([118, 105, 100, 101, 111] : List UInt8) then (if ((x8 == 1) == (!bt405.2)) = true then (if x8 = 0 then (some false) else ((parapetlaw18_awake.f k).bind fun t407 => (some t407))) else (some false)) else (if ((x8 == 1) == false) = true then (if x8 = 0 then (some false) else ((parapetlaw18_awake.f k).bind fun t408 => (some t408))) else (some false))))))
end
def parapetlaw18_MixedSafe.f (k : Nat) (a0 : ByteArray) (a1 : ByteArray) : Option (Bool) := (parapetlaw18_parsed.f k a0).bind fun bt382 => (if bt382.2.2.2.2.2.2.2.2.2.2 = true then (parapetlaw18_MixedSafe.j0 k a1 (decide ((a1.size : Int) > 300)) bt382.1 bt382.2.1 bt382.2.2.1 bt382.2.2.2.1 bt382.2.2.2.2.1 bt382.2.2.2.2.2.1 bt382.2.2.2.2.2.2.1 bt382.2.2.2.2.2.2.2.1 bt382.2.2.2.2.2.2.2.2.1 bt382.2.2.2.2.2.2.2.2.2.1) else (parapetlaw18_MixedSafe.j0 k a1 true bt382.1 bt382.2.1 bt382.2.2.1 bt382.2.2.2.1 bt382.2.2.2.2.1 bt382.2.2.2.2.2.1 bt382.2.2.2.2.2.2.1 bt382.2.2.2.2.2.2.2.1 bt382.2.2.2.2.2.2.2.2.1 bt382.2.2.2.2.2.2.2.2.2.1))
theorem parapetlaw18_MixedSafe.mono_l : ∀ k, (∀ y0 y1 y2 y3 y4 y5 y6 y7 y8 y9 y10 y11, LeO (parapetlaw18_MixedSafe.j0 k y0 y1 y2 y3 y4 y5 y6 y7 y8 y9 y10 y11) (parapetlaw18_MixedSafe.j0 (k + 1) y0 y1 y2 y3 y4 y5 y6 y7 y8 y9 y10 y11)) ∧ (∀ y0 y1 y2 y3 y4 y5 y6 y7 y8 y9 y10 y11 y12, LeO (parapetlaw18_MixedSafe.j1 k y0 y1 y2 y3 y4 y5 y6 y7 y8 y9 y10 y11 y12) (parapetlaw18_MixedSafe.j1 (k + 1) y0 y1 y2 y3 y4 y5 y6 y7 y8 y9 y10 y11 y12))
  | 0 => ⟨fun _ _ _ _ _ _ _ _ _ _ _ _ r h => by simp [parapetlaw18_MixedSafe.j0] at h, fun _ _ _ _ _ _ _ _ _ _ _ _ _ r h => by simp [parapetlaw18_MixedSafe.j1] at h⟩
  | k + 1 => by
    obtain ⟨ih0, ih1⟩ := parapetlaw18_MixedSafe.mono_l k
    refine ⟨?_, ?_⟩
    · intro y0 y1 y2 y3 y4 y5 y6 y7 y8 y9 y10 y11
      unfold parapetlaw18_MixedSafe.j0
      repeat' first
      | (with_reducible exact ih0 _ _ _ _ _ _ _ _ _ _ _ _)
      | (with_reducible exact ih1 _ _ _ _ _ _ _ _ _ _ _ _ _)
      | (with_reducible exact mixed_Class.mono _ _ _ _ _ _ _ _ _ _ _ _ _ _ _)
      | (with_reducible exact parapetlaw18_awake.mono _)
      | (with_reducible exact parapetlaw18_parsed.mono _ _)
      | (with_reducible exact parapetref9_IsAddress.mono _ _)
      | (with_reducible exact parapetref9_Secure.mono _ _ _ _ _ _ _ _ _ _ _)
      | (with_reducible exact LeO.refl _)
      | (with_reducible exact LeO.none _)
      | (with_reducible refine LeO.ite ?_ ?_)
      | (with_reducible refine LeO.bind ?_ (fun _ => ?_))
      | exact ih0 _ _ _ _ _ _ _ _ _ _ _ _
      | exact ih1 _ _ _ _ _ _ _ _ _ _ _ _ _
      | exact mixed_Class.mono _ _ _ _ _ _ _ _ _ _ _ _ _ _ _
      | exact parapetlaw18_awake.mono _
      | exact parapetlaw18_parsed.mono _ _
      | exact parapetref9_IsAddress.mono _ _
      | exact parapetref9_Secure.mono _ _ _ _ _ _ _ _ _ _ _
      | exact LeO.none _
      | refine LeO.ite ?_ ?_
      | refine LeO.bind ?_ (fun _ => ?_)
    · intro y0 y1 y2 y3 y4 y5 y6 y7 y8 y9 y10 y11 y12
      unfold parapetlaw18_MixedSafe.j1
      repeat' first
      | (with_reducible exact ih0 _ _ _ _ _ _ _ _ _ _ _ _)
      | (with_reducible exact ih1 _ _ _ _ _ _ _ _ _ _ _ _ _)
      | (with_reducible exact mixed_Class.mono _ _ _ _ _ _ _ _ _ _ _ _ _ _ _)
      | (with_reducible exact parapetlaw18_awake.mono _)
      | (with_reducible exact parapetlaw18_parsed.mono _ _)
      | (with_reducible exact parapetref9_IsAddress.mono _ _)
      | (with_reducible exact parapetref9_Secure.mono _ _ _ _ _ _ _ _ _ _ _)
      | (with_reducible exact LeO.refl _)
      | (with_reducible exact LeO.none _)
      | (with_reducible refine LeO.ite ?_ ?_)
      | (with_reducible refine LeO.bind ?_ (fun _ => ?_))
      | exact ih0 _ _ _ _ _ _ _ _ _ _ _ _
      | exact ih1 _ _ _ _ _ _ _ _ _ _ _ _ _
      | exact mixed_Class.mono _ _ _ _ _ _ _ _ _ _ _ _ _ _ _
      | exact parapetlaw18_awake.mono _
      | exact parapetlaw18_parsed.mono _ _
      | exact parapetref9_IsAddress.mono _ _
      | exact parapetref9_Secure.mono _ _ _ _ _ _ _ _ _ _ _
      | exact LeO.none _
      | refine LeO.ite ?_ ?_
      | refine LeO.bind ?_ (fun _ => ?_)
theorem parapetlaw18_MixedSafe.mono : ∀ a0 a1 k, LeO (parapetlaw18_MixedSafe.f k a0 a1) (parapetlaw18_MixedSafe.f (k + 1) a0 a1) := by
  intro a0 a1 k
  obtain ⟨ih0, ih1⟩ := parapetlaw18_MixedSafe.mono_l k
  unfold parapetlaw18_MixedSafe.f
  repeat' first
      | (with_reducible exact ih0 _ _ _ _ _ _ _ _ _ _ _ _)
      | (with_reducible exact ih1 _ _ _ _ _ _ _ _ _ _ _ _ _)
      | (with_reducible exact mixed_Class.mono _ _ _ _ _ _ _ _ _ _ _ _ _ _ _)
      | (with_reducible exact parapetlaw18_awake.mono _)
      | (with_reducible exact parapetlaw18_parsed.mono _ _)
      | (with_reducible exact parapetref9_IsAddress.mono _ _)
      | (with_reducible exact parapetref9_Secure.mono _ _ _ _ _ _ _ _ _ _ _)
      | (with_reducible exact LeO.refl _)
      | (with_reducible exact LeO.none _)
      | (with_reducible refine LeO.ite ?_ ?_)
      | (with_reducible refine LeO.bind ?_ (fun _ => ?_))
      | exact ih0 _ _ _ _ _ _ _ _ _ _ _ _
      | exact ih1 _ _ _ _ _ _ _ _ _ _ _ _ _
      | exact mixed_Class.mono _ _ _ _ _ _ _ _ _ _ _ _ _ _ _
      | exact parapetlaw18_awake.mono _
      | exact parapetlaw18_parsed.mono _ _
      | exact parapetref9_IsAddress.mono _ _
      | exact parapetref9_Secure.mono _ _ _ _ _ _ _ _ _ _ _
      | exact LeO.none _
      | refine LeO.ite ?_ ?_
      | refine LeO.bind ?_ (fun _ => ?_)
set_option maxHeartbeats 8000000 in
set_option maxRecDepth 100000 in
theorem parapetlaw18_MixedSafe.calls (k : Nat) (a0 : ByteArray) (a1 : ByteArray) (r : Bool) (w : World) (h : parapetlaw18_MixedSafe.f k a0 a1 = some r) :
    Calls Tryd.prog 4 #[.string a0, .string a1] w fun e w' => e = .returned (.bool r) ∧ Below w.heap.size w w' := by
  have hu23 := Tryd.underlying23
  have hu29 := Tryd.underlying29
  have HB := Aside0.mk (Below.refl w.heap.size w)
  have H : ((parapetlaw18_parsed.f k a0).bind fun bt382 => (if bt382.2.2.2.2.2.2.2.2.2.2 = true then (parapetlaw18_MixedSafe.j0 k a1 (decide ((a1.size : Int) > 300)) bt382.1 bt382.2.1 bt382.2.2.1 bt382.2.2.2.1 bt382.2.2.2.2.1 bt382.2.2.2.2.2.1 bt382.2.2.2.2.2.2.1 bt382.2.2.2.2.2.2.2.1 bt382.2.2.2.2.2.2.2.2.1 bt382.2.2.2.2.2.2.2.2.2.1) else (parapetlaw18_MixedSafe.j0 k a1 true bt382.1 bt382.2.1 bt382.2.2.1 bt382.2.2.2.1 bt382.2.2.2.2.1 bt382.2.2.2.2.2.1 bt382.2.2.2.2.2.2.1 bt382.2.2.2.2.2.2.2.1 bt382.2.2.2.2.2.2.2.2.1 bt382.2.2.2.2.2.2.2.2.2.1))) = some r := h
  clear h
  replace H := Option.bind_eq_some_iff.mp H
  obtain ⟨⟨t382, t383, t384, t385, t386, t387, t388, t389, t390, t391, t392⟩, A30, H⟩ := H
  (try dsimp only at H)
  have A3 := Aside0.mk A30
  clear A30
  have HC4 := Aside0.mk H
  clear H
  go_enter Tryd.func4, Tryd.ntmps4
  go_upto_region 2 with (first | ((with_reducible refine gate_callee (f := 8) rfl ?_); refine goesL_ (some 14) rfl rfl Tryd.func8 (by kernel_rfl) rfl #[.string a0] rfl GAK ?_; (with_reducible refine (parapetlaw18_parsed.calls k a0 t382 t383 t384 t385 t386 t387 t388 t389 t390 t391 t392 _ A3.out).mono ?_); rintro e w5 ⟨rfl, hb⟩; refine ⟨_, rfl, ?_⟩; have n0_ := Aside0.mk (below_step BWK hb); clear HB; have HB := n0_; clear n0_; (try clear hb); (try clear hb2); (try clear hk); (try clear hi)) | ((with_reducible refine gate_dst (N := 5) rfl ?_); (try (refine gate_guard (by rfl) ?_; dsimp only)); refine box_event ?hg (N := 5) ?hd (cs := #[.string (⟨#[]⟩ : ByteArray), .string (⟨#[]⟩ : ByteArray), .string (⟨#[]⟩ : ByteArray), .string (⟨#[]⟩ : ByteArray), .int .i64 0, .string (⟨#[]⟩ : ByteArray), .bool false, .string (⟨#[]⟩ : ByteArray), .bool false, .string (⟨#[]⟩ : ByteArray)]) (t := 23) ?hr ?_; (case hd => rfl); (case hg => rfl); (case hr => first | (go_simp; done) | (go_simp; rfl)); intro gb393 hg w6 hbox hb; have n0_ := Aside0.mk (below_step BWK hb); have n1_ := Aside0.mk (hbox); have n2_ := Aside0.mk ((by rw [hg]; exact (below_size BWK) : w.heap.size ≤ gb393)); have n3_ := Aside0.mk ((by rw [hg]; exact (below_size BWK) : w.heap.size ≤ gb393)); clear HB; have HB := n0_; have BK393 := n1_; have GW393 := n2_; have GE393 := n3_; clear n0_ n1_ n2_ n3_; clear hb hbox hg; have hcz7_0 := bc0 BK393.out; have hcz7_1 := bc1 BK393.out; have hcz7_2 := bc2 BK393.out; have hcz7_3 := bc3 BK393.out; have hcz7_4 := bc4 BK393.out; have hcz7_5 := bc5 BK393.out; have hcz7_6 := bc6 BK393.out; have hcz7_7 := bc7 BK393.out; have hcz7_8 := bc8 BK393.out; have hcz7_9 := bc9 BK393.out; have hfz7_0 := blk_frozen BK393.out 0; have hfz7_1 := blk_frozen BK393.out 1; have hfz7_2 := blk_frozen BK393.out 2; have hfz7_3 := blk_frozen BK393.out 3; have hfz7_4 := blk_frozen BK393.out 4; have hfz7_5 := blk_frozen BK393.out 5; have hfz7_6 := blk_frozen BK393.out 6; have hfz7_7 := blk_frozen BK393.out 7; have hfz7_8 := blk_frozen BK393.out 8; have hfz7_9 := blk_frozen BK393.out 9))
  (try simp only [Act.put, List.setIfInBounds_toArray, List.set_cons_zero, List.set_cons_succ])
  go_cut [23] (fun v23 wc => ∃ (kq : Nat) (x23_3 : Bool), v23 = .bool x23_3 ∧ Aside0 (parapetlaw18_MixedSafe.j0 kq a1 x23_3 t382 t383 t384 t385 t386 t387 t388 t389 t390 t391 = some r) ∧ Aside0 (kq ≤ k) ∧ Aside0 (wc.heap[gb393]? = some (.cells #[.string t382, .string t383, .string t384, .string t385, .int .i64 t386, .string t387, .bool t388, .string t389, .bool t390, .string t391] 23 (0, 0))) ∧ Aside0 (Below w.heap.size w wc))
  case first =>
    have H := HC4.out
    clear HC4
    by_cases c8 : t392 = true
    · subst c8
      have H1 := H; rw [if_pos rfl] at H1
      clear H
      have H := H1
      clear H1
      have H' := Aside0.mk H
      clear H
      go_wp2
      go_meet
      case rel => exact ⟨_, (decide ((a1.size : Int) > 300)), RFK, H', ⟨OMK⟩, ⟨by (with_reducible repeat (first | refine blk_drewN ?_ _ | refine blk_drew ?_ | refine blk_alloc ?_ _)); refine blk_put (cs := #[.string t382, .string t383, .string t384, .string t385, .int .i64 t386, .string t387, .bool t388, .string t389, .bool t390, .string (⟨#[]⟩ : ByteArray)]) ?_ 9 _ rfl; (with_reducible repeat (first | refine blk_drewN ?_ _ | refine blk_drew ?_ | refine blk_alloc ?_ _)); refine blk_put (cs := #[.string t382, .string t383, .string t384, .string t385, .int .i64 t386, .string t387, .bool t388, .string t389, .bool false, .string (⟨#[]⟩ : ByteArray)]) ?_ 8 _ rfl; (with_reducible repeat (first | refine blk_drewN ?_ _ | refine blk_drew ?_ | refine blk_alloc ?_ _)); refine blk_put (cs := #[.string t382, .string t383, .string t384, .string t385, .int .i64 t386, .string t387, .bool t388, .string (⟨#[]⟩ : ByteArray), .bool false, .string (⟨#[]⟩ : ByteArray)]) ?_ 7 _ rfl; (with_reducible repeat (first | refine blk_drewN ?_ _ | refine blk_drew ?_ | refine blk_alloc ?_ _)); refine blk_put (cs := #[.string t382, .string t383, .string t384, .string t385, .int .i64 t386, .string t387, .bool false, .string (⟨#[]⟩ : ByteArray), .bool false, .string (⟨#[]⟩ : ByteArray)]) ?_ 6 _ rfl; (with_reducible repeat (first | refine blk_drewN ?_ _ | refine blk_drew ?_ | refine blk_alloc ?_ _)); refine blk_put (cs := #[.string t382, .string t383, .string t384, .string t385, .int .i64 t386, .string (⟨#[]⟩ : ByteArray), .bool false, .string (⟨#[]⟩ : ByteArray), .bool false, .string (⟨#[]⟩ : ByteArray)]) ?_ 5 _ rfl; (with_reducible repeat (first | refine blk_drewN ?_ _ | refine blk_drew ?_ | refine blk_alloc ?_ _)); refine blk_put (cs := #[.string t382, .string t383, .string t384, .string t385, .int .i64 0, .string (⟨#[]⟩ : ByteArray), .bool false, .string (⟨#[]⟩ : ByteArray), .bool false, .string (⟨#[]⟩ : ByteArray)]) ?_ 4 _ rfl; (with_reducible repeat (first | refine blk_drewN ?_ _ | refine blk_drew ?_ | refine blk_alloc ?_ _)); refine blk_put (cs := #[.string t382, .string t383, .string t384, .string (⟨#[]⟩ : ByteArray), .int .i64 0, .string (⟨#[]⟩ : ByteArray), .bool false, .string (⟨#[]⟩ : ByteArray), .bool false, .string (⟨#[]⟩ : ByteArray)]) ?_ 3 _ rfl; (with_reducible repeat (first | refine blk_drewN ?_ _ | refine blk_drew ?_ | refine blk_alloc ?_ _)); refine blk_put (cs := #[.string t382, .string t383, .string (⟨#[]⟩ : ByteArray), .string (⟨#[]⟩ : ByteArray), .int .i64 0, .string (⟨#[]⟩ : ByteArray), .bool false, .string (⟨#[]⟩ : ByteArray), .bool false, .string (⟨#[]⟩ : ByteArray)]) ?_ 2 _ rfl; (with_reducible repeat (first | refine blk_drewN ?_ _ | refine blk_drew ?_ | refine blk_alloc ?_ _)); refine blk_put (cs := #[.string t382, .string (⟨#[]⟩ : ByteArray), .string (⟨#[]⟩ : ByteArray), .string (⟨#[]⟩ : ByteArray), .int .i64 0, .string (⟨#[]⟩ : ByteArray), .bool false, .string (⟨#[]⟩ : ByteArray), .bool false, .string (⟨#[]⟩ : ByteArray)]) ?_ 1 _ rfl; (with_reducible repeat (first | refine blk_drewN ?_ _ | refine blk_drew ?_ | refine blk_alloc ?_ _)); refine blk_put (cs := #[.string (⟨#[]⟩ : ByteArray), .string (⟨#[]⟩ : ByteArray), .string (⟨#[]⟩ : ByteArray), .string (⟨#[]⟩ : ByteArray), .int .i64 0, .string (⟨#[]⟩ : ByteArray), .bool false, .string (⟨#[]⟩ : ByteArray), .bool false, .string (⟨#[]⟩ : ByteArray)]) ?_ 0 _ rfl; (with_reducible repeat (first | refine blk_drewN ?_ _ | refine blk_drew ?_ | refine blk_alloc ?_ _)); exact BK393.out⟩, ⟨BWK⟩⟩
    · replace c8 := Bool.eq_false_iff.mpr c8
      subst c8
      have H1 := H; rw [if_neg (show ¬ (false = true) by decide)] at H1
      clear H
      have H := H1
      clear H1
      have H' := Aside0.mk H
      clear H
      go_wp2
      go_meet
      case rel => exact ⟨_, (true), RFK, H', ⟨OMK⟩, ⟨by (with_reducible repeat (first | refine blk_drewN ?_ _ | refine blk_drew ?_ | refine blk_alloc ?_ _)); refine blk_put (cs := #[.string t382, .string t383, .string t384, .string t385, .int .i64 t386, .string t387, .bool t388, .string t389, .bool t390, .string (⟨#[]⟩ : ByteArray)]) ?_ 9 _ rfl; (with_reducible repeat (first | refine blk_drewN ?_ _ | refine blk_drew ?_ | refine blk_alloc ?_ _)); refine blk_put (cs := #[.string t382, .string t383, .string t384, .string t385, .int .i64 t386, .string t387, .bool t388, .string t389, .bool false, .string (⟨#[]⟩ : ByteArray)]) ?_ 8 _ rfl; (with_reducible repeat (first | refine blk_drewN ?_ _ | refine blk_drew ?_ | refine blk_alloc ?_ _)); refine blk_put (cs := #[.string t382, .string t383, .string t384, .string t385, .int .i64 t386, .string t387, .bool t388, .string (⟨#[]⟩ : ByteArray), .bool false, .string (⟨#[]⟩ : ByteArray)]) ?_ 7 _ rfl; (with_reducible repeat (first | refine blk_drewN ?_ _ | refine blk_drew ?_ | refine blk_alloc ?_ _)); refine blk_put (cs := #[.string t382, .string t383, .string t384, .string t385, .int .i64 t386, .string t387, .bool false, .string (⟨#[]⟩ : ByteArray), .bool false, .string (⟨#[]⟩ : ByteArray)]) ?_ 6 _ rfl; (with_reducible repeat (first | refine blk_drewN ?_ _ | refine blk_drew ?_ | refine blk_alloc ?_ _)); refine blk_put (cs := #[.string t382, .string t383, .string t384, .string t385, .int .i64 t386, .string (⟨#[]⟩ : ByteArray), .bool false, .string (⟨#[]⟩ : ByteArray), .bool false, .string (⟨#[]⟩ : ByteArray)]) ?_ 5 _ rfl; (with_reducible repeat (first | refine blk_drewN ?_ _ | refine blk_drew ?_ | refine blk_alloc ?_ _)); refine blk_put (cs := #[.string t382, .string t383, .string t384, .string t385, .int .i64 0, .string (⟨#[]⟩ : ByteArray), .bool false, .string (⟨#[]⟩ : ByteArray), .bool false, .string (⟨#[]⟩ : ByteArray)]) ?_ 4 _ rfl; (with_reducible repeat (first | refine blk_drewN ?_ _ | refine blk_drew ?_ | refine blk_alloc ?_ _)); refine blk_put (cs := #[.string t382, .string t383, .string t384, .string (⟨#[]⟩ : ByteArray), .int .i64 0, .string (⟨#[]⟩ : ByteArray), .bool false, .string (⟨#[]⟩ : ByteArray), .bool false, .string (⟨#[]⟩ : ByteArray)]) ?_ 3 _ rfl; (with_reducible repeat (first | refine blk_drewN ?_ _ | refine blk_drew ?_ | refine blk_alloc ?_ _)); refine blk_put (cs := #[.string t382, .string t383, .string (⟨#[]⟩ : ByteArray), .string (⟨#[]⟩ : ByteArray), .int .i64 0, .string (⟨#[]⟩ : ByteArray), .bool false, .string (⟨#[]⟩ : ByteArray), .bool false, .string (⟨#[]⟩ : ByteArray)]) ?_ 2 _ rfl; (with_reducible repeat (first | refine blk_drewN ?_ _ | refine blk_drew ?_ | refine blk_alloc ?_ _)); refine blk_put (cs := #[.string t382, .string (⟨#[]⟩ : ByteArray), .string (⟨#[]⟩ : ByteArray), .string (⟨#[]⟩ : ByteArray), .int .i64 0, .string (⟨#[]⟩ : ByteArray), .bool false, .string (⟨#[]⟩ : ByteArray), .bool false, .string (⟨#[]⟩ : ByteArray)]) ?_ 1 _ rfl; (with_reducible repeat (first | refine blk_drewN ?_ _ | refine blk_drew ?_ | refine blk_alloc ?_ _)); refine blk_put (cs := #[.string (⟨#[]⟩ : ByteArray), .string (⟨#[]⟩ : ByteArray), .string (⟨#[]⟩ : ByteArray), .string (⟨#[]⟩ : ByteArray), .int .i64 0, .string (⟨#[]⟩ : ByteArray), .bool false, .string (⟨#[]⟩ : ByteArray), .bool false, .string (⟨#[]⟩ : ByteArray)]) ?_ 0 _ rfl; (with_reducible repeat (first | refine blk_drewN ?_ _ | refine blk_drew ?_ | refine blk_alloc ?_ _)); exact BK393.out⟩, ⟨BWK⟩⟩
  case rest =>
    clear HC4
    try clear p2
    try clear c4
    try clear c8
    try clear hcz7_0
    try clear hcz7_1
    try clear hcz7_2
    try clear hcz7_3
    try clear hcz7_4
    try clear hcz7_5
    try clear hcz7_6
    try clear hcz7_7
    try clear hcz7_8
    try clear hcz7_9
    try clear hfz7_0
    try clear hfz7_1
    try clear hfz7_2
    try clear hfz7_3
    try clear hfz7_4
    try clear hfz7_5
    try clear hfz7_6
    try clear hfz7_7
    try clear hfz7_8
    try clear hfz7_9
    obtain ⟨kq, x23_3, rfl, HA, HJ3, BK393, HB⟩ := hcut
    cases kq with
    | zero => exact absurd HA.out (by simp [parapetlaw18_MixedSafe.j0])
    | succ kj3 =>
      have H := HA.out
      clear HA
      simp only [parapetlaw18_MixedSafe.j0] at H
      by_cases c9 : x23_3 = true
      · subst c9
        have H1 := H; rw [if_pos rfl] at H1
        clear H
        have H := H1
        clear H1
        replace H := Option.bind_eq_some_iff.mp H
        obtain ⟨t394, A100, H⟩ := H
        (try dsimp only at H)
        have A10 := Aside0.mk A100
        clear A100
        obtain rfl := Option.some.inj H
        go_wp2_with (first | ((with_reducible refine gate_callee (f := 9) rfl ?_); refine goesL_ (some 24) rfl rfl Tryd.func9 (by kernel_rfl) rfl #[] rfl GAK ?_; (with_reducible refine (parapetlaw18_awake.calls kj3  t394 _ A10.out).mono ?_); rintro e w11 ⟨rfl, hb⟩; refine ⟨_, rfl, ?_⟩; have n0_ := Aside0.mk (blk_below (g := gb393) (o := .cells #[.string t382, .string t383, .string t384, .string t385, .int .i64 t386, .string t387, .bool t388, .string t389, .bool t390, .string t391] 23 (0, 0)) BLK hb); have n1_ := Aside0.mk (below_step BWK hb); clear BK393; clear HB; have BK393 := n0_; have HB := n1_; clear n0_ n1_; (try clear hb); (try clear hb2); (try clear hk); (try clear hi)))
        go_ret
        exact ⟨ERK, BWK⟩
      · replace c9 := Bool.eq_false_iff.mpr c9
        subst c9
        have H1 := H; rw [if_neg (show ¬ (false = true) by decide)] at H1
        clear H
        have H := H1
        clear H1
        replace H := Option.bind_eq_some_iff.mp H
        obtain ⟨t396, A120, H⟩ := H
        (try dsimp only at H)
        have A12 := Aside0.mk A120
        clear A120
        have HC13 := Aside0.mk H
        clear H
        go_upto_region 6 with (first | ((with_reducible refine gate_dst (N := 7) rfl ?_); (try (refine gate_guard (by rfl) ?_; dsimp only)); refine box_event ?hg (N := 7) ?hd (cs := #[.string (⟨#[]⟩ : ByteArray), .string (⟨#[]⟩ : ByteArray), .int .i64 0]) (t := 29) ?hr ?_; (case hd => rfl); (case hg => rfl); (case hr => first | (go_simp; done) | (go_simp; rfl)); intro gb395 hg w14 hbox hb; have n0_ := Aside0.mk (blk_below (g := gb393) (o := .cells #[.string t382, .string t383, .string t384, .string t385, .int .i64 t386, .string t387, .bool t388, .string t389, .bool t390, .string t391] 23 (0, 0)) BLK hb); have n1_ := Aside0.mk (below_step BWK hb); have n2_ := Aside0.mk (hbox); have n3_ := Aside0.mk ((by rw [hg]; exact (below_size BWK) : w.heap.size ≤ gb395)); have n4_ := Aside0.mk ((by rw [hg]; exact (below_size BWK) : w.heap.size ≤ gb395)); have n5_ := Aside0.mk ((by rw [hg]; exact Nat.ne_of_lt (blk_lt (g := gb393) (o := .cells #[.string t382, .string t383, .string t384, .string t385, .int .i64 t386, .string t387, .bool t388, .string t389, .bool t390, .string t391] 23 (0, 0)) BLK) : gb393 ≠ gb395)); have n6_ := Aside0.mk ((by rw [hg]; exact Nat.ne_of_gt (blk_lt (g := gb393) (o := .cells #[.string t382, .string t383, .string t384, .string t385, .int .i64 t386, .string t387, .bool t388, .string t389, .bool t390, .string t391] 23 (0, 0)) BLK) : gb395 ≠ gb393)); clear BK393; clear HB; have BK393 := n0_; have HB := n1_; have BK395 := n2_; have GW395 := n3_; have GE395 := n4_; have NB393_395 := n5_; have NB395_393 := n6_; clear n0_ n1_ n2_ n3_ n4_ n5_ n6_; clear hb hbox hg; have hnb15 := NB395_393.out; have hnc15 := NB393_395.out; have hcz16_0 := bc0 BK395.out; have hcz16_1 := bc1 BK395.out; have hcz16_2 := bc2 BK395.out; have hfz16_0 := blk_frozen BK395.out 0; have hfz16_1 := blk_frozen BK395.out 1; have hfz16_2 := blk_frozen BK395.out 2; have hcz17_0 := bc0 BK393.out; have hcz17_1 := bc1 BK393.out; have hcz17_2 := bc2 BK393.out; have hcz17_3 := bc3 BK393.out; have hcz17_4 := bc4 BK393.out; have hcz17_5 := bc5 BK393.out; have hcz17_6 := bc6 BK393.out; have hcz17_7 := bc7 BK393.out; have hcz17_8 := bc8 BK393.out; have hcz17_9 := bc9 BK393.out; have hfz17_0 := blk_frozen BK393.out 0; have hfz17_1 := blk_frozen BK393.out 1; have hfz17_2 := blk_frozen BK393.out 2; have hfz17_3 := blk_frozen BK393.out 3; have hfz17_4 := blk_frozen BK393.out 4; have hfz17_5 := blk_frozen BK393.out 5; have hfz17_6 := blk_frozen BK393.out 6; have hfz17_7 := blk_frozen BK393.out 7; have hfz17_8 := blk_frozen BK393.out 8; have hfz17_9 := blk_frozen BK393.out 9) | ((with_reducible refine gate_callee (f := 10) rfl ?_); refine goesL_ (some 29) rfl rfl Tryd.func10 (by kernel_rfl) rfl #[.agg #[.string (⟨#[104, 116, 116, 112, 115]⟩ : ByteArray), .string (⟨#[97]⟩ : ByteArray), .int .i64 443], .agg #[.string t382, .string t383, .string t384, .string t385, .int .i64 t386, .string t387, .bool t388, .string t389, .bool t390, .string t391], .string a1] rfl GAK ?_; (with_reducible refine (mixed_Class.calls kj3 (⟨#[104, 116, 116, 112, 115]⟩ : ByteArray) (⟨#[97]⟩ : ByteArray) 443 t382 t383 t384 t385 t386 t387 t388 t389 t390 t391 a1 t396 _ A12.out).mono ?_); rintro e w18 ⟨rfl, hb⟩; refine ⟨_, rfl, ?_⟩; have n0_ := Aside0.mk (blk_below (g := gb393) (o := .cells #[.string t382, .string t383, .string t384, .string t385, .int .i64 t386, .string t387, .bool t388, .string t389, .bool t390, .string t391] 23 (0, 0)) BLK hb); have n1_ := Aside0.mk (blk_below (g := gb395) (o := .cells #[.string (⟨#[104, 116, 116, 112, 115]⟩ : ByteArray), .string (⟨#[97]⟩ : ByteArray), .int .i64 443] 29 (0, 0)) BLK hb); have n2_ := Aside0.mk (below_step BWK hb); clear BK393; clear BK395; clear HB; have BK393 := n0_; have BK395 := n1_; have HB := n2_; clear n0_ n1_ n2_; (try clear hb); (try clear hb2); (try clear hk); (try clear hi)))
        (try simp only [Act.put, List.setIfInBounds_toArray, List.set_cons_zero, List.set_cons_succ])
        go_cut [35] (fun v35 wc => ∃ (kq : Nat) (x35_12 : Bool), v35 = .bool x35_12 ∧ Aside0 (parapetlaw18_MixedSafe.j1 kq a1 t396 x35_12 t382 t383 t384 t385 t386 t387 t388 t389 t390 t391 = some r) ∧ Aside0 (kq ≤ kj3) ∧ Aside0 (wc.heap[gb393]? = some (.cells #[.string t382, .string t383, .string t384, .string t385, .int .i64 t386, .string t387, .bool t388, .string t389, .bool t390, .string t391] 23 (0, 0))) ∧ Aside0 (wc.heap[gb395]? = some (.cells #[.string (⟨#[104, 116, 116, 112, 115]⟩ : ByteArray), .string (⟨#[97]⟩ : ByteArray), .int .i64 443] 29 (0, 0))) ∧ Aside0 (Below w.heap.size w wc))
        case first =>
          have H := HC13.out
          clear HC13
          replace H := Option.bind_eq_some_iff.mp H
          obtain ⟨t397, A190, H⟩ := H
          (try dsimp only at H)
          have A19 := Aside0.mk A190
          clear A190
          by_cases c20 : t397 = true
          · subst c20
            have H1 := H; rw [if_pos rfl] at H1
            clear H
            have H := H1
            clear H1
            have H' := Aside0.mk H
            clear H
            have hnb21 := NB393_395.out
            have hnc21 := NB395_393.out
            have hcz22_0 := bc0 BK393.out
            have hcz22_1 := bc1 BK393.out
            have hcz22_2 := bc2 BK393.out
            have hcz22_3 := bc3 BK393.out
            have hcz22_4 := bc4 BK393.out
            have hcz22_5 := bc5 BK393.out
            have hcz22_6 := bc6 BK393.out
            have hcz22_7 := bc7 BK393.out
            have hcz22_8 := bc8 BK393.out
            have hcz22_9 := bc9 BK393.out
            have hfz22_0 := blk_frozen BK393.out 0
            have hfz22_1 := blk_frozen BK393.out 1
            have hfz22_2 := blk_frozen BK393.out 2
            have hfz22_3 := blk_frozen BK393.out 3
            have hfz22_4 := blk_frozen BK393.out 4
            have hfz22_5 := blk_frozen BK393.out 5
            have hfz22_6 := blk_frozen BK393.out 6
            have hfz22_7 := blk_frozen BK393.out 7
            have hfz22_8 := blk_frozen BK393.out 8
            have hfz22_9 := blk_frozen BK393.out 9
            go_wp2_with (first | ((with_reducible refine gate_callee (f := 11) rfl ?_); refine goesL_ (some 31) rfl rfl Tryd.func11 (by kernel_rfl) rfl #[.agg #[.string t382, .string t383, .string t384, .string t385, .int .i64 t386, .string t387, .bool t388, .string t389, .bool t390, .string t391]] rfl GAK ?_; (with_reducible refine (parapetref9_Secure.calls kj3 t382 t383 t384 t385 t386 t387 t388 t389 t390 t391 true _ A19.out).mono ?_); rintro e w23 ⟨rfl, hb⟩; refine ⟨_, rfl, ?_⟩; have n0_ := Aside0.mk (blk_below (g := gb393) (o := .cells #[.string t382, .string t383, .string t384, .string t385, .int .i64 t386, .string t387, .bool t388, .string t389, .bool t390, .string t391] 23 (0, 0)) BLK hb); have n1_ := Aside0.mk (blk_below (g := gb395) (o := .cells #[.string (⟨#[104, 116, 116, 112, 115]⟩ : ByteArray), .string (⟨#[97]⟩ : ByteArray), .int .i64 443] 29 (0, 0)) BLK hb); have n2_ := Aside0.mk (below_step BWK hb); clear BK393; clear BK395; clear HB; have BK393 := n0_; have BK395 := n1_; have HB := n2_; clear n0_ n1_ n2_; (try clear hb); (try clear hb2); (try clear hk); (try clear hi)))
            go_meet
            case rel => exact ⟨_, (true), RFK, H', ⟨by have := HJ3.out; first | omega | exact Nat.le_refl _⟩, ⟨by (with_reducible repeat (first | refine blk_drewN ?_ _ | refine blk_drew ?_ | refine blk_alloc ?_ _)); exact BK393.out⟩, ⟨by (with_reducible repeat (first | refine blk_drewN ?_ _ | refine blk_drew ?_ | refine blk_alloc ?_ _)); exact BK395.out⟩, ⟨BWK⟩⟩
          · replace c20 := Bool.eq_false_iff.mpr c20
            subst c20
            have H1 := H; rw [if_neg (show ¬ (false = true) by decide)] at H1
            clear H
            have H := H1
            clear H1
            have H' := Aside0.mk H
            clear H
            have hnb24 := NB393_395.out
            have hnc24 := NB395_393.out
            have hcz25_0 := bc0 BK393.out
            have hcz25_1 := bc1 BK393.out
            have hcz25_2 := bc2 BK393.out
            have hcz25_3 := bc3 BK393.out
            have hcz25_4 := bc4 BK393.out
            have hcz25_5 := bc5 BK393.out
            have hcz25_6 := bc6 BK393.out
            have hcz25_7 := bc7 BK393.out
            have hcz25_8 := bc8 BK393.out
            have hcz25_9 := bc9 BK393.out
            have hfz25_0 := blk_frozen BK393.out 0
            have hfz25_1 := blk_frozen BK393.out 1
            have hfz25_2 := blk_frozen BK393.out 2
            have hfz25_3 := blk_frozen BK393.out 3
            have hfz25_4 := blk_frozen BK393.out 4
            have hfz25_5 := blk_frozen BK393.out 5
            have hfz25_6 := blk_frozen BK393.out 6
            have hfz25_7 := blk_frozen BK393.out 7
            have hfz25_8 := blk_frozen BK393.out 8
            have hfz25_9 := blk_frozen BK393.out 9
            go_wp2_with (first | ((with_reducible refine gate_callee (f := 11) rfl ?_); refine goesL_ (some 31) rfl rfl Tryd.func11 (by kernel_rfl) rfl #[.agg #[.string t382, .string t383, .string t384, .string t385, .int .i64 t386, .string t387, .bool t388, .string t389, .bool t390, .string t391]] rfl GAK ?_; (with_reducible refine (parapetref9_Secure.calls kj3 t382 t383 t384 t385 t386 t387 t388 t389 t390 t391 false _ A19.out).mono ?_); rintro e w26 ⟨rfl, hb⟩; refine ⟨_, rfl, ?_⟩; have n0_ := Aside0.mk (blk_below (g := gb393) (o := .cells #[.string t382, .string t383, .string t384, .string t385, .int .i64 t386, .string t387, .bool t388, .string t389, .bool t390, .string t391] 23 (0, 0)) BLK hb); have n1_ := Aside0.mk (blk_below (g := gb395) (o := .cells #[.string (⟨#[104, 116, 116, 112, 115]⟩ : ByteArray), .string (⟨#[97]⟩ : ByteArray), .int .i64 443] 29 (0, 0)) BLK hb); have n2_ := Aside0.mk (below_step BWK hb); clear BK393; clear BK395; clear HB; have BK393 := n0_; have BK395 := n1_; have HB := n2_; clear n0_ n1_ n2_; (try clear hb); (try clear hb2); (try clear hk); (try clear hi)))
            go_meet
            case rel => exact ⟨_, ((a1.toList == ([100, 111, 99, 117, 109, 101, 110, 116] : List UInt8))), RFK, H', ⟨by have := HJ3.out; first | omega | exact Nat.le_refl _⟩, ⟨by (with_reducible repeat (first | refine blk_drewN ?_ _ | refine blk_drew ?_ | refine blk_alloc ?_ _)); exact BK393.out⟩, ⟨by (with_reducible repeat (first | refine blk_drewN ?_ _ | refine blk_drew ?_ | refine blk_alloc ?_ _)); exact BK395.out⟩, ⟨BWK⟩⟩
        case rest =>
          clear HC13
          try clear c1
          try clear c2
          try clear p2
          try clear c4
          try clear c8
          try clear c9
          try clear c10
          try clear c11
          try clear c15
          try clear c20
          try clear c21
          try clear c24
          try clear hcz16_0
          try clear hcz16_1
          try clear hcz16_2
          try clear hcz17_0
          try clear hcz17_1
          try clear hcz17_2
          try clear hcz17_3
          try clear hcz17_4
          try clear hcz17_5
          try clear hcz17_6
          try clear hcz17_7
          try clear hcz17_8
          try clear hcz17_9
          try clear hcz22_0
          try clear hcz22_1
          try clear hcz22_2
          try clear hcz22_3
          try clear hcz22_4
          try clear hcz22_5
          try clear hcz22_6
          try clear hcz22_7
          try clear hcz22_8
          try clear hcz22_9
          try clear hcz25_0
          try clear hcz25_1
          try clear hcz25_2
          try clear hcz25_3
          try clear hcz25_4
          try clear hcz25_5
          try clear hcz25_6
          try clear hcz25_7
          try clear hcz25_8
          try clear hcz25_9
          try clear hcz7_0
          try clear hcz7_1
          try clear hcz7_2
          try clear hcz7_3
          try clear hcz7_4
          try clear hcz7_5
          try clear hcz7_6
          try clear hcz7_7
          try clear hcz7_8
          try clear hcz7_9
          try clear hfz16_0
          try clear hfz16_1
          try clear hfz16_2
          try clear hfz17_0
          try clear hfz17_1
          try clear hfz17_2
          try clear hfz17_3
          try clear hfz17_4
          try clear hfz17_5
          try clear hfz17_6
          try clear hfz17_7
          try clear hfz17_8
          try clear hfz17_9
          try clear hfz22_0
          try clear hfz22_1
          try clear hfz22_2
          try clear hfz22_3
          try clear hfz22_4
          try clear hfz22_5
          try clear hfz22_6
          try clear hfz22_7
          try clear hfz22_8
          try clear hfz22_9
          try clear hfz25_0
          try clear hfz25_1
          try clear hfz25_2
          try clear hfz25_3
          try clear hfz25_4
          try clear hfz25_5
          try clear hfz25_6
          try clear hfz25_7
          try clear hfz25_8
          try clear hfz25_9
          try clear hfz7_0
          try clear hfz7_1
          try clear hfz7_2
          try clear hfz7_3
          try clear hfz7_4
          try clear hfz7_5
          try clear hfz7_6
          try clear hfz7_7
          try clear hfz7_8
          try clear hfz7_9
          try clear p2
          obtain ⟨kq, x35_12, rfl, HA, HJ12, BK393, BK395, HB⟩ := hcut
          cases kq with
          | zero => exact absurd HA.out (by simp [parapetlaw18_MixedSafe.j1])
          | succ kj12 =>
            have H := HA.out
            clear HA
            simp only [parapetlaw18_MixedSafe.j1] at H
            by_cases c27 : x35_12 = true
            · subst c27
              have H1 := H; rw [if_pos rfl] at H1
              clear H
              have H := H1
              clear H1
              by_cases c28 : t396 = 0
              · rw [if_pos c28] at H
                have c28b0 : (t396 == 0) = true := beq_iff_eq.mpr c28
                have c28b1 : (t396 != 0) = false := bne_eq_false_iff_eq.mpr c28
                clear c28
                replace H := Option.bind_eq_some_iff.mp H
                obtain ⟨t398, A290, H⟩ := H
                (try dsimp only at H)
                have A29 := Aside0.mk A290
                clear A290
                obtain rfl := Option.some.inj H
                go_wp2_with (first | (go_at_call 9; (with_reducible refine (parapetlaw18_awake.calls kj12  t398 _ A29.out).mono ?_); rintro e w30 ⟨rfl, hb⟩; have n0_ := Aside0.mk (blk_below (g := gb393) (o := .cells #[.string t382, .string t383, .string t384, .string t385, .int .i64 t386, .string t387, .bool t388, .string t389, .bool t390, .string t391] 23 (0, 0)) BLK hb); have n1_ := Aside0.mk (blk_below (g := gb395) (o := .cells #[.string (⟨#[104, 116, 116, 112, 115]⟩ : ByteArray), .string (⟨#[97]⟩ : ByteArray), .int .i64 443] 29 (0, 0)) BLK hb); have n2_ := Aside0.mk (below_step BWK hb); clear BK393; clear BK395; clear HB; have BK393 := n0_; have BK395 := n1_; have HB := n2_; clear n0_ n1_ n2_; (try clear hb); (try clear hb2); (try clear hk); (try clear hi)))
                go_ret
                exact ⟨ERK, BWK⟩
              · rw [if_neg c28] at H
                have c28b0 : (t396 == 0) = false := beq_eq_false_iff_ne.mpr c28
                have c28b1 : (t396 != 0) = true := bne_iff_ne.mpr c28
                obtain rfl := Option.some.inj H
                go_wp2
                go_ret
                exact ⟨ERK, BWK⟩
            · replace c27 := Bool.eq_false_iff.mpr c27
              subst c27
              have H1 := H; rw [if_neg (show ¬ (false = true) by decide)] at H1
              clear H
              have H := H1
              clear H1
              by_cases c31 : a1.toList = ([105, 109, 97, 103, 101] : List UInt8)
              · rw [if_pos c31] at H
                have c31b0 : (a1.toList == ([105, 109, 97, 103, 101] : List UInt8)) = true := beq_iff_eq.mpr c31
                have c31b1 : (a1.toList != ([105, 109, 97, 103, 101] : List UInt8)) = false := bne_eq_false_iff_eq.mpr c31
                clear c31
                replace H := Option.bind_eq_some_iff.mp H
                obtain ⟨⟨t399, t400⟩, A320, H⟩ := H
                (try dsimp only at H)
                have A32 := Aside0.mk A320
                clear A320
                by_cases c33 : ((t396 == 1) == (!t400)) = true
                · rw [if_pos c33] at H
                  have c33b0 : ((t396 == 1) == (!t400)) = true := c33
                  (try (have c33b1 : decide ((t396 == 1) = (!t400)) = true := by simpa using c33))
                  (try (have c33b2 : ((t396 == 1) == (!t400)) = true := by simpa using c33))
                  clear c33
                  by_cases c34 : t396 = 0
                  · rw [if_pos c34] at H
                    have c34b0 : (t396 == 0) = true := beq_iff_eq.mpr c34
                    have c34b1 : (t396 != 0) = false := bne_eq_false_iff_eq.mpr c34
                    clear c34
                    obtain rfl := Option.some.inj H
                    have hnb35 := NB393_395.out
                    have hnc35 := NB395_393.out
                    have hcz36_0 := bc0 BK393.out
                    have hcz36_1 := bc1 BK393.out
                    have hcz36_2 := bc2 BK393.out
                    have hcz36_3 := bc3 BK393.out
                    have hcz36_4 := bc4 BK393.out
                    have hcz36_5 := bc5 BK393.out
                    have hcz36_6 := bc6 BK393.out
                    have hcz36_7 := bc7 BK393.out
                    have hcz36_8 := bc8 BK393.out
                    have hcz36_9 := bc9 BK393.out
                    have hfz36_0 := blk_frozen BK393.out 0
                    have hfz36_1 := blk_frozen BK393.out 1
                    have hfz36_2 := blk_frozen BK393.out 2
                    have hfz36_3 := blk_frozen BK393.out 3
                    have hfz36_4 := blk_frozen BK393.out 4
                    have hfz36_5 := blk_frozen BK393.out 5
                    have hfz36_6 := blk_frozen BK393.out 6
                    have hfz36_7 := blk_frozen BK393.out 7
                    have hfz36_8 := blk_frozen BK393.out 8
                    have hfz36_9 := blk_frozen BK393.out 9
                    go_wp2_with (first | ((with_reducible refine gate_callee (f := 12) rfl ?_); refine goesL_ (some 54) rfl rfl Tryd.func12 (by kernel_rfl) rfl #[.string t385] rfl GAK ?_; (with_reducible refine (parapetref9_IsAddress.calls kj12 t385 t399 t400 _ A32.out).mono ?_); rintro e w37 ⟨rfl, hb⟩; refine ⟨_, rfl, ?_⟩; have n0_ := Aside0.mk (blk_below (g := gb393) (o := .cells #[.string t382, .string t383, .string t384, .string t385, .int .i64 t386, .string t387, .bool t388, .string t389, .bool t390, .string t391] 23 (0, 0)) BLK hb); have n1_ := Aside0.mk (blk_below (g := gb395) (o := .cells #[.string (⟨#[104, 116, 116, 112, 115]⟩ : ByteArray), .string (⟨#[97]⟩ : ByteArray), .int .i64 443] 29 (0, 0)) BLK hb); have n2_ := Aside0.mk (below_step BWK hb); clear BK393; clear BK395; clear HB; have BK393 := n0_; have BK395 := n1_; have HB := n2_; clear n0_ n1_ n2_; (try clear hb); (try clear hb2); (try clear hk); (try clear hi)))
                    go_ret
                    exact ⟨ERK, BWK⟩
                  · rw [if_neg c34] at H
                    have c34b0 : (t396 == 0) = false := beq_eq_false_iff_ne.mpr c34
                    have c34b1 : (t396 != 0) = true := bne_iff_ne.mpr c34
                    replace H := Option.bind_eq_some_iff.mp H
                    obtain ⟨t401, A380, H⟩ := H
                    (try dsimp only at H)
                    have A38 := Aside0.mk A380
                    clear A380
                    obtain rfl := Option.some.inj H
                    have hnb39 := NB393_395.out
                    have hnc39 := NB395_393.out
                    have hcz40_0 := bc0 BK393.out
                    have hcz40_1 := bc1 BK393.out
                    have hcz40_2 := bc2 BK393.out
                    have hcz40_3 := bc3 BK393.out
                    have hcz40_4 := bc4 BK393.out
                    have hcz40_5 := bc5 BK393.out
                    have hcz40_6 := bc6 BK393.out
                    have hcz40_7 := bc7 BK393.out
                    have hcz40_8 := bc8 BK393.out
                    have hcz40_9 := bc9 BK393.out
                    have hfz40_0 := blk_frozen BK393.out 0
                    have hfz40_1 := blk_frozen BK393.out 1
                    have hfz40_2 := blk_frozen BK393.out 2
                    have hfz40_3 := blk_frozen BK393.out 3
                    have hfz40_4 := blk_frozen BK393.out 4
                    have hfz40_5 := blk_frozen BK393.out 5
                    have hfz40_6 := blk_frozen BK393.out 6
                    have hfz40_7 := blk_frozen BK393.out 7
                    have hfz40_8 := blk_frozen BK393.out 8
                    have hfz40_9 := blk_frozen BK393.out 9
                    go_wp2_with (first | ((with_reducible refine gate_callee (f := 12) rfl ?_); refine goesL_ (some 54) rfl rfl Tryd.func12 (by kernel_rfl) rfl #[.string t385] rfl GAK ?_; (with_reducible refine (parapetref9_IsAddress.calls kj12 t385 t399 t400 _ A32.out).mono ?_); rintro e w41 ⟨rfl, hb⟩; refine ⟨_, rfl, ?_⟩; have n0_ := Aside0.mk (blk_below (g := gb393) (o := .cells #[.string t382, .string t383, .string t384, .string t385, .int .i64 t386, .string t387, .bool t388, .string t389, .bool t390, .string t391] 23 (0, 0)) BLK hb); have n1_ := Aside0.mk (blk_below (g := gb395) (o := .cells #[.string (⟨#[104, 116, 116, 112, 115]⟩ : ByteArray), .string (⟨#[97]⟩ : ByteArray), .int .i64 443] 29 (0, 0)) BLK hb); have n2_ := Aside0.mk (below_step BWK hb); clear BK393; clear BK395; clear HB; have BK393 := n0_; have BK395 := n1_; have HB := n2_; clear n0_ n1_ n2_; (try clear hb); (try clear hb2); (try clear hk); (try clear hi)) | (go_at_call 9; (with_reducible refine (parapetlaw18_awake.calls kj12  t401 _ A38.out).mono ?_); rintro e w42 ⟨rfl, hb⟩; have n0_ := Aside0.mk (blk_below (g := gb393) (o := .cells #[.string t382, .string t383, .string t384, .string t385, .int .i64 t386, .string t387, .bool t388, .string t389, .bool t390, .string t391] 23 (0, 0)) BLK hb); have n1_ := Aside0.mk (blk_below (g := gb395) (o := .cells #[.string (⟨#[104, 116, 116, 112, 115]⟩ : ByteArray), .string (⟨#[97]⟩ : ByteArray), .int .i64 443] 29 (0, 0)) BLK hb); have n2_ := Aside0.mk (below_step BWK hb); clear BK393; clear BK395; clear HB; have BK393 := n0_; have BK395 := n1_; have HB := n2_; clear n0_ n1_ n2_; (try clear hb); (try clear hb2); (try clear hk); (try clear hi)))
                    go_ret
                    exact ⟨ERK, BWK⟩
                · rw [if_neg c33] at H
                  have c33b0 : ((t396 == 1) == (!t400)) = false := by simpa using c33
                  (try (have c33b1 : decide ((t396 == 1) = (!t400)) = false := by simpa using c33))
                  (try (have c33b2 : ((t396 == 1) == (!t400)) = false := by simpa using c33))
                  (try (have c33b3 : ¬ ((t396 == 1) = (!t400)) := by simpa using c33))
                  clear c33
                  obtain rfl := Option.some.inj H
                  have hnb43 := NB393_395.out
                  have hnc43 := NB395_393.out
                  have hcz44_0 := bc0 BK393.out
                  have hcz44_1 := bc1 BK393.out
                  have hcz44_2 := bc2 BK393.out
                  have hcz44_3 := bc3 BK393.out
                  have hcz44_4 := bc4 BK393.out
                  have hcz44_5 := bc5 BK393.out
                  have hcz44_6 := bc6 BK393.out
                  have hcz44_7 := bc7 BK393.out
                  have hcz44_8 := bc8 BK393.out
                  have hcz44_9 := bc9 BK393.out
                  have hfz44_0 := blk_frozen BK393.out 0
                  have hfz44_1 := blk_frozen BK393.out 1
                  have hfz44_2 := blk_frozen BK393.out 2
                  have hfz44_3 := blk_frozen BK393.out 3
                  have hfz44_4 := blk_frozen BK393.out 4
                  have hfz44_5 := blk_frozen BK393.out 5
                  have hfz44_6 := blk_frozen BK393.out 6
                  have hfz44_7 := blk_frozen BK393.out 7
                  have hfz44_8 := blk_frozen BK393.out 8
                  have hfz44_9 := blk_frozen BK393.out 9
                  go_wp2_with (first | ((with_reducible refine gate_callee (f := 12) rfl ?_); refine goesL_ (some 54) rfl rfl Tryd.func12 (by kernel_rfl) rfl #[.string t385] rfl GAK ?_; (with_reducible refine (parapetref9_IsAddress.calls kj12 t385 t399 t400 _ A32.out).mono ?_); rintro e w45 ⟨rfl, hb⟩; refine ⟨_, rfl, ?_⟩; have n0_ := Aside0.mk (blk_below (g := gb393) (o := .cells #[.string t382, .string t383, .string t384, .string t385, .int .i64 t386, .string t387, .bool t388, .string t389, .bool t390, .string t391] 23 (0, 0)) BLK hb); have n1_ := Aside0.mk (blk_below (g := gb395) (o := .cells #[.string (⟨#[104, 116, 116, 112, 115]⟩ : ByteArray), .string (⟨#[97]⟩ : ByteArray), .int .i64 443] 29 (0, 0)) BLK hb); have n2_ := Aside0.mk (below_step BWK hb); clear BK393; clear BK395; clear HB; have BK393 := n0_; have BK395 := n1_; have HB := n2_; clear n0_ n1_ n2_; (try clear hb); (try clear hb2); (try clear hk); (try clear hi)))
                  go_ret
                  exact ⟨ERK, BWK⟩
              · rw [if_neg c31] at H
                have c31b0 : (a1.toList == ([105, 109, 97, 103, 101] : List UInt8)) = false := beq_eq_false_iff_ne.mpr c31
                have c31b1 : (a1.toList != ([105, 109, 97, 103, 101] : List UInt8)) = true := bne_iff_ne.mpr c31
                by_cases c46 : a1.toList = ([97, 117, 100, 105, 111] : List UInt8)
                · rw [if_pos c46] at H
                  have c46b0 : (a1.toList == ([97, 117, 100, 105, 111] : List UInt8)) = true := beq_iff_eq.mpr c46
                  have c46b1 : (a1.toList != ([97, 117, 100, 105, 111] : List UInt8)) = false := bne_eq_false_iff_eq.mpr c46
                  clear c46
                  replace H := Option.bind_eq_some_iff.mp H
                  obtain ⟨⟨t402, t403⟩, A470, H⟩ := H
                  (try dsimp only at H)
                  have A47 := Aside0.mk A470
                  clear A470
                  by_cases c48 : ((t396 == 1) == (!t403)) = true
                  · rw [if_pos c48] at H
                    have c48b0 : ((t396 == 1) == (!t403)) = true := c48
                    (try (have c48b1 : decide ((t396 == 1) = (!t403)) = true := by simpa using c48))
                    (try (have c48b2 : ((t396 == 1) == (!t403)) = true := by simpa using c48))
                    clear c48
                    by_cases c49 : t396 = 0
                    · rw [if_pos c49] at H
                      have c49b0 : (t396 == 0) = true := beq_iff_eq.mpr c49
                      have c49b1 : (t396 != 0) = false := bne_eq_false_iff_eq.mpr c49
                      clear c49
                      obtain rfl := Option.some.inj H
                      have hnb50 := NB393_395.out
                      have hnc50 := NB395_393.out
                      have hcz51_0 := bc0 BK393.out
                      have hcz51_1 := bc1 BK393.out
                      have hcz51_2 := bc2 BK393.out
                      have hcz51_3 := bc3 BK393.out
                      have hcz51_4 := bc4 BK393.out
                      have hcz51_5 := bc5 BK393.out
                      have hcz51_6 := bc6 BK393.out
                      have hcz51_7 := bc7 BK393.out
                      have hcz51_8 := bc8 BK393.out
                      have hcz51_9 := bc9 BK393.out
                      have hfz51_0 := blk_frozen BK393.out 0
                      have hfz51_1 := blk_frozen BK393.out 1
                      have hfz51_2 := blk_frozen BK393.out 2
                      have hfz51_3 := blk_frozen BK393.out 3
                      have hfz51_4 := blk_frozen BK393.out 4
                      have hfz51_5 := blk_frozen BK393.out 5
                      have hfz51_6 := blk_frozen BK393.out 6
                      have hfz51_7 := blk_frozen BK393.out 7
                      have hfz51_8 := blk_frozen BK393.out 8
                      have hfz51_9 := blk_frozen BK393.out 9
                      go_wp2_with (first | ((with_reducible refine gate_callee (f := 12) rfl ?_); refine goesL_ (some 54) rfl rfl Tryd.func12 (by kernel_rfl) rfl #[.string t385] rfl GAK ?_; (with_reducible refine (parapetref9_IsAddress.calls kj12 t385 t402 t403 _ A47.out).mono ?_); rintro e w52 ⟨rfl, hb⟩; refine ⟨_, rfl, ?_⟩; have n0_ := Aside0.mk (blk_below (g := gb393) (o := .cells #[.string t382, .string t383, .string t384, .string t385, .int .i64 t386, .string t387, .bool t388, .string t389, .bool t390, .string t391] 23 (0, 0)) BLK hb); have n1_ := Aside0.mk (blk_below (g := gb395) (o := .cells #[.string (⟨#[104, 116, 116, 112, 115]⟩ : ByteArray), .string (⟨#[97]⟩ : ByteArray), .int .i64 443] 29 (0, 0)) BLK hb); have n2_ := Aside0.mk (below_step BWK hb); clear BK393; clear BK395; clear HB; have BK393 := n0_; have BK395 := n1_; have HB := n2_; clear n0_ n1_ n2_; (try clear hb); (try clear hb2); (try clear hk); (try clear hi)))
                      go_ret
                      exact ⟨ERK, BWK⟩
                    · rw [if_neg c49] at H
                      have c49b0 : (t396 == 0) = false := beq_eq_false_iff_ne.mpr c49
                      have c49b1 : (t396 != 0) = true := bne_iff_ne.mpr c49
                      replace H := Option.bind_eq_some_iff.mp H
                      obtain ⟨t404, A530, H⟩ := H
                      (try dsimp only at H)
                      have A53 := Aside0.mk A530
                      clear A530
                      obtain rfl := Option.some.inj H
                      have hnb54 := NB393_395.out
                      have hnc54 := NB395_393.out
                      have hcz55_0 := bc0 BK393.out
                      have hcz55_1 := bc1 BK393.out
                      have hcz55_2 := bc2 BK393.out
                      have hcz55_3 := bc3 BK393.out
                      have hcz55_4 := bc4 BK393.out
                      have hcz55_5 := bc5 BK393.out
                      have hcz55_6 := bc6 BK393.out
                      have hcz55_7 := bc7 BK393.out
                      have hcz55_8 := bc8 BK393.out
                      have hcz55_9 := bc9 BK393.out
                      have hfz55_0 := blk_frozen BK393.out 0
                      have hfz55_1 := blk_frozen BK393.out 1
                      have hfz55_2 := blk_frozen BK393.out 2
                      have hfz55_3 := blk_frozen BK393.out 3
                      have hfz55_4 := blk_frozen BK393.out 4
                      have hfz55_5 := blk_frozen BK393.out 5
                      have hfz55_6 := blk_frozen BK393.out 6
                      have hfz55_7 := blk_frozen BK393.out 7
                      have hfz55_8 := blk_frozen BK393.out 8
                      have hfz55_9 := blk_frozen BK393.out 9
                      go_wp2_with (first | ((with_reducible refine gate_callee (f := 12) rfl ?_); refine goesL_ (some 54) rfl rfl Tryd.func12 (by kernel_rfl) rfl #[.string t385] rfl GAK ?_; (with_reducible refine (parapetref9_IsAddress.calls kj12 t385 t402 t403 _ A47.out).mono ?_); rintro e w56 ⟨rfl, hb⟩; refine ⟨_, rfl, ?_⟩; have n0_ := Aside0.mk (blk_below (g := gb393) (o := .cells #[.string t382, .string t383, .string t384, .string t385, .int .i64 t386, .string t387, .bool t388, .string t389, .bool t390, .string t391] 23 (0, 0)) BLK hb); have n1_ := Aside0.mk (blk_below (g := gb395) (o := .cells #[.string (⟨#[104, 116, 116, 112, 115]⟩ : ByteArray), .string (⟨#[97]⟩ : ByteArray), .int .i64 443] 29 (0, 0)) BLK hb); have n2_ := Aside0.mk (below_step BWK hb); clear BK393; clear BK395; clear HB; have BK393 := n0_; have BK395 := n1_; have HB := n2_; clear n0_ n1_ n2_; (try clear hb); (try clear hb2); (try clear hk); (try clear hi)) | (go_at_call 9; (with_reducible refine (parapetlaw18_awake.calls kj12  t404 _ A53.out).mono ?_); rintro e w57 ⟨rfl, hb⟩; have n0_ := Aside0.mk (blk_below (g := gb393) (o := .cells #[.string t382, .string t383, .string t384, .string t385, .int .i64 t386, .string t387, .bool t388, .string t389, .bool t390, .string t391] 23 (0, 0)) BLK hb); have n1_ := Aside0.mk (blk_below (g := gb395) (o := .cells #[.string (⟨#[104, 116, 116, 112, 115]⟩ : ByteArray), .string (⟨#[97]⟩ : ByteArray), .int .i64 443] 29 (0, 0)) BLK hb); have n2_ := Aside0.mk (below_step BWK hb); clear BK393; clear BK395; clear HB; have BK393 := n0_; have BK395 := n1_; have HB := n2_; clear n0_ n1_ n2_; (try clear hb); (try clear hb2); (try clear hk); (try clear hi)))
                      go_ret
                      exact ⟨ERK, BWK⟩
                  · rw [if_neg c48] at H
                    have c48b0 : ((t396 == 1) == (!t403)) = false := by simpa using c48
                    (try (have c48b1 : decide ((t396 == 1) = (!t403)) = false := by simpa using c48))
                    (try (have c48b2 : ((t396 == 1) == (!t403)) = false := by simpa using c48))
                    (try (have c48b3 : ¬ ((t396 == 1) = (!t403)) := by simpa using c48))
                    clear c48
                    obtain rfl := Option.some.inj H
                    have hnb58 := NB393_395.out
                    have hnc58 := NB395_393.out
                    have hcz59_0 := bc0 BK393.out
                    have hcz59_1 := bc1 BK393.out
                    have hcz59_2 := bc2 BK393.out
                    have hcz59_3 := bc3 BK393.out
                    have hcz59_4 := bc4 BK393.out
                    have hcz59_5 := bc5 BK393.out
                    have hcz59_6 := bc6 BK393.out
                    have hcz59_7 := bc7 BK393.out
                    have hcz59_8 := bc8 BK393.out
                    have hcz59_9 := bc9 BK393.out
                    have hfz59_0 := blk_frozen BK393.out 0
                    have hfz59_1 := blk_frozen BK393.out 1
                    have hfz59_2 := blk_frozen BK393.out 2
                    have hfz59_3 := blk_frozen BK393.out 3
                    have hfz59_4 := blk_frozen BK393.out 4
                    have hfz59_5 := blk_frozen BK393.out 5
                    have hfz59_6 := blk_frozen BK393.out 6
                    have hfz59_7 := blk_frozen BK393.out 7
                    have hfz59_8 := blk_frozen BK393.out 8
                    have hfz59_9 := blk_frozen BK393.out 9
                    go_wp2_with (first | ((with_reducible refine gate_callee (f := 12) rfl ?_); refine goesL_ (some 54) rfl rfl Tryd.func12 (by kernel_rfl) rfl #[.string t385] rfl GAK ?_; (with_reducible refine (parapetref9_IsAddress.calls kj12 t385 t402 t403 _ A47.out).mono ?_); rintro e w60 ⟨rfl, hb⟩; refine ⟨_, rfl, ?_⟩; have n0_ := Aside0.mk (blk_below (g := gb393) (o := .cells #[.string t382, .string t383, .string t384, .string t385, .int .i64 t386, .string t387, .bool t388, .string t389, .bool t390, .string t391] 23 (0, 0)) BLK hb); have n1_ := Aside0.mk (blk_below (g := gb395) (o := .cells #[.string (⟨#[104, 116, 116, 112, 115]⟩ : ByteArray), .string (⟨#[97]⟩ : ByteArray), .int .i64 443] 29 (0, 0)) BLK hb); have n2_ := Aside0.mk (below_step BWK hb); clear BK393; clear BK395; clear HB; have BK393 := n0_; have BK395 := n1_; have HB := n2_; clear n0_ n1_ n2_; (try clear hb); (try clear hb2); (try clear hk); (try clear hi)))
                    go_ret
                    exact ⟨ERK, BWK⟩
                · rw [if_neg c46] at H
                  have c46b0 : (a1.toList == ([97, 117, 100, 105, 111] : List UInt8)) = false := beq_eq_false_iff_ne.mpr c46
                  have c46b1 : (a1.toList != ([97, 117, 100, 105, 111] : List UInt8)) = true := bne_iff_ne.mpr c46
                  replace H := Option.bind_eq_some_iff.mp H
                  obtain ⟨⟨t405, t406⟩, A610, H⟩ := H
                  (try dsimp only at H)
                  have A61 := Aside0.mk A610
                  clear A610
                  by_cases c62 : a1.toList = ([118, 105, 100, 101, 111] : List UInt8)
                  · rw [if_pos c62] at H
                    have c62b0 : (a1.toList == ([118, 105, 100, 101, 111] : List UInt8)) = true := beq_iff_eq.mpr c62
                    have c62b1 : (a1.toList != ([118, 105, 100, 101, 111] : List UInt8)) = false := bne_eq_false_iff_eq.mpr c62
                    clear c62
                    by_cases c63 : ((t396 == 1) == (!t406)) = true
                    · rw [if_pos c63] at H
                      have c63b0 : ((t396 == 1) == (!t406)) = true := c63
                      (try (have c63b1 : decide ((t396 == 1) = (!t406)) = true := by simpa using c63))
                      (try (have c63b2 : ((t396 == 1) == (!t406)) = true := by simpa using c63))
                      clear c63
                      by_cases c64 : t396 = 0
                      · rw [if_pos c64] at H
                        have c64b0 : (t396 == 0) = true := beq_iff_eq.mpr c64
                        have c64b1 : (t396 != 0) = false := bne_eq_false_iff_eq.mpr c64
                        clear c64
                        obtain rfl := Option.some.inj H
                        have hnb65 := NB393_395.out
                        have hnc65 := NB395_393.out
                        have hcz66_0 := bc0 BK393.out
                        have hcz66_1 := bc1 BK393.out
                        have hcz66_2 := bc2 BK393.out
                        have hcz66_3 := bc3 BK393.out
                        have hcz66_4 := bc4 BK393.out
                        have hcz66_5 := bc5 BK393.out
                        have hcz66_6 := bc6 BK393.out
                        have hcz66_7 := bc7 BK393.out
                        have hcz66_8 := bc8 BK393.out
                        have hcz66_9 := bc9 BK393.out
                        have hfz66_0 := blk_frozen BK393.out 0
                        have hfz66_1 := blk_frozen BK393.out 1
                        have hfz66_2 := blk_frozen BK393.out 2
                        have hfz66_3 := blk_frozen BK393.out 3
                        have hfz66_4 := blk_frozen BK393.out 4
                        have hfz66_5 := blk_frozen BK393.out 5
                        have hfz66_6 := blk_frozen BK393.out 6
                        have hfz66_7 := blk_frozen BK393.out 7
                        have hfz66_8 := blk_frozen BK393.out 8
                        have hfz66_9 := blk_frozen BK393.out 9
                        go_wp2_with (first | ((with_reducible refine gate_callee (f := 12) rfl ?_); refine goesL_ (some 54) rfl rfl Tryd.func12 (by kernel_rfl) rfl #[.string t385] rfl GAK ?_; (with_reducible refine (parapetref9_IsAddress.calls kj12 t385 t405 t406 _ A61.out).mono ?_); rintro e w67 ⟨rfl, hb⟩; refine ⟨_, rfl, ?_⟩; have n0_ := Aside0.mk (blk_below (g := gb393) (o := .cells #[.string t382, .string t383, .string t384, .string t385, .int .i64 t386, .string t387, .bool t388, .string t389, .bool t390, .string t391] 23 (0, 0)) BLK hb); have n1_ := Aside0.mk (blk_below (g := gb395) (o := .cells #[.string (⟨#[104, 116, 116, 112, 115]⟩ : ByteArray), .string (⟨#[97]⟩ : ByteArray), .int .i64 443] 29 (0, 0)) BLK hb); have n2_ := Aside0.mk (below_step BWK hb); clear BK393; clear BK395; clear HB; have BK393 := n0_; have BK395 := n1_; have HB := n2_; clear n0_ n1_ n2_; (try clear hb); (try clear hb2); (try clear hk); (try clear hi)))
                        go_ret
                        exact ⟨ERK, BWK⟩
                      · rw [if_neg c64] at H
                        have c64b0 : (t396 == 0) = false := beq_eq_false_iff_ne.mpr c64
                        have c64b1 : (t396 != 0) = true := bne_iff_ne.mpr c64
                        replace H := Option.bind_eq_some_iff.mp H
                        obtain ⟨t407, A680, H⟩ := H
                        (try dsimp only at H)
                        have A68 := Aside0.mk A680
                        clear A680
                        obtain rfl := Option.some.inj H
                        have hnb69 := NB393_395.out
                        have hnc69 := NB395_393.out
                        have hcz70_0 := bc0 BK393.out
                        have hcz70_1 := bc1 BK393.out
                        have hcz70_2 := bc2 BK393.out
                        have hcz70_3 := bc3 BK393.out
                        have hcz70_4 := bc4 BK393.out
                        have hcz70_5 := bc5 BK393.out
                        have hcz70_6 := bc6 BK393.out
                        have hcz70_7 := bc7 BK393.out
                        have hcz70_8 := bc8 BK393.out
                        have hcz70_9 := bc9 BK393.out
                        have hfz70_0 := blk_frozen BK393.out 0
                        have hfz70_1 := blk_frozen BK393.out 1
                        have hfz70_2 := blk_frozen BK393.out 2
                        have hfz70_3 := blk_frozen BK393.out 3
                        have hfz70_4 := blk_frozen BK393.out 4
                        have hfz70_5 := blk_frozen BK393.out 5
                        have hfz70_6 := blk_frozen BK393.out 6
                        have hfz70_7 := blk_frozen BK393.out 7
                        have hfz70_8 := blk_frozen BK393.out 8
                        have hfz70_9 := blk_frozen BK393.out 9
                        go_wp2_with (first | ((with_reducible refine gate_callee (f := 12) rfl ?_); refine goesL_ (some 54) rfl rfl Tryd.func12 (by kernel_rfl) rfl #[.string t385] rfl GAK ?_; (with_reducible refine (parapetref9_IsAddress.calls kj12 t385 t405 t406 _ A61.out).mono ?_); rintro e w71 ⟨rfl, hb⟩; refine ⟨_, rfl, ?_⟩; have n0_ := Aside0.mk (blk_below (g := gb393) (o := .cells #[.string t382, .string t383, .string t384, .string t385, .int .i64 t386, .string t387, .bool t388, .string t389, .bool t390, .string t391] 23 (0, 0)) BLK hb); have n1_ := Aside0.mk (blk_below (g := gb395) (o := .cells #[.string (⟨#[104, 116, 116, 112, 115]⟩ : ByteArray), .string (⟨#[97]⟩ : ByteArray), .int .i64 443] 29 (0, 0)) BLK hb); have n2_ := Aside0.mk (below_step BWK hb); clear BK393; clear BK395; clear HB; have BK393 := n0_; have BK395 := n1_; have HB := n2_; clear n0_ n1_ n2_; (try clear hb); (try clear hb2); (try clear hk); (try clear hi)) | (go_at_call 9; (with_reducible refine (parapetlaw18_awake.calls kj12  t407 _ A68.out).mono ?_); rintro e w72 ⟨rfl, hb⟩; have n0_ := Aside0.mk (blk_below (g := gb393) (o := .cells #[.string t382, .string t383, .string t384, .string t385, .int .i64 t386, .string t387, .bool t388, .string t389, .bool t390, .string t391] 23 (0, 0)) BLK hb); have n1_ := Aside0.mk (blk_below (g := gb395) (o := .cells #[.string (⟨#[104, 116, 116, 112, 115]⟩ : ByteArray), .string (⟨#[97]⟩ : ByteArray), .int .i64 443] 29 (0, 0)) BLK hb); have n2_ := Aside0.mk (below_step BWK hb); clear BK393; clear BK395; clear HB; have BK393 := n0_; have BK395 := n1_; have HB := n2_; clear n0_ n1_ n2_; (try clear hb); (try clear hb2); (try clear hk); (try clear hi)))
                        go_ret
                        exact ⟨ERK, BWK⟩
                    · rw [if_neg c63] at H
                      have c63b0 : ((t396 == 1) == (!t406)) = false := by simpa using c63
                      (try (have c63b1 : decide ((t396 == 1) = (!t406)) = false := by simpa using c63))
                      (try (have c63b2 : ((t396 == 1) == (!t406)) = false := by simpa using c63))
                      (try (have c63b3 : ¬ ((t396 == 1) = (!t406)) := by simpa using c63))
                      clear c63
                      obtain rfl := Option.some.inj H
                      have hnb73 := NB393_395.out
                      have hnc73 := NB395_393.out
                      have hcz74_0 := bc0 BK393.out
                      have hcz74_1 := bc1 BK393.out
                      have hcz74_2 := bc2 BK393.out
                      have hcz74_3 := bc3 BK393.out
                      have hcz74_4 := bc4 BK393.out
                      have hcz74_5 := bc5 BK393.out
                      have hcz74_6 := bc6 BK393.out
                      have hcz74_7 := bc7 BK393.out
                      have hcz74_8 := bc8 BK393.out
                      have hcz74_9 := bc9 BK393.out
                      have hfz74_0 := blk_frozen BK393.out 0
                      have hfz74_1 := blk_frozen BK393.out 1
                      have hfz74_2 := blk_frozen BK393.out 2
                      have hfz74_3 := blk_frozen BK393.out 3
                      have hfz74_4 := blk_frozen BK393.out 4
                      have hfz74_5 := blk_frozen BK393.out 5
                      have hfz74_6 := blk_frozen BK393.out 6
                      have hfz74_7 := blk_frozen BK393.out 7
                      have hfz74_8 := blk_frozen BK393.out 8
                      have hfz74_9 := blk_frozen BK393.out 9
                      go_wp2_with (first | ((with_reducible refine gate_callee (f := 12) rfl ?_); refine goesL_ (some 54) rfl rfl Tryd.func12 (by kernel_rfl) rfl #[.string t385] rfl GAK ?_; (with_reducible refine (parapetref9_IsAddress.calls kj12 t385 t405 t406 _ A61.out).mono ?_); rintro e w75 ⟨rfl, hb⟩; refine ⟨_, rfl, ?_⟩; have n0_ := Aside0.mk (blk_below (g := gb393) (o := .cells #[.string t382, .string t383, .string t384, .string t385, .int .i64 t386, .string t387, .bool t388, .string t389, .bool t390, .string t391] 23 (0, 0)) BLK hb); have n1_ := Aside0.mk (blk_below (g := gb395) (o := .cells #[.string (⟨#[104, 116, 116, 112, 115]⟩ : ByteArray), .string (⟨#[97]⟩ : ByteArray), .int .i64 443] 29 (0, 0)) BLK hb); have n2_ := Aside0.mk (below_step BWK hb); clear BK393; clear BK395; clear HB; have BK393 := n0_; have BK395 := n1_; have HB := n2_; clear n0_ n1_ n2_; (try clear hb); (try clear hb2); (try clear hk); (try clear hi)))
                      go_ret
                      exact ⟨ERK, BWK⟩
                  · rw [if_neg c62] at H
                    have c62b0 : (a1.toList == ([118, 105, 100, 101, 111] : List UInt8)) = false := beq_eq_false_iff_ne.mpr c62
                    have c62b1 : (a1.toList != ([118, 105, 100, 101, 111] : List UInt8)) = true := bne_iff_ne.mpr c62
                    by_cases c76 : ((t396 == 1) == false) = true
                    · rw [if_pos c76] at H
                      have c76b0 : ((t396 == 1) == false) = true := c76
                      (try (have c76b1 : decide ((t396 == 1) = false) = true := by simpa using c76))
                      (try (have c76b2 : ((t396 == 1) == false) = true := by simpa using c76))
                      clear c76
                      by_cases c77 : t396 = 0
                      · rw [if_pos c77] at H
                        have c77b0 : (t396 == 0) = true := beq_iff_eq.mpr c77
                        have c77b1 : (t396 != 0) = false := bne_eq_false_iff_eq.mpr c77
                        clear c77
                        obtain rfl := Option.some.inj H
                        have hnb78 := NB393_395.out
                        have hnc78 := NB395_393.out
                        have hcz79_0 := bc0 BK393.out
                        have hcz79_1 := bc1 BK393.out
                        have hcz79_2 := bc2 BK393.out
                        have hcz79_3 := bc3 BK393.out
                        have hcz79_4 := bc4 BK393.out
                        have hcz79_5 := bc5 BK393.out
                        have hcz79_6 := bc6 BK393.out
                        have hcz79_7 := bc7 BK393.out
                        have hcz79_8 := bc8 BK393.out
                        have hcz79_9 := bc9 BK393.out
                        have hfz79_0 := blk_frozen BK393.out 0
                        have hfz79_1 := blk_frozen BK393.out 1
                        have hfz79_2 := blk_frozen BK393.out 2
                        have hfz79_3 := blk_frozen BK393.out 3
                        have hfz79_4 := blk_frozen BK393.out 4
                        have hfz79_5 := blk_frozen BK393.out 5
                        have hfz79_6 := blk_frozen BK393.out 6
                        have hfz79_7 := blk_frozen BK393.out 7
                        have hfz79_8 := blk_frozen BK393.out 8
                        have hfz79_9 := blk_frozen BK393.out 9
                        go_wp2_with (first | ((with_reducible refine gate_callee (f := 12) rfl ?_); refine goesL_ (some 54) rfl rfl Tryd.func12 (by kernel_rfl) rfl #[.string t385] rfl GAK ?_; (with_reducible refine (parapetref9_IsAddress.calls kj12 t385 t405 t406 _ A61.out).mono ?_); rintro e w80 ⟨rfl, hb⟩; refine ⟨_, rfl, ?_⟩; have n0_ := Aside0.mk (blk_below (g := gb393) (o := .cells #[.string t382, .string t383, .string t384, .string t385, .int .i64 t386, .string t387, .bool t388, .string t389, .bool t390, .string t391] 23 (0, 0)) BLK hb); have n1_ := Aside0.mk (blk_below (g := gb395) (o := .cells #[.string (⟨#[104, 116, 116, 112, 115]⟩ : ByteArray), .string (⟨#[97]⟩ : ByteArray), .int .i64 443] 29 (0, 0)) BLK hb); have n2_ := Aside0.mk (below_step BWK hb); clear BK393; clear BK395; clear HB; have BK393 := n0_; have BK395 := n1_; have HB := n2_; clear n0_ n1_ n2_; (try clear hb); (try clear hb2); (try clear hk); (try clear hi)))
                        go_ret
                        exact ⟨ERK, BWK⟩
                      · rw [if_neg c77] at H
                        have c77b0 : (t396 == 0) = false := beq_eq_false_iff_ne.mpr c77
                        have c77b1 : (t396 != 0) = true := bne_iff_ne.mpr c77
                        replace H := Option.bind_eq_some_iff.mp H
                        obtain ⟨t408, A810, H⟩ := H
                        (try dsimp only at H)
                        have A81 := Aside0.mk A810
                        clear A810
                        obtain rfl := Option.some.inj H
                        have hnb82 := NB393_395.out
                        have hnc82 := NB395_393.out
                        have hcz83_0 := bc0 BK393.out
                        have hcz83_1 := bc1 BK393.out
                        have hcz83_2 := bc2 BK393.out
                        have hcz83_3 := bc3 BK393.out
                        have hcz83_4 := bc4 BK393.out
                        have hcz83_5 := bc5 BK393.out
                        have hcz83_6 := bc6 BK393.out
                        have hcz83_7 := bc7 BK393.out
                        have hcz83_8 := bc8 BK393.out
                        have hcz83_9 := bc9 BK393.out
                        have hfz83_0 := blk_frozen BK393.out 0
                        have hfz83_1 := blk_frozen BK393.out 1
                        have hfz83_2 := blk_frozen BK393.out 2
                        have hfz83_3 := blk_frozen BK393.out 3
                        have hfz83_4 := blk_frozen BK393.out 4
                        have hfz83_5 := blk_frozen BK393.out 5
                        have hfz83_6 := blk_frozen BK393.out 6
                        have hfz83_7 := blk_frozen BK393.out 7
                        have hfz83_8 := blk_frozen BK393.out 8
                        have hfz83_9 := blk_frozen BK393.out 9
                        go_wp2_with (first | ((with_reducible refine gate_callee (f := 12) rfl ?_); refine goesL_ (some 54) rfl rfl Tryd.func12 (by kernel_rfl) rfl #[.string t385] rfl GAK ?_; (with_reducible refine (parapetref9_IsAddress.calls kj12 t385 t405 t406 _ A61.out).mono ?_); rintro e w84 ⟨rfl, hb⟩; refine ⟨_, rfl, ?_⟩; have n0_ := Aside0.mk (blk_below (g := gb393) (o := .cells #[.string t382, .string t383, .string t384, .string t385, .int .i64 t386, .string t387, .bool t388, .string t389, .bool t390, .string t391] 23 (0, 0)) BLK hb); have n1_ := Aside0.mk (blk_below (g := gb395) (o := .cells #[.string (⟨#[104, 116, 116, 112, 115]⟩ : ByteArray), .string (⟨#[97]⟩ : ByteArray), .int .i64 443] 29 (0, 0)) BLK hb); have n2_ := Aside0.mk (below_step BWK hb); clear BK393; clear BK395; clear HB; have BK393 := n0_; have BK395 := n1_; have HB := n2_; clear n0_ n1_ n2_; (try clear hb); (try clear hb2); (try clear hk); (try clear hi)) | (go_at_call 9; (with_reducible refine (parapetlaw18_awake.calls kj12  t408 _ A81.out).mono ?_); rintro e w85 ⟨rfl, hb⟩; have n0_ := Aside0.mk (blk_below (g := gb393) (o := .cells #[.string t382, .string t383, .string t384, .string t385, .int .i64 t386, .string t387, .bool t388, .string t389, .bool t390, .string t391] 23 (0, 0)) BLK hb); have n1_ := Aside0.mk (blk_below (g := gb395) (o := .cells #[.string (⟨#[104, 116, 116, 112, 115]⟩ : ByteArray), .string (⟨#[97]⟩ : ByteArray), .int .i64 443] 29 (0, 0)) BLK hb); have n2_ := Aside0.mk (below_step BWK hb); clear BK393; clear BK395; clear HB; have BK393 := n0_; have BK395 := n1_; have HB := n2_; clear n0_ n1_ n2_; (try clear hb); (try clear hb2); (try clear hk); (try clear hi)))
                        go_ret
                        exact ⟨ERK, BWK⟩
                    · rw [if_neg c76] at H
                      have c76b0 : ((t396 == 1) == false) = false := by simpa using c76
                      (try (have c76b1 : decide ((t396 == 1) = false) = false := by simpa using c76))
                      (try (have c76b2 : ((t396 == 1) == false) = false := by simpa using c76))
                      (try (have c76b3 : ¬ ((t396 == 1) = false) := by simpa using c76))
                      clear c76
                      obtain rfl := Option.some.inj H
                      have hnb86 := NB393_395.out
                      have hnc86 := NB395_393.out
                      have hcz87_0 := bc0 BK393.out
                      have hcz87_1 := bc1 BK393.out
                      have hcz87_2 := bc2 BK393.out
                      have hcz87_3 := bc3 BK393.out
                      have hcz87_4 := bc4 BK393.out
                      have hcz87_5 := bc5 BK393.out
                      have hcz87_6 := bc6 BK393.out
                      have hcz87_7 := bc7 BK393.out
                      have hcz87_8 := bc8 BK393.out
                      have hcz87_9 := bc9 BK393.out
                      have hfz87_0 := blk_frozen BK393.out 0
                      have hfz87_1 := blk_frozen BK393.out 1
                      have hfz87_2 := blk_frozen BK393.out 2
                      have hfz87_3 := blk_frozen BK393.out 3
                      have hfz87_4 := blk_frozen BK393.out 4
                      have hfz87_5 := blk_frozen BK393.out 5
                      have hfz87_6 := blk_frozen BK393.out 6
                      have hfz87_7 := blk_frozen BK393.out 7
                      have hfz87_8 := blk_frozen BK393.out 8
                      have hfz87_9 := blk_frozen BK393.out 9
                      go_wp2_with (first | ((with_reducible refine gate_callee (f := 12) rfl ?_); refine goesL_ (some 54) rfl rfl Tryd.func12 (by kernel_rfl) rfl #[.string t385] rfl GAK ?_; (with_reducible refine (parapetref9_IsAddress.calls kj12 t385 t405 t406 _ A61.out).mono ?_); rintro e w88 ⟨rfl, hb⟩; refine ⟨_, rfl, ?_⟩; have n0_ := Aside0.mk (blk_below (g := gb393) (o := .cells #[.string t382, .string t383, .string t384, .string t385, .int .i64 t386, .string t387, .bool t388, .string t389, .bool t390, .string t391] 23 (0, 0)) BLK hb); have n1_ := Aside0.mk (blk_below (g := gb395) (o := .cells #[.string (⟨#[104, 116, 116, 112, 115]⟩ : ByteArray), .string (⟨#[97]⟩ : ByteArray), .int .i64 443] 29 (0, 0)) BLK hb); have n2_ := Aside0.mk (below_step BWK hb); clear BK393; clear BK395; clear HB; have BK393 := n0_; have BK395 := n1_; have HB := n2_; clear n0_ n1_ n2_; (try clear hb); (try clear hb2); (try clear hk); (try clear hi)))
                      go_ret
                      exact ⟨ERK, BWK⟩

/-- THE ONE PURE STATEMENT of parapetlaw18_MixedSafe: yours. -/
def parapetlaw18_MixedSafe.Pure : Prop := ∀ (a0 : ByteArray) (a1 : ByteArray), a0.size ≤ 140737488351232 → a1.size ≤ 140737488351232 → ∃ k, parapetlaw18_MixedSafe.f k a0 a1 = some true
theorem parapetlaw18_MixedSafe.walk (P : parapetlaw18_MixedSafe.Pure) (a0 : ByteArray) (a1 : ByteArray) (w : World) (w0 : a0.size ≤ 140737488351232) (w1 : a1.size ≤ 140737488351232) :
    Calls Tryd.prog 4 #[.string a0, .string a1] w fun e w' => e = .returned (.bool true) ∧ Below w.heap.size w w' := by
  obtain ⟨k, h⟩ := P a0 a1 w0 w1
  refine (parapetlaw18_MixedSafe.calls k a0 a1 true w h).mono ?_
  rintro e w' ⟨rfl, hd⟩
  exact ⟨rfl, hd⟩

end Go.Proofs.YtknkokkgefcdbaaDoor.PA
