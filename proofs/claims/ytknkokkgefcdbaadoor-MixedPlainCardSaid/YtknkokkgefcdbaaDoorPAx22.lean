-- written by pp.py, a program of this session's, which runs the kit's print with turns of its own; Lean checks it
import Derived.Test.YtknkokkgefcdbaaDoorBP
import Derived.Test.YtknkokkgefcdbaaDoorPAx0
import Derived.Test.YtknkokkgefcdbaaDoorPAx2
import Derived.Test.YtknkokkgefcdbaaDoorPAx6
import Derived.Test.YtknkokkgefcdbaaDoorPAx10
import Derived.Test.YtknkokkgefcdbaaDoorPAx11
import Derived.Test.YtknkokkgefcdbaaDoorPAx15
import Derived.Test.YtknkokkgefcdbaaDoorPAx21
namespace Go.Proofs.YtknkokkgefcdbaaDoor.PA
open Go.RowKit Go.Proofs.YtknkokkgefcdbaaDoorW.PrintWords Go.Proofs.YtknkokkgefcdbaaDoorW.PrintLast Go.Proofs.YtknkokkgefcdbaaDoorW.PrintMore
attribute [local go_sem] max2_int min2_int max_two min_two max_three min_three max_four min_four   -- for this text's walks alone
set_option linter.unusedVariables false
set_option linter.unusedSimpArgs false

attribute [local go_sem high] eqA29
/-! ### parapetlaw18_MixedPlain: function 3 -/
def parapetlaw18_MixedPlain.j0 : Nat → ByteArray → ByteArray → Bool → ByteArray → ByteArray → ByteArray → ByteArray → Int → ByteArray → Bool → ByteArray → Bool → ByteArray → Option (Bool)
  | 0, _, _, _, _, _, _, _, _, _, _, _, _, _ => none
  | k + 1, x0, x2, x25, x359000, x359001, x359002, x359003, x359004, x359005, x359006, x359007, x359008, x359009 => if x25 = true then ((parapetlaw18_awake.f k).bind fun t359 => (some t359)) else ((mixed_Class.f k (⟨#[104, 116, 116, 112]⟩ : ByteArray) x0 80 x359000 x359001 x359002 x359003 x359004 x359005 x359006 x359007 x359008 x359009 x2).bind fun t360 => (if t360 = 0 then ((mixed_Class.f k (⟨#[]⟩ : ByteArray) (⟨#[]⟩ : ByteArray) 0 x359000 x359001 x359002 x359003 x359004 x359005 x359006 x359007 x359008 x359009 x2).bind fun t361 => (if t361 = 0 then ((parapetlaw18_awake.f k).bind fun t362 => (some t362)) else (some false))) else (some false)))
def parapetlaw18_MixedPlain.f (k : Nat) (a0 : ByteArray) (a1 : ByteArray) (a2 : ByteArray) : Option (Bool) := (parapetlaw18_parsed.f k a1).bind fun bt347 => (if bt347.2.2.2.2.2.2.2.2.2.2 = true then (if (a0.size : Int) > 300 then (parapetlaw18_MixedPlain.j0 k a0 a2 true bt347.1 bt347.2.1 bt347.2.2.1 bt347.2.2.2.1 bt347.2.2.2.2.1 bt347.2.2.2.2.2.1 bt347.2.2.2.2.2.2.1 bt347.2.2.2.2.2.2.2.1 bt347.2.2.2.2.2.2.2.2.1 bt347.2.2.2.2.2.2.2.2.2.1) else (parapetlaw18_MixedPlain.j0 k a0 a2 (decide ((a2.size : Int) > 300)) bt347.1 bt347.2.1 bt347.2.2.1 bt347.2.2.2.1 bt347.2.2.2.2.1 bt347.2.2.2.2.2.1 bt347.2.2.2.2.2.2.1 bt347.2.2.2.2.2.2.2.1 bt347.2.2.2.2.2.2.2.2.1 bt347.2.2.2.2.2.2.2.2.2.1)) else (parapetlaw18_MixedPlain.j0 k a0 a2 true bt347.1 bt347.2.1 bt347.2.2.1 bt347.2.2.2.1 bt347.2.2.2.2.1 bt347.2.2.2.2.2.1 bt347.2.2.2.2.2.2.1 bt347.2.2.2.2.2.2.2.1 bt347.2.2.2.2.2.2.2.2.1 bt347.2.2.2.2.2.2.2.2.2.1))
theorem parapetlaw18_MixedPlain.mono_l : ∀ k, (∀ y0 y1 y2 y3 y4 y5 y6 y7 y8 y9 y10 y11 y12, LeO (parapetlaw18_MixedPlain.j0 k y0 y1 y2 y3 y4 y5 y6 y7 y8 y9 y10 y11 y12) (parapetlaw18_MixedPlain.j0 (k + 1) y0 y1 y2 y3 y4 y5 y6 y7 y8 y9 y10 y11 y12))
  | 0 => fun _ _ _ _ _ _ _ _ _ _ _ _ _ r h => by simp [parapetlaw18_MixedPlain.j0] at h
  | k + 1 => by
    have ih0 := parapetlaw18_MixedPlain.mono_l k
    · intro y0 y1 y2 y3 y4 y5 y6 y7 y8 y9 y10 y11 y12
      unfold parapetlaw18_MixedPlain.j0
      repeat' first
      | (with_reducible exact ih0 _ _ _ _ _ _ _ _ _ _ _ _ _)
      | (with_reducible exact mixed_Class.mono _ _ _ _ _ _ _ _ _ _ _ _ _ _ _)
      | (with_reducible exact parapetlaw18_awake.mono _)
      | (with_reducible exact parapetlaw18_parsed.mono _ _)
      | (with_reducible exact LeO.refl _)
      | (with_reducible exact LeO.none _)
      | (with_reducible refine LeO.ite ?_ ?_)
      | (with_reducible refine LeO.bind ?_ (fun _ => ?_))
      | exact ih0 _ _ _ _ _ _ _ _ _ _ _ _ _
      | exact mixed_Class.mono _ _ _ _ _ _ _ _ _ _ _ _ _ _ _
      | exact parapetlaw18_awake.mono _
      | exact parapetlaw18_parsed.mono _ _
      | exact LeO.none _
      | refine LeO.ite ?_ ?_
      | refine LeO.bind ?_ (fun _ => ?_)
theorem parapetlaw18_MixedPlain.mono : ∀ a0 a1 a2 k, LeO (parapetlaw18_MixedPlain.f k a0 a1 a2) (parapetlaw18_MixedPlain.f (k + 1) a0 a1 a2) := by
  intro a0 a1 a2 k
  have ih0 := parapetlaw18_MixedPlain.mono_l k
  unfold parapetlaw18_MixedPlain.f
  repeat' first
      | (with_reducible exact ih0 _ _ _ _ _ _ _ _ _ _ _ _ _)
      | (with_reducible exact mixed_Class.mono _ _ _ _ _ _ _ _ _ _ _ _ _ _ _)
      | (with_reducible exact parapetlaw18_awake.mono _)
      | (with_reducible exact parapetlaw18_parsed.mono _ _)
      | (with_reducible exact LeO.refl _)
      | (with_reducible exact LeO.none _)
      | (with_reducible refine LeO.ite ?_ ?_)
      | (with_reducible refine LeO.bind ?_ (fun _ => ?_))
      | exact ih0 _ _ _ _ _ _ _ _ _ _ _ _ _
      | exact mixed_Class.mono _ _ _ _ _ _ _ _ _ _ _ _ _ _ _
      | exact parapetlaw18_awake.mono _
      | exact parapetlaw18_parsed.mono _ _
      | exact LeO.none _
      | refine LeO.ite ?_ ?_
      | refine LeO.bind ?_ (fun _ => ?_)
set_option maxHeartbeats 8000000 in
set_option maxRecDepth 100000 in
theorem parapetlaw18_MixedPlain.calls (k : Nat) (a0 : ByteArray) (a1 : ByteArray) (a2 : ByteArray) (r : Bool) (w : World) (h : parapetlaw18_MixedPlain.f k a0 a1 a2 = some r) :
    Calls Tryd.prog 3 #[.string a0, .string a1, .string a2] w fun e w' => e = .returned (.bool r) ∧ Below w.heap.size w w' := by
  have hu23 := Tryd.underlying23
  have hu29 := Tryd.underlying29
  have HB := Aside0.mk (Below.refl w.heap.size w)
  have H : ((parapetlaw18_parsed.f k a1).bind fun bt347 => (if bt347.2.2.2.2.2.2.2.2.2.2 = true then (if (a0.size : Int) > 300 then (parapetlaw18_MixedPlain.j0 k a0 a2 true bt347.1 bt347.2.1 bt347.2.2.1 bt347.2.2.2.1 bt347.2.2.2.2.1 bt347.2.2.2.2.2.1 bt347.2.2.2.2.2.2.1 bt347.2.2.2.2.2.2.2.1 bt347.2.2.2.2.2.2.2.2.1 bt347.2.2.2.2.2.2.2.2.2.1) else (parapetlaw18_MixedPlain.j0 k a0 a2 (decide ((a2.size : Int) > 300)) bt347.1 bt347.2.1 bt347.2.2.1 bt347.2.2.2.1 bt347.2.2.2.2.1 bt347.2.2.2.2.2.1 bt347.2.2.2.2.2.2.1 bt347.2.2.2.2.2.2.2.1 bt347.2.2.2.2.2.2.2.2.1 bt347.2.2.2.2.2.2.2.2.2.1)) else (parapetlaw18_MixedPlain.j0 k a0 a2 true bt347.1 bt347.2.1 bt347.2.2.1 bt347.2.2.2.1 bt347.2.2.2.2.1 bt347.2.2.2.2.2.1 bt347.2.2.2.2.2.2.1 bt347.2.2.2.2.2.2.2.1 bt347.2.2.2.2.2.2.2.2.1 bt347.2.2.2.2.2.2.2.2.2.1))) = some r := h
  clear h
  replace H := Option.bind_eq_some_iff.mp H
  obtain ⟨⟨t347, t348, t349, t350, t351, t352, t353, t354, t355, t356, t357⟩, A40, H⟩ := H
  replace H : (if t357 = true then (if (a0.size : Int) > 300 then (parapetlaw18_MixedPlain.j0 k a0 a2 true t347 t348 t349 t350 t351 t352 t353 t354 t355 t356) else (parapetlaw18_MixedPlain.j0 k a0 a2 (decide ((a2.size : Int) > 300)) t347 t348 t349 t350 t351 t352 t353 t354 t355 t356)) else (parapetlaw18_MixedPlain.j0 k a0 a2 true t347 t348 t349 t350 t351 t352 t353 t354 t355 t356)) = some r := H
  have A4 := Aside0.mk A40
  clear A40
  have HC5 := Aside0.mk H
  clear H
  go_enter Tryd.func3, Tryd.ntmps3
  go_upto_region 2 with (first | ((with_reducible refine gate_callee (f := 8) rfl ?_); refine goesL_ (some 11) rfl rfl Tryd.func8 (by kernel_rfl) rfl #[.string a1] rfl GAK ?_; (with_reducible refine (parapetlaw18_parsed.calls k a1 t347 t348 t349 t350 t351 t352 t353 t354 t355 t356 t357 _ A4.out).mono ?_); rintro e w6 ⟨rfl, hb⟩; refine ⟨_, rfl, ?_⟩; have n0_ := Aside0.mk (below_step BWK hb); clear HB; have HB := n0_; clear n0_; (try clear hb); (try clear hb2); (try clear hk); (try clear hi)) | ((with_reducible refine gate_dst (N := 7) rfl ?_); (try (refine gate_guard (by rfl) ?_; dsimp only)); refine box_event ?hg (N := 7) ?hd (cs := #[.string (⟨#[]⟩ : ByteArray), .string (⟨#[]⟩ : ByteArray), .string (⟨#[]⟩ : ByteArray), .string (⟨#[]⟩ : ByteArray), .int .i64 0, .string (⟨#[]⟩ : ByteArray), .bool false, .string (⟨#[]⟩ : ByteArray), .bool false, .string (⟨#[]⟩ : ByteArray)]) (t := 23) ?hr ?_; (case hd => rfl); (case hg => rfl); (case hr => first | (go_simp; done) | (go_simp; rfl)); intro gb358 hg w7 hbox hb; have n0_ := Aside0.mk (below_step BWK hb); have n1_ := Aside0.mk (hbox); have n2_ := Aside0.mk ((by rw [hg]; exact (below_size BWK) : w.heap.size ≤ gb358)); have n3_ := Aside0.mk ((by rw [hg]; exact (below_size BWK) : w.heap.size ≤ gb358)); clear HB; have HB := n0_; have BK358 := n1_; have GW358 := n2_; have GE358 := n3_; clear n0_ n1_ n2_ n3_; clear hb hbox hg; have hcz8_0 : w7.cell? ⟨gb358, 0, none⟩ = some (.string (⟨#[]⟩ : ByteArray)) := (blk_cell BK358.out 0).trans rfl; have hcz8_1 : w7.cell? ⟨gb358, 1, none⟩ = some (.string (⟨#[]⟩ : ByteArray)) := (blk_cell BK358.out 1).trans rfl; have hcz8_2 : w7.cell? ⟨gb358, 2, none⟩ = some (.string (⟨#[]⟩ : ByteArray)) := (blk_cell BK358.out 2).trans rfl; have hcz8_3 : w7.cell? ⟨gb358, 3, none⟩ = some (.string (⟨#[]⟩ : ByteArray)) := (blk_cell BK358.out 3).trans rfl; have hcz8_4 : w7.cell? ⟨gb358, 4, none⟩ = some (.int .i64 0) := (blk_cell BK358.out 4).trans rfl; have hcz8_5 : w7.cell? ⟨gb358, 5, none⟩ = some (.string (⟨#[]⟩ : ByteArray)) := (blk_cell BK358.out 5).trans rfl; have hcz8_6 : w7.cell? ⟨gb358, 6, none⟩ = some (.bool false) := (blk_cell BK358.out 6).trans rfl; have hcz8_7 : w7.cell? ⟨gb358, 7, none⟩ = some (.string (⟨#[]⟩ : ByteArray)) := (blk_cell BK358.out 7).trans rfl; have hcz8_8 : w7.cell? ⟨gb358, 8, none⟩ = some (.bool false) := (blk_cell BK358.out 8).trans rfl; have hcz8_9 : w7.cell? ⟨gb358, 9, none⟩ = some (.string (⟨#[]⟩ : ByteArray)) := (blk_cell BK358.out 9).trans rfl; have hfz8_0 := blk_frozen BK358.out 0; have hfz8_1 := blk_frozen BK358.out 1; have hfz8_2 := blk_frozen BK358.out 2; have hfz8_3 := blk_frozen BK358.out 3; have hfz8_4 := blk_frozen BK358.out 4; have hfz8_5 := blk_frozen BK358.out 5; have hfz8_6 := blk_frozen BK358.out 6; have hfz8_7 := blk_frozen BK358.out 7; have hfz8_8 := blk_frozen BK358.out 8; have hfz8_9 := blk_frozen BK358.out 9))
  (try simp only [Act.put, List.setIfInBounds_toArray, List.set_cons_zero, List.set_cons_succ])
  go_cut [25] (fun v25 wc => ∃ (kq : Nat) (x25_4 : Bool), v25 = .bool x25_4 ∧ Aside0 (parapetlaw18_MixedPlain.j0 kq a0 a2 x25_4 t347 t348 t349 t350 t351 t352 t353 t354 t355 t356 = some r) ∧ Aside0 (kq ≤ k) ∧ Aside0 (wc.heap[gb358]? = some (.cells #[.string t347, .string t348, .string t349, .string t350, .int .i64 t351, .string t352, .bool t353, .string t354, .bool t355, .string t356] 23 (0, 0))) ∧ Aside0 (Below w.heap.size w wc))
  case first =>
    have H := HC5.out
    clear HC5
    by_cases c9 : t357 = true
    · subst c9
      have H1 : (if (a0.size : Int) > 300 then (parapetlaw18_MixedPlain.j0 k a0 a2 true t347 t348 t349 t350 t351 t352 t353 t354 t355 t356) else (parapetlaw18_MixedPlain.j0 k a0 a2 (decide ((a2.size : Int) > 300)) t347 t348 t349 t350 t351 t352 t353 t354 t355 t356)) = some r := by rw [if_pos rfl] at H; exact H
      clear H
      have H := H1
      clear H1
      by_cases c10 : (a0.size : Int) > 300
      · rw [if_pos c10] at H
        have c10b0 : decide (300 < (a0.size : Int)) = true := decide_eq_true c10
        have c10b1 : decide (300 < a0.size) = true := decide_eq_true (by omega)
        clear c10
        (first | rw [c10b0] | (simp only [i64_w, i32_w]; rw [c10b0]) | skip)
        have H' := Aside0.mk H
        clear H
        go_wp2
        go_meet
        case rel => exact ⟨_, (true), (by first | rfl | (simp; done) | (simp [*]; done) | (simp [*] <;> (generalize ByteArray.toList _ = l_; cases l_ <;> rfl))), H', ⟨by first | omega | exact Nat.le_refl _⟩, ⟨by (with_reducible repeat (first | refine blk_drewN ?_ _ | refine blk_drew ?_ | refine blk_alloc ?_ _)); refine blk_put (cs := #[.string t347, .string t348, .string t349, .string t350, .int .i64 t351, .string t352, .bool t353, .string t354, .bool t355, .string (⟨#[]⟩ : ByteArray)]) ?_ 9 _ rfl; (with_reducible repeat (first | refine blk_drewN ?_ _ | refine blk_drew ?_ | refine blk_alloc ?_ _)); refine blk_put (cs := #[.string t347, .string t348, .string t349, .string t350, .int .i64 t351, .string t352, .bool t353, .string t354, .bool false, .string (⟨#[]⟩ : ByteArray)]) ?_ 8 _ rfl; (with_reducible repeat (first | refine blk_drewN ?_ _ | refine blk_drew ?_ | refine blk_alloc ?_ _)); refine blk_put (cs := #[.string t347, .string t348, .string t349, .string t350, .int .i64 t351, .string t352, .bool t353, .string (⟨#[]⟩ : ByteArray), .bool false, .string (⟨#[]⟩ : ByteArray)]) ?_ 7 _ rfl; (with_reducible repeat (first | refine blk_drewN ?_ _ | refine blk_drew ?_ | refine blk_alloc ?_ _)); refine blk_put (cs := #[.string t347, .string t348, .string t349, .string t350, .int .i64 t351, .string t352, .bool false, .string (⟨#[]⟩ : ByteArray), .bool false, .string (⟨#[]⟩ : ByteArray)]) ?_ 6 _ rfl; (with_reducible repeat (first | refine blk_drewN ?_ _ | refine blk_drew ?_ | refine blk_alloc ?_ _)); refine blk_put (cs := #[.string t347, .string t348, .string t349, .string t350, .int .i64 t351, .string (⟨#[]⟩ : ByteArray), .bool false, .string (⟨#[]⟩ : ByteArray), .bool false, .string (⟨#[]⟩ : ByteArray)]) ?_ 5 _ rfl; (with_reducible repeat (first | refine blk_drewN ?_ _ | refine blk_drew ?_ | refine blk_alloc ?_ _)); refine blk_put (cs := #[.string t347, .string t348, .string t349, .string t350, .int .i64 0, .string (⟨#[]⟩ : ByteArray), .bool false, .string (⟨#[]⟩ : ByteArray), .bool false, .string (⟨#[]⟩ : ByteArray)]) ?_ 4 _ rfl; (with_reducible repeat (first | refine blk_drewN ?_ _ | refine blk_drew ?_ | refine blk_alloc ?_ _)); refine blk_put (cs := #[.string t347, .string t348, .string t349, .string (⟨#[]⟩ : ByteArray), .int .i64 0, .string (⟨#[]⟩ : ByteArray), .bool false, .string (⟨#[]⟩ : ByteArray), .bool false, .string (⟨#[]⟩ : ByteArray)]) ?_ 3 _ rfl; (with_reducible repeat (first | refine blk_drewN ?_ _ | refine blk_drew ?_ | refine blk_alloc ?_ _)); refine blk_put (cs := #[.string t347, .string t348, .string (⟨#[]⟩ : ByteArray), .string (⟨#[]⟩ : ByteArray), .int .i64 0, .string (⟨#[]⟩ : ByteArray), .bool false, .string (⟨#[]⟩ : ByteArray), .bool false, .string (⟨#[]⟩ : ByteArray)]) ?_ 2 _ rfl; (with_reducible repeat (first | refine blk_drewN ?_ _ | refine blk_drew ?_ | refine blk_alloc ?_ _)); refine blk_put (cs := #[.string t347, .string (⟨#[]⟩ : ByteArray), .string (⟨#[]⟩ : ByteArray), .string (⟨#[]⟩ : ByteArray), .int .i64 0, .string (⟨#[]⟩ : ByteArray), .bool false, .string (⟨#[]⟩ : ByteArray), .bool false, .string (⟨#[]⟩ : ByteArray)]) ?_ 1 _ rfl; (with_reducible repeat (first | refine blk_drewN ?_ _ | refine blk_drew ?_ | refine blk_alloc ?_ _)); refine blk_put (cs := #[.string (⟨#[]⟩ : ByteArray), .string (⟨#[]⟩ : ByteArray), .string (⟨#[]⟩ : ByteArray), .string (⟨#[]⟩ : ByteArray), .int .i64 0, .string (⟨#[]⟩ : ByteArray), .bool false, .string (⟨#[]⟩ : ByteArray), .bool false, .string (⟨#[]⟩ : ByteArray)]) ?_ 0 _ rfl; (with_reducible repeat (first | refine blk_drewN ?_ _ | refine blk_drew ?_ | refine blk_alloc ?_ _)); exact BK358.out⟩, ⟨BWK⟩⟩
      · rw [if_neg c10] at H
        have c10b0 : decide (300 < (a0.size : Int)) = false := decide_eq_false c10
        have c10b1 : decide (300 < a0.size) = false := decide_eq_false (by omega)
        clear c10
        (first | rw [c10b0] | (simp only [i64_w, i32_w]; rw [c10b0]) | skip)
        have H' := Aside0.mk H
        clear H
        go_wp2
        go_meet
        case rel => exact ⟨_, (decide ((a2.size : Int) > 300)), (by first | rfl | (simp; done) | (simp [*]; done) | (simp [*] <;> (generalize ByteArray.toList _ = l_; cases l_ <;> rfl))), H', ⟨by first | omega | exact Nat.le_refl _⟩, ⟨by (with_reducible repeat (first | refine blk_drewN ?_ _ | refine blk_drew ?_ | refine blk_alloc ?_ _)); refine blk_put (cs := #[.string t347, .string t348, .string t349, .string t350, .int .i64 t351, .string t352, .bool t353, .string t354, .bool t355, .string (⟨#[]⟩ : ByteArray)]) ?_ 9 _ rfl; (with_reducible repeat (first | refine blk_drewN ?_ _ | refine blk_drew ?_ | refine blk_alloc ?_ _)); refine blk_put (cs := #[.string t347, .string t348, .string t349, .string t350, .int .i64 t351, .string t352, .bool t353, .string t354, .bool false, .string (⟨#[]⟩ : ByteArray)]) ?_ 8 _ rfl; (with_reducible repeat (first | refine blk_drewN ?_ _ | refine blk_drew ?_ | refine blk_alloc ?_ _)); refine blk_put (cs := #[.string t347, .string t348, .string t349, .string t350, .int .i64 t351, .string t352, .bool t353, .string (⟨#[]⟩ : ByteArray), .bool false, .string (⟨#[]⟩ : ByteArray)]) ?_ 7 _ rfl; (with_reducible repeat (first | refine blk_drewN ?_ _ | refine blk_drew ?_ | refine blk_alloc ?_ _)); refine blk_put (cs := #[.string t347, .string t348, .string t349, .string t350, .int .i64 t351, .string t352, .bool false, .string (⟨#[]⟩ : ByteArray), .bool false, .string (⟨#[]⟩ : ByteArray)]) ?_ 6 _ rfl; (with_reducible repeat (first | refine blk_drewN ?_ _ | refine blk_drew ?_ | refine blk_alloc ?_ _)); refine blk_put (cs := #[.string t347, .string t348, .string t349, .string t350, .int .i64 t351, .string (⟨#[]⟩ : ByteArray), .bool false, .string (⟨#[]⟩ : ByteArray), .bool false, .string (⟨#[]⟩ : ByteArray)]) ?_ 5 _ rfl; (with_reducible repeat (first | refine blk_drewN ?_ _ | refine blk_drew ?_ | refine blk_alloc ?_ _)); refine blk_put (cs := #[.string t347, .string t348, .string t349, .string t350, .int .i64 0, .string (⟨#[]⟩ : ByteArray), .bool false, .string (⟨#[]⟩ : ByteArray), .bool false, .string (⟨#[]⟩ : ByteArray)]) ?_ 4 _ rfl; (with_reducible repeat (first | refine blk_drewN ?_ _ | refine blk_drew ?_ | refine blk_alloc ?_ _)); refine blk_put (cs := #[.string t347, .string t348, .string t349, .string (⟨#[]⟩ : ByteArray), .int .i64 0, .string (⟨#[]⟩ : ByteArray), .bool false, .string (⟨#[]⟩ : ByteArray), .bool false, .string (⟨#[]⟩ : ByteArray)]) ?_ 3 _ rfl; (with_reducible repeat (first | refine blk_drewN ?_ _ | refine blk_drew ?_ | refine blk_alloc ?_ _)); refine blk_put (cs := #[.string t347, .string t348, .string (⟨#[]⟩ : ByteArray), .string (⟨#[]⟩ : ByteArray), .int .i64 0, .string (⟨#[]⟩ : ByteArray), .bool false, .string (⟨#[]⟩ : ByteArray), .bool false, .string (⟨#[]⟩ : ByteArray)]) ?_ 2 _ rfl; (with_reducible repeat (first | refine blk_drewN ?_ _ | refine blk_drew ?_ | refine blk_alloc ?_ _)); refine blk_put (cs := #[.string t347, .string (⟨#[]⟩ : ByteArray), .string (⟨#[]⟩ : ByteArray), .string (⟨#[]⟩ : ByteArray), .int .i64 0, .string (⟨#[]⟩ : ByteArray), .bool false, .string (⟨#[]⟩ : ByteArray), .bool false, .string (⟨#[]⟩ : ByteArray)]) ?_ 1 _ rfl; (with_reducible repeat (first | refine blk_drewN ?_ _ | refine blk_drew ?_ | refine blk_alloc ?_ _)); refine blk_put (cs := #[.string (⟨#[]⟩ : ByteArray), .string (⟨#[]⟩ : ByteArray), .string (⟨#[]⟩ : ByteArray), .string (⟨#[]⟩ : ByteArray), .int .i64 0, .string (⟨#[]⟩ : ByteArray), .bool false, .string (⟨#[]⟩ : ByteArray), .bool false, .string (⟨#[]⟩ : ByteArray)]) ?_ 0 _ rfl; (with_reducible repeat (first | refine blk_drewN ?_ _ | refine blk_drew ?_ | refine blk_alloc ?_ _)); exact BK358.out⟩, ⟨BWK⟩⟩
    · replace c9 := Bool.eq_false_iff.mpr c9
      subst c9
      have H1 : (parapetlaw18_MixedPlain.j0 k a0 a2 true t347 t348 t349 t350 t351 t352 t353 t354 t355 t356) = some r := by rw [if_neg (show ¬ (false = true) by decide)] at H; exact H
      clear H
      have H := H1
      clear H1
      have H' := Aside0.mk H
      clear H
      go_wp2
      go_meet
      case rel => exact ⟨_, (true), (by first | rfl | (simp; done) | (simp [*]; done) | (simp [*] <;> (generalize ByteArray.toList _ = l_; cases l_ <;> rfl))), H', ⟨by first | omega | exact Nat.le_refl _⟩, ⟨by (with_reducible repeat (first | refine blk_drewN ?_ _ | refine blk_drew ?_ | refine blk_alloc ?_ _)); refine blk_put (cs := #[.string t347, .string t348, .string t349, .string t350, .int .i64 t351, .string t352, .bool t353, .string t354, .bool t355, .string (⟨#[]⟩ : ByteArray)]) ?_ 9 _ rfl; (with_reducible repeat (first | refine blk_drewN ?_ _ | refine blk_drew ?_ | refine blk_alloc ?_ _)); refine blk_put (cs := #[.string t347, .string t348, .string t349, .string t350, .int .i64 t351, .string t352, .bool t353, .string t354, .bool false, .string (⟨#[]⟩ : ByteArray)]) ?_ 8 _ rfl; (with_reducible repeat (first | refine blk_drewN ?_ _ | refine blk_drew ?_ | refine blk_alloc ?_ _)); refine blk_put (cs := #[.string t347, .string t348, .string t349, .string t350, .int .i64 t351, .string t352, .bool t353, .string (⟨#[]⟩ : ByteArray), .bool false, .string (⟨#[]⟩ : ByteArray)]) ?_ 7 _ rfl; (with_reducible repeat (first | refine blk_drewN ?_ _ | refine blk_drew ?_ | refine blk_alloc ?_ _)); refine blk_put (cs := #[.string t347, .string t348, .string t349, .string t350, .int .i64 t351, .string t352, .bool false, .string (⟨#[]⟩ : ByteArray), .bool false, .string (⟨#[]⟩ : ByteArray)]) ?_ 6 _ rfl; (with_reducible repeat (first | refine blk_drewN ?_ _ | refine blk_drew ?_ | refine blk_alloc ?_ _)); refine blk_put (cs := #[.string t347, .string t348, .string t349, .string t350, .int .i64 t351, .string (⟨#[]⟩ : ByteArray), .bool false, .string (⟨#[]⟩ : ByteArray), .bool false, .string (⟨#[]⟩ : ByteArray)]) ?_ 5 _ rfl; (with_reducible repeat (first | refine blk_drewN ?_ _ | refine blk_drew ?_ | refine blk_alloc ?_ _)); refine blk_put (cs := #[.string t347, .string t348, .string t349, .string t350, .int .i64 0, .string (⟨#[]⟩ : ByteArray), .bool false, .string (⟨#[]⟩ : ByteArray), .bool false, .string (⟨#[]⟩ : ByteArray)]) ?_ 4 _ rfl; (with_reducible repeat (first | refine blk_drewN ?_ _ | refine blk_drew ?_ | refine blk_alloc ?_ _)); refine blk_put (cs := #[.string t347, .string t348, .string t349, .string (⟨#[]⟩ : ByteArray), .int .i64 0, .string (⟨#[]⟩ : ByteArray), .bool false, .string (⟨#[]⟩ : ByteArray), .bool false, .string (⟨#[]⟩ : ByteArray)]) ?_ 3 _ rfl; (with_reducible repeat (first | refine blk_drewN ?_ _ | refine blk_drew ?_ | refine blk_alloc ?_ _)); refine blk_put (cs := #[.string t347, .string t348, .string (⟨#[]⟩ : ByteArray), .string (⟨#[]⟩ : ByteArray), .int .i64 0, .string (⟨#[]⟩ : ByteArray), .bool false, .string (⟨#[]⟩ : ByteArray), .bool false, .string (⟨#[]⟩ : ByteArray)]) ?_ 2 _ rfl; (with_reducible repeat (first | refine blk_drewN ?_ _ | refine blk_drew ?_ | refine blk_alloc ?_ _)); refine blk_put (cs := #[.string t347, .string (⟨#[]⟩ : ByteArray), .string (⟨#[]⟩ : ByteArray), .string (⟨#[]⟩ : ByteArray), .int .i64 0, .string (⟨#[]⟩ : ByteArray), .bool false, .string (⟨#[]⟩ : ByteArray), .bool false, .string (⟨#[]⟩ : ByteArray)]) ?_ 1 _ rfl; (with_reducible repeat (first | refine blk_drewN ?_ _ | refine blk_drew ?_ | refine blk_alloc ?_ _)); refine blk_put (cs := #[.string (⟨#[]⟩ : ByteArray), .string (⟨#[]⟩ : ByteArray), .string (⟨#[]⟩ : ByteArray), .string (⟨#[]⟩ : ByteArray), .int .i64 0, .string (⟨#[]⟩ : ByteArray), .bool false, .string (⟨#[]⟩ : ByteArray), .bool false, .string (⟨#[]⟩ : ByteArray)]) ?_ 0 _ rfl; (with_reducible repeat (first | refine blk_drewN ?_ _ | refine blk_drew ?_ | refine blk_alloc ?_ _)); exact BK358.out⟩, ⟨BWK⟩⟩
  case rest =>
    clear HC5
    try clear c1
    try clear p2
    try clear c3
    try clear c8
    try clear c9
    try clear c10
    try clear c10b0
    try clear c10b1
    try clear hcz8_0
    try clear hcz8_1
    try clear hcz8_2
    try clear hcz8_3
    try clear hcz8_4
    try clear hcz8_5
    try clear hcz8_6
    try clear hcz8_7
    try clear hcz8_8
    try clear hcz8_9
    try clear hfz8_0
    try clear hfz8_1
    try clear hfz8_2
    try clear hfz8_3
    try clear hfz8_4
    try clear hfz8_5
    try clear hfz8_6
    try clear hfz8_7
    try clear hfz8_8
    try clear hfz8_9
    obtain ⟨kq, x25_4, rfl, HA, HJ4, BK358, HB⟩ := hcut
    cases kq with
    | zero => exact absurd HA.out (by simp [parapetlaw18_MixedPlain.j0])
    | succ kj4 =>
      have H := HA.out
      clear HA
      simp only [parapetlaw18_MixedPlain.j0] at H
      by_cases c11 : x25_4 = true
      · subst c11
        have H1 : ((parapetlaw18_awake.f kj4).bind fun t359 => (some t359)) = some r := by rw [if_pos rfl] at H; exact H
        clear H
        have H := H1
        clear H1
        replace H := Option.bind_eq_some_iff.mp H
        obtain ⟨t359, A120, H⟩ := H
        replace H : (some t359) = some r := H
        have A12 := Aside0.mk A120
        clear A120
        obtain rfl := Option.some.inj H
        go_wp2_with (first | ((with_reducible refine gate_callee (f := 9) rfl ?_); refine goesL_ (some 26) rfl rfl Tryd.func9 (by kernel_rfl) rfl #[] rfl GAK ?_; (with_reducible refine (parapetlaw18_awake.calls kj4  t359 _ A12.out).mono ?_); rintro e w13 ⟨rfl, hb⟩; refine ⟨_, rfl, ?_⟩; have n0_ := Aside0.mk (blk_below (g := gb358) (o := .cells #[.string t347, .string t348, .string t349, .string t350, .int .i64 t351, .string t352, .bool t353, .string t354, .bool t355, .string t356] 23 (0, 0)) BLK hb); have n1_ := Aside0.mk (below_step BWK hb); clear BK358; clear HB; have BK358 := n0_; have HB := n1_; clear n0_ n1_; (try clear hb); (try clear hb2); (try clear hk); (try clear hi)))
        go_ret
        exact ⟨by first | rfl | (simp [errW_none, errW_some] <;> rfl) | (simp [*, errW_none, errW_some] <;> rfl), BWK⟩
      · replace c11 := Bool.eq_false_iff.mpr c11
        subst c11
        have H1 : ((mixed_Class.f kj4 (⟨#[104, 116, 116, 112]⟩ : ByteArray) a0 80 t347 t348 t349 t350 t351 t352 t353 t354 t355 t356 a2).bind fun t360 => (if t360 = 0 then ((mixed_Class.f kj4 (⟨#[]⟩ : ByteArray) (⟨#[]⟩ : ByteArray) 0 t347 t348 t349 t350 t351 t352 t353 t354 t355 t356 a2).bind fun t361 => (if t361 = 0 then ((parapetlaw18_awake.f kj4).bind fun t362 => (some t362)) else (some false))) else (some false))) = some r := by rw [if_neg (show ¬ (false = true) by decide)] at H; exact H
        clear H
        have H := H1
        clear H1
        replace H := Option.bind_eq_some_iff.mp H
        obtain ⟨t360, A140, H⟩ := H
        replace H : (if t360 = 0 then ((mixed_Class.f kj4 (⟨#[]⟩ : ByteArray) (⟨#[]⟩ : ByteArray) 0 t347 t348 t349 t350 t351 t352 t353 t354 t355 t356 a2).bind fun t361 => (if t361 = 0 then ((parapetlaw18_awake.f kj4).bind fun t362 => (some t362)) else (some false))) else (some false)) = some r := H
        have A14 := Aside0.mk A140
        clear A140
        by_cases c15 : t360 = 0
        · rw [if_pos c15] at H
          have c15b0 : (t360 == 0) = true := beq_iff_eq.mpr c15
          have c15b1 : (t360 != 0) = false := bne_eq_false_iff_eq.mpr c15
          clear c15
          replace H := Option.bind_eq_some_iff.mp H
          obtain ⟨t361, A160, H⟩ := H
          replace H : (if t361 = 0 then ((parapetlaw18_awake.f kj4).bind fun t362 => (some t362)) else (some false)) = some r := H
          have A16 := Aside0.mk A160
          clear A160
          by_cases c17 : t361 = 0
          · rw [if_pos c17] at H
            have c17b0 : (t361 == 0) = true := beq_iff_eq.mpr c17
            have c17b1 : (t361 != 0) = false := bne_eq_false_iff_eq.mpr c17
            clear c17
            replace H := Option.bind_eq_some_iff.mp H
            obtain ⟨t362, A180, H⟩ := H
            replace H : (some t362) = some r := H
            have A18 := Aside0.mk A180
            clear A180
            obtain rfl := Option.some.inj H
            have hcz19_0 : wc.cell? ⟨gb358, 0, none⟩ = some (.string t347) := (blk_cell BK358.out 0).trans rfl
            have hcz19_1 : wc.cell? ⟨gb358, 1, none⟩ = some (.string t348) := (blk_cell BK358.out 1).trans rfl
            have hcz19_2 : wc.cell? ⟨gb358, 2, none⟩ = some (.string t349) := (blk_cell BK358.out 2).trans rfl
            have hcz19_3 : wc.cell? ⟨gb358, 3, none⟩ = some (.string t350) := (blk_cell BK358.out 3).trans rfl
            have hcz19_4 : wc.cell? ⟨gb358, 4, none⟩ = some (.int .i64 t351) := (blk_cell BK358.out 4).trans rfl
            have hcz19_5 : wc.cell? ⟨gb358, 5, none⟩ = some (.string t352) := (blk_cell BK358.out 5).trans rfl
            have hcz19_6 : wc.cell? ⟨gb358, 6, none⟩ = some (.bool t353) := (blk_cell BK358.out 6).trans rfl
            have hcz19_7 : wc.cell? ⟨gb358, 7, none⟩ = some (.string t354) := (blk_cell BK358.out 7).trans rfl
            have hcz19_8 : wc.cell? ⟨gb358, 8, none⟩ = some (.bool t355) := (blk_cell BK358.out 8).trans rfl
            have hcz19_9 : wc.cell? ⟨gb358, 9, none⟩ = some (.string t356) := (blk_cell BK358.out 9).trans rfl
            have hfz19_0 := blk_frozen BK358.out 0
            have hfz19_1 := blk_frozen BK358.out 1
            have hfz19_2 := blk_frozen BK358.out 2
            have hfz19_3 := blk_frozen BK358.out 3
            have hfz19_4 := blk_frozen BK358.out 4
            have hfz19_5 := blk_frozen BK358.out 5
            have hfz19_6 := blk_frozen BK358.out 6
            have hfz19_7 := blk_frozen BK358.out 7
            have hfz19_8 := blk_frozen BK358.out 8
            have hfz19_9 := blk_frozen BK358.out 9
            go_wp2_with (first | ((with_reducible refine gate_callee (f := 10) rfl ?_); refine goesL_ (some 31) rfl rfl Tryd.func10 (by kernel_rfl) rfl #[.agg #[.string (⟨#[104, 116, 116, 112]⟩ : ByteArray), .string a0, .int .i64 80], .agg #[.string t347, .string t348, .string t349, .string t350, .int .i64 t351, .string t352, .bool t353, .string t354, .bool t355, .string t356], .string a2] rfl GAK ?_; (with_reducible refine (mixed_Class.calls kj4 (⟨#[104, 116, 116, 112]⟩ : ByteArray) a0 80 t347 t348 t349 t350 t351 t352 t353 t354 t355 t356 a2 t360 _ A14.out).mono ?_); rintro e w20 ⟨rfl, hb⟩; refine ⟨_, rfl, ?_⟩; have n0_ := Aside0.mk (blk_below (g := gb358) (o := .cells #[.string t347, .string t348, .string t349, .string t350, .int .i64 t351, .string t352, .bool t353, .string t354, .bool t355, .string t356] 23 (0, 0)) BLK hb); have n1_ := Aside0.mk (below_step BWK hb); clear BK358; clear HB; have BK358 := n0_; have HB := n1_; clear n0_ n1_; (try clear hb); (try clear hb2); (try clear hk); (try clear hi); have hcz21_0 : w20.cell? ⟨gb358, 0, none⟩ = some (.string t347) := (blk_cell BK358.out 0).trans rfl; have hcz21_1 : w20.cell? ⟨gb358, 1, none⟩ = some (.string t348) := (blk_cell BK358.out 1).trans rfl; have hcz21_2 : w20.cell? ⟨gb358, 2, none⟩ = some (.string t349) := (blk_cell BK358.out 2).trans rfl; have hcz21_3 : w20.cell? ⟨gb358, 3, none⟩ = some (.string t350) := (blk_cell BK358.out 3).trans rfl; have hcz21_4 : w20.cell? ⟨gb358, 4, none⟩ = some (.int .i64 t351) := (blk_cell BK358.out 4).trans rfl; have hcz21_5 : w20.cell? ⟨gb358, 5, none⟩ = some (.string t352) := (blk_cell BK358.out 5).trans rfl; have hcz21_6 : w20.cell? ⟨gb358, 6, none⟩ = some (.bool t353) := (blk_cell BK358.out 6).trans rfl; have hcz21_7 : w20.cell? ⟨gb358, 7, none⟩ = some (.string t354) := (blk_cell BK358.out 7).trans rfl; have hcz21_8 : w20.cell? ⟨gb358, 8, none⟩ = some (.bool t355) := (blk_cell BK358.out 8).trans rfl; have hcz21_9 : w20.cell? ⟨gb358, 9, none⟩ = some (.string t356) := (blk_cell BK358.out 9).trans rfl; have hfz21_0 := blk_frozen BK358.out 0; have hfz21_1 := blk_frozen BK358.out 1; have hfz21_2 := blk_frozen BK358.out 2; have hfz21_3 := blk_frozen BK358.out 3; have hfz21_4 := blk_frozen BK358.out 4; have hfz21_5 := blk_frozen BK358.out 5; have hfz21_6 := blk_frozen BK358.out 6; have hfz21_7 := blk_frozen BK358.out 7; have hfz21_8 := blk_frozen BK358.out 8; have hfz21_9 := blk_frozen BK358.out 9) | (go_at_call 10; (with_reducible refine (mixed_Class.calls kj4 (⟨#[]⟩ : ByteArray) (⟨#[]⟩ : ByteArray) 0 t347 t348 t349 t350 t351 t352 t353 t354 t355 t356 a2 t361 _ A16.out).mono ?_); rintro e w22 ⟨rfl, hb⟩; have n0_ := Aside0.mk (blk_below (g := gb358) (o := .cells #[.string t347, .string t348, .string t349, .string t350, .int .i64 t351, .string t352, .bool t353, .string t354, .bool t355, .string t356] 23 (0, 0)) BLK hb); have n1_ := Aside0.mk (below_step BWK hb); clear BK358; clear HB; have BK358 := n0_; have HB := n1_; clear n0_ n1_; (try clear hb); (try clear hb2); (try clear hk); (try clear hi)) | (go_at_call 9; (with_reducible refine (parapetlaw18_awake.calls kj4  t362 _ A18.out).mono ?_); rintro e w23 ⟨rfl, hb⟩; have n0_ := Aside0.mk (blk_below (g := gb358) (o := .cells #[.string t347, .string t348, .string t349, .string t350, .int .i64 t351, .string t352, .bool t353, .string t354, .bool t355, .string t356] 23 (0, 0)) BLK hb); have n1_ := Aside0.mk (below_step BWK hb); clear BK358; clear HB; have BK358 := n0_; have HB := n1_; clear n0_ n1_; (try clear hb); (try clear hb2); (try clear hk); (try clear hi)))
            go_ret
            exact ⟨by first | rfl | (simp [errW_none, errW_some] <;> rfl) | (simp [*, errW_none, errW_some] <;> rfl), BWK⟩
          · rw [if_neg c17] at H
            have c17b0 : (t361 == 0) = false := beq_eq_false_iff_ne.mpr c17
            have c17b1 : (t361 != 0) = true := bne_iff_ne.mpr c17
            obtain rfl := Option.some.inj H
            have hcz24_0 : wc.cell? ⟨gb358, 0, none⟩ = some (.string t347) := (blk_cell BK358.out 0).trans rfl
            have hcz24_1 : wc.cell? ⟨gb358, 1, none⟩ = some (.string t348) := (blk_cell BK358.out 1).trans rfl
            have hcz24_2 : wc.cell? ⟨gb358, 2, none⟩ = some (.string t349) := (blk_cell BK358.out 2).trans rfl
            have hcz24_3 : wc.cell? ⟨gb358, 3, none⟩ = some (.string t350) := (blk_cell BK358.out 3).trans rfl
            have hcz24_4 : wc.cell? ⟨gb358, 4, none⟩ = some (.int .i64 t351) := (blk_cell BK358.out 4).trans rfl
            have hcz24_5 : wc.cell? ⟨gb358, 5, none⟩ = some (.string t352) := (blk_cell BK358.out 5).trans rfl
            have hcz24_6 : wc.cell? ⟨gb358, 6, none⟩ = some (.bool t353) := (blk_cell BK358.out 6).trans rfl
            have hcz24_7 : wc.cell? ⟨gb358, 7, none⟩ = some (.string t354) := (blk_cell BK358.out 7).trans rfl
            have hcz24_8 : wc.cell? ⟨gb358, 8, none⟩ = some (.bool t355) := (blk_cell BK358.out 8).trans rfl
            have hcz24_9 : wc.cell? ⟨gb358, 9, none⟩ = some (.string t356) := (blk_cell BK358.out 9).trans rfl
            have hfz24_0 := blk_frozen BK358.out 0
            have hfz24_1 := blk_frozen BK358.out 1
            have hfz24_2 := blk_frozen BK358.out 2
            have hfz24_3 := blk_frozen BK358.out 3
            have hfz24_4 := blk_frozen BK358.out 4
            have hfz24_5 := blk_frozen BK358.out 5
            have hfz24_6 := blk_frozen BK358.out 6
            have hfz24_7 := blk_frozen BK358.out 7
            have hfz24_8 := blk_frozen BK358.out 8
            have hfz24_9 := blk_frozen BK358.out 9
            go_wp2_with (first | ((with_reducible refine gate_callee (f := 10) rfl ?_); refine goesL_ (some 31) rfl rfl Tryd.func10 (by kernel_rfl) rfl #[.agg #[.string (⟨#[104, 116, 116, 112]⟩ : ByteArray), .string a0, .int .i64 80], .agg #[.string t347, .string t348, .string t349, .string t350, .int .i64 t351, .string t352, .bool t353, .string t354, .bool t355, .string t356], .string a2] rfl GAK ?_; (with_reducible refine (mixed_Class.calls kj4 (⟨#[104, 116, 116, 112]⟩ : ByteArray) a0 80 t347 t348 t349 t350 t351 t352 t353 t354 t355 t356 a2 t360 _ A14.out).mono ?_); rintro e w25 ⟨rfl, hb⟩; refine ⟨_, rfl, ?_⟩; have n0_ := Aside0.mk (blk_below (g := gb358) (o := .cells #[.string t347, .string t348, .string t349, .string t350, .int .i64 t351, .string t352, .bool t353, .string t354, .bool t355, .string t356] 23 (0, 0)) BLK hb); have n1_ := Aside0.mk (below_step BWK hb); clear BK358; clear HB; have BK358 := n0_; have HB := n1_; clear n0_ n1_; (try clear hb); (try clear hb2); (try clear hk); (try clear hi); have hcz26_0 : w25.cell? ⟨gb358, 0, none⟩ = some (.string t347) := (blk_cell BK358.out 0).trans rfl; have hcz26_1 : w25.cell? ⟨gb358, 1, none⟩ = some (.string t348) := (blk_cell BK358.out 1).trans rfl; have hcz26_2 : w25.cell? ⟨gb358, 2, none⟩ = some (.string t349) := (blk_cell BK358.out 2).trans rfl; have hcz26_3 : w25.cell? ⟨gb358, 3, none⟩ = some (.string t350) := (blk_cell BK358.out 3).trans rfl; have hcz26_4 : w25.cell? ⟨gb358, 4, none⟩ = some (.int .i64 t351) := (blk_cell BK358.out 4).trans rfl; have hcz26_5 : w25.cell? ⟨gb358, 5, none⟩ = some (.string t352) := (blk_cell BK358.out 5).trans rfl; have hcz26_6 : w25.cell? ⟨gb358, 6, none⟩ = some (.bool t353) := (blk_cell BK358.out 6).trans rfl; have hcz26_7 : w25.cell? ⟨gb358, 7, none⟩ = some (.string t354) := (blk_cell BK358.out 7).trans rfl; have hcz26_8 : w25.cell? ⟨gb358, 8, none⟩ = some (.bool t355) := (blk_cell BK358.out 8).trans rfl; have hcz26_9 : w25.cell? ⟨gb358, 9, none⟩ = some (.string t356) := (blk_cell BK358.out 9).trans rfl; have hfz26_0 := blk_frozen BK358.out 0; have hfz26_1 := blk_frozen BK358.out 1; have hfz26_2 := blk_frozen BK358.out 2; have hfz26_3 := blk_frozen BK358.out 3; have hfz26_4 := blk_frozen BK358.out 4; have hfz26_5 := blk_frozen BK358.out 5; have hfz26_6 := blk_frozen BK358.out 6; have hfz26_7 := blk_frozen BK358.out 7; have hfz26_8 := blk_frozen BK358.out 8; have hfz26_9 := blk_frozen BK358.out 9) | (go_at_call 10; (with_reducible refine (mixed_Class.calls kj4 (⟨#[]⟩ : ByteArray) (⟨#[]⟩ : ByteArray) 0 t347 t348 t349 t350 t351 t352 t353 t354 t355 t356 a2 t361 _ A16.out).mono ?_); rintro e w27 ⟨rfl, hb⟩; have n0_ := Aside0.mk (blk_below (g := gb358) (o := .cells #[.string t347, .string t348, .string t349, .string t350, .int .i64 t351, .string t352, .bool t353, .string t354, .bool t355, .string t356] 23 (0, 0)) BLK hb); have n1_ := Aside0.mk (below_step BWK hb); clear BK358; clear HB; have BK358 := n0_; have HB := n1_; clear n0_ n1_; (try clear hb); (try clear hb2); (try clear hk); (try clear hi)))
            go_ret
            exact ⟨by first | rfl | (simp [errW_none, errW_some] <;> rfl) | (simp [*, errW_none, errW_some] <;> rfl), BWK⟩
        · rw [if_neg c15] at H
          have c15b0 : (t360 == 0) = false := beq_eq_false_iff_ne.mpr c15
          have c15b1 : (t360 != 0) = true := bne_iff_ne.mpr c15
          obtain rfl := Option.some.inj H
          have hcz28_0 : wc.cell? ⟨gb358, 0, none⟩ = some (.string t347) := (blk_cell BK358.out 0).trans rfl
          have hcz28_1 : wc.cell? ⟨gb358, 1, none⟩ = some (.string t348) := (blk_cell BK358.out 1).trans rfl
          have hcz28_2 : wc.cell? ⟨gb358, 2, none⟩ = some (.string t349) := (blk_cell BK358.out 2).trans rfl
          have hcz28_3 : wc.cell? ⟨gb358, 3, none⟩ = some (.string t350) := (blk_cell BK358.out 3).trans rfl
          have hcz28_4 : wc.cell? ⟨gb358, 4, none⟩ = some (.int .i64 t351) := (blk_cell BK358.out 4).trans rfl
          have hcz28_5 : wc.cell? ⟨gb358, 5, none⟩ = some (.string t352) := (blk_cell BK358.out 5).trans rfl
          have hcz28_6 : wc.cell? ⟨gb358, 6, none⟩ = some (.bool t353) := (blk_cell BK358.out 6).trans rfl
          have hcz28_7 : wc.cell? ⟨gb358, 7, none⟩ = some (.string t354) := (blk_cell BK358.out 7).trans rfl
          have hcz28_8 : wc.cell? ⟨gb358, 8, none⟩ = some (.bool t355) := (blk_cell BK358.out 8).trans rfl
          have hcz28_9 : wc.cell? ⟨gb358, 9, none⟩ = some (.string t356) := (blk_cell BK358.out 9).trans rfl
          have hfz28_0 := blk_frozen BK358.out 0
          have hfz28_1 := blk_frozen BK358.out 1
          have hfz28_2 := blk_frozen BK358.out 2
          have hfz28_3 := blk_frozen BK358.out 3
          have hfz28_4 := blk_frozen BK358.out 4
          have hfz28_5 := blk_frozen BK358.out 5
          have hfz28_6 := blk_frozen BK358.out 6
          have hfz28_7 := blk_frozen BK358.out 7
          have hfz28_8 := blk_frozen BK358.out 8
          have hfz28_9 := blk_frozen BK358.out 9
          go_wp2_with (first | ((with_reducible refine gate_callee (f := 10) rfl ?_); refine goesL_ (some 31) rfl rfl Tryd.func10 (by kernel_rfl) rfl #[.agg #[.string (⟨#[104, 116, 116, 112]⟩ : ByteArray), .string a0, .int .i64 80], .agg #[.string t347, .string t348, .string t349, .string t350, .int .i64 t351, .string t352, .bool t353, .string t354, .bool t355, .string t356], .string a2] rfl GAK ?_; (with_reducible refine (mixed_Class.calls kj4 (⟨#[104, 116, 116, 112]⟩ : ByteArray) a0 80 t347 t348 t349 t350 t351 t352 t353 t354 t355 t356 a2 t360 _ A14.out).mono ?_); rintro e w29 ⟨rfl, hb⟩; refine ⟨_, rfl, ?_⟩; have n0_ := Aside0.mk (blk_below (g := gb358) (o := .cells #[.string t347, .string t348, .string t349, .string t350, .int .i64 t351, .string t352, .bool t353, .string t354, .bool t355, .string t356] 23 (0, 0)) BLK hb); have n1_ := Aside0.mk (below_step BWK hb); clear BK358; clear HB; have BK358 := n0_; have HB := n1_; clear n0_ n1_; (try clear hb); (try clear hb2); (try clear hk); (try clear hi)))
          go_ret
          exact ⟨by first | rfl | (simp [errW_none, errW_some] <;> rfl) | (simp [*, errW_none, errW_some] <;> rfl), BWK⟩

/-- THE ONE PURE STATEMENT of parapetlaw18_MixedPlain: yours. -/
def parapetlaw18_MixedPlain.Pure : Prop := ∀ (a0 : ByteArray) (a1 : ByteArray) (a2 : ByteArray), a0.size ≤ 140737488351232 → a1.size ≤ 140737488351232 → a2.size ≤ 140737488351232 → ∃ k, parapetlaw18_MixedPlain.f k a0 a1 a2 = some true
theorem parapetlaw18_MixedPlain.walk (P : parapetlaw18_MixedPlain.Pure) (a0 : ByteArray) (a1 : ByteArray) (a2 : ByteArray) (w : World) (w0 : a0.size ≤ 140737488351232) (w1 : a1.size ≤ 140737488351232) (w2 : a2.size ≤ 140737488351232) :
    Calls Tryd.prog 3 #[.string a0, .string a1, .string a2] w fun e w' => e = .returned (.bool true) ∧ Below w.heap.size w w' := by
  obtain ⟨k, h⟩ := P a0 a1 a2 w0 w1 w2
  refine (parapetlaw18_MixedPlain.calls k a0 a1 a2 true w h).mono ?_
  rintro e w' ⟨rfl, hd⟩
  exact ⟨rfl, hd⟩

end Go.Proofs.YtknkokkgefcdbaaDoor.PA
