-- half
-- written by pp.py, a program of this session's, which runs the kit's print with turns of its own; Lean checks it
import Derived.Test.YtknkokkgefcdbaaDoorBP
import Derived.Test.YtknkokkgefcdbaaDoorPAx0
import Derived.Test.YtknkokkgefcdbaaDoorPAx20
import Derived.Test.YtknkokkgefcdbaaDoorPAx22
namespace Go.Proofs.YtknkokkgefcdbaaDoor.PA
open Go.RowKit Go.Proofs.YtknkokkgefcdbaaDoorW.PrintWords Go.Proofs.YtknkokkgefcdbaaDoorW.PrintLast Go.Proofs.YtknkokkgefcdbaaDoorW.PrintMore
attribute [local go_sem] max2_int min2_int max_two min_two max_three min_three max_four min_four   -- for this text's walks alone
set_option maxHeartbeats 8000000
set_option maxRecDepth 100000
set_option linter.unusedVariables false
set_option linter.unusedSimpArgs false

/-! ### parapetref9_Class: function 14 -/
def parapetref9_Class.j0 : Nat → ByteArray → Bool → ByteArray → ByteArray → ByteArray → ByteArray → Int → ByteArray → Bool → ByteArray → Bool → ByteArray → Option (Int)
 | 0, _, _, _, _, _, _, _, _, _, _, _, _ => none
 | k + 1, x2, x24, x370000, x370001, x370002, x370003, x370004, x370005, x370006, x370007, x370008, x370009 => if x24 = true then (some 0) else ((parapetref9_IsAddress.f k x370003).bind fun bt372 => ((parapetref1_In.f k x2 (([(⟨#[105, 109, 97, 103, 101]⟩ : ByteArray), (⟨#[97, 117, 100, 105, 111]⟩ : ByteArray), (⟨#[118, 105, 100, 101, 111]⟩ : ByteArray)] : List ByteArray))).bind fun t377 => (if t377 = true then (if bt372.2 = true then (some 2) else (some 1)) else (some 2))))
def parapetref9_Class.f (k : Nat) (a0_0 : ByteArray) (a0_1 : ByteArray) (a0_2 : Int) (a1_0 : ByteArray) (a1_1 : ByteArray) (a1_2 : ByteArray) (a1_3 : ByteArray) (a1_4 : Int) (a1_5 : ByteArray) (a1_6 : Bool) (a1_7 : ByteArray) (a1_8 : Bool) (a1_9 : ByteArray) (a2 : ByteArray) : Option (Int) := if a0_0.toList = ([104, 116, 116, 112, 115] : List UInt8) then ((parapetref9_Secure.f k a1_0 a1_1 a1_2 a1_3 a1_4 a1_5 a1_6 a1_7 a1_8 a1_9).bind fun t370 => (if t370 = true then (parapetref9_Class.j0 k a2 true a1_0 a1_1 a1_2 a1_3 a1_4 a1_5 a1_6 a1_7 a1_8 a1_9) else (parapetref9_Class.j0 k a2 (a2.toList == ([100, 111, 99, 117, 109, 101, 110, 116] : List UInt8)) a1_0 a1_1 a1_2 a1_3 a1_4 a1_5 a1_6 a1_7 a1_8 a1_9))) else (if a0_0.toList = ([119, 115, 115] : List UInt8) then ((parapetref9_Secure.f k a1_0 a1_1 a1_2 a1_3 a1_4 a1_5 a1_6 a1_7 a1_8 a1_9).bind fun t371 => (if t371 = true then (parapetref9_Class.j0 k a2 true a1_0 a1_1 a1_2 a1_3 a1_4 a1_5 a1_6 a1_7 a1_8 a1_9) else (parapetref9_Class.j0 k a2 (a2.toList == ([100, 111, 99, 117, 109, 101, 110, 116] : List UInt8)) a1_0 a1_1 a1_2 a1_3 a1_4 a1_5 a1_6 a1_7 a1_8 a1_9))) else (parapetref9_Class.j0 k a2 true a1_0 a1_1 a1_2 a1_3 a1_4 a1_5 a1_6 a1_7 a1_8 a1_9))
theorem parapetref9_Class.mono_l : ∀ k, (∀ y0 y1 y2 y3 y4 y5 y6 y7 y8 y9 y10 y11, LeO (parapetref9_Class.j0 k y0 y1 y2 y3 y4 y5 y6 y7 y8 y9 y10 y11) (parapetref9_Class.j0 (k + 1) y0 y1 y2 y3 y4 y5 y6 y7 y8 y9 y10 y11))
 | 0 => fun _ _ _ _ _ _ _ _ _ _ _ _ r h => by simp [parapetref9_Class.j0] at h
 | k + 1 => by
  have ih0 := parapetref9_Class.mono_l k
  ·intro y0 y1 y2 y3 y4 y5 y6 y7 y8 y9 y10 y11
   unfold parapetref9_Class.j0
   repeat' first
   | (with_reducible exact ih0 _ _ _ _ _ _ _ _ _ _ _ _)
   | (with_reducible exact parapetref1_In.mono _ _ _)
   | (with_reducible exact parapetref9_IsAddress.mono _ _)
   | (with_reducible exact parapetref9_Secure.mono _ _ _ _ _ _ _ _ _ _ _)
   | (with_reducible exact LeO.refl _)
   | (with_reducible exact LeO.none _)
   | (with_reducible refine LeO.ite ?_ ?_)
   | (with_reducible refine LeO.bind ?_ (fun _ => ?_))
   | exact ih0 _ _ _ _ _ _ _ _ _ _ _ _
   | exact parapetref1_In.mono _ _ _
   | exact parapetref9_IsAddress.mono _ _
   | exact parapetref9_Secure.mono _ _ _ _ _ _ _ _ _ _ _
   | exact LeO.none _
   | refine LeO.ite ?_ ?_
   | refine LeO.bind ?_ (fun _ => ?_)
theorem parapetref9_Class.mono : ∀ a0 a1 a2 a3 a4 a5 a6 a7 a8 a9 a10 a11 a12 a13 k, LeO (parapetref9_Class.f k a0 a1 a2 a3 a4 a5 a6 a7 a8 a9 a10 a11 a12 a13) (parapetref9_Class.f (k + 1) a0 a1 a2 a3 a4 a5 a6 a7 a8 a9 a10 a11 a12 a13) := by
 intro a0 a1 a2 a3 a4 a5 a6 a7 a8 a9 a10 a11 a12 a13 k
 have ih0 := parapetref9_Class.mono_l k
 unfold parapetref9_Class.f
 repeat' first
   | (with_reducible exact ih0 _ _ _ _ _ _ _ _ _ _ _ _)
   | (with_reducible exact parapetref1_In.mono _ _ _)
   | (with_reducible exact parapetref9_IsAddress.mono _ _)
   | (with_reducible exact parapetref9_Secure.mono _ _ _ _ _ _ _ _ _ _ _)
   | (with_reducible exact LeO.refl _)
   | (with_reducible exact LeO.none _)
   | (with_reducible refine LeO.ite ?_ ?_)
   | (with_reducible refine LeO.bind ?_ (fun _ => ?_))
   | exact ih0 _ _ _ _ _ _ _ _ _ _ _ _
   | exact parapetref1_In.mono _ _ _
   | exact parapetref9_IsAddress.mono _ _
   | exact parapetref9_Secure.mono _ _ _ _ _ _ _ _ _ _ _
   | exact LeO.none _
   | refine LeO.ite ?_ ?_
   | refine LeO.bind ?_ (fun _ => ?_)
theorem parapetref9_Class.calls (k : Nat) (a0_0 : ByteArray) (a0_1 : ByteArray) (a0_2 : Int) (a1_0 : ByteArray) (a1_1 : ByteArray) (a1_2 : ByteArray) (a1_3 : ByteArray) (a1_4 : Int) (a1_5 : ByteArray) (a1_6 : Bool) (a1_7 : ByteArray) (a1_8 : Bool) (a1_9 : ByteArray) (a2 : ByteArray) (r : Int) (w : World) (h : parapetref9_Class.f k a0_0 a0_1 a0_2 a1_0 a1_1 a1_2 a1_3 a1_4 a1_5 a1_6 a1_7 a1_8 a1_9 a2 = some r) :
  Calls Tryd.prog 14 #[.agg #[.string a0_0, .string a0_1, .int .i64 a0_2], .agg #[.string a1_0, .string a1_1, .string a1_2, .string a1_3, .int .i64 a1_4, .string a1_5, .bool a1_6, .string a1_7, .bool a1_8, .string a1_9], .string a2] w fun e w' => e = .returned (.int .i64 r) ∧ Below w.heap.size w w' := by
 have hu29 := Tryd.underlying29
 have hu23 := Tryd.underlying23
 have HB := Aside0.mk (Below.refl w.heap.size w)
 have H : (if a0_0.toList = ([104, 116, 116, 112, 115] : List UInt8) then ((parapetref9_Secure.f k a1_0 a1_1 a1_2 a1_3 a1_4 a1_5 a1_6 a1_7 a1_8 a1_9).bind fun t370 => (if t370 = true then (parapetref9_Class.j0 k a2 true a1_0 a1_1 a1_2 a1_3 a1_4 a1_5 a1_6 a1_7 a1_8 a1_9) else (parapetref9_Class.j0 k a2 (a2.toList == ([100, 111, 99, 117, 109, 101, 110, 116] : List UInt8)) a1_0 a1_1 a1_2 a1_3 a1_4 a1_5 a1_6 a1_7 a1_8 a1_9))) else (if a0_0.toList = ([119, 115, 115] : List UInt8) then ((parapetref9_Secure.f k a1_0 a1_1 a1_2 a1_3 a1_4 a1_5 a1_6 a1_7 a1_8 a1_9).bind fun t371 => (if t371 = true then (parapetref9_Class.j0 k a2 true a1_0 a1_1 a1_2 a1_3 a1_4 a1_5 a1_6 a1_7 a1_8 a1_9) else (parapetref9_Class.j0 k a2 (a2.toList == ([100, 111, 99, 117, 109, 101, 110, 116] : List UInt8)) a1_0 a1_1 a1_2 a1_3 a1_4 a1_5 a1_6 a1_7 a1_8 a1_9))) else (parapetref9_Class.j0 k a2 true a1_0 a1_1 a1_2 a1_3 a1_4 a1_5 a1_6 a1_7 a1_8 a1_9))) = some r := h
 clear h
 have HC4 := Aside0.mk H
 clear H
 go_enter Tryd.func14, Tryd.ntmps14
 go_upto_region 1 with (first | ((with_reducible refine gate_dst (N := 3) rfl ?_); refine box_event ?hg (N := 3) ?hd (cs := #[.string a0_0, .string a0_1, .int .i64 a0_2]) (t := 29) ?hr ?_; (case hd => rfl); (case hg => rfl); (case hr => first | (go_simp; done) | (go_simp; rfl)); intro gb368 hg w5 hbox hb; have n0_ := Aside0.mk (below_step BWK hb); have n1_ := Aside0.mk (hbox); have n2_ := Aside0.mk ((by rw [hg]; exact (below_size BWK) : w.heap.size ≤ gb368)); have n3_ := Aside0.mk ((by rw [hg]; exact (below_size BWK) : w.heap.size ≤ gb368)); clear HB; have HB := n0_; have BK368 := n1_; have GW368 := n2_; have GE368 := n3_; clear n0_ n1_ n2_ n3_; clear hb hbox hg) | ((with_reducible refine gate_dst (N := 4) rfl ?_); refine box_event ?hg (N := 4) ?hd (cs := #[.string a1_0, .string a1_1, .string a1_2, .string a1_3, .int .i64 a1_4, .string a1_5, .bool a1_6, .string a1_7, .bool a1_8, .string a1_9]) (t := 23) ?hr ?_; (case hd => rfl); (case hg => rfl); (case hr => first | (go_simp; done) | (go_simp; rfl)); intro gb369 hg w6 hbox hb; have n0_ := Aside0.mk (blk_below (g := gb368) (o := .cells #[.string a0_0, .string a0_1, .int .i64 a0_2] 29 (0, 0)) BLK hb); have n1_ := Aside0.mk (below_step BWK hb); have n2_ := Aside0.mk (hbox); have n3_ := Aside0.mk ((by rw [hg]; exact (below_size BWK) : w.heap.size ≤ gb369)); have n4_ := Aside0.mk ((by rw [hg]; exact (below_size BWK) : w.heap.size ≤ gb369)); have n5_ := Aside0.mk ((by rw [hg]; exact Nat.ne_of_lt (blk_lt (g := gb368) (o := .cells #[.string a0_0, .string a0_1, .int .i64 a0_2] 29 (0, 0)) BLK) : gb368 ≠ gb369)); have n6_ := Aside0.mk ((by rw [hg]; exact Nat.ne_of_gt (blk_lt (g := gb368) (o := .cells #[.string a0_0, .string a0_1, .int .i64 a0_2] 29 (0, 0)) BLK) : gb369 ≠ gb368)); clear BK368; clear HB; have BK368 := n0_; have HB := n1_; have BK369 := n2_; have GW369 := n3_; have GE369 := n4_; have NB368_369 := n5_; have NB369_368 := n6_; clear n0_ n1_ n2_ n3_ n4_ n5_ n6_; clear hb hbox hg))
 (try simp only [Act.put, List.setIfInBounds_toArray, List.set_cons_zero, List.set_cons_succ])
 go_cut [24] (fun v24 wc => ∃ (kq : Nat) (x24_3 : Bool), v24 = .bool x24_3 ∧ Aside0 (parapetref9_Class.j0 kq a2 x24_3 a1_0 a1_1 a1_2 a1_3 a1_4 a1_5 a1_6 a1_7 a1_8 a1_9 = some r) ∧ Aside0 (kq ≤ k) ∧ Aside0 (wc.heap[gb368]? = some (.cells #[.string a0_0, .string a0_1, .int .i64 a0_2] 29 (0, 0))) ∧ Aside0 (wc.heap[gb369]? = some (.cells #[.string a1_0, .string a1_1, .string a1_2, .string a1_3, .int .i64 a1_4, .string a1_5, .bool a1_6, .string a1_7, .bool a1_8, .string a1_9] 23 (0, 0))) ∧ Aside0 (Below w.heap.size w wc))
 case first =>
  have H := HC4.out
  clear HC4
  by_cases c7 : a0_0.toList = ([104, 116, 116, 112, 115] : List UInt8)
  ·rw [if_pos c7] at H
   have c7b0 : (a0_0.toList == ([104, 116, 116, 112, 115] : List UInt8)) = true := beq_iff_eq.mpr c7
   have c7b1 : (a0_0.toList != ([104, 116, 116, 112, 115] : List UInt8)) = false := bne_eq_false_iff_eq.mpr c7
   clear c7
   (first | rw [c7b0] | (simp only [i64_w, i32_w]; rw [c7b0]) | skip)
   replace H := Option.bind_eq_some_iff.mp H
   obtain ⟨t370, A80, H⟩ := H
   (try dsimp only at H)
   have A8 := Aside0.mk A80
   clear A80
   by_cases c9 : t370 = true
   ·subst c9
    have H1 := H; rw [if_pos rfl] at H1
    clear H
    have H := H1
    clear H1
    have H' := Aside0.mk H
    clear H
    have hnb10 := NB368_369.out
    have hnc10 := NB369_368.out
    have hcz11_0 := bc0 BK368.out
    have hcz11_1 := bc1 BK368.out
    have hcz11_2 := bc2 BK368.out
    have hfz11_0 := blk_frozen BK368.out 0
    have hfz11_1 := blk_frozen BK368.out 1
    have hfz11_2 := blk_frozen BK368.out 2
    have hcz12_0 := bc0 BK369.out
    have hcz12_1 := bc1 BK369.out
    have hcz12_2 := bc2 BK369.out
    have hcz12_3 := bc3 BK369.out
    have hcz12_4 := bc4 BK369.out
    have hcz12_5 := bc5 BK369.out
    have hcz12_6 := bc6 BK369.out
    have hcz12_7 := bc7 BK369.out
    have hcz12_8 := bc8 BK369.out
    have hcz12_9 := bc9 BK369.out
    have hfz12_0 := blk_frozen BK369.out 0
    have hfz12_1 := blk_frozen BK369.out 1
    have hfz12_2 := blk_frozen BK369.out 2
    have hfz12_3 := blk_frozen BK369.out 3
    have hfz12_4 := blk_frozen BK369.out 4
    have hfz12_5 := blk_frozen BK369.out 5
    have hfz12_6 := blk_frozen BK369.out 6
    have hfz12_7 := blk_frozen BK369.out 7
    have hfz12_8 := blk_frozen BK369.out 8
    have hfz12_9 := blk_frozen BK369.out 9
    go_wp2_with (first | (go_at_call 11; (with_reducible refine (parapetref9_Secure.calls k a1_0 a1_1 a1_2 a1_3 a1_4 a1_5 a1_6 a1_7 a1_8 a1_9 true _ A8.out).mono ?_); rintro e w13 ⟨rfl, hb⟩; have n0_ := Aside0.mk (blk_below (g := gb368) (o := .cells #[.string a0_0, .string a0_1, .int .i64 a0_2] 29 (0, 0)) BLK hb); have n1_ := Aside0.mk (blk_below (g := gb369) (o := .cells #[.string a1_0, .string a1_1, .string a1_2, .string a1_3, .int .i64 a1_4, .string a1_5, .bool a1_6, .string a1_7, .bool a1_8, .string a1_9] 23 (0, 0)) BLK hb); have n2_ := Aside0.mk (below_step BWK hb); clear BK368; clear BK369; clear HB; have BK368 := n0_; have BK369 := n1_; have HB := n2_; clear n0_ n1_ n2_; (try clear hb); (try clear hb2); (try clear hk); (try clear hi)))
    go_meet
    case rel => exact ⟨_, (true), RFK, H', ⟨OMK⟩, ⟨BLK⟩, ⟨BLK⟩, ⟨BWK⟩⟩
   ·replace c9 := Bool.eq_false_iff.mpr c9
    subst c9
    have H1 := H; rw [if_neg (show ¬ (false = true) by decide)] at H1
    clear H
    have H := H1
    clear H1
    have H' := Aside0.mk H
    clear H
    have hnb14 := NB368_369.out
    have hnc14 := NB369_368.out
    have hcz15_0 := bc0 BK368.out
    have hcz15_1 := bc1 BK368.out
    have hcz15_2 := bc2 BK368.out
    have hfz15_0 := blk_frozen BK368.out 0
    have hfz15_1 := blk_frozen BK368.out 1
    have hfz15_2 := blk_frozen BK368.out 2
    have hcz16_0 := bc0 BK369.out
    have hcz16_1 := bc1 BK369.out
    have hcz16_2 := bc2 BK369.out
    have hcz16_3 := bc3 BK369.out
    have hcz16_4 := bc4 BK369.out
    have hcz16_5 := bc5 BK369.out
    have hcz16_6 := bc6 BK369.out
    have hcz16_7 := bc7 BK369.out
    have hcz16_8 := bc8 BK369.out
    have hcz16_9 := bc9 BK369.out
    have hfz16_0 := blk_frozen BK369.out 0
    have hfz16_1 := blk_frozen BK369.out 1
    have hfz16_2 := blk_frozen BK369.out 2
    have hfz16_3 := blk_frozen BK369.out 3
    have hfz16_4 := blk_frozen BK369.out 4
    have hfz16_5 := blk_frozen BK369.out 5
    have hfz16_6 := blk_frozen BK369.out 6
    have hfz16_7 := blk_frozen BK369.out 7
    have hfz16_8 := blk_frozen BK369.out 8
    have hfz16_9 := blk_frozen BK369.out 9
    go_wp2_with (first | (go_at_call 11; (with_reducible refine (parapetref9_Secure.calls k a1_0 a1_1 a1_2 a1_3 a1_4 a1_5 a1_6 a1_7 a1_8 a1_9 false _ A8.out).mono ?_); rintro e w17 ⟨rfl, hb⟩; have n0_ := Aside0.mk (blk_below (g := gb368) (o := .cells #[.string a0_0, .string a0_1, .int .i64 a0_2] 29 (0, 0)) BLK hb); have n1_ := Aside0.mk (blk_below (g := gb369) (o := .cells #[.string a1_0, .string a1_1, .string a1_2, .string a1_3, .int .i64 a1_4, .string a1_5, .bool a1_6, .string a1_7, .bool a1_8, .string a1_9] 23 (0, 0)) BLK hb); have n2_ := Aside0.mk (below_step BWK hb); clear BK368; clear BK369; clear HB; have BK368 := n0_; have BK369 := n1_; have HB := n2_; clear n0_ n1_ n2_; (try clear hb); (try clear hb2); (try clear hk); (try clear hi)))
    go_meet
    case rel => exact ⟨_, ((a2.toList == ([100, 111, 99, 117, 109, 101, 110, 116] : List UInt8))), RFK, H', ⟨OMK⟩, ⟨BLK⟩, ⟨BLK⟩, ⟨BWK⟩⟩
  ·rw [if_neg c7] at H
   have c7b0 : (a0_0.toList == ([104, 116, 116, 112, 115] : List UInt8)) = false := beq_eq_false_iff_ne.mpr c7
   have c7b1 : (a0_0.toList != ([104, 116, 116, 112, 115] : List UInt8)) = true := bne_iff_ne.mpr c7
   (first | rw [c7b0] | (simp only [i64_w, i32_w]; rw [c7b0]) | skip)
   by_cases c18 : a0_0.toList = ([119, 115, 115] : List UInt8)
   ·rw [if_pos c18] at H
    have c18b0 : (a0_0.toList == ([119, 115, 115] : List UInt8)) = true := beq_iff_eq.mpr c18
    have c18b1 : (a0_0.toList != ([119, 115, 115] : List UInt8)) = false := bne_eq_false_iff_eq.mpr c18
    clear c18
    replace H := Option.bind_eq_some_iff.mp H
    obtain ⟨t371, A190, H⟩ := H
    (try dsimp only at H)
    have A19 := Aside0.mk A190
    clear A190
    by_cases c20 : t371 = true
    ·subst c20
     have H1 := H; rw [if_pos rfl] at H1
     clear H
     have H := H1
     clear H1
     have H' := Aside0.mk H
     clear H
     have hnb21 := NB368_369.out
     have hnc21 := NB369_368.out
     have hcz22_0 := bc0 BK368.out
     have hcz22_1 := bc1 BK368.out
     have hcz22_2 := bc2 BK368.out
     have hfz22_0 := blk_frozen BK368.out 0
     have hfz22_1 := blk_frozen BK368.out 1
     have hfz22_2 := blk_frozen BK368.out 2
     have hcz23_0 := bc0 BK369.out
     have hcz23_1 := bc1 BK369.out
     have hcz23_2 := bc2 BK369.out
     have hcz23_3 := bc3 BK369.out
     have hcz23_4 := bc4 BK369.out
     have hcz23_5 := bc5 BK369.out
     have hcz23_6 := bc6 BK369.out
     have hcz23_7 := bc7 BK369.out
     have hcz23_8 := bc8 BK369.out
     have hcz23_9 := bc9 BK369.out
     have hfz23_0 := blk_frozen BK369.out 0
     have hfz23_1 := blk_frozen BK369.out 1
     have hfz23_2 := blk_frozen BK369.out 2
     have hfz23_3 := blk_frozen BK369.out 3
     have hfz23_4 := blk_frozen BK369.out 4
     have hfz23_5 := blk_frozen BK369.out 5
     have hfz23_6 := blk_frozen BK369.out 6
     have hfz23_7 := blk_frozen BK369.out 7
     have hfz23_8 := blk_frozen BK369.out 8
     have hfz23_9 := blk_frozen BK369.out 9
     go_wp2_with (first | (go_at_call 11; (with_reducible refine (parapetref9_Secure.calls k a1_0 a1_1 a1_2 a1_3 a1_4 a1_5 a1_6 a1_7 a1_8 a1_9 true _ A19.out).mono ?_); rintro e w24 ⟨rfl, hb⟩; have n0_ := Aside0.mk (blk_below (g := gb368) (o := .cells #[.string a0_0, .string a0_1, .int .i64 a0_2] 29 (0, 0)) BLK hb); have n1_ := Aside0.mk (blk_below (g := gb369) (o := .cells #[.string a1_0, .string a1_1, .string a1_2, .string a1_3, .int .i64 a1_4, .string a1_5, .bool a1_6, .string a1_7, .bool a1_8, .string a1_9] 23 (0, 0)) BLK hb); have n2_ := Aside0.mk (below_step BWK hb); clear BK368; clear BK369; clear HB; have BK368 := n0_; have BK369 := n1_; have HB := n2_; clear n0_ n1_ n2_; (try clear hb); (try clear hb2); (try clear hk); (try clear hi)))
     go_meet
     case rel => exact ⟨_, (true), RFK, H', ⟨OMK⟩, ⟨BLK⟩, ⟨BLK⟩, ⟨BWK⟩⟩
    ·replace c20 := Bool.eq_false_iff.mpr c20
     subst c20
     have H1 := H; rw [if_neg (show ¬ (false = true) by decide)] at H1
     clear H
     have H := H1
     clear H1
     have H' := Aside0.mk H
     clear H
     have hnb25 := NB368_369.out
     have hnc25 := NB369_368.out
     have hcz26_0 := bc0 BK368.out
     have hcz26_1 := bc1 BK368.out
     have hcz26_2 := bc2 BK368.out
     have hfz26_0 := blk_frozen BK368.out 0
     have hfz26_1 := blk_frozen BK368.out 1
     have hfz26_2 := blk_frozen BK368.out 2
     have hcz27_0 := bc0 BK369.out
     have hcz27_1 := bc1 BK369.out
     have hcz27_2 := bc2 BK369.out
     have hcz27_3 := bc3 BK369.out
     have hcz27_4 := bc4 BK369.out
     have hcz27_5 := bc5 BK369.out
     have hcz27_6 := bc6 BK369.out
     have hcz27_7 := bc7 BK369.out
     have hcz27_8 := bc8 BK369.out
     have hcz27_9 := bc9 BK369.out
     have hfz27_0 := blk_frozen BK369.out 0
     have hfz27_1 := blk_frozen BK369.out 1
     have hfz27_2 := blk_frozen BK369.out 2
     have hfz27_3 := blk_frozen BK369.out 3
     have hfz27_4 := blk_frozen BK369.out 4
     have hfz27_5 := blk_frozen BK369.out 5
     have hfz27_6 := blk_frozen BK369.out 6
     have hfz27_7 := blk_frozen BK369.out 7
     have hfz27_8 := blk_frozen BK369.out 8
     have hfz27_9 := blk_frozen BK369.out 9
     go_wp2_with (first | (go_at_call 11; (with_reducible refine (parapetref9_Secure.calls k a1_0 a1_1 a1_2 a1_3 a1_4 a1_5 a1_6 a1_7 a1_8 a1_9 false _ A19.out).mono ?_); rintro e w28 ⟨rfl, hb⟩; have n0_ := Aside0.mk (blk_below (g := gb368) (o := .cells #[.string a0_0, .string a0_1, .int .i64 a0_2] 29 (0, 0)) BLK hb); have n1_ := Aside0.mk (blk_below (g := gb369) (o := .cells #[.string a1_0, .string a1_1, .string a1_2, .string a1_3, .int .i64 a1_4, .string a1_5, .bool a1_6, .string a1_7, .bool a1_8, .string a1_9] 23 (0, 0)) BLK hb); have n2_ := Aside0.mk (below_step BWK hb); clear BK368; clear BK369; clear HB; have BK368 := n0_; have BK369 := n1_; have HB := n2_; clear n0_ n1_ n2_; (try clear hb); (try clear hb2); (try clear hk); (try clear hi)))
     go_meet
     case rel => exact ⟨_, ((a2.toList == ([100, 111, 99, 117, 109, 101, 110, 116] : List UInt8))), RFK, H', ⟨OMK⟩, ⟨BLK⟩, ⟨BLK⟩, ⟨BWK⟩⟩
   ·rw [if_neg c18] at H
    have c18b0 : (a0_0.toList == ([119, 115, 115] : List UInt8)) = false := beq_eq_false_iff_ne.mpr c18
    have c18b1 : (a0_0.toList != ([119, 115, 115] : List UInt8)) = true := bne_iff_ne.mpr c18
    have H' := Aside0.mk H
    clear H
    have hnb29 := NB368_369.out
    have hnc29 := NB369_368.out
    have hcz30_0 := bc0 BK368.out
    have hcz30_1 := bc1 BK368.out
    have hcz30_2 := bc2 BK368.out
    have hfz30_0 := blk_frozen BK368.out 0
    have hfz30_1 := blk_frozen BK368.out 1
    have hfz30_2 := blk_frozen BK368.out 2
    go_wp2
    go_meet
    case rel => exact ⟨_, (true), RFK, H', ⟨OMK⟩, ⟨BLK⟩, ⟨BLK⟩, ⟨BWK⟩⟩
 case rest =>
  clear HC4
  try clear c1
  try clear c2
  try clear p2
  try clear c7
  try clear c7b0
  try clear c7b1
  try clear c9
  try clear c10
  try clear c14
  try clear c18
  try clear c18b0
  try clear c18b1
  try clear c20
  try clear c21
  try clear c25
  try clear c29
  try clear hcz11_0
  try clear hcz11_1
  try clear hcz11_2
  try clear hcz12_0
  try clear hcz12_1
  try clear hcz12_2
  try clear hcz12_3
  try clear hcz12_4
  try clear hcz12_5
  try clear hcz12_6
  try clear hcz12_7
  try clear hcz12_8
  try clear hcz12_9
  try clear hcz15_0
  try clear hcz15_1
  try clear hcz15_2
  try clear hcz16_0
  try clear hcz16_1
  try clear hcz16_2
  try clear hcz16_3
  try clear hcz16_4
  try clear hcz16_5
  try clear hcz16_6
  try clear hcz16_7
  try clear hcz16_8
  try clear hcz16_9
  try clear hcz22_0
  try clear hcz22_1
  try clear hcz22_2
  try clear hcz23_0
  try clear hcz23_1
  try clear hcz23_2
  try clear hcz23_3
  try clear hcz23_4
  try clear hcz23_5
  try clear hcz23_6
  try clear hcz23_7
  try clear hcz23_8
  try clear hcz23_9
  try clear hcz26_0
  try clear hcz26_1
  try clear hcz26_2
  try clear hcz27_0
  try clear hcz27_1
  try clear hcz27_2
  try clear hcz27_3
  try clear hcz27_4
  try clear hcz27_5
  try clear hcz27_6
  try clear hcz27_7
  try clear hcz27_8
  try clear hcz27_9
  try clear hcz30_0
  try clear hcz30_1
  try clear hcz30_2
  try clear hfz11_0
  try clear hfz11_1
  try clear hfz11_2
  try clear hfz12_0
  try clear hfz12_1
  try clear hfz12_2
  try clear hfz12_3
  try clear hfz12_4
  try clear hfz12_5
  try clear hfz12_6
  try clear hfz12_7
  try clear hfz12_8
  try clear hfz12_9
  try clear hfz15_0
  try clear hfz15_1
  try clear hfz15_2
  try clear hfz16_0
  try clear hfz16_1
  try clear hfz16_2
  try clear hfz16_3
  try clear hfz16_4
  try clear hfz16_5
  try clear hfz16_6
  try clear hfz16_7
  try clear hfz16_8
  try clear hfz16_9
  try clear hfz22_0
  try clear hfz22_1
  try clear hfz22_2
  try clear hfz23_0
  try clear hfz23_1
  try clear hfz23_2
  try clear hfz23_3
  try clear hfz23_4
  try clear hfz23_5
  try clear hfz23_6
  try clear hfz23_7
  try clear hfz23_8
  try clear hfz23_9
  try clear hfz26_0
  try clear hfz26_1
  try clear hfz26_2
  try clear hfz27_0
  try clear hfz27_1
  try clear hfz27_2
  try clear hfz27_3
  try clear hfz27_4
  try clear hfz27_5
  try clear hfz27_6
  try clear hfz27_7
  try clear hfz27_8
  try clear hfz27_9
  try clear hfz30_0
  try clear hfz30_1
  try clear hfz30_2
  obtain ⟨kq, x24_3, rfl, HA, HJ3, BK368, BK369, HB⟩ := hcut
  cases kq with
  | zero => exact absurd HA.out (by simp [parapetref9_Class.j0])
  | succ kj3 =>
   have H := HA.out
   clear HA
   simp only [parapetref9_Class.j0] at H
   by_cases c31 : x24_3 = true
   ·subst c31
    have H1 := H; rw [if_pos rfl] at H1
    clear H
    have H := H1
    clear H1
    obtain rfl := Option.some.inj H
    go_wp2
    go_ret
    exact ⟨ERK, BWK⟩
   ·replace c31 := Bool.eq_false_iff.mpr c31
    subst c31
    have H1 := H; rw [if_neg (show ¬ (false = true) by decide)] at H1
    clear H
    have H := H1
    clear H1
    replace H := Option.bind_eq_some_iff.mp H
    obtain ⟨⟨t372, t373⟩, A320, H⟩ := H
    (try dsimp only at H)
    have A32 := Aside0.mk A320
    clear A320
    obtain ⟨y374, hy374⟩ : ∃ y_ : List ByteArray, y_ = (([(⟨#[105, 109, 97, 103, 101]⟩ : ByteArray), (⟨#[97, 117, 100, 105, 111]⟩ : ByteArray), (⟨#[118, 105, 100, 101, 111]⟩ : ByteArray)] : List ByteArray)) := ⟨_, rfl⟩
    replace H : ((parapetref1_In.f kj3 a2 y374).bind fun t377 => (if t377 = true then (if t373 = true then (some 2) else (some 1)) else (some 2))) = some r := by first | (rw [hy374]; with_reducible exact H) | (have H2_ := (Option.bind_some _ _).symm.trans H; rw [hy374]; with_reducible exact H2_) | (have H2_ := (Option.bind_some _ _).symm.trans H; with_reducible exact H2_) | with_reducible exact H | (rw [hy374]; exact H) | exact H
    have Ny374 := Aside0.mk hy374
    clear hy374
    replace H := Option.bind_eq_some_iff.mp H
    obtain ⟨t377, A330, H⟩ := H
    (try dsimp only at H)
    have A33 := Aside0.mk A330
    clear A330
    by_cases c34 : t377 = true
    ·subst c34
     have H1 := H; rw [if_pos rfl] at H1
     clear H
     have H := H1
     clear H1
     by_cases c35 : t373 = true
     ·subst c35
      have H1 := H; rw [if_pos rfl] at H1
      clear H
      have H := H1
      clear H1
      obtain rfl := Option.some.inj H
      have hnb36 := NB369_368.out
      have hnc36 := NB368_369.out
      have hcz37_0 := bc0 BK369.out
      have hcz37_1 := bc1 BK369.out
      have hcz37_2 := bc2 BK369.out
      have hcz37_3 := bc3 BK369.out
      have hcz37_4 := bc4 BK369.out
      have hcz37_5 := bc5 BK369.out
      have hcz37_6 := bc6 BK369.out
      have hcz37_7 := bc7 BK369.out
      have hcz37_8 := bc8 BK369.out
      have hcz37_9 := bc9 BK369.out
      have hfz37_0 := blk_frozen BK369.out 0
      have hfz37_1 := blk_frozen BK369.out 1
      have hfz37_2 := blk_frozen BK369.out 2
      have hfz37_3 := blk_frozen BK369.out 3
      have hfz37_4 := blk_frozen BK369.out 4
      have hfz37_5 := blk_frozen BK369.out 5
      have hfz37_6 := blk_frozen BK369.out 6
      have hfz37_7 := blk_frozen BK369.out 7
      have hfz37_8 := blk_frozen BK369.out 8
      have hfz37_9 := blk_frozen BK369.out 9
      go_wp2_with (first | ((with_reducible refine gate_callee (f := 12) rfl ?_); refine goesL_ (some 28) rfl rfl Tryd.func12 (by kernel_rfl) rfl #[.string a1_3] rfl GAK ?_; (with_reducible refine (parapetref9_IsAddress.calls kj3 a1_3 t372 true _ A32.out).mono ?_); rintro e w38 ⟨rfl, hb⟩; refine ⟨_, rfl, ?_⟩; have n0_ := Aside0.mk (blk_below (g := gb368) (o := .cells #[.string a0_0, .string a0_1, .int .i64 a0_2] 29 (0, 0)) BLK hb); have n1_ := Aside0.mk (blk_below (g := gb369) (o := .cells #[.string a1_0, .string a1_1, .string a1_2, .string a1_3, .int .i64 a1_4, .string a1_5, .bool a1_6, .string a1_7, .bool a1_8, .string a1_9] 23 (0, 0)) BLK hb); have n2_ := Aside0.mk (below_step BWK hb); clear BK368; clear BK369; clear HB; have BK368 := n0_; have BK369 := n1_; have HB := n2_; clear n0_ n1_ n2_; (try clear hb); (try clear hb2); (try clear hk); (try clear hi)) | ((with_reducible refine gate_dst (N := 32) rfl ?_); refine Kd.R_lit Kd.string _ 9 ?hg (N := 32) ?hd (xs := ([(⟨#[105, 109, 97, 103, 101]⟩ : ByteArray), (⟨#[97, 117, 100, 105, 111]⟩ : ByteArray), (⟨#[118, 105, 100, 101, 111]⟩ : ByteArray)] : List ByteArray)) (inner := [.string (⟨#[105, 109, 97, 103, 101]⟩ : ByteArray), .string (⟨#[97, 117, 100, 105, 111]⟩ : ByteArray), .string (⟨#[118, 105, 100, 101, 111]⟩ : ByteArray)]) (ok := fun _ => True) (okp := fun _ => True) ?hr ?hp (fun _ hk => hk) trivial (Below.refl _ _) (Nat.le_refl _) (by simp) ?_; (case hd => rfl); (case hg => rfl); (case hr => first | (go_simp; done) | (go_simp; rfl)); (case hp => exact (Reps.one (show Kd.M Kd.string _ _ _ (⟨#[105, 109, 97, 103, 101]⟩ : ByteArray) [.string (⟨#[105, 109, 97, 103, 101]⟩ : ByteArray)] from rfl) (Reps.one (show Kd.M Kd.string _ _ _ (⟨#[97, 117, 100, 105, 111]⟩ : ByteArray) [.string (⟨#[97, 117, 100, 105, 111]⟩ : ByteArray)] from rfl) (Reps.one (show Kd.M Kd.string _ _ _ (⟨#[118, 105, 100, 101, 111]⟩ : ByteArray) [.string (⟨#[118, 105, 100, 101, 111]⟩ : ByteArray)] from rfl) (Reps.none _ _))))); intro v375 w39 ho40 hb hg_ hnew_; clear hg_ hnew_; (first | rw [← Ny374.out] at ho40 | (simp only [Int.reduceToNat] at ho40; rw [← Ny374.out] at ho40)); have n0_ := Aside0.mk (Kd.R_lower ho40 (below_size BWK)); have n1_ := Aside0.mk (blk_below (g := gb368) (o := .cells #[.string a0_0, .string a0_1, .int .i64 a0_2] 29 (0, 0)) BLK hb); have n2_ := Aside0.mk (blk_below (g := gb369) (o := .cells #[.string a1_0, .string a1_1, .string a1_2, .string a1_3, .int .i64 a1_4, .string a1_5, .bool a1_6, .string a1_7, .bool a1_8, .string a1_9] 23 (0, 0)) BLK hb); have n3_ := Aside0.mk (below_step BWK hb); clear BK368; clear BK369; clear HB; have HO376 := n0_; have BK368 := n1_; have BK369 := n2_; have HB := n3_; clear n0_ n1_ n2_ n3_; clear hb ho40; obtain ⟨Ao41, co41, eo41⟩ := Kd.R_slice HO376.out; subst eo41) | ((with_reducible refine gate_callee (f := 26) rfl ?_); refine goesL_ (some 33) rfl rfl Tryd.func26 (by kernel_rfl) rfl #[.string a2, .slice Ao41 y374.length co41] rfl GAK ?_; (with_reducible refine (parapetref1_In.calls kj3 a2 _ _ y374 true _ ?side1 ?side2 A33.out).mono ?_); (case side1 => repeat (first | exact (Kd.R_reads' HO376.out).2.2 | (with_reducible refine Kd.C_alloc ?_ _) | (with_reducible refine Kd.C_drewN ?_ _) | (with_reducible refine Kd.C_drew ?_))); (case side2 => exact (Kd.R_reads' HO376.out).2.1); rintro e w' ⟨rfl, ⟨nd, rfl⟩⟩; refine ⟨_, rfl, ?_⟩))
      go_ret
      exact ⟨ERK, BWK⟩
     ·replace c35 := Bool.eq_false_iff.mpr c35
      subst c35
      have H1 := H; rw [if_neg (show ¬ (false = true) by decide)] at H1
      clear H
      have H := H1
      clear H1
      obtain rfl := Option.some.inj H
      have hnb42 := NB369_368.out
      have hnc42 := NB368_369.out
      have hcz43_0 := bc0 BK369.out
      have hcz43_1 := bc1 BK369.out
      have hcz43_2 := bc2 BK369.out
      have hcz43_3 := bc3 BK369.out
      have hcz43_4 := bc4 BK369.out
      have hcz43_5 := bc5 BK369.out
      have hcz43_6 := bc6 BK369.out
      have hcz43_7 := bc7 BK369.out
      have hcz43_8 := bc8 BK369.out
      have hcz43_9 := bc9 BK369.out
      have hfz43_0 := blk_frozen BK369.out 0
      have hfz43_1 := blk_frozen BK369.out 1
      have hfz43_2 := blk_frozen BK369.out 2
      have hfz43_3 := blk_frozen BK369.out 3
      have hfz43_4 := blk_frozen BK369.out 4
      have hfz43_5 := blk_frozen BK369.out 5
      have hfz43_6 := blk_frozen BK369.out 6
      have hfz43_7 := blk_frozen BK369.out 7
      have hfz43_8 := blk_frozen BK369.out 8
      have hfz43_9 := blk_frozen BK369.out 9
      go_wp2_with (first | ((with_reducible refine gate_callee (f := 12) rfl ?_); refine goesL_ (some 28) rfl rfl Tryd.func12 (by kernel_rfl) rfl #[.string a1_3] rfl GAK ?_; (with_reducible refine (parapetref9_IsAddress.calls kj3 a1_3 t372 false _ A32.out).mono ?_); rintro e w44 ⟨rfl, hb⟩; refine ⟨_, rfl, ?_⟩; have n0_ := Aside0.mk (blk_below (g := gb368) (o := .cells #[.string a0_0, .string a0_1, .int .i64 a0_2] 29 (0, 0)) BLK hb); have n1_ := Aside0.mk (blk_below (g := gb369) (o := .cells #[.string a1_0, .string a1_1, .string a1_2, .string a1_3, .int .i64 a1_4, .string a1_5, .bool a1_6, .string a1_7, .bool a1_8, .string a1_9] 23 (0, 0)) BLK hb); have n2_ := Aside0.mk (below_step BWK hb); clear BK368; clear BK369; clear HB; have BK368 := n0_; have BK369 := n1_; have HB := n2_; clear n0_ n1_ n2_; (try clear hb); (try clear hb2); (try clear hk); (try clear hi)) | ((with_reducible refine gate_dst (N := 32) rfl ?_); refine Kd.R_lit Kd.string _ 9 ?hg (N := 32) ?hd (xs := ([(⟨#[105, 109, 97, 103, 101]⟩ : ByteArray), (⟨#[97, 117, 100, 105, 111]⟩ : ByteArray), (⟨#[118, 105, 100, 101, 111]⟩ : ByteArray)] : List ByteArray)) (inner := [.string (⟨#[105, 109, 97, 103, 101]⟩ : ByteArray), .string (⟨#[97, 117, 100, 105, 111]⟩ : ByteArray), .string (⟨#[118, 105, 100, 101, 111]⟩ : ByteArray)]) (ok := fun _ => True) (okp := fun _ => True) ?hr ?hp (fun _ hk => hk) trivial (Below.refl _ _) (Nat.le_refl _) (by simp) ?_; (case hd => rfl); (case hg => rfl); (case hr => first | (go_simp; done) | (go_simp; rfl)); (case hp => exact (Reps.one (show Kd.M Kd.string _ _ _ (⟨#[105, 109, 97, 103, 101]⟩ : ByteArray) [.string (⟨#[105, 109, 97, 103, 101]⟩ : ByteArray)] from rfl) (Reps.one (show Kd.M Kd.string _ _ _ (⟨#[97, 117, 100, 105, 111]⟩ : ByteArray) [.string (⟨#[97, 117, 100, 105, 111]⟩ : ByteArray)] from rfl) (Reps.one (show Kd.M Kd.string _ _ _ (⟨#[118, 105, 100, 101, 111]⟩ : ByteArray) [.string (⟨#[118, 105, 100, 101, 111]⟩ : ByteArray)] from rfl) (Reps.none _ _))))); intro v375 w45 ho46 hb hg_ hnew_; clear hg_ hnew_; (first | rw [← Ny374.out] at ho46 | (simp only [Int.reduceToNat] at ho46; rw [← Ny374.out] at ho46)); have n0_ := Aside0.mk (Kd.R_lower ho46 (below_size BWK)); have n1_ := Aside0.mk (blk_below (g := gb368) (o := .cells #[.string a0_0, .string a0_1, .int .i64 a0_2] 29 (0, 0)) BLK hb); have n2_ := Aside0.mk (blk_below (g := gb369) (o := .cells #[.string a1_0, .string a1_1, .string a1_2, .string a1_3, .int .i64 a1_4, .string a1_5, .bool a1_6, .string a1_7, .bool a1_8, .string a1_9] 23 (0, 0)) BLK hb); have n3_ := Aside0.mk (below_step BWK hb); clear BK368; clear BK369; clear HB; have HO376 := n0_; have BK368 := n1_; have BK369 := n2_; have HB := n3_; clear n0_ n1_ n2_ n3_; clear hb ho46; obtain ⟨Ao47, co47, eo47⟩ := Kd.R_slice HO376.out; subst eo47) | ((with_reducible refine gate_callee (f := 26) rfl ?_); refine goesL_ (some 33) rfl rfl Tryd.func26 (by kernel_rfl) rfl #[.string a2, .slice Ao47 y374.length co47] rfl GAK ?_; (with_reducible refine (parapetref1_In.calls kj3 a2 _ _ y374 true _ ?side1 ?side2 A33.out).mono ?_); (case side1 => repeat (first | exact (Kd.R_reads' HO376.out).2.2 | (with_reducible refine Kd.C_alloc ?_ _) | (with_reducible refine Kd.C_drewN ?_ _) | (with_reducible refine Kd.C_drew ?_))); (case side2 => exact (Kd.R_reads' HO376.out).2.1); rintro e w' ⟨rfl, ⟨nd, rfl⟩⟩; refine ⟨_, rfl, ?_⟩))
      go_ret
      exact ⟨ERK, BWK⟩
    ·replace c34 := Bool.eq_false_iff.mpr c34
     subst c34
     have H1 := H; rw [if_neg (show ¬ (false = true) by decide)] at H1
     clear H
     have H := H1
     clear H1
     obtain rfl := Option.some.inj H
     have hnb48 := NB369_368.out
     have hnc48 := NB368_369.out
     have hcz49_0 := bc0 BK369.out
     have hcz49_1 := bc1 BK369.out
     have hcz49_2 := bc2 BK369.out
     have hcz49_3 := bc3 BK369.out
     have hcz49_4 := bc4 BK369.out
     have hcz49_5 := bc5 BK369.out
     have hcz49_6 := bc6 BK369.out
     have hcz49_7 := bc7 BK369.out
     have hcz49_8 := bc8 BK369.out
     have hcz49_9 := bc9 BK369.out
     have hfz49_0 := blk_frozen BK369.out 0
     have hfz49_1 := blk_frozen BK369.out 1
     have hfz49_2 := blk_frozen BK369.out 2
     have hfz49_3 := blk_frozen BK369.out 3
     have hfz49_4 := blk_frozen BK369.out 4
     have hfz49_5 := blk_frozen BK369.out 5
     have hfz49_6 := blk_frozen BK369.out 6
     have hfz49_7 := blk_frozen BK369.out 7
     have hfz49_8 := blk_frozen BK369.out 8
     have hfz49_9 := blk_frozen BK369.out 9
     go_wp2_with (first | ((with_reducible refine gate_callee (f := 12) rfl ?_); refine goesL_ (some 28) rfl rfl Tryd.func12 (by kernel_rfl) rfl #[.string a1_3] rfl GAK ?_; (with_reducible refine (parapetref9_IsAddress.calls kj3 a1_3 t372 t373 _ A32.out).mono ?_); rintro e w50 ⟨rfl, hb⟩; refine ⟨_, rfl, ?_⟩; have n0_ := Aside0.mk (blk_below (g := gb368) (o := .cells #[.string a0_0, .string a0_1, .int .i64 a0_2] 29 (0, 0)) BLK hb); have n1_ := Aside0.mk (blk_below (g := gb369) (o := .cells #[.string a1_0, .string a1_1, .string a1_2, .string a1_3, .int .i64 a1_4, .string a1_5, .bool a1_6, .string a1_7, .bool a1_8, .string a1_9] 23 (0, 0)) BLK hb); have n2_ := Aside0.mk (below_step BWK hb); clear BK368; clear BK369; clear HB; have BK368 := n0_; have BK369 := n1_; have HB := n2_; clear n0_ n1_ n2_; (try clear hb); (try clear hb2); (try clear hk); (try clear hi)) | ((with_reducible refine gate_dst (N := 32) rfl ?_); refine Kd.R_lit Kd.string _ 9 ?hg (N := 32) ?hd (xs := ([(⟨#[105, 109, 97, 103, 101]⟩ : ByteArray), (⟨#[97, 117, 100, 105, 111]⟩ : ByteArray), (⟨#[118, 105, 100, 101, 111]⟩ : ByteArray)] : List ByteArray)) (inner := [.string (⟨#[105, 109, 97, 103, 101]⟩ : ByteArray), .string (⟨#[97, 117, 100, 105, 111]⟩ : ByteArray), .string (⟨#[118, 105, 100, 101, 111]⟩ : ByteArray)]) (ok := fun _ => True) (okp := fun _ => True) ?hr ?hp (fun _ hk => hk) trivial (Below.refl _ _) (Nat.le_refl _) (by simp) ?_; (case hd => rfl); (case hg => rfl); (case hr => first | (go_simp; done) | (go_simp; rfl)); (case hp => exact (Reps.one (show Kd.M Kd.string _ _ _ (⟨#[105, 109, 97, 103, 101]⟩ : ByteArray) [.string (⟨#[105, 109, 97, 103, 101]⟩ : ByteArray)] from rfl) (Reps.one (show Kd.M Kd.string _ _ _ (⟨#[97, 117, 100, 105, 111]⟩ : ByteArray) [.string (⟨#[97, 117, 100, 105, 111]⟩ : ByteArray)] from rfl) (Reps.one (show Kd.M Kd.string _ _ _ (⟨#[118, 105, 100, 101, 111]⟩ : ByteArray) [.string (⟨#[118, 105, 100, 101, 111]⟩ : ByteArray)] from rfl) (Reps.none _ _))))); intro v375 w51 ho52 hb hg_ hnew_; clear hg_ hnew_; (first | rw [← Ny374.out] at ho52 | (simp only [Int.reduceToNat] at ho52; rw [← Ny374.out] at ho52)); have n0_ := Aside0.mk (Kd.R_lower ho52 (below_size BWK)); have n1_ := Aside0.mk (blk_below (g := gb368) (o := .cells #[.string a0_0, .string a0_1, .int .i64 a0_2] 29 (0, 0)) BLK hb); have n2_ := Aside0.mk (blk_below (g := gb369) (o := .cells #[.string a1_0, .string a1_1, .string a1_2, .string a1_3, .int .i64 a1_4, .string a1_5, .bool a1_6, .string a1_7, .bool a1_8, .string a1_9] 23 (0, 0)) BLK hb); have n3_ := Aside0.mk (below_step BWK hb); clear BK368; clear BK369; clear HB; have HO376 := n0_; have BK368 := n1_; have BK369 := n2_; have HB := n3_; clear n0_ n1_ n2_ n3_; clear hb ho52; obtain ⟨Ao53, co53, eo53⟩ := Kd.R_slice HO376.out; subst eo53) | ((with_reducible refine gate_callee (f := 26) rfl ?_); refine goesL_ (some 33) rfl rfl Tryd.func26 (by kernel_rfl) rfl #[.string a2, .slice Ao53 y374.length co53] rfl GAK ?_; (with_reducible refine (parapetref1_In.calls kj3 a2 _ _ y374 false _ ?side1 ?side2 A33.out).mono ?_); (case side1 => repeat (first | exact (Kd.R_reads' HO376.out).2.2 | (with_reducible refine Kd.C_alloc ?_ _) | (with_reducible refine Kd.C_drewN ?_ _) | (with_reducible refine Kd.C_drew ?_))); (case side2 => exact (Kd.R_reads' HO376.out).2.1); rintro e w' ⟨rfl, ⟨nd, rfl⟩⟩; refine ⟨_, rfl, ?_⟩))
     go_ret
     exact ⟨ERK, BWK⟩

/-! ### mixed_Upgrade: function 15 -/
def mixed_Upgrade.f (k : Nat) (a0_0 : ByteArray) (a0_1 : ByteArray) (a0_2 : ByteArray) (a0_3 : ByteArray) (a0_4 : Int) (a0_5 : ByteArray) (a0_6 : Bool) (a0_7 : ByteArray) (a0_8 : Bool) (a0_9 : ByteArray) : Option (ByteArray × ByteArray × ByteArray × ByteArray × Int × ByteArray × Bool × ByteArray × Bool × ByteArray) := if a0_0.toList = ([104, 116, 116, 112] : List UInt8) then ((url_Default.f k (⟨#[104, 116, 116, 112, 115]⟩ : ByteArray)).bind fun bt380 => (if a0_4 = bt380.1 then (some ((⟨#[104, 116, 116, 112, 115]⟩ : ByteArray), a0_1, a0_2, a0_3, (-1), a0_5, a0_6, a0_7, a0_8, a0_9)) else (some ((⟨#[104, 116, 116, 112, 115]⟩ : ByteArray), a0_1, a0_2, a0_3, a0_4, a0_5, a0_6, a0_7, a0_8, a0_9)))) else (if a0_0.toList = ([119, 115] : List UInt8) then ((url_Default.f k (⟨#[119, 115, 115]⟩ : ByteArray)).bind fun bt382 => (if a0_4 = bt382.1 then (some ((⟨#[119, 115, 115]⟩ : ByteArray), a0_1, a0_2, a0_3, (-1), a0_5, a0_6, a0_7, a0_8, a0_9)) else (some ((⟨#[119, 115, 115]⟩ : ByteArray), a0_1, a0_2, a0_3, a0_4, a0_5, a0_6, a0_7, a0_8, a0_9)))) else (some (a0_0, a0_1, a0_2, a0_3, a0_4, a0_5, a0_6, a0_7, a0_8, a0_9)))
theorem mixed_Upgrade.mono : ∀ a0 a1 a2 a3 a4 a5 a6 a7 a8 a9 k, LeO (mixed_Upgrade.f k a0 a1 a2 a3 a4 a5 a6 a7 a8 a9) (mixed_Upgrade.f (k + 1) a0 a1 a2 a3 a4 a5 a6 a7 a8 a9) := by
 intro a0 a1 a2 a3 a4 a5 a6 a7 a8 a9 k
 unfold mixed_Upgrade.f
 repeat' first
   | (with_reducible exact url_Default.mono _ _)
   | (with_reducible exact LeO.refl _)
   | (with_reducible exact LeO.none _)
   | (with_reducible refine LeO.ite ?_ ?_)
   | (with_reducible refine LeO.bind ?_ (fun _ => ?_))
   | exact url_Default.mono _ _
   | exact LeO.none _
   | refine LeO.ite ?_ ?_
   | refine LeO.bind ?_ (fun _ => ?_)
theorem mixed_Upgrade.calls (k : Nat) (a0_0 : ByteArray) (a0_1 : ByteArray) (a0_2 : ByteArray) (a0_3 : ByteArray) (a0_4 : Int) (a0_5 : ByteArray) (a0_6 : Bool) (a0_7 : ByteArray) (a0_8 : Bool) (a0_9 : ByteArray) (r1 : ByteArray) (r2 : ByteArray) (r3 : ByteArray) (r4 : ByteArray) (r5 : Int) (r6 : ByteArray) (r7 : Bool) (r8 : ByteArray) (r9 : Bool) (r10 : ByteArray) (w : World) (h : mixed_Upgrade.f k a0_0 a0_1 a0_2 a0_3 a0_4 a0_5 a0_6 a0_7 a0_8 a0_9 = some (r1, r2, r3, r4, r5, r6, r7, r8, r9, r10)) :
  Calls Tryd.prog 15 #[.agg #[.string a0_0, .string a0_1, .string a0_2, .string a0_3, .int .i64 a0_4, .string a0_5, .bool a0_6, .string a0_7, .bool a0_8, .string a0_9]] w fun e w' => e = .returned (.agg #[.string r1, .string r2, .string r3, .string r4, .int .i64 r5, .string r6, .bool r7, .string r8, .bool r9, .string r10]) ∧ Below w.heap.size w w' := by
 have hu23 := Tryd.underlying23
 have HB := Aside0.mk (Below.refl w.heap.size w)
 have H : (if a0_0.toList = ([104, 116, 116, 112] : List UInt8) then ((url_Default.f k (⟨#[104, 116, 116, 112, 115]⟩ : ByteArray)).bind fun bt380 => (if a0_4 = bt380.1 then (some ((⟨#[104, 116, 116, 112, 115]⟩ : ByteArray), a0_1, a0_2, a0_3, (-1), a0_5, a0_6, a0_7, a0_8, a0_9)) else (some ((⟨#[104, 116, 116, 112, 115]⟩ : ByteArray), a0_1, a0_2, a0_3, a0_4, a0_5, a0_6, a0_7, a0_8, a0_9)))) else (if a0_0.toList = ([119, 115] : List UInt8) then ((url_Default.f k (⟨#[119, 115, 115]⟩ : ByteArray)).bind fun bt382 => (if a0_4 = bt382.1 then (some ((⟨#[119, 115, 115]⟩ : ByteArray), a0_1, a0_2, a0_3, (-1), a0_5, a0_6, a0_7, a0_8, a0_9)) else (some ((⟨#[119, 115, 115]⟩ : ByteArray), a0_1, a0_2, a0_3, a0_4, a0_5, a0_6, a0_7, a0_8, a0_9)))) else (some (a0_0, a0_1, a0_2, a0_3, a0_4, a0_5, a0_6, a0_7, a0_8, a0_9)))) = some (r1, r2, r3, r4, r5, r6, r7, r8, r9, r10) := h
 clear h
 by_cases c2 : a0_0.toList = ([104, 116, 116, 112] : List UInt8)
 ·rw [if_pos c2] at H
  have c2b0 : (a0_0.toList == ([104, 116, 116, 112] : List UInt8)) = true := beq_iff_eq.mpr c2
  have c2b1 : (a0_0.toList != ([104, 116, 116, 112] : List UInt8)) = false := bne_eq_false_iff_eq.mpr c2
  clear c2
  replace H := Option.bind_eq_some_iff.mp H
  obtain ⟨⟨t380, t381⟩, A30, H⟩ := H
  replace H : (if a0_4 = t380 then (some ((⟨#[104, 116, 116, 112, 115]⟩ : ByteArray), a0_1, a0_2, a0_3, (-1), a0_5, a0_6, a0_7, a0_8, a0_9)) else (some ((⟨#[104, 116, 116, 112, 115]⟩ : ByteArray), a0_1, a0_2, a0_3, a0_4, a0_5, a0_6, a0_7, a0_8, a0_9))) = some (r1, r2, r3, r4, r5, r6, r7, r8, r9, r10) := H
  have A3 := Aside0.mk A30
  clear A30
  by_cases c4 : a0_4 = t380
  ·rw [if_pos c4] at H
   have c4b0 : (a0_4 == t380) = true := beq_iff_eq.mpr c4
   have c4b1 : (a0_4 != t380) = false := bne_eq_false_iff_eq.mpr c4
   clear c4
   simp only [Option.some.injEq, Prod.mk.injEq] at H
   obtain ⟨rfl, rfl, rfl, rfl, rfl, rfl, rfl, rfl, rfl, rfl⟩ := H
   go_enter Tryd.func15, Tryd.ntmps15
   go_wp2_with (first | ((with_reducible refine gate_dst (N := 1) rfl ?_); refine box_event ?hg (N := 1) ?hd (cs := #[.string a0_0, .string a0_1, .string a0_2, .string a0_3, .int .i64 a0_4, .string a0_5, .bool a0_6, .string a0_7, .bool a0_8, .string a0_9]) (t := 23) ?hr ?_; (case hd => rfl); (case hg => rfl); (case hr => first | (go_simp; done) | (go_simp; rfl)); intro gb378 hg w5 hbox hb; have n0_ := Aside0.mk (below_step BWK hb); have n1_ := Aside0.mk (hbox); have n2_ := Aside0.mk ((by rw [hg]; exact (below_size BWK) : w.heap.size ≤ gb378)); have n3_ := Aside0.mk ((by rw [hg]; exact (below_size BWK) : w.heap.size ≤ gb378)); clear HB; have HB := n0_; have BK378 := n1_; have GW378 := n2_; have GE378 := n3_; clear n0_ n1_ n2_ n3_; clear hb hbox hg) | ((with_reducible refine gate_dst (N := 2) rfl ?_); refine box_event ?hg (N := 2) ?hd (cs := #[.string (⟨#[]⟩ : ByteArray), .string (⟨#[]⟩ : ByteArray), .string (⟨#[]⟩ : ByteArray), .string (⟨#[]⟩ : ByteArray), .int .i64 0, .string (⟨#[]⟩ : ByteArray), .bool false, .string (⟨#[]⟩ : ByteArray), .bool false, .string (⟨#[]⟩ : ByteArray)]) (t := 23) ?hr ?_; (case hd => rfl); (case hg => rfl); (case hr => first | (go_simp; done) | (go_simp; rfl)); intro gb379 hg w6 hbox hb; have n0_ := Aside0.mk (blk_below (g := gb378) (o := .cells #[.string a0_0, .string a0_1, .string a0_2, .string a0_3, .int .i64 a0_4, .string a0_5, .bool a0_6, .string a0_7, .bool a0_8, .string a0_9] 23 (0, 0)) BLK hb); have n1_ := Aside0.mk (below_step BWK hb); have n2_ := Aside0.mk (hbox); have n3_ := Aside0.mk ((by rw [hg]; exact (below_size BWK) : w.heap.size ≤ gb379)); have n4_ := Aside0.mk ((by rw [hg]; exact (below_size BWK) : w.heap.size ≤ gb379)); have n5_ := Aside0.mk ((by rw [hg]; exact Nat.ne_of_lt (blk_lt (g := gb378) (o := .cells #[.string a0_0, .string a0_1, .string a0_2, .string a0_3, .int .i64 a0_4, .string a0_5, .bool a0_6, .string a0_7, .bool a0_8, .string a0_9] 23 (0, 0)) BLK) : gb378 ≠ gb379)); have n6_ := Aside0.mk ((by rw [hg]; exact Nat.ne_of_gt (blk_lt (g := gb378) (o := .cells #[.string a0_0, .string a0_1, .string a0_2, .string a0_3, .int .i64 a0_4, .string a0_5, .bool a0_6, .string a0_7, .bool a0_8, .string a0_9] 23 (0, 0)) BLK) : gb379 ≠ gb378)); clear BK378; clear HB; have BK378 := n0_; have HB := n1_; have BK379 := n2_; have GW379 := n3_; have GE379 := n4_; have NB378_379 := n5_; have NB379_378 := n6_; clear n0_ n1_ n2_ n3_ n4_ n5_ n6_; clear hb hbox hg; have hnb7 := NB378_379.out; have hnc7 := NB379_378.out; have hcz8_0 := bc0 BK378.out; have hcz8_1 := bc1 BK378.out; have hcz8_2 := bc2 BK378.out; have hcz8_3 := bc3 BK378.out; have hcz8_4 := bc4 BK378.out; have hcz8_5 := bc5 BK378.out; have hcz8_6 := bc6 BK378.out; have hcz8_7 := bc7 BK378.out; have hcz8_8 := bc8 BK378.out; have hcz8_9 := bc9 BK378.out; have hfz8_0 := blk_frozen BK378.out 0; have hfz8_1 := blk_frozen BK378.out 1; have hfz8_2 := blk_frozen BK378.out 2; have hfz8_3 := blk_frozen BK378.out 3; have hfz8_4 := blk_frozen BK378.out 4; have hfz8_5 := blk_frozen BK378.out 5; have hfz8_6 := blk_frozen BK378.out 6; have hfz8_7 := blk_frozen BK378.out 7; have hfz8_8 := blk_frozen BK378.out 8; have hfz8_9 := blk_frozen BK378.out 9) | ((with_reducible refine gate_callee (f := 27) rfl ?_); refine goesL_ (some 17) rfl rfl Tryd.func27 (by kernel_rfl) rfl #[.string (⟨#[104, 116, 116, 112, 115]⟩ : ByteArray)] rfl GAK ?_; (with_reducible refine (url_Default.calls k (⟨#[104, 116, 116, 112, 115]⟩ : ByteArray) t380 t381 _ A3.out).mono ?_); rintro e w' ⟨rfl, ⟨nd, rfl⟩⟩; refine ⟨_, rfl, ?_⟩; have hcz9_0 := bc0 BK379.out; have hcz9_1 := bc1 BK379.out; have hcz9_2 := bc2 BK379.out; have hcz9_3 := bc3 BK379.out; have hcz9_4 := bc4 BK379.out; have hcz9_5 := bc5 BK379.out; have hcz9_6 := bc6 BK379.out; have hcz9_7 := bc7 BK379.out; have hcz9_8 := bc8 BK379.out; have hcz9_9 := bc9 BK379.out; have hfz9_0 := blk_frozen BK379.out 0; have hfz9_1 := blk_frozen BK379.out 1; have hfz9_2 := blk_frozen BK379.out 2; have hfz9_3 := blk_frozen BK379.out 3; have hfz9_4 := blk_frozen BK379.out 4; have hfz9_5 := blk_frozen BK379.out 5; have hfz9_6 := blk_frozen BK379.out 6; have hfz9_7 := blk_frozen BK379.out 7; have hfz9_8 := blk_frozen BK379.out 8; have hfz9_9 := blk_frozen BK379.out 9))
   refine bodyPost_ret (results_cell_row rfl _ _ gb379 23 #[.string (⟨#[104, 116, 116, 112, 115]⟩ : ByteArray), .string a0_1, .string a0_2, .string a0_3, .int .i64 (-1), .string a0_5, .bool a0_6, .string a0_7, .bool a0_8, .string a0_9] (0, 0) _ rfl BLK Tryd.underlying23 rfl (by kernel_rfl)) rfl ?_
   exact ⟨ERK, BWK⟩
  ·rw [if_neg c4] at H
   have c4b0 : (a0_4 == t380) = false := beq_eq_false_iff_ne.mpr c4
   have c4b1 : (a0_4 != t380) = true := bne_iff_ne.mpr c4
   simp only [Option.some.injEq, Prod.mk.injEq] at H
   obtain ⟨rfl, rfl, rfl, rfl, rfl, rfl, rfl, rfl, rfl, rfl⟩ := H
   go_enter Tryd.func15, Tryd.ntmps15
   go_wp2_with (first | ((with_reducible refine gate_dst (N := 1) rfl ?_); refine box_event ?hg (N := 1) ?hd (cs := #[.string a0_0, .string a0_1, .string a0_2, .string a0_3, .int .i64 a0_4, .string a0_5, .bool a0_6, .string a0_7, .bool a0_8, .string a0_9]) (t := 23) ?hr ?_; (case hd => rfl); (case hg => rfl); (case hr => first | (go_simp; done) | (go_simp; rfl)); intro gb378 hg w10 hbox hb; have n0_ := Aside0.mk (below_step BWK hb); have n1_ := Aside0.mk (hbox); have n2_ := Aside0.mk ((by rw [hg]; exact (below_size BWK) : w.heap.size ≤ gb378)); have n3_ := Aside0.mk ((by rw [hg]; exact (below_size BWK) : w.heap.size ≤ gb378)); clear HB; have HB := n0_; have BK378 := n1_; have GW378 := n2_; have GE378 := n3_; clear n0_ n1_ n2_ n3_; clear hb hbox hg) | ((with_reducible refine gate_dst (N := 2) rfl ?_); refine box_event ?hg (N := 2) ?hd (cs := #[.string (⟨#[]⟩ : ByteArray), .string (⟨#[]⟩ : ByteArray), .string (⟨#[]⟩ : ByteArray), .string (⟨#[]⟩ : ByteArray), .int .i64 0, .string (⟨#[]⟩ : ByteArray), .bool false, .string (⟨#[]⟩ : ByteArray), .bool false, .string (⟨#[]⟩ : ByteArray)]) (t := 23) ?hr ?_; (case hd => rfl); (case hg => rfl); (case hr => first | (go_simp; done) | (go_simp; rfl)); intro gb379 hg w11 hbox hb; have n0_ := Aside0.mk (blk_below (g := gb378) (o := .cells #[.string a0_0, .string a0_1, .string a0_2, .string a0_3, .int .i64 a0_4, .string a0_5, .bool a0_6, .string a0_7, .bool a0_8, .string a0_9] 23 (0, 0)) BLK hb); have n1_ := Aside0.mk (below_step BWK hb); have n2_ := Aside0.mk (hbox); have n3_ := Aside0.mk ((by rw [hg]; exact (below_size BWK) : w.heap.size ≤ gb379)); have n4_ := Aside0.mk ((by rw [hg]; exact (below_size BWK) : w.heap.size ≤ gb379)); have n5_ := Aside0.mk ((by rw [hg]; exact Nat.ne_of_lt (blk_lt (g := gb378) (o := .cells #[.string a0_0, .string a0_1, .string a0_2, .string a0_3, .int .i64 a0_4, .string a0_5, .bool a0_6, .string a0_7, .bool a0_8, .string a0_9] 23 (0, 0)) BLK) : gb378 ≠ gb379)); have n6_ := Aside0.mk ((by rw [hg]; exact Nat.ne_of_gt (blk_lt (g := gb378) (o := .cells #[.string a0_0, .string a0_1, .string a0_2, .string a0_3, .int .i64 a0_4, .string a0_5, .bool a0_6, .string a0_7, .bool a0_8, .string a0_9] 23 (0, 0)) BLK) : gb379 ≠ gb378)); clear BK378; clear HB; have BK378 := n0_; have HB := n1_; have BK379 := n2_; have GW379 := n3_; have GE379 := n4_; have NB378_379 := n5_; have NB379_378 := n6_; clear n0_ n1_ n2_ n3_ n4_ n5_ n6_; clear hb hbox hg; have hnb12 := NB378_379.out; have hnc12 := NB379_378.out; have hcz13_0 := bc0 BK378.out; have hcz13_1 := bc1 BK378.out; have hcz13_2 := bc2 BK378.out; have hcz13_3 := bc3 BK378.out; have hcz13_4 := bc4 BK378.out; have hcz13_5 := bc5 BK378.out; have hcz13_6 := bc6 BK378.out; have hcz13_7 := bc7 BK378.out; have hcz13_8 := bc8 BK378.out; have hcz13_9 := bc9 BK378.out; have hfz13_0 := blk_frozen BK378.out 0; have hfz13_1 := blk_frozen BK378.out 1; have hfz13_2 := blk_frozen BK378.out 2; have hfz13_3 := blk_frozen BK378.out 3; have hfz13_4 := blk_frozen BK378.out 4; have hfz13_5 := blk_frozen BK378.out 5; have hfz13_6 := blk_frozen BK378.out 6; have hfz13_7 := blk_frozen BK378.out 7; have hfz13_8 := blk_frozen BK378.out 8; have hfz13_9 := blk_frozen BK378.out 9) | ((with_reducible refine gate_callee (f := 27) rfl ?_); refine goesL_ (some 17) rfl rfl Tryd.func27 (by kernel_rfl) rfl #[.string (⟨#[104, 116, 116, 112, 115]⟩ : ByteArray)] rfl GAK ?_; (with_reducible refine (url_Default.calls k (⟨#[104, 116, 116, 112, 115]⟩ : ByteArray) t380 t381 _ A3.out).mono ?_); rintro e w' ⟨rfl, ⟨nd, rfl⟩⟩; refine ⟨_, rfl, ?_⟩; have hcz14_0 := bc0 BK379.out; have hcz14_1 := bc1 BK379.out; have hcz14_2 := bc2 BK379.out; have hcz14_3 := bc3 BK379.out; have hcz14_4 := bc4 BK379.out; have hcz14_5 := bc5 BK379.out; have hcz14_6 := bc6 BK379.out; have hcz14_7 := bc7 BK379.out; have hcz14_8 := bc8 BK379.out; have hcz14_9 := bc9 BK379.out; have hfz14_0 := blk_frozen BK379.out 0; have hfz14_1 := blk_frozen BK379.out 1; have hfz14_2 := blk_frozen BK379.out 2; have hfz14_3 := blk_frozen BK379.out 3; have hfz14_4 := blk_frozen BK379.out 4; have hfz14_5 := blk_frozen BK379.out 5; have hfz14_6 := blk_frozen BK379.out 6; have hfz14_7 := blk_frozen BK379.out 7; have hfz14_8 := blk_frozen BK379.out 8; have hfz14_9 := blk_frozen BK379.out 9))
   refine bodyPost_ret (results_cell_row rfl _ _ gb379 23 #[.string (⟨#[104, 116, 116, 112, 115]⟩ : ByteArray), .string a0_1, .string a0_2, .string a0_3, .int .i64 a0_4, .string a0_5, .bool a0_6, .string a0_7, .bool a0_8, .string a0_9] (0, 0) _ rfl BLK Tryd.underlying23 rfl (by kernel_rfl)) rfl ?_
   exact ⟨ERK, BWK⟩
 ·rw [if_neg c2] at H
  have c2b0 : (a0_0.toList == ([104, 116, 116, 112] : List UInt8)) = false := beq_eq_false_iff_ne.mpr c2
  have c2b1 : (a0_0.toList != ([104, 116, 116, 112] : List UInt8)) = true := bne_iff_ne.mpr c2
  by_cases c15 : a0_0.toList = ([119, 115] : List UInt8)
  ·rw [if_pos c15] at H
   have c15b0 : (a0_0.toList == ([119, 115] : List UInt8)) = true := beq_iff_eq.mpr c15
   have c15b1 : (a0_0.toList != ([119, 115] : List UInt8)) = false := bne_eq_false_iff_eq.mpr c15
   clear c15
   replace H := Option.bind_eq_some_iff.mp H
   obtain ⟨⟨t382, t383⟩, A160, H⟩ := H
   replace H : (if a0_4 = t382 then (some ((⟨#[119, 115, 115]⟩ : ByteArray), a0_1, a0_2, a0_3, (-1), a0_5, a0_6, a0_7, a0_8, a0_9)) else (some ((⟨#[119, 115, 115]⟩ : ByteArray), a0_1, a0_2, a0_3, a0_4, a0_5, a0_6, a0_7, a0_8, a0_9))) = some (r1, r2, r3, r4, r5, r6, r7, r8, r9, r10) := H
   have A16 := Aside0.mk A160
   clear A160
   by_cases c17 : a0_4 = t382
   ·rw [if_pos c17] at H
    have c17b0 : (a0_4 == t382) = true := beq_iff_eq.mpr c17
    have c17b1 : (a0_4 != t382) = false := bne_eq_false_iff_eq.mpr c17
    clear c17
    simp only [Option.some.injEq, Prod.mk.injEq] at H
    obtain ⟨rfl, rfl, rfl, rfl, rfl, rfl, rfl, rfl, rfl, rfl⟩ := H
    go_enter Tryd.func15, Tryd.ntmps15
    go_wp2_with (first | ((with_reducible refine gate_dst (N := 1) rfl ?_); refine box_event ?hg (N := 1) ?hd (cs := #[.string a0_0, .string a0_1, .string a0_2, .string a0_3, .int .i64 a0_4, .string a0_5, .bool a0_6, .string a0_7, .bool a0_8, .string a0_9]) (t := 23) ?hr ?_; (case hd => rfl); (case hg => rfl); (case hr => first | (go_simp; done) | (go_simp; rfl)); intro gb378 hg w18 hbox hb; have n0_ := Aside0.mk (below_step BWK hb); have n1_ := Aside0.mk (hbox); have n2_ := Aside0.mk ((by rw [hg]; exact (below_size BWK) : w.heap.size ≤ gb378)); have n3_ := Aside0.mk ((by rw [hg]; exact (below_size BWK) : w.heap.size ≤ gb378)); clear HB; have HB := n0_; have BK378 := n1_; have GW378 := n2_; have GE378 := n3_; clear n0_ n1_ n2_ n3_; clear hb hbox hg) | ((with_reducible refine gate_dst (N := 2) rfl ?_); refine box_event ?hg (N := 2) ?hd (cs := #[.string (⟨#[]⟩ : ByteArray), .string (⟨#[]⟩ : ByteArray), .string (⟨#[]⟩ : ByteArray), .string (⟨#[]⟩ : ByteArray), .int .i64 0, .string (⟨#[]⟩ : ByteArray), .bool false, .string (⟨#[]⟩ : ByteArray), .bool false, .string (⟨#[]⟩ : ByteArray)]) (t := 23) ?hr ?_; (case hd => rfl); (case hg => rfl); (case hr => first | (go_simp; done) | (go_simp; rfl)); intro gb379 hg w19 hbox hb; have n0_ := Aside0.mk (blk_below (g := gb378) (o := .cells #[.string a0_0, .string a0_1, .string a0_2, .string a0_3, .int .i64 a0_4, .string a0_5, .bool a0_6, .string a0_7, .bool a0_8, .string a0_9] 23 (0, 0)) BLK hb); have n1_ := Aside0.mk (below_step BWK hb); have n2_ := Aside0.mk (hbox); have n3_ := Aside0.mk ((by rw [hg]; exact (below_size BWK) : w.heap.size ≤ gb379)); have n4_ := Aside0.mk ((by rw [hg]; exact (below_size BWK) : w.heap.size ≤ gb379)); have n5_ := Aside0.mk ((by rw [hg]; exact Nat.ne_of_lt (blk_lt (g := gb378) (o := .cells #[.string a0_0, .string a0_1, .string a0_2, .string a0_3, .int .i64 a0_4, .string a0_5, .bool a0_6, .string a0_7, .bool a0_8, .string a0_9] 23 (0, 0)) BLK) : gb378 ≠ gb379)); have n6_ := Aside0.mk ((by rw [hg]; exact Nat.ne_of_gt (blk_lt (g := gb378) (o := .cells #[.string a0_0, .string a0_1, .string a0_2, .string a0_3, .int .i64 a0_4, .string a0_5, .bool a0_6, .string a0_7, .bool a0_8, .string a0_9] 23 (0, 0)) BLK) : gb379 ≠ gb378)); clear BK378; clear HB; have BK378 := n0_; have HB := n1_; have BK379 := n2_; have GW379 := n3_; have GE379 := n4_; have NB378_379 := n5_; have NB379_378 := n6_; clear n0_ n1_ n2_ n3_ n4_ n5_ n6_; clear hb hbox hg; have hnb20 := NB378_379.out; have hnc20 := NB379_378.out; have hcz21_0 := bc0 BK378.out; have hcz21_1 := bc1 BK378.out; have hcz21_2 := bc2 BK378.out; have hcz21_3 := bc3 BK378.out; have hcz21_4 := bc4 BK378.out; have hcz21_5 := bc5 BK378.out; have hcz21_6 := bc6 BK378.out; have hcz21_7 := bc7 BK378.out; have hcz21_8 := bc8 BK378.out; have hcz21_9 := bc9 BK378.out; have hfz21_0 := blk_frozen BK378.out 0; have hfz21_1 := blk_frozen BK378.out 1; have hfz21_2 := blk_frozen BK378.out 2; have hfz21_3 := blk_frozen BK378.out 3; have hfz21_4 := blk_frozen BK378.out 4; have hfz21_5 := blk_frozen BK378.out 5; have hfz21_6 := blk_frozen BK378.out 6; have hfz21_7 := blk_frozen BK378.out 7; have hfz21_8 := blk_frozen BK378.out 8; have hfz21_9 := blk_frozen BK378.out 9) | ((with_reducible refine gate_callee (f := 27) rfl ?_); refine goesL_ (some 17) rfl rfl Tryd.func27 (by kernel_rfl) rfl #[.string (⟨#[119, 115, 115]⟩ : ByteArray)] rfl GAK ?_; (with_reducible refine (url_Default.calls k (⟨#[119, 115, 115]⟩ : ByteArray) t382 t383 _ A16.out).mono ?_); rintro e w' ⟨rfl, ⟨nd, rfl⟩⟩; refine ⟨_, rfl, ?_⟩; have hcz22_0 := bc0 BK379.out; have hcz22_1 := bc1 BK379.out; have hcz22_2 := bc2 BK379.out; have hcz22_3 := bc3 BK379.out; have hcz22_4 := bc4 BK379.out; have hcz22_5 := bc5 BK379.out; have hcz22_6 := bc6 BK379.out; have hcz22_7 := bc7 BK379.out; have hcz22_8 := bc8 BK379.out; have hcz22_9 := bc9 BK379.out; have hfz22_0 := blk_frozen BK379.out 0; have hfz22_1 := blk_frozen BK379.out 1; have hfz22_2 := blk_frozen BK379.out 2; have hfz22_3 := blk_frozen BK379.out 3; have hfz22_4 := blk_frozen BK379.out 4; have hfz22_5 := blk_frozen BK379.out 5; have hfz22_6 := blk_frozen BK379.out 6; have hfz22_7 := blk_frozen BK379.out 7; have hfz22_8 := blk_frozen BK379.out 8; have hfz22_9 := blk_frozen BK379.out 9))
    refine bodyPost_ret (results_cell_row rfl _ _ gb379 23 #[.string (⟨#[119, 115, 115]⟩ : ByteArray), .string a0_1, .string a0_2, .string a0_3, .int .i64 (-1), .string a0_5, .bool a0_6, .string a0_7, .bool a0_8, .string a0_9] (0, 0) _ rfl BLK Tryd.underlying23 rfl (by kernel_rfl)) rfl ?_
    exact ⟨ERK, BWK⟩
   ·rw [if_neg c17] at H
    have c17b0 : (a0_4 == t382) = false := beq_eq_false_iff_ne.mpr c17
    have c17b1 : (a0_4 != t382) = true := bne_iff_ne.mpr c17
    simp only [Option.some.injEq, Prod.mk.injEq] at H
    obtain ⟨rfl, rfl, rfl, rfl, rfl, rfl, rfl, rfl, rfl, rfl⟩ := H
    go_enter Tryd.func15, Tryd.ntmps15
    go_wp2_with (first | ((with_reducible refine gate_dst (N := 1) rfl ?_); refine box_event ?hg (N := 1) ?hd (cs := #[.string a0_0, .string a0_1, .string a0_2, .string a0_3, .int .i64 a0_4, .string a0_5, .bool a0_6, .string a0_7, .bool a0_8, .string a0_9]) (t := 23) ?hr ?_; (case hd => rfl); (case hg => rfl); (case hr => first | (go_simp; done) | (go_simp; rfl)); intro gb378 hg w23 hbox hb; have n0_ := Aside0.mk (below_step BWK hb); have n1_ := Aside0.mk (hbox); have n2_ := Aside0.mk ((by rw [hg]; exact (below_size BWK) : w.heap.size ≤ gb378)); have n3_ := Aside0.mk ((by rw [hg]; exact (below_size BWK) : w.heap.size ≤ gb378)); clear HB; have HB := n0_; have BK378 := n1_; have GW378 := n2_; have GE378 := n3_; clear n0_ n1_ n2_ n3_; clear hb hbox hg) | ((with_reducible refine gate_dst (N := 2) rfl ?_); refine box_event ?hg (N := 2) ?hd (cs := #[.string (⟨#[]⟩ : ByteArray), .string (⟨#[]⟩ : ByteArray), .string (⟨#[]⟩ : ByteArray), .string (⟨#[]⟩ : ByteArray), .int .i64 0, .string (⟨#[]⟩ : ByteArray), .bool false, .string (⟨#[]⟩ : ByteArray), .bool false, .string (⟨#[]⟩ : ByteArray)]) (t := 23) ?hr ?_; (case hd => rfl); (case hg => rfl); (case hr => first | (go_simp; done) | (go_simp; rfl)); intro gb379 hg w24 hbox hb; have n0_ := Aside0.mk (blk_below (g := gb378) (o := .cells #[.string a0_0, .string a0_1, .string a0_2, .string a0_3, .int .i64 a0_4, .string a0_5, .bool a0_6, .string a0_7, .bool a0_8, .string a0_9] 23 (0, 0)) BLK hb); have n1_ := Aside0.mk (below_step BWK hb); have n2_ := Aside0.mk (hbox); have n3_ := Aside0.mk ((by rw [hg]; exact (below_size BWK) : w.heap.size ≤ gb379)); have n4_ := Aside0.mk ((by rw [hg]; exact (below_size BWK) : w.heap.size ≤ gb379)); have n5_ := Aside0.mk ((by rw [hg]; exact Nat.ne_of_lt (blk_lt (g := gb378) (o := .cells #[.string a0_0, .string a0_1, .string a0_2, .string a0_3, .int .i64 a0_4, .string a0_5, .bool a0_6, .string a0_7, .bool a0_8, .string a0_9] 23 (0, 0)) BLK) : gb378 ≠ gb379)); have n6_ := Aside0.mk ((by rw [hg]; exact Nat.ne_of_gt (blk_lt (g := gb378) (o := .cells #[.string a0_0, .string a0_1, .string a0_2, .string a0_3, .int .i64 a0_4, .string a0_5, .bool a0_6, .string a0_7, .bool a0_8, .string a0_9] 23 (0, 0)) BLK) : gb379 ≠ gb378)); clear BK378; clear HB; have BK378 := n0_; have HB := n1_; have BK379 := n2_; have GW379 := n3_; have GE379 := n4_; have NB378_379 := n5_; have NB379_378 := n6_; clear n0_ n1_ n2_ n3_ n4_ n5_ n6_; clear hb hbox hg; have hnb25 := NB378_379.out; have hnc25 := NB379_378.out; have hcz26_0 := bc0 BK378.out; have hcz26_1 := bc1 BK378.out; have hcz26_2 := bc2 BK378.out; have hcz26_3 := bc3 BK378.out; have hcz26_4 := bc4 BK378.out; have hcz26_5 := bc5 BK378.out; have hcz26_6 := bc6 BK378.out; have hcz26_7 := bc7 BK378.out; have hcz26_8 := bc8 BK378.out; have hcz26_9 := bc9 BK378.out; have hfz26_0 := blk_frozen BK378.out 0; have hfz26_1 := blk_frozen BK378.out 1; have hfz26_2 := blk_frozen BK378.out 2; have hfz26_3 := blk_frozen BK378.out 3; have hfz26_4 := blk_frozen BK378.out 4; have hfz26_5 := blk_frozen BK378.out 5; have hfz26_6 := blk_frozen BK378.out 6; have hfz26_7 := blk_frozen BK378.out 7; have hfz26_8 := blk_frozen BK378.out 8; have hfz26_9 := blk_frozen BK378.out 9) | ((with_reducible refine gate_callee (f := 27) rfl ?_); refine goesL_ (some 17) rfl rfl Tryd.func27 (by kernel_rfl) rfl #[.string (⟨#[119, 115, 115]⟩ : ByteArray)] rfl GAK ?_; (with_reducible refine (url_Default.calls k (⟨#[119, 115, 115]⟩ : ByteArray) t382 t383 _ A16.out).mono ?_); rintro e w' ⟨rfl, ⟨nd, rfl⟩⟩; refine ⟨_, rfl, ?_⟩; have hcz27_0 := bc0 BK379.out; have hcz27_1 := bc1 BK379.out; have hcz27_2 := bc2 BK379.out; have hcz27_3 := bc3 BK379.out; have hcz27_4 := bc4 BK379.out; have hcz27_5 := bc5 BK379.out; have hcz27_6 := bc6 BK379.out; have hcz27_7 := bc7 BK379.out; have hcz27_8 := bc8 BK379.out; have hcz27_9 := bc9 BK379.out; have hfz27_0 := blk_frozen BK379.out 0; have hfz27_1 := blk_frozen BK379.out 1; have hfz27_2 := blk_frozen BK379.out 2; have hfz27_3 := blk_frozen BK379.out 3; have hfz27_4 := blk_frozen BK379.out 4; have hfz27_5 := blk_frozen BK379.out 5; have hfz27_6 := blk_frozen BK379.out 6; have hfz27_7 := blk_frozen BK379.out 7; have hfz27_8 := blk_frozen BK379.out 8; have hfz27_9 := blk_frozen BK379.out 9))
    refine bodyPost_ret (results_cell_row rfl _ _ gb379 23 #[.string (⟨#[119, 115, 115]⟩ : ByteArray), .string a0_1, .string a0_2, .string a0_3, .int .i64 a0_4, .string a0_5, .bool a0_6, .string a0_7, .bool a0_8, .string a0_9] (0, 0) _ rfl BLK Tryd.underlying23 rfl (by kernel_rfl)) rfl ?_
    exact ⟨ERK, BWK⟩
  ·rw [if_neg c15] at H
   have c15b0 : (a0_0.toList == ([119, 115] : List UInt8)) = false := beq_eq_false_iff_ne.mpr c15
   have c15b1 : (a0_0.toList != ([119, 115] : List UInt8)) = true := bne_iff_ne.mpr c15
   simp only [Option.some.injEq, Prod.mk.injEq] at H
   obtain ⟨rfl, rfl, rfl, rfl, rfl, rfl, rfl, rfl, rfl, rfl⟩ := H
   go_enter Tryd.func15, Tryd.ntmps15
   go_wp2_with (first | ((with_reducible refine gate_dst (N := 1) rfl ?_); refine box_event ?hg (N := 1) ?hd (cs := #[.string a0_0, .string a0_1, .string a0_2, .string a0_3, .int .i64 a0_4, .string a0_5, .bool a0_6, .string a0_7, .bool a0_8, .string a0_9]) (t := 23) ?hr ?_; (case hd => rfl); (case hg => rfl); (case hr => first | (go_simp; done) | (go_simp; rfl)); intro gb378 hg w28 hbox hb; have n0_ := Aside0.mk (below_step BWK hb); have n1_ := Aside0.mk (hbox); have n2_ := Aside0.mk ((by rw [hg]; exact (below_size BWK) : w.heap.size ≤ gb378)); have n3_ := Aside0.mk ((by rw [hg]; exact (below_size BWK) : w.heap.size ≤ gb378)); clear HB; have HB := n0_; have BK378 := n1_; have GW378 := n2_; have GE378 := n3_; clear n0_ n1_ n2_ n3_; clear hb hbox hg) | ((with_reducible refine gate_dst (N := 2) rfl ?_); refine box_event ?hg (N := 2) ?hd (cs := #[.string (⟨#[]⟩ : ByteArray), .string (⟨#[]⟩ : ByteArray), .string (⟨#[]⟩ : ByteArray), .string (⟨#[]⟩ : ByteArray), .int .i64 0, .string (⟨#[]⟩ : ByteArray), .bool false, .string (⟨#[]⟩ : ByteArray), .bool false, .string (⟨#[]⟩ : ByteArray)]) (t := 23) ?hr ?_; (case hd => rfl); (case hg => rfl); (case hr => first | (go_simp; done) | (go_simp; rfl)); intro gb379 hg w29 hbox hb; have n0_ := Aside0.mk (blk_below (g := gb378) (o := .cells #[.string a0_0, .string a0_1, .string a0_2, .string a0_3, .int .i64 a0_4, .string a0_5, .bool a0_6, .string a0_7, .bool a0_8, .string a0_9] 23 (0, 0)) BLK hb); have n1_ := Aside0.mk (below_step BWK hb); have n2_ := Aside0.mk (hbox); have n3_ := Aside0.mk ((by rw [hg]; exact (below_size BWK) : w.heap.size ≤ gb379)); have n4_ := Aside0.mk ((by rw [hg]; exact (below_size BWK) : w.heap.size ≤ gb379)); have n5_ := Aside0.mk ((by rw [hg]; exact Nat.ne_of_lt (blk_lt (g := gb378) (o := .cells #[.string a0_0, .string a0_1, .string a0_2, .string a0_3, .int .i64 a0_4, .string a0_5, .bool a0_6, .string a0_7, .bool a0_8, .string a0_9] 23 (0, 0)) BLK) : gb378 ≠ gb379)); have n6_ := Aside0.mk ((by rw [hg]; exact Nat.ne_of_gt (blk_lt (g := gb378) (o := .cells #[.string a0_0, .string a0_1, .string a0_2, .string a0_3, .int .i64 a0_4, .string a0_5, .bool a0_6, .string a0_7, .bool a0_8, .string a0_9] 23 (0, 0)) BLK) : gb379 ≠ gb378)); clear BK378; clear HB; have BK378 := n0_; have HB := n1_; have BK379 := n2_; have GW379 := n3_; have GE379 := n4_; have NB378_379 := n5_; have NB379_378 := n6_; clear n0_ n1_ n2_ n3_ n4_ n5_ n6_; clear hb hbox hg; have hnb30 := NB378_379.out; have hnc30 := NB379_378.out; have hcz31_0 := bc0 BK378.out; have hcz31_1 := bc1 BK378.out; have hcz31_2 := bc2 BK378.out; have hcz31_3 := bc3 BK378.out; have hcz31_4 := bc4 BK378.out; have hcz31_5 := bc5 BK378.out; have hcz31_6 := bc6 BK378.out; have hcz31_7 := bc7 BK378.out; have hcz31_8 := bc8 BK378.out; have hcz31_9 := bc9 BK378.out; have hfz31_0 := blk_frozen BK378.out 0; have hfz31_1 := blk_frozen BK378.out 1; have hfz31_2 := blk_frozen BK378.out 2; have hfz31_3 := blk_frozen BK378.out 3; have hfz31_4 := blk_frozen BK378.out 4; have hfz31_5 := blk_frozen BK378.out 5; have hfz31_6 := blk_frozen BK378.out 6; have hfz31_7 := blk_frozen BK378.out 7; have hfz31_8 := blk_frozen BK378.out 8; have hfz31_9 := blk_frozen BK378.out 9; have hcz32_0 := bc0 BK379.out; have hcz32_1 := bc1 BK379.out; have hcz32_2 := bc2 BK379.out; have hcz32_3 := bc3 BK379.out; have hcz32_4 := bc4 BK379.out; have hcz32_5 := bc5 BK379.out; have hcz32_6 := bc6 BK379.out; have hcz32_7 := bc7 BK379.out; have hcz32_8 := bc8 BK379.out; have hcz32_9 := bc9 BK379.out; have hfz32_0 := blk_frozen BK379.out 0; have hfz32_1 := blk_frozen BK379.out 1; have hfz32_2 := blk_frozen BK379.out 2; have hfz32_3 := blk_frozen BK379.out 3; have hfz32_4 := blk_frozen BK379.out 4; have hfz32_5 := blk_frozen BK379.out 5; have hfz32_6 := blk_frozen BK379.out 6; have hfz32_7 := blk_frozen BK379.out 7; have hfz32_8 := blk_frozen BK379.out 8; have hfz32_9 := blk_frozen BK379.out 9))
   refine bodyPost_ret (results_cell_row rfl _ _ gb379 23 #[.string a0_0, .string a0_1, .string a0_2, .string a0_3, .int .i64 a0_4, .string a0_5, .bool a0_6, .string a0_7, .bool a0_8, .string a0_9] (0, 0) _ rfl BLK Tryd.underlying23 rfl (by kernel_rfl)) rfl ?_
   exact ⟨ERK, BWK⟩

/-! ### parapetref9_Upgrade: function 16 -/
def parapetref9_Upgrade.f (a0_0 : ByteArray) (a0_1 : ByteArray) (a0_2 : ByteArray) (a0_3 : ByteArray) (a0_4 : Int) (a0_5 : ByteArray) (a0_6 : Bool) (a0_7 : ByteArray) (a0_8 : Bool) (a0_9 : ByteArray) : Option (ByteArray × ByteArray × ByteArray × ByteArray × Int × ByteArray × Bool × ByteArray × Bool × ByteArray) := if a0_0.toList = ([104, 116, 116, 112] : List UInt8) then (if a0_4 = 443 then (some ((⟨#[104, 116, 116, 112, 115]⟩ : ByteArray), a0_1, a0_2, a0_3, (-1), a0_5, a0_6, a0_7, a0_8, a0_9)) else (some ((⟨#[104, 116, 116, 112, 115]⟩ : ByteArray), a0_1, a0_2, a0_3, a0_4, a0_5, a0_6, a0_7, a0_8, a0_9))) else (if a0_0.toList = ([119, 115] : List UInt8) then (if a0_4 = 443 then (some ((⟨#[119, 115, 115]⟩ : ByteArray), a0_1, a0_2, a0_3, (-1), a0_5, a0_6, a0_7, a0_8, a0_9)) else (some ((⟨#[119, 115, 115]⟩ : ByteArray), a0_1, a0_2, a0_3, a0_4, a0_5, a0_6, a0_7, a0_8, a0_9))) else (some (a0_0, a0_1, a0_2, a0_3, a0_4, a0_5, a0_6, a0_7, a0_8, a0_9)))
theorem parapetref9_Upgrade.calls (a0_0 : ByteArray) (a0_1 : ByteArray) (a0_2 : ByteArray) (a0_3 : ByteArray) (a0_4 : Int) (a0_5 : ByteArray) (a0_6 : Bool) (a0_7 : ByteArray) (a0_8 : Bool) (a0_9 : ByteArray) (r1 : ByteArray) (r2 : ByteArray) (r3 : ByteArray) (r4 : ByteArray) (r5 : Int) (r6 : ByteArray) (r7 : Bool) (r8 : ByteArray) (r9 : Bool) (r10 : ByteArray) (w : World) (h : parapetref9_Upgrade.f a0_0 a0_1 a0_2 a0_3 a0_4 a0_5 a0_6 a0_7 a0_8 a0_9 = some (r1, r2, r3, r4, r5, r6, r7, r8, r9, r10)) :
  Calls Tryd.prog 16 #[.agg #[.string a0_0, .string a0_1, .string a0_2, .string a0_3, .int .i64 a0_4, .string a0_5, .bool a0_6, .string a0_7, .bool a0_8, .string a0_9]] w fun e w' => e = .returned (.agg #[.string r1, .string r2, .string r3, .string r4, .int .i64 r5, .string r6, .bool r7, .string r8, .bool r9, .string r10]) ∧ Below w.heap.size w w' := by
 have hu23 := Tryd.underlying23
 have HB := Aside0.mk (Below.refl w.heap.size w)
 have H : (if a0_0.toList = ([104, 116, 116, 112] : List UInt8) then (if a0_4 = 443 then (some ((⟨#[104, 116, 116, 112, 115]⟩ : ByteArray), a0_1, a0_2, a0_3, (-1), a0_5, a0_6, a0_7, a0_8, a0_9)) else (some ((⟨#[104, 116, 116, 112, 115]⟩ : ByteArray), a0_1, a0_2, a0_3, a0_4, a0_5, a0_6, a0_7, a0_8, a0_9))) else (if a0_0.toList = ([119, 115] : List UInt8) then (if a0_4 = 443 then (some ((⟨#[119, 115, 115]⟩ : ByteArray), a0_1, a0_2, a0_3, (-1), a0_5, a0_6, a0_7, a0_8, a0_9)) else (some ((⟨#[119, 115, 115]⟩ : ByteArray), a0_1, a0_2, a0_3, a0_4, a0_5, a0_6, a0_7, a0_8, a0_9))) else (some (a0_0, a0_1, a0_2, a0_3, a0_4, a0_5, a0_6, a0_7, a0_8, a0_9)))) = some (r1, r2, r3, r4, r5, r6, r7, r8, r9, r10) := h
 clear h
 by_cases c2 : a0_0.toList = ([104, 116, 116, 112] : List UInt8)
 ·rw [if_pos c2] at H
  have c2b0 : (a0_0.toList == ([104, 116, 116, 112] : List UInt8)) = true := beq_iff_eq.mpr c2
  have c2b1 : (a0_0.toList != ([104, 116, 116, 112] : List UInt8)) = false := bne_eq_false_iff_eq.mpr c2
  clear c2
  by_cases c3 : a0_4 = 443
  ·rw [if_pos c3] at H
   have c3b0 : (a0_4 == 443) = true := beq_iff_eq.mpr c3
   have c3b1 : (a0_4 != 443) = false := bne_eq_false_iff_eq.mpr c3
   clear c3
   simp only [Option.some.injEq, Prod.mk.injEq] at H
   obtain ⟨rfl, rfl, rfl, rfl, rfl, rfl, rfl, rfl, rfl, rfl⟩ := H
   go_enter Tryd.func16, Tryd.ntmps16
   go_wp2_with (first | ((with_reducible refine gate_dst (N := 1) rfl ?_); refine box_event ?hg (N := 1) ?hd (cs := #[.string a0_0, .string a0_1, .string a0_2, .string a0_3, .int .i64 a0_4, .string a0_5, .bool a0_6, .string a0_7, .bool a0_8, .string a0_9]) (t := 23) ?hr ?_; (case hd => rfl); (case hg => rfl); (case hr => first | (go_simp; done) | (go_simp; rfl)); intro gb384 hg w4 hbox hb; have n0_ := Aside0.mk (below_step BWK hb); have n1_ := Aside0.mk (hbox); have n2_ := Aside0.mk ((by rw [hg]; exact (below_size BWK) : w.heap.size ≤ gb384)); have n3_ := Aside0.mk ((by rw [hg]; exact (below_size BWK) : w.heap.size ≤ gb384)); clear HB; have HB := n0_; have BK384 := n1_; have GW384 := n2_; have GE384 := n3_; clear n0_ n1_ n2_ n3_; clear hb hbox hg) | ((with_reducible refine gate_dst (N := 2) rfl ?_); refine box_event ?hg (N := 2) ?hd (cs := #[.string (⟨#[]⟩ : ByteArray), .string (⟨#[]⟩ : ByteArray), .string (⟨#[]⟩ : ByteArray), .string (⟨#[]⟩ : ByteArray), .int .i64 0, .string (⟨#[]⟩ : ByteArray), .bool false, .string (⟨#[]⟩ : ByteArray), .bool false, .string (⟨#[]⟩ : ByteArray)]) (t := 23) ?hr ?_; (case hd => rfl); (case hg => rfl); (case hr => first | (go_simp; done) | (go_simp; rfl)); intro gb385 hg w5 hbox hb; have n0_ := Aside0.mk (blk_below (g := gb384) (o := .cells #[.string a0_0, .string a0_1, .string a0_2, .string a0_3, .int .i64 a0_4, .string a0_5, .bool a0_6, .string a0_7, .bool a0_8, .string a0_9] 23 (0, 0)) BLK hb); have n1_ := Aside0.mk (below_step BWK hb); have n2_ := Aside0.mk (hbox); have n3_ := Aside0.mk ((by rw [hg]; exact (below_size BWK) : w.heap.size ≤ gb385)); have n4_ := Aside0.mk ((by rw [hg]; exact (below_size BWK) : w.heap.size ≤ gb385)); have n5_ := Aside0.mk ((by rw [hg]; exact Nat.ne_of_lt (blk_lt (g := gb384) (o := .cells #[.string a0_0, .string a0_1, .string a0_2, .string a0_3, .int .i64 a0_4, .string a0_5, .bool a0_6, .string a0_7, .bool a0_8, .string a0_9] 23 (0, 0)) BLK) : gb384 ≠ gb385)); have n6_ := Aside0.mk ((by rw [hg]; exact Nat.ne_of_gt (blk_lt (g := gb384) (o := .cells #[.string a0_0, .string a0_1, .string a0_2, .string a0_3, .int .i64 a0_4, .string a0_5, .bool a0_6, .string a0_7, .bool a0_8, .string a0_9] 23 (0, 0)) BLK) : gb385 ≠ gb384)); clear BK384; clear HB; have BK384 := n0_; have HB := n1_; have BK385 := n2_; have GW385 := n3_; have GE385 := n4_; have NB384_385 := n5_; have NB385_384 := n6_; clear n0_ n1_ n2_ n3_ n4_ n5_ n6_; clear hb hbox hg; have hnb6 := NB384_385.out; have hnc6 := NB385_384.out; have hcz7_0 := bc0 BK384.out; have hcz7_1 := bc1 BK384.out; have hcz7_2 := bc2 BK384.out; have hcz7_3 := bc3 BK384.out; have hcz7_4 := bc4 BK384.out; have hcz7_5 := bc5 BK384.out; have hcz7_6 := bc6 BK384.out; have hcz7_7 := bc7 BK384.out; have hcz7_8 := bc8 BK384.out; have hcz7_9 := bc9 BK384.out; have hfz7_0 := blk_frozen BK384.out 0; have hfz7_1 := blk_frozen BK384.out 1; have hfz7_2 := blk_frozen BK384.out 2; have hfz7_3 := blk_frozen BK384.out 3; have hfz7_4 := blk_frozen BK384.out 4; have hfz7_5 := blk_frozen BK384.out 5; have hfz7_6 := blk_frozen BK384.out 6; have hfz7_7 := blk_frozen BK384.out 7; have hfz7_8 := blk_frozen BK384.out 8; have hfz7_9 := blk_frozen BK384.out 9; have hcz8_0 := bc0 BK385.out; have hcz8_1 := bc1 BK385.out; have hcz8_2 := bc2 BK385.out; have hcz8_3 := bc3 BK385.out; have hcz8_4 := bc4 BK385.out; have hcz8_5 := bc5 BK385.out; have hcz8_6 := bc6 BK385.out; have hcz8_7 := bc7 BK385.out; have hcz8_8 := bc8 BK385.out; have hcz8_9 := bc9 BK385.out; have hfz8_0 := blk_frozen BK385.out 0; have hfz8_1 := blk_frozen BK385.out 1; have hfz8_2 := blk_frozen BK385.out 2; have hfz8_3 := blk_frozen BK385.out 3; have hfz8_4 := blk_frozen BK385.out 4; have hfz8_5 := blk_frozen BK385.out 5; have hfz8_6 := blk_frozen BK385.out 6; have hfz8_7 := blk_frozen BK385.out 7; have hfz8_8 := blk_frozen BK385.out 8; have hfz8_9 := blk_frozen BK385.out 9))
   refine bodyPost_ret (results_cell_row rfl _ _ gb385 23 #[.string (⟨#[104, 116, 116, 112, 115]⟩ : ByteArray), .string a0_1, .string a0_2, .string a0_3, .int .i64 (-1), .string a0_5, .bool a0_6, .string a0_7, .bool a0_8, .string a0_9] (0, 0) _ rfl BLK Tryd.underlying23 rfl (by kernel_rfl)) rfl ?_
   exact ⟨ERK, BWK⟩
  ·rw [if_neg c3] at H
   have c3b0 : (a0_4 == 443) = false := beq_eq_false_iff_ne.mpr c3
   have c3b1 : (a0_4 != 443) = true := bne_iff_ne.mpr c3
   simp only [Option.some.injEq, Prod.mk.injEq] at H
   obtain ⟨rfl, rfl, rfl, rfl, rfl, rfl, rfl, rfl, rfl, rfl⟩ := H
   go_enter Tryd.func16, Tryd.ntmps16
   go_wp2_with (first | ((with_reducible refine gate_dst (N := 1) rfl ?_); refine box_event ?hg (N := 1) ?hd (cs := #[.string a0_0, .string a0_1, .string a0_2, .string a0_3, .int .i64 a0_4, .string a0_5, .bool a0_6, .string a0_7, .bool a0_8, .string a0_9]) (t := 23) ?hr ?_; (case hd => rfl); (case hg => rfl); (case hr => first | (go_simp; done) | (go_simp; rfl)); intro gb384 hg w9 hbox hb; have n0_ := Aside0.mk (below_step BWK hb); have n1_ := Aside0.mk (hbox); have n2_ := Aside0.mk ((by rw [hg]; exact (below_size BWK) : w.heap.size ≤ gb384)); have n3_ := Aside0.mk ((by rw [hg]; exact (below_size BWK) : w.heap.size ≤ gb384)); clear HB; have HB := n0_; have BK384 := n1_; have GW384 := n2_; have GE384 := n3_; clear n0_ n1_ n2_ n3_; clear hb hbox hg) | ((with_reducible refine gate_dst (N := 2) rfl ?_); refine box_event ?hg (N := 2) ?hd (cs := #[.string (⟨#[]⟩ : ByteArray), .string (⟨#[]⟩ : ByteArray), .string (⟨#[]⟩ : ByteArray), .string (⟨#[]⟩ : ByteArray), .int .i64 0, .string (⟨#[]⟩ : ByteArray), .bool false, .string (⟨#[]⟩ : ByteArray), .bool false, .string (⟨#[]⟩ : ByteArray)]) (t := 23) ?hr ?_; (case hd => rfl); (case hg => rfl); (case hr => first | (go_simp; done) | (go_simp; rfl)); intro gb385 hg w10 hbox hb; have n0_ := Aside0.mk (blk_below (g := gb384) (o := .cells #[.string a0_0, .string a0_1, .string a0_2, .string a0_3, .int .i64 a0_4, .string a0_5, .bool a0_6, .string a0_7, .bool a0_8, .string a0_9] 23 (0, 0)) BLK hb); have n1_ := Aside0.mk (below_step BWK hb); have n2_ := Aside0.mk (hbox); have n3_ := Aside0.mk ((by rw [hg]; exact (below_size BWK) : w.heap.size ≤ gb385)); have n4_ := Aside0.mk ((by rw [hg]; exact (below_size BWK) : w.heap.size ≤ gb385)); have n5_ := Aside0.mk ((by rw [hg]; exact Nat.ne_of_lt (blk_lt (g := gb384) (o := .cells #[.string a0_0, .string a0_1, .string a0_2, .string a0_3, .int .i64 a0_4, .string a0_5, .bool a0_6, .string a0_7, .bool a0_8, .string a0_9] 23 (0, 0)) BLK) : gb384 ≠ gb385)); have n6_ := Aside0.mk ((by rw [hg]; exact Nat.ne_of_gt (blk_lt (g := gb384) (o := .cells #[.string a0_0, .string a0_1, .string a0_2, .string a0_3, .int .i64 a0_4, .string a0_5, .bool a0_6, .string a0_7, .bool a0_8, .string a0_9] 23 (0, 0)) BLK) : gb385 ≠ gb384)); clear BK384; clear HB; have BK384 := n0_; have HB := n1_; have BK385 := n2_; have GW385 := n3_; have GE385 := n4_; have NB384_385 := n5_; have NB385_384 := n6_; clear n0_ n1_ n2_ n3_ n4_ n5_ n6_; clear hb hbox hg; have hnb11 := NB384_385.out; have hnc11 := NB385_384.out; have hcz12_0 := bc0 BK384.out; have hcz12_1 := bc1 BK384.out; have hcz12_2 := bc2 BK384.out; have hcz12_3 := bc3 BK384.out; have hcz12_4 := bc4 BK384.out; have hcz12_5 := bc5 BK384.out; have hcz12_6 := bc6 BK384.out; have hcz12_7 := bc7 BK384.out; have hcz12_8 := bc8 BK384.out; have hcz12_9 := bc9 BK384.out; have hfz12_0 := blk_frozen BK384.out 0; have hfz12_1 := blk_frozen BK384.out 1; have hfz12_2 := blk_frozen BK384.out 2; have hfz12_3 := blk_frozen BK384.out 3; have hfz12_4 := blk_frozen BK384.out 4; have hfz12_5 := blk_frozen BK384.out 5; have hfz12_6 := blk_frozen BK384.out 6; have hfz12_7 := blk_frozen BK384.out 7; have hfz12_8 := blk_frozen BK384.out 8; have hfz12_9 := blk_frozen BK384.out 9; have hcz13_0 := bc0 BK385.out; have hcz13_1 := bc1 BK385.out; have hcz13_2 := bc2 BK385.out; have hcz13_3 := bc3 BK385.out; have hcz13_4 := bc4 BK385.out; have hcz13_5 := bc5 BK385.out; have hcz13_6 := bc6 BK385.out; have hcz13_7 := bc7 BK385.out; have hcz13_8 := bc8 BK385.out; have hcz13_9 := bc9 BK385.out; have hfz13_0 := blk_frozen BK385.out 0; have hfz13_1 := blk_frozen BK385.out 1; have hfz13_2 := blk_frozen BK385.out 2; have hfz13_3 := blk_frozen BK385.out 3; have hfz13_4 := blk_frozen BK385.out 4; have hfz13_5 := blk_frozen BK385.out 5; have hfz13_6 := blk_frozen BK385.out 6; have hfz13_7 := blk_frozen BK385.out 7; have hfz13_8 := blk_frozen BK385.out 8; have hfz13_9 := blk_frozen BK385.out 9))
   refine bodyPost_ret (results_cell_row rfl _ _ gb385 23 #[.string (⟨#[104, 116, 116, 112, 115]⟩ : ByteArray), .string a0_1, .string a0_2, .string a0_3, .int .i64 a0_4, .string a0_5, .bool a0_6, .string a0_7, .bool a0_8, .string a0_9] (0, 0) _ rfl BLK Tryd.underlying23 rfl (by kernel_rfl)) rfl ?_
   exact ⟨ERK, BWK⟩
 ·rw [if_neg c2] at H
  have c2b0 : (a0_0.toList == ([104, 116, 116, 112] : List UInt8)) = false := beq_eq_false_iff_ne.mpr c2
  have c2b1 : (a0_0.toList != ([104, 116, 116, 112] : List UInt8)) = true := bne_iff_ne.mpr c2
  by_cases c14 : a0_0.toList = ([119, 115] : List UInt8)
  ·rw [if_pos c14] at H
   have c14b0 : (a0_0.toList == ([119, 115] : List UInt8)) = true := beq_iff_eq.mpr c14
   have c14b1 : (a0_0.toList != ([119, 115] : List UInt8)) = false := bne_eq_false_iff_eq.mpr c14
   clear c14
   by_cases c15 : a0_4 = 443
   ·rw [if_pos c15] at H
    have c15b0 : (a0_4 == 443) = true := beq_iff_eq.mpr c15
    have c15b1 : (a0_4 != 443) = false := bne_eq_false_iff_eq.mpr c15
    clear c15
    simp only [Option.some.injEq, Prod.mk.injEq] at H
    obtain ⟨rfl, rfl, rfl, rfl, rfl, rfl, rfl, rfl, rfl, rfl⟩ := H
    go_enter Tryd.func16, Tryd.ntmps16
    go_wp2_with (first | ((with_reducible refine gate_dst (N := 1) rfl ?_); refine box_event ?hg (N := 1) ?hd (cs := #[.string a0_0, .string a0_1, .string a0_2, .string a0_3, .int .i64 a0_4, .string a0_5, .bool a0_6, .string a0_7, .bool a0_8, .string a0_9]) (t := 23) ?hr ?_; (case hd => rfl); (case hg => rfl); (case hr => first | (go_simp; done) | (go_simp; rfl)); intro gb384 hg w16 hbox hb; have n0_ := Aside0.mk (below_step BWK hb); have n1_ := Aside0.mk (hbox); have n2_ := Aside0.mk ((by rw [hg]; exact (below_size BWK) : w.heap.size ≤ gb384)); have n3_ := Aside0.mk ((by rw [hg]; exact (below_size BWK) : w.heap.size ≤ gb384)); clear HB; have HB := n0_; have BK384 := n1_; have GW384 := n2_; have GE384 := n3_; clear n0_ n1_ n2_ n3_; clear hb hbox hg) | ((with_reducible refine gate_dst (N := 2) rfl ?_); refine box_event ?hg (N := 2) ?hd (cs := #[.string (⟨#[]⟩ : ByteArray), .string (⟨#[]⟩ : ByteArray), .string (⟨#[]⟩ : ByteArray), .string (⟨#[]⟩ : ByteArray), .int .i64 0, .string (⟨#[]⟩ : ByteArray), .bool false, .string (⟨#[]⟩ : ByteArray), .bool false, .string (⟨#[]⟩ : ByteArray)]) (t := 23) ?hr ?_; (case hd => rfl); (case hg => rfl); (case hr => first | (go_simp; done) | (go_simp; rfl)); intro gb385 hg w17 hbox hb; have n0_ := Aside0.mk (blk_below (g := gb384) (o := .cells #[.string a0_0, .string a0_1, .string a0_2, .string a0_3, .int .i64 a0_4, .string a0_5, .bool a0_6, .string a0_7, .bool a0_8, .string a0_9] 23 (0, 0)) BLK hb); have n1_ := Aside0.mk (below_step BWK hb); have n2_ := Aside0.mk (hbox); have n3_ := Aside0.mk ((by rw [hg]; exact (below_size BWK) : w.heap.size ≤ gb385)); have n4_ := Aside0.mk ((by rw [hg]; exact (below_size BWK) : w.heap.size ≤ gb385)); have n5_ := Aside0.mk ((by rw [hg]; exact Nat.ne_of_lt (blk_lt (g := gb384) (o := .cells #[.string a0_0, .string a0_1, .string a0_2, .string a0_3, .int .i64 a0_4, .string a0_5, .bool a0_6, .string a0_7, .bool a0_8, .string a0_9] 23 (0, 0)) BLK) : gb384 ≠ gb385)); have n6_ := Aside0.mk ((by rw [hg]; exact Nat.ne_of_gt (blk_lt (g := gb384) (o := .cells #[.string a0_0, .string a0_1, .string a0_2, .string a0_3, .int .i64 a0_4, .string a0_5, .bool a0_6, .string a0_7, .bool a0_8, .string a0_9] 23 (0, 0)) BLK) : gb385 ≠ gb384)); clear BK384; clear HB; have BK384 := n0_; have HB := n1_; have BK385 := n2_; have GW385 := n3_; have GE385 := n4_; have NB384_385 := n5_; have NB385_384 := n6_; clear n0_ n1_ n2_ n3_ n4_ n5_ n6_; clear hb hbox hg; have hnb18 := NB384_385.out; have hnc18 := NB385_384.out; have hcz19_0 := bc0 BK384.out; have hcz19_1 := bc1 BK384.out; have hcz19_2 := bc2 BK384.out; have hcz19_3 := bc3 BK384.out; have hcz19_4 := bc4 BK384.out; have hcz19_5 := bc5 BK384.out; have hcz19_6 := bc6 BK384.out; have hcz19_7 := bc7 BK384.out; have hcz19_8 := bc8 BK384.out; have hcz19_9 := bc9 BK384.out; have hfz19_0 := blk_frozen BK384.out 0; have hfz19_1 := blk_frozen BK384.out 1; have hfz19_2 := blk_frozen BK384.out 2; have hfz19_3 := blk_frozen BK384.out 3; have hfz19_4 := blk_frozen BK384.out 4; have hfz19_5 := blk_frozen BK384.out 5; have hfz19_6 := blk_frozen BK384.out 6; have hfz19_7 := blk_frozen BK384.out 7; have hfz19_8 := blk_frozen BK384.out 8; have hfz19_9 := blk_frozen BK384.out 9; have hcz20_0 := bc0 BK385.out; have hcz20_1 := bc1 BK385.out; have hcz20_2 := bc2 BK385.out; have hcz20_3 := bc3 BK385.out; have hcz20_4 := bc4 BK385.out; have hcz20_5 := bc5 BK385.out; have hcz20_6 := bc6 BK385.out; have hcz20_7 := bc7 BK385.out; have hcz20_8 := bc8 BK385.out; have hcz20_9 := bc9 BK385.out; have hfz20_0 := blk_frozen BK385.out 0; have hfz20_1 := blk_frozen BK385.out 1; have hfz20_2 := blk_frozen BK385.out 2; have hfz20_3 := blk_frozen BK385.out 3; have hfz20_4 := blk_frozen BK385.out 4; have hfz20_5 := blk_frozen BK385.out 5; have hfz20_6 := blk_frozen BK385.out 6; have hfz20_7 := blk_frozen BK385.out 7; have hfz20_8 := blk_frozen BK385.out 8; have hfz20_9 := blk_frozen BK385.out 9))
    refine bodyPost_ret (results_cell_row rfl _ _ gb385 23 #[.string (⟨#[119, 115, 115]⟩ : ByteArray), .string a0_1, .string a0_2, .string a0_3, .int .i64 (-1), .string a0_5, .bool a0_6, .string a0_7, .bool a0_8, .string a0_9] (0, 0) _ rfl BLK Tryd.underlying23 rfl (by kernel_rfl)) rfl ?_
    exact ⟨ERK, BWK⟩
   ·rw [if_neg c15] at H
    have c15b0 : (a0_4 == 443) = false := beq_eq_false_iff_ne.mpr c15
    have c15b1 : (a0_4 != 443) = true := bne_iff_ne.mpr c15
    simp only [Option.some.injEq, Prod.mk.injEq] at H
    obtain ⟨rfl, rfl, rfl, rfl, rfl, rfl, rfl, rfl, rfl, rfl⟩ := H
    go_enter Tryd.func16, Tryd.ntmps16
    go_wp2_with (first | ((with_reducible refine gate_dst (N := 1) rfl ?_); refine box_event ?hg (N := 1) ?hd (cs := #[.string a0_0, .string a0_1, .string a0_2, .string a0_3, .int .i64 a0_4, .string a0_5, .bool a0_6, .string a0_7, .bool a0_8, .string a0_9]) (t := 23) ?hr ?_; (case hd => rfl); (case hg => rfl); (case hr => first | (go_simp; done) | (go_simp; rfl)); intro gb384 hg w21 hbox hb; have n0_ := Aside0.mk (below_step BWK hb); have n1_ := Aside0.mk (hbox); have n2_ := Aside0.mk ((by rw [hg]; exact (below_size BWK) : w.heap.size ≤ gb384)); have n3_ := Aside0.mk ((by rw [hg]; exact (below_size BWK) : w.heap.size ≤ gb384)); clear HB; have HB := n0_; have BK384 := n1_; have GW384 := n2_; have GE384 := n3_; clear n0_ n1_ n2_ n3_; clear hb hbox hg) | ((with_reducible refine gate_dst (N := 2) rfl ?_); refine box_event ?hg (N := 2) ?hd (cs := #[.string (⟨#[]⟩ : ByteArray), .string (⟨#[]⟩ : ByteArray), .string (⟨#[]⟩ : ByteArray), .string (⟨#[]⟩ : ByteArray), .int .i64 0, .string (⟨#[]⟩ : ByteArray), .bool false, .string (⟨#[]⟩ : ByteArray), .bool false, .string (⟨#[]⟩ : ByteArray)]) (t := 23) ?hr ?_; (case hd => rfl); (case hg => rfl); (case hr => first | (go_simp; done) | (go_simp; rfl)); intro gb385 hg w22 hbox hb; have n0_ := Aside0.mk (blk_below (g := gb384) (o := .cells #[.string a0_0, .string a0_1, .string a0_2, .string a0_3, .int .i64 a0_4, .string a0_5, .bool a0_6, .string a0_7, .bool a0_8, .string a0_9] 23 (0, 0)) BLK hb); have n1_ := Aside0.mk (below_step BWK hb); have n2_ := Aside0.mk (hbox); have n3_ := Aside0.mk ((by rw [hg]; exact (below_size BWK) : w.heap.size ≤ gb385)); have n4_ := Aside0.mk ((by rw [hg]; exact (below_size BWK) : w.heap.size ≤ gb385)); have n5_ := Aside0.mk ((by rw [hg]; exact Nat.ne_of_lt (blk_lt (g := gb384) (o := .cells #[.string a0_0, .string a0_1, .string a0_2, .string a0_3, .int .i64 a0_4, .string a0_5, .bool a0_6, .string a0_7, .bool a0_8, .string a0_9] 23 (0, 0)) BLK) : gb384 ≠ gb385)); have n6_ := Aside0.mk ((by rw [hg]; exact Nat.ne_of_gt (blk_lt (g := gb384) (o := .cells #[.string a0_0, .string a0_1, .string a0_2, .string a0_3, .int .i64 a0_4, .string a0_5, .bool a0_6, .string a0_7, .bool a0_8, .string a0_9] 23 (0, 0)) BLK) : gb385 ≠ gb384)); clear BK384; clear HB; have BK384 := n0_; have HB := n1_; have BK385 := n2_; have GW385 := n3_; have GE385 := n4_; have NB384_385 := n5_; have NB385_384 := n6_; clear n0_ n1_ n2_ n3_ n4_ n5_ n6_; clear hb hbox hg; have hnb23 := NB384_385.out; have hnc23 := NB385_384.out; have hcz24_0 := bc0 BK384.out; have hcz24_1 := bc1 BK384.out; have hcz24_2 := bc2 BK384.out; have hcz24_3 := bc3 BK384.out; have hcz24_4 := bc4 BK384.out; have hcz24_5 := bc5 BK384.out; have hcz24_6 := bc6 BK384.out; have hcz24_7 := bc7 BK384.out; have hcz24_8 := bc8 BK384.out; have hcz24_9 := bc9 BK384.out; have hfz24_0 := blk_frozen BK384.out 0; have hfz24_1 := blk_frozen BK384.out 1; have hfz24_2 := blk_frozen BK384.out 2; have hfz24_3 := blk_frozen BK384.out 3; have hfz24_4 := blk_frozen BK384.out 4; have hfz24_5 := blk_frozen BK384.out 5; have hfz24_6 := blk_frozen BK384.out 6; have hfz24_7 := blk_frozen BK384.out 7; have hfz24_8 := blk_frozen BK384.out 8; have hfz24_9 := blk_frozen BK384.out 9; have hcz25_0 := bc0 BK385.out; have hcz25_1 := bc1 BK385.out; have hcz25_2 := bc2 BK385.out; have hcz25_3 := bc3 BK385.out; have hcz25_4 := bc4 BK385.out; have hcz25_5 := bc5 BK385.out; have hcz25_6 := bc6 BK385.out; have hcz25_7 := bc7 BK385.out; have hcz25_8 := bc8 BK385.out; have hcz25_9 := bc9 BK385.out; have hfz25_0 := blk_frozen BK385.out 0; have hfz25_1 := blk_frozen BK385.out 1; have hfz25_2 := blk_frozen BK385.out 2; have hfz25_3 := blk_frozen BK385.out 3; have hfz25_4 := blk_frozen BK385.out 4; have hfz25_5 := blk_frozen BK385.out 5; have hfz25_6 := blk_frozen BK385.out 6; have hfz25_7 := blk_frozen BK385.out 7; have hfz25_8 := blk_frozen BK385.out 8; have hfz25_9 := blk_frozen BK385.out 9))
    refine bodyPost_ret (results_cell_row rfl _ _ gb385 23 #[.string (⟨#[119, 115, 115]⟩ : ByteArray), .string a0_1, .string a0_2, .string a0_3, .int .i64 a0_4, .string a0_5, .bool a0_6, .string a0_7, .bool a0_8, .string a0_9] (0, 0) _ rfl BLK Tryd.underlying23 rfl (by kernel_rfl)) rfl ?_
    exact ⟨ERK, BWK⟩
  ·rw [if_neg c14] at H
   have c14b0 : (a0_0.toList == ([119, 115] : List UInt8)) = false := beq_eq_false_iff_ne.mpr c14
   have c14b1 : (a0_0.toList != ([119, 115] : List UInt8)) = true := bne_iff_ne.mpr c14
   simp only [Option.some.injEq, Prod.mk.injEq] at H
   obtain ⟨rfl, rfl, rfl, rfl, rfl, rfl, rfl, rfl, rfl, rfl⟩ := H
   go_enter Tryd.func16, Tryd.ntmps16
   go_wp2_with (first | ((with_reducible refine gate_dst (N := 1) rfl ?_); refine box_event ?hg (N := 1) ?hd (cs := #[.string a0_0, .string a0_1, .string a0_2, .string a0_3, .int .i64 a0_4, .string a0_5, .bool a0_6, .string a0_7, .bool a0_8, .string a0_9]) (t := 23) ?hr ?_; (case hd => rfl); (case hg => rfl); (case hr => first | (go_simp; done) | (go_simp; rfl)); intro gb384 hg w26 hbox hb; have n0_ := Aside0.mk (below_step BWK hb); have n1_ := Aside0.mk (hbox); have n2_ := Aside0.mk ((by rw [hg]; exact (below_size BWK) : w.heap.size ≤ gb384)); have n3_ := Aside0.mk ((by rw [hg]; exact (below_size BWK) : w.heap.size ≤ gb384)); clear HB; have HB := n0_; have BK384 := n1_; have GW384 := n2_; have GE384 := n3_; clear n0_ n1_ n2_ n3_; clear hb hbox hg) | ((with_reducible refine gate_dst (N := 2) rfl ?_); refine box_event ?hg (N := 2) ?hd (cs := #[.string (⟨#[]⟩ : ByteArray), .string (⟨#[]⟩ : ByteArray), .string (⟨#[]⟩ : ByteArray), .string (⟨#[]⟩ : ByteArray), .int .i64 0, .string (⟨#[]⟩ : ByteArray), .bool false, .string (⟨#[]⟩ : ByteArray), .bool false, .string (⟨#[]⟩ : ByteArray)]) (t := 23) ?hr ?_; (case hd => rfl); (case hg => rfl); (case hr => first | (go_simp; done) | (go_simp; rfl)); intro gb385 hg w27 hbox hb; have n0_ := Aside0.mk (blk_below (g := gb384) (o := .cells #[.string a0_0, .string a0_1, .string a0_2, .string a0_3, .int .i64 a0_4, .string a0_5, .bool a0_6, .string a0_7, .bool a0_8, .string a0_9] 23 (0, 0)) BLK hb); have n1_ := Aside0.mk (below_step BWK hb); have n2_ := Aside0.mk (hbox); have n3_ := Aside0.mk ((by rw [hg]; exact (below_size BWK) : w.heap.size ≤ gb385)); have n4_ := Aside0.mk ((by rw [hg]; exact (below_size BWK) : w.heap.size ≤ gb385)); have n5_ := Aside0.mk ((by rw [hg]; exact Nat.ne_of_lt (blk_lt (g := gb384) (o := .cells #[.string a0_0, .string a0_1, .string a0_2, .string a0_3, .int .i64 a0_4, .string a0_5, .bool a0_6, .string a0_7, .bool a0_8, .string a0_9] 23 (0, 0)) BLK) : gb384 ≠ gb385)); have n6_ := Aside0.mk ((by rw [hg]; exact Nat.ne_of_gt (blk_lt (g := gb384) (o := .cells #[.string a0_0, .string a0_1, .string a0_2, .string a0_3, .int .i64 a0_4, .string a0_5, .bool a0_6, .string a0_7, .bool a0_8, .string a0_9] 23 (0, 0)) BLK) : gb385 ≠ gb384)); clear BK384; clear HB; have BK384 := n0_; have HB := n1_; have BK385 := n2_; have GW385 := n3_; have GE385 := n4_; have NB384_385 := n5_; have NB385_384 := n6_; clear n0_ n1_ n2_ n3_ n4_ n5_ n6_; clear hb hbox hg; have hnb28 := NB384_385.out; have hnc28 := NB385_384.out; have hcz29_0 := bc0 BK384.out; have hcz29_1 := bc1 BK384.out; have hcz29_2 := bc2 BK384.out; have hcz29_3 := bc3 BK384.out; have hcz29_4 := bc4 BK384.out; have hcz29_5 := bc5 BK384.out; have hcz29_6 := bc6 BK384.out; have hcz29_7 := bc7 BK384.out; have hcz29_8 := bc8 BK384.out; have hcz29_9 := bc9 BK384.out; have hfz29_0 := blk_frozen BK384.out 0; have hfz29_1 := blk_frozen BK384.out 1; have hfz29_2 := blk_frozen BK384.out 2; have hfz29_3 := blk_frozen BK384.out 3; have hfz29_4 := blk_frozen BK384.out 4; have hfz29_5 := blk_frozen BK384.out 5; have hfz29_6 := blk_frozen BK384.out 6; have hfz29_7 := blk_frozen BK384.out 7; have hfz29_8 := blk_frozen BK384.out 8; have hfz29_9 := blk_frozen BK384.out 9; have hcz30_0 := bc0 BK385.out; have hcz30_1 := bc1 BK385.out; have hcz30_2 := bc2 BK385.out; have hcz30_3 := bc3 BK385.out; have hcz30_4 := bc4 BK385.out; have hcz30_5 := bc5 BK385.out; have hcz30_6 := bc6 BK385.out; have hcz30_7 := bc7 BK385.out; have hcz30_8 := bc8 BK385.out; have hcz30_9 := bc9 BK385.out; have hfz30_0 := blk_frozen BK385.out 0; have hfz30_1 := blk_frozen BK385.out 1; have hfz30_2 := blk_frozen BK385.out 2; have hfz30_3 := blk_frozen BK385.out 3; have hfz30_4 := blk_frozen BK385.out 4; have hfz30_5 := blk_frozen BK385.out 5; have hfz30_6 := blk_frozen BK385.out 6; have hfz30_7 := blk_frozen BK385.out 7; have hfz30_8 := blk_frozen BK385.out 8; have hfz30_9 := blk_frozen BK385.out 9))
   refine bodyPost_ret (results_cell_row rfl _ _ gb385 23 #[.string a0_0, .string a0_1, .string a0_2, .string a0_3, .int .i64 a0_4, .string a0_5, .bool a0_6, .string a0_7, .bool a0_8, .string a0_9] (0, 0) _ rfl BLK Tryd.underlying23 rfl (by kernel_rfl)) rfl ?_
   exact ⟨ERK, BWK⟩

end Go.Proofs.YtknkokkgefcdbaaDoor.PA
