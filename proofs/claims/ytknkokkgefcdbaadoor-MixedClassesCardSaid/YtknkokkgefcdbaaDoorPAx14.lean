-- half
-- written by pp.py, a program of this session's, which runs the kit's print with turns of its own; Lean checks it
import Derived.Test.YtknkokkgefcdbaaDoorBP
import Derived.Test.YtknkokkgefcdbaaDoorPAx0
import Derived.Test.YtknkokkgefcdbaaDoorPAx7
import Derived.Test.YtknkokkgefcdbaaDoorPAx13
namespace Go.Proofs.YtknkokkgefcdbaaDoor.PA
open Go.RowKit Go.Proofs.YtknkokkgefcdbaaDoorW.PrintWords Go.Proofs.YtknkokkgefcdbaaDoorW.PrintLast Go.Proofs.YtknkokkgefcdbaaDoorW.PrintMore
attribute [local go_sem] max2_int min2_int max_two min_two max_three min_three max_four min_four   -- for this text's walks alone
set_option maxHeartbeats 8000000
set_option maxRecDepth 100000
set_option linter.unusedVariables false
set_option linter.unusedSimpArgs false

/-! ### parapetref9_path: function 36 -/
mutual
def parapetref9_path.j4 : Nat → List ByteArray → Option (ByteArray)
 | 0, _ => none
 | k + 1, x3 => if (x3.length : Int) = 0 then (some (⟨#[47]⟩ : ByteArray)) else (parapetref9_path.l1 k x3 (⟨#[]⟩ : ByteArray) 0)
def parapetref9_path.l1 : Nat → List ByteArray → ByteArray → Int → Option (ByteArray)
 | 0, _, _, _ => none
 | k + 1, x3, x9, x10 => if x10 < (x3.length : Int) then (if x9.size + 1 ≤ 9223372036854775807 then (if 0 ≤ x10 then (if (x9 ++ (⟨#[47]⟩ : ByteArray)).size + (rdOf ByteArray.empty x3 x10).size ≤ 9223372036854775807 then (parapetref9_path.l1 k x3 ((x9 ++ (⟨#[47]⟩ : ByteArray)) ++ (rdOf ByteArray.empty x3 x10)) (wrap64 (x10 + 1))) else (none)) else (none)) else (none)) else (some x9)
def parapetref9_path.l0 : Nat → ByteArray → List ByteArray → Int → Int → Option (ByteArray)
 | 0, _, _, _, _ => none
 | k + 1, x0, x3, x4, x5 => if x5 ≤ (x0.size : Int) then (if x5 < (x0.size : Int) then (if 0 ≤ x5 then (if (bt x0 x5) = 47 then (parapetref9_path.j1 k x0 x3 x4 x5 false) else (parapetref9_path.j1 k x0 x3 x4 x5 ((bt x0 x5) != 92))) else (none)) else (parapetref9_path.j1 k x0 x3 x4 x5 false)) else (parapetref9_path.j4 k x3)
def parapetref9_path.j1 : Nat → ByteArray → List ByteArray → Int → Int → Bool → Option (ByteArray)
 | 0, _, _, _, _, _ => none
 | k + 1, x0, x3, x4, x5, x34 => if x34 = true then (parapetref9_path.l0 k x0 x3 x4 (wrap64 (x5 + 1))) else (if 0 ≤ x4 then (if x4 ≤ x5 then (if x5 ≤ (x0.size : Int) then ((parapetref9_dots.f k (x0.extract (x4 : Int).toNat (x5 : Int).toNat)).bind fun t191 => (if t191 = 2 then (parapetref9_path.j2 k x0 x3 (wrap64 (x5 + 1)) x5 (x0.extract (x4 : Int).toNat (x5 : Int).toNat) (x5 == (x0.size : Int)) t191 (decide ((x3.length : Int) > 0))) else (parapetref9_path.j2 k x0 x3 (wrap64 (x5 + 1)) x5 (x0.extract (x4 : Int).toNat (x5 : Int).toNat) (x5 == (x0.size : Int)) t191 false))) else (none)) else (none)) else (none))
def parapetref9_path.j2 : Nat → ByteArray → List ByteArray → Int → Int → ByteArray → Bool → Int → Bool → Option (ByteArray)
 | 0, _, _, _, _, _, _, _, _ => none
 | k + 1, x0, x3, x4, x5, x6, x7, x8, x53 => if x53 = true then (if 0 ≤ (wrap64 ((x3.length : Int) - 1)) then (if (wrap64 ((x3.length : Int) - 1)) ≤ (x3.length : Int) then (parapetref9_path.j3 k x0 (x3.take ((wrap64 ((x3.length : Int) - 1)) : Int).toNat) x4 x5 x6 x7 x8) else (none)) else (none)) else (parapetref9_path.j3 k x0 x3 x4 x5 x6 x7 x8)
def parapetref9_path.j3 : Nat → ByteArray → List ByteArray → Int → Int → ByteArray → Bool → Int → Option (ByteArray)
 | 0, _, _, _, _, _, _, _ => none
 | k + 1, x0, x3, x4, x5, x6, x7, x8 => if x8 = 0 then ((parapetref9_Encode.f k x6 3).bind fun t195 => (if x3.length < 8796093022208 then (parapetref9_path.l0 k x0 (x3 ++ [t195]) x4 (wrap64 (x5 + 1))) else (none))) else (if x7 = true then (if x3.length < 8796093022208 then (parapetref9_path.l0 k x0 (x3 ++ [(⟨#[]⟩ : ByteArray)]) x4 (wrap64 (x5 + 1))) else (none)) else (parapetref9_path.l0 k x0 x3 x4 (wrap64 (x5 + 1))))
end
def parapetref9_path.f (k : Nat) (a0 : ByteArray) : Option (ByteArray) := if a0.toList = ([] : List UInt8) then (parapetref9_path.j4 k ([] : List ByteArray)) else (parapetref9_path.l0 k a0 ([] : List ByteArray) 1 1)
theorem parapetref9_path.mono_l : ∀ k, (∀ y0, LeO (parapetref9_path.j4 k y0) (parapetref9_path.j4 (k + 1) y0)) ∧ (∀ y0 y1 y2, LeO (parapetref9_path.l1 k y0 y1 y2) (parapetref9_path.l1 (k + 1) y0 y1 y2)) ∧ (∀ y0 y1 y2 y3, LeO (parapetref9_path.l0 k y0 y1 y2 y3) (parapetref9_path.l0 (k + 1) y0 y1 y2 y3)) ∧ (∀ y0 y1 y2 y3 y4, LeO (parapetref9_path.j1 k y0 y1 y2 y3 y4) (parapetref9_path.j1 (k + 1) y0 y1 y2 y3 y4)) ∧ (∀ y0 y1 y2 y3 y4 y5 y6 y7, LeO (parapetref9_path.j2 k y0 y1 y2 y3 y4 y5 y6 y7) (parapetref9_path.j2 (k + 1) y0 y1 y2 y3 y4 y5 y6 y7)) ∧ (∀ y0 y1 y2 y3 y4 y5 y6, LeO (parapetref9_path.j3 k y0 y1 y2 y3 y4 y5 y6) (parapetref9_path.j3 (k + 1) y0 y1 y2 y3 y4 y5 y6))
 | 0 => ⟨fun _ r h => by simp [parapetref9_path.j4] at h, fun _ _ _ r h => by simp [parapetref9_path.l1] at h, fun _ _ _ _ r h => by simp [parapetref9_path.l0] at h, fun _ _ _ _ _ r h => by simp [parapetref9_path.j1] at h, fun _ _ _ _ _ _ _ _ r h => by simp [parapetref9_path.j2] at h, fun _ _ _ _ _ _ _ r h => by simp [parapetref9_path.j3] at h⟩
 | k + 1 => by
  obtain ⟨ih0, ih1, ih2, ih3, ih4, ih5⟩ := parapetref9_path.mono_l k
  refine ⟨?_, ?_, ?_, ?_, ?_, ?_⟩
  ·intro y0
   unfold parapetref9_path.j4
   repeat' first
   | (with_reducible exact ih0 _)
   | (with_reducible exact ih1 _ _ _)
   | (with_reducible exact ih2 _ _ _ _)
   | (with_reducible exact ih3 _ _ _ _ _)
   | (with_reducible exact ih4 _ _ _ _ _ _ _ _)
   | (with_reducible exact ih5 _ _ _ _ _ _ _)
   | (with_reducible exact parapetref9_Encode.mono _ _ _)
   | (with_reducible exact parapetref9_dots.mono _ _)
   | (with_reducible exact LeO.refl _)
   | (with_reducible exact LeO.none _)
   | (with_reducible refine LeO.ite ?_ ?_)
   | (with_reducible refine LeO.bind ?_ (fun _ => ?_))
   | exact ih0 _
   | exact ih1 _ _ _
   | exact ih2 _ _ _ _
   | exact ih3 _ _ _ _ _
   | exact ih4 _ _ _ _ _ _ _ _
   | exact ih5 _ _ _ _ _ _ _
   | exact parapetref9_Encode.mono _ _ _
   | exact parapetref9_dots.mono _ _
   | exact LeO.none _
   | refine LeO.ite ?_ ?_
   | refine LeO.bind ?_ (fun _ => ?_)
  ·intro y0 y1 y2
   unfold parapetref9_path.l1
   repeat' first
   | (with_reducible exact ih0 _)
   | (with_reducible exact ih1 _ _ _)
   | (with_reducible exact ih2 _ _ _ _)
   | (with_reducible exact ih3 _ _ _ _ _)
   | (with_reducible exact ih4 _ _ _ _ _ _ _ _)
   | (with_reducible exact ih5 _ _ _ _ _ _ _)
   | (with_reducible exact parapetref9_Encode.mono _ _ _)
   | (with_reducible exact parapetref9_dots.mono _ _)
   | (with_reducible exact LeO.refl _)
   | (with_reducible exact LeO.none _)
   | (with_reducible refine LeO.ite ?_ ?_)
   | (with_reducible refine LeO.bind ?_ (fun _ => ?_))
   | exact ih0 _
   | exact ih1 _ _ _
   | exact ih2 _ _ _ _
   | exact ih3 _ _ _ _ _
   | exact ih4 _ _ _ _ _ _ _ _
   | exact ih5 _ _ _ _ _ _ _
   | exact parapetref9_Encode.mono _ _ _
   | exact parapetref9_dots.mono _ _
   | exact LeO.none _
   | refine LeO.ite ?_ ?_
   | refine LeO.bind ?_ (fun _ => ?_)
  ·intro y0 y1 y2 y3
   unfold parapetref9_path.l0
   repeat' first
   | (with_reducible exact ih0 _)
   | (with_reducible exact ih1 _ _ _)
   | (with_reducible exact ih2 _ _ _ _)
   | (with_reducible exact ih3 _ _ _ _ _)
   | (with_reducible exact ih4 _ _ _ _ _ _ _ _)
   | (with_reducible exact ih5 _ _ _ _ _ _ _)
   | (with_reducible exact parapetref9_Encode.mono _ _ _)
   | (with_reducible exact parapetref9_dots.mono _ _)
   | (with_reducible exact LeO.refl _)
   | (with_reducible exact LeO.none _)
   | (with_reducible refine LeO.ite ?_ ?_)
   | (with_reducible refine LeO.bind ?_ (fun _ => ?_))
   | exact ih0 _
   | exact ih1 _ _ _
   | exact ih2 _ _ _ _
   | exact ih3 _ _ _ _ _
   | exact ih4 _ _ _ _ _ _ _ _
   | exact ih5 _ _ _ _ _ _ _
   | exact parapetref9_Encode.mono _ _ _
   | exact parapetref9_dots.mono _ _
   | exact LeO.none _
   | refine LeO.ite ?_ ?_
   | refine LeO.bind ?_ (fun _ => ?_)
  ·intro y0 y1 y2 y3 y4
   unfold parapetref9_path.j1
   repeat' first
   | (with_reducible exact ih0 _)
   | (with_reducible exact ih1 _ _ _)
   | (with_reducible exact ih2 _ _ _ _)
   | (with_reducible exact ih3 _ _ _ _ _)
   | (with_reducible exact ih4 _ _ _ _ _ _ _ _)
   | (with_reducible exact ih5 _ _ _ _ _ _ _)
   | (with_reducible exact parapetref9_Encode.mono _ _ _)
   | (with_reducible exact parapetref9_dots.mono _ _)
   | (with_reducible exact LeO.refl _)
   | (with_reducible exact LeO.none _)
   | (with_reducible refine LeO.ite ?_ ?_)
   | (with_reducible refine LeO.bind ?_ (fun _ => ?_))
   | exact ih0 _
   | exact ih1 _ _ _
   | exact ih2 _ _ _ _
   | exact ih3 _ _ _ _ _
   | exact ih4 _ _ _ _ _ _ _ _
   | exact ih5 _ _ _ _ _ _ _
   | exact parapetref9_Encode.mono _ _ _
   | exact parapetref9_dots.mono _ _
   | exact LeO.none _
   | refine LeO.ite ?_ ?_
   | refine LeO.bind ?_ (fun _ => ?_)
  ·intro y0 y1 y2 y3 y4 y5 y6 y7
   unfold parapetref9_path.j2
   repeat' first
   | (with_reducible exact ih0 _)
   | (with_reducible exact ih1 _ _ _)
   | (with_reducible exact ih2 _ _ _ _)
   | (with_reducible exact ih3 _ _ _ _ _)
   | (with_reducible exact ih4 _ _ _ _ _ _ _ _)
   | (with_reducible exact ih5 _ _ _ _ _ _ _)
   | (with_reducible exact parapetref9_Encode.mono _ _ _)
   | (with_reducible exact parapetref9_dots.mono _ _)
   | (with_reducible exact LeO.refl _)
   | (with_reducible exact LeO.none _)
   | (with_reducible refine LeO.ite ?_ ?_)
   | (with_reducible refine LeO.bind ?_ (fun _ => ?_))
   | exact ih0 _
   | exact ih1 _ _ _
   | exact ih2 _ _ _ _
   | exact ih3 _ _ _ _ _
   | exact ih4 _ _ _ _ _ _ _ _
   | exact ih5 _ _ _ _ _ _ _
   | exact parapetref9_Encode.mono _ _ _
   | exact parapetref9_dots.mono _ _
   | exact LeO.none _
   | refine LeO.ite ?_ ?_
   | refine LeO.bind ?_ (fun _ => ?_)
  ·intro y0 y1 y2 y3 y4 y5 y6
   unfold parapetref9_path.j3
   repeat' first
   | (with_reducible exact ih0 _)
   | (with_reducible exact ih1 _ _ _)
   | (with_reducible exact ih2 _ _ _ _)
   | (with_reducible exact ih3 _ _ _ _ _)
   | (with_reducible exact ih4 _ _ _ _ _ _ _ _)
   | (with_reducible exact ih5 _ _ _ _ _ _ _)
   | (with_reducible exact parapetref9_Encode.mono _ _ _)
   | (with_reducible exact parapetref9_dots.mono _ _)
   | (with_reducible exact LeO.refl _)
   | (with_reducible exact LeO.none _)
   | (with_reducible refine LeO.ite ?_ ?_)
   | (with_reducible refine LeO.bind ?_ (fun _ => ?_))
   | exact ih0 _
   | exact ih1 _ _ _
   | exact ih2 _ _ _ _
   | exact ih3 _ _ _ _ _
   | exact ih4 _ _ _ _ _ _ _ _
   | exact ih5 _ _ _ _ _ _ _
   | exact parapetref9_Encode.mono _ _ _
   | exact parapetref9_dots.mono _ _
   | exact LeO.none _
   | refine LeO.ite ?_ ?_
   | refine LeO.bind ?_ (fun _ => ?_)
theorem parapetref9_path.mono : ∀ a0 k, LeO (parapetref9_path.f k a0) (parapetref9_path.f (k + 1) a0) := by
 intro a0 k
 obtain ⟨ih0, ih1, ih2, ih3, ih4, ih5⟩ := parapetref9_path.mono_l k
 unfold parapetref9_path.f
 repeat' first
   | (with_reducible exact ih0 _)
   | (with_reducible exact ih1 _ _ _)
   | (with_reducible exact ih2 _ _ _ _)
   | (with_reducible exact ih3 _ _ _ _ _)
   | (with_reducible exact ih4 _ _ _ _ _ _ _ _)
   | (with_reducible exact ih5 _ _ _ _ _ _ _)
   | (with_reducible exact parapetref9_Encode.mono _ _ _)
   | (with_reducible exact parapetref9_dots.mono _ _)
   | (with_reducible exact LeO.refl _)
   | (with_reducible exact LeO.none _)
   | (with_reducible refine LeO.ite ?_ ?_)
   | (with_reducible refine LeO.bind ?_ (fun _ => ?_))
   | exact ih0 _
   | exact ih1 _ _ _
   | exact ih2 _ _ _ _
   | exact ih3 _ _ _ _ _
   | exact ih4 _ _ _ _ _ _ _ _
   | exact ih5 _ _ _ _ _ _ _
   | exact parapetref9_Encode.mono _ _ _
   | exact parapetref9_dots.mono _ _
   | exact LeO.none _
   | refine LeO.ite ?_ ?_
   | refine LeO.bind ?_ (fun _ => ?_)
theorem parapetref9_path.calls (k : Nat) (a0 : ByteArray) (r : ByteArray) (w : World) (h : parapetref9_path.f k a0 = some r) :
  Calls Tryd.prog 36 #[.string a0] w fun e w' => e = .returned (.string r) ∧ Below w.heap.size w w' := by
 have HB := Aside0.mk (Below.refl w.heap.size w)
 have H : (if a0.toList = ([] : List UInt8) then (parapetref9_path.j4 k ([] : List ByteArray)) else (parapetref9_path.l0 k a0 ([] : List ByteArray) 1 1)) = some r := h
 clear h
 have HC2 := Aside0.mk H
 clear H
 go_enter Tryd.func36, Tryd.ntmps36
 go_upto_if 12 with (fail)
 go_cut [3] (fun v3 wc => ∃ (kq : Nat) (x3_1 : List ByteArray), Aside0 (parapetref9_path.j4 kq x3_1 = some r) ∧ Aside0 (kq ≤ k) ∧ Aside0 (Kd.R Kd.string 9 wc w.heap.size (fun _ => True) v3 x3_1) ∧ Aside0 (Below w.heap.size w wc))
 case first =>
  have H := HC2.out
  clear HC2
  by_cases c3 : a0.toList = ([] : List UInt8)
  ·rw [if_pos c3] at H
   have c3b0 : (a0.toList == ([] : List UInt8)) = true := beq_iff_eq.mpr c3
   have c3b1 : (a0.toList != ([] : List UInt8)) = false := bne_eq_false_iff_eq.mpr c3
   have c3b9 : (!a0.toList.isEmpty) = false := by simp [c3]
   (try rw [c3b9])
   clear c3
   (first | rw [c3b0] | (simp only [i64_w, i32_w]; rw [c3b0]) | skip)
   have H' := Aside0.mk H
   clear H
   go_wp2
   go_meet
   case rel => exact ⟨_, (([] : List ByteArray)), H', ⟨OMK⟩, ⟨by first | exact Kd.R_nil _ _ _ _ _ | exact Kd.N_nil _ _ _ _ _ | exact Kd.V_nil _ _ _ _ _ | exact Kd.Q_nil _ _ _ _ _ | exact Kd.S_nil _ _ _ _ _⟩, ⟨BWK⟩⟩
  ·rw [if_neg c3] at H
   have c3b0 : (a0.toList == ([] : List UInt8)) = false := beq_eq_false_iff_ne.mpr c3
   have c3b1 : (a0.toList != ([] : List UInt8)) = true := bne_iff_ne.mpr c3
   have c3b9 : (!a0.toList.isEmpty) = true := by simp [c3]
   (try rw [c3b9])
   (first | rw [c3b0] | (simp only [i64_w, i32_w]; rw [c3b0]) | skip)
   have H' := Aside0.mk H
   clear H
   go_wp2
   go_loopg [3, 4, 5] k (fun kq v3 v4 v5 w' => ∃ (x3_1 : List ByteArray) (x4_1 : Int) (x5_1 : Int), v4 = .int .i64 x4_1 ∧ v5 = .int .i64 x5_1 ∧ Aside0 (parapetref9_path.l0 kq a0 x3_1 x4_1 x5_1 = some r) ∧ Aside0 (kq ≤ k) ∧ Aside0 (Kd.R Kd.string 9 w' w.heap.size (fun _ => True) v3 x3_1) ∧ Aside0 (Below w.heap.size w w'))
   case atStart => exact ⟨(([] : List ByteArray)), (1), (1), RFK, RFK, H', ⟨Nat.le_refl _⟩, ⟨by first | exact Kd.R_nil _ _ _ _ _ | exact Kd.N_nil _ _ _ _ _ | exact Kd.V_nil _ _ _ _ _ | exact Kd.Q_nil _ _ _ _ _ | exact Kd.S_nil _ _ _ _ _⟩, ⟨BWK⟩⟩
   case round =>
    clear H'
    try clear p2
    try clear c3
    try clear c3b0
    try clear c3b1
    obtain ⟨x3_1, x4_1, x5_1, rfl, rfl, HA, HK1, HO_3, HB⟩ := hrel
    cases gk with
    | zero => exact absurd HA.out (by simp [parapetref9_path.l0])
    | succ k1 =>
     have H := HA.out
     clear HA
     simp only [parapetref9_path.l0] at H
     by_cases c4 : x5_1 ≤ (a0.size : Int)
     ·rw [if_pos c4] at H
      have c4b0 := decide_eq_true c4
      clear c4
      have HC5 := Aside0.mk H
      clear H
      go_upto_region 7 with (fail)
      go_cut [34] (fun v34 wc => ∃ (kq : Nat) (x34_4 : Bool), v34 = .bool x34_4 ∧ Aside0 (parapetref9_path.j1 kq a0 x3_1 x4_1 x5_1 x34_4 = some r) ∧ Aside0 (kq ≤ k1) ∧ Aside0 (Kd.R Kd.string 9 wc w.heap.size (fun _ => True) u3 x3_1) ∧ Aside0 (Below w.heap.size w wc))
      case first =>
       have H := HC5.out
       clear HC5
       by_cases c6 : x5_1 < (a0.size : Int)
       ·rw [if_pos c6] at H
        have c6b0 := decide_eq_true c6
        clear c6
        (first | rw [c6b0] | (simp only [i64_w, i32_w]; rw [c6b0]) | skip)
        by_cases c7 : 0 ≤ x5_1
        ·rw [if_pos c7] at H
         have c7b0 := decide_eq_true c7
         clear c7
         by_cases c9 : (bt a0 x5_1) = 47
         ·rw [if_pos c9] at H
          have c9b0 : ((bt a0 x5_1) == 47) = true := beq_iff_eq.mpr c9
          have c9b1 : ((bt a0 x5_1) != 47) = false := bne_eq_false_iff_eq.mpr c9
          clear c9
          have H' := Aside0.mk H
          clear H
          have p8 : 0 ≤ (x5_1 : Int) := odA
          have q8 : x5_1 < (a0.size : Int) := odA
          have hx8 := bt_at a0 x5_1
          replace p8 := eq_true p8
          replace q8 := eq_true q8
          go_wp2
          go_meet
          case rel => exact ⟨_, (false), RFK, H', ⟨by have := HK1.out; first | omega | exact Nat.le_refl _⟩, ⟨by (with_reducible repeat (first | apply Kd.R_alloc | apply Kd.R_drewN | apply Kd.R_drew)); exact HO_3.out⟩, ⟨BWK⟩⟩
         ·rw [if_neg c9] at H
          have c9b0 : ((bt a0 x5_1) == 47) = false := beq_eq_false_iff_ne.mpr c9
          have c9b1 : ((bt a0 x5_1) != 47) = true := bne_iff_ne.mpr c9
          have H' := Aside0.mk H
          clear H
          have p8 : 0 ≤ (x5_1 : Int) := odA
          have q8 : x5_1 < (a0.size : Int) := odA
          have hx8 := bt_at a0 x5_1
          replace p8 := eq_true p8
          replace q8 := eq_true q8
          have p10 : 0 ≤ (x5_1 : Int) := odA
          have q10 : x5_1 < (a0.size : Int) := odA
          have hx10 := bt_at a0 x5_1
          replace p10 := eq_true p10
          replace q10 := eq_true q10
          go_wp2
          go_meet
          case rel => exact ⟨_, (((bt a0 x5_1) != 92)), RFK, H', ⟨by have := HK1.out; first | omega | exact Nat.le_refl _⟩, ⟨by (with_reducible repeat (first | apply Kd.R_alloc | apply Kd.R_drewN | apply Kd.R_drew)); exact HO_3.out⟩, ⟨BWK⟩⟩
        ·rw [if_neg c7] at H
         exact absurd H (by simp)
       ·rw [if_neg c6] at H
        have c6b0 := decide_eq_false c6
        clear c6
        (first | rw [c6b0] | (simp only [i64_w, i32_w]; rw [c6b0]) | skip)
        have H' := Aside0.mk H
        clear H
        go_wp2
        go_meet
        case rel => exact ⟨_, (false), RFK, H', ⟨by have := HK1.out; first | omega | exact Nat.le_refl _⟩, ⟨by (with_reducible repeat (first | apply Kd.R_alloc | apply Kd.R_drewN | apply Kd.R_drew)); exact HO_3.out⟩, ⟨BWK⟩⟩
      case rest =>
       clear HC5
       try clear p1
       try clear q1
       try clear hx1
       try clear p2
       try clear c3
       try clear c3b0
       try clear c3b1
       try clear c4
       try clear c4b0
       try clear c6
       try clear c6b0
       try clear c7
       try clear c7b0
       try clear p8
       try clear q8
       try clear hx8
       try clear c9
       try clear c9b0
       try clear c9b1
       try clear p10
       try clear q10
       try clear hx10
       try clear p10
       try clear p2
       try clear p8
       try clear q10
       try clear q8
       obtain ⟨kq, x34_4, rfl, HA, HJ4, HO_3, HB⟩ := hcut
       cases kq with
       | zero => exact absurd HA.out (by simp [parapetref9_path.j1])
       | succ kj4 =>
        have H := HA.out
        clear HA
        simp only [parapetref9_path.j1] at H
        by_cases c11 : x34_4 = true
        ·subst c11
         have H1 := H; rw [if_pos rfl] at H1
         clear H
         have H := H1
         clear H1
         have H' := Aside0.mk H
         clear H
         go_wp2
         go_roundg kj4
         case measure => have := HK1.out; have := HJ4.out; omega
         case rel => exact ⟨(x3_1), (x4_1), (wrap64 (x5_1 + 1)), RFK, RFK, H', ⟨by have := HK1.out; have := HJ4.out; omega⟩, ⟨by (with_reducible repeat (first | apply Kd.R_alloc | apply Kd.R_drewN | apply Kd.R_drew)); exact HO_3.out⟩, ⟨BWK⟩⟩
        ·replace c11 := Bool.eq_false_iff.mpr c11
         subst c11
         have H1 := H; rw [if_neg (show ¬ (false = true) by decide)] at H1
         clear H
         have H := H1
         clear H1
         by_cases c12 : 0 ≤ x4_1
         ·rw [if_pos c12] at H
          have c12b0 := eq_true c12
          have c12b1 := decide_eq_true c12
          clear c12
          by_cases c13 : x4_1 ≤ x5_1
          ·rw [if_pos c13] at H
           have c13b0 := eq_true c13
           have c13b1 := decide_eq_true c13
           clear c13
           by_cases c14 : x5_1 ≤ (a0.size : Int)
           ·rw [if_pos c14] at H
            have c14b0 := eq_true c14
            have c14b1 := decide_eq_true c14
            clear c14
            replace H := Option.bind_eq_some_iff.mp H
            obtain ⟨t191, A150, H⟩ := H
            (try dsimp only at H)
            have A15 := Aside0.mk A150
            clear A150
            have HC16 := Aside0.mk H
            clear H
            go_upto_region 12 with (first | ((with_reducible refine gate_callee (f := 54) rfl ?_); refine goesL_ (some 46) rfl rfl Tryd.func54 (by kernel_rfl) rfl #[.string (a0.extract (x4_1 : Int).toNat (x5_1 : Int).toNat)] rfl GAK ?_; (with_reducible refine (parapetref9_dots.calls kj4 (a0.extract (x4_1 : Int).toNat (x5_1 : Int).toNat) t191 _ A15.out).mono ?_); rintro e w17 ⟨rfl, hb⟩; refine ⟨_, rfl, ?_⟩; have n0_ := Aside0.mk (Kd.R_below (by (with_reducible repeat (first | apply Kd.R_alloc | apply Kd.R_drewN | apply Kd.R_drew)); exact HO_3.out) hb); have n1_ := Aside0.mk (below_step BWK hb); clear HO_3; clear HB; have HO_3 := n0_; have HB := n1_; clear n0_ n1_; (try clear hb); (try clear hb2); (try clear hk); (try clear hi)))
            (try simp only [Act.put, List.setIfInBounds_toArray, List.set_cons_zero, List.set_cons_succ])
            go_cut [53] (fun v53 wc => ∃ (kq : Nat) (x53_15 : Bool), v53 = .bool x53_15 ∧ Aside0 (parapetref9_path.j2 kq a0 x3_1 (wrap64 (x5_1 + 1)) x5_1 (a0.extract (x4_1 : Int).toNat (x5_1 : Int).toNat) (x5_1 == (a0.size : Int)) t191 x53_15 = some r) ∧ Aside0 (kq ≤ kj4) ∧ Aside0 (Kd.R Kd.string 9 wc w.heap.size (fun _ => True) u3 x3_1) ∧ Aside0 (Below w.heap.size w wc))
            case first =>
             have H := HC16.out
             clear HC16
             by_cases c18 : t191 = 2
             ·rw [if_pos c18] at H
              have c18b0 : (t191 == 2) = true := beq_iff_eq.mpr c18
              have c18b1 : (t191 != 2) = false := bne_eq_false_iff_eq.mpr c18
              clear c18
              (first | rw [c18b0] | (simp only [i64_w, i32_w]; rw [c18b0]) | skip)
              have H' := Aside0.mk H
              clear H
              obtain ⟨Ao19, co19, eo19⟩ := Kd.R_slice HO_3.out
              subst eo19
              go_wp2
              go_meet
              case rel => exact ⟨_, (decide ((x3_1.length : Int) > 0)), RFK, H', ⟨by have := HK1.out; have := HJ4.out; first | omega | exact Nat.le_refl _⟩, ⟨by (with_reducible repeat (first | apply Kd.R_alloc | apply Kd.R_drewN | apply Kd.R_drew)); exact HO_3.out⟩, ⟨BWK⟩⟩
             ·rw [if_neg c18] at H
              have c18b0 : (t191 == 2) = false := beq_eq_false_iff_ne.mpr c18
              have c18b1 : (t191 != 2) = true := bne_iff_ne.mpr c18
              (first | rw [c18b0] | (simp only [i64_w, i32_w]; rw [c18b0]) | skip)
              have H' := Aside0.mk H
              clear H
              go_wp2
              go_meet
              case rel => exact ⟨_, (false), RFK, H', ⟨by have := HK1.out; have := HJ4.out; first | omega | exact Nat.le_refl _⟩, ⟨by (with_reducible repeat (first | apply Kd.R_alloc | apply Kd.R_drewN | apply Kd.R_drew)); exact HO_3.out⟩, ⟨BWK⟩⟩
            case rest =>
             clear HC16
             try clear c1
             try clear p1
             try clear q1
             try clear hx1
             try clear p2
             try clear c3
             try clear c3b0
             try clear c3b1
             try clear c4
             try clear c4b0
             try clear c5
             try clear c6
             try clear c6b0
             try clear p6
             try clear c7
             try clear c7b0
             try clear p8
             try clear q8
             try clear hx8
             try clear c9
             try clear c9b0
             try clear c9b1
             try clear p10
             try clear q10
             try clear hx10
             try clear c11
             try clear c12
             try clear c12b0
             try clear c12b1
             try clear c13
             try clear c13b0
             try clear c13b1
             try clear c14
             try clear c14b0
             try clear c14b1
             try clear c18
             try clear c18b0
             try clear c18b1
             try clear p1
             try clear p10
             try clear p2
             try clear p8
             try clear q1
             try clear q10
             try clear q8
             obtain ⟨kq, x53_15, rfl, HA, HJ15, HO_3, HB⟩ := hcut
             cases kq with
             | zero => exact absurd HA.out (by simp [parapetref9_path.j2])
             | succ kj15 =>
              have H := HA.out
              clear HA
              simp only [parapetref9_path.j2] at H
              have HC20 := Aside0.mk H
              clear H
              go_upto_if 53 with (fail)
              go_cut [3] (fun v3 wc => ∃ (kq : Nat) (x3_19 : List ByteArray), Aside0 (parapetref9_path.j3 kq a0 x3_19 (wrap64 (x5_1 + 1)) x5_1 (a0.extract (x4_1 : Int).toNat (x5_1 : Int).toNat) (x5_1 == (a0.size : Int)) t191 = some r) ∧ Aside0 (kq ≤ kj15) ∧ Aside0 (Kd.R Kd.string 9 wc w.heap.size (fun _ => True) v3 x3_19) ∧ Aside0 (Below w.heap.size w wc))
              case first =>
               have H := HC20.out
               clear HC20
               by_cases c21 : x53_15 = true
               ·subst c21
                have H1 := H; rw [if_pos rfl] at H1
                clear H
                have H := H1
                clear H1
                obtain ⟨ji22, hji22⟩ : ∃ j_ : Int, (wrap64 ((x3_1.length : Int) - 1)) = j_ := ⟨_, rfl⟩
                replace H : (if 0 ≤ (ji22) then (if (ji22) ≤ (x3_1.length : Int) then (parapetref9_path.j3 kj15 a0 (x3_1.take ((ji22) : Int).toNat) (wrap64 (x5_1 + 1)) x5_1 (a0.extract (x4_1 : Int).toNat (x5_1 : Int).toNat) (x5_1 == (a0.size : Int)) t191) else (none)) else (none)) = some r := by first | (rw [hji22] at H; exact H) | (simp only [hji22] at H ⊢; exact H)
                have hji22w : (IntKind.i64.wrap ((x3_1.length : Int) - 1)) = ji22 := (i64_w _).trans hji22
                by_cases c23 : 0 ≤ (ji22)
                ·rw [if_pos c23] at H
                 have c23b0 := eq_true c23
                 have c23b1 := decide_eq_true c23
                 clear c23
                 by_cases c24 : (ji22) ≤ (x3_1.length : Int)
                 ·rw [if_pos c24] at H
                  have c24b0 := eq_true c24
                  have c24b1 := decide_eq_true c24
                  clear c24
                  obtain ⟨y192, hy192⟩ : ∃ y_ : List ByteArray, y_ = (x3_1.take ((ji22) : Int).toNat) := ⟨_, rfl⟩
                  replace H : (parapetref9_path.j3 kj15 a0 y192 (wrap64 (x5_1 + 1)) x5_1 (a0.extract (x4_1 : Int).toNat (x5_1 : Int).toNat) (x5_1 == (a0.size : Int)) t191) = some r := by first | (rw [hy192]; with_reducible exact H) | (have H2_ := (Option.bind_some _ _).symm.trans H; rw [hy192]; with_reducible exact H2_) | (have H2_ := (Option.bind_some _ _).symm.trans H; with_reducible exact H2_) | with_reducible exact H | (rw [hy192]; exact H) | exact H
                  have Ny192 := Aside0.mk hy192
                  clear hy192
                  have H' := Aside0.mk H
                  clear H
                  obtain ⟨Ao25, co25, eo25⟩ := Kd.R_slice HO_3.out
                  subst eo25
                  have q26 : ((ji22) : Int) ≤ ((x3_1.length : Int) : Int) := odA
                  obtain ⟨i026, hi026, _, hsz26, _⟩ := info_parts info9
                  have hcut26 := cut_to (P := Tryd.prog) 39 9 .i64 Tryd.underlying39 hi026 Ao25 x3_1.length co25 (ji22) odA q26 (Kd.R_reads' HO_3.out).2.1
                  have hr26 := Kd.R_take (m := ((ji22) : Int).toNat) HO_3.out (by first | omega | (have hl_ := (Kd.R_reads' HO_3.out).1; omega))
                  have hy26 : y192.length = ((ji22) : Int).toNat := (by rw [Ny192.out, List.length_take]; first | omega | (have hl_ := (Kd.R_reads' HO_3.out).1; omega))
                  rw [← Ny192.out] at hr26
                  rw [← hy26] at hr26 hcut26
                  clear hy26 hi026 hsz26 HO_3
                  have HO194 := Aside0.mk hr26
                  clear hr26
                  replace q26 := eq_true q26
                  go_wp2
                  go_meet
                  case rel => exact ⟨_, (y192), H', ⟨by have := HK1.out; have := HJ4.out; have := HJ15.out; first | omega | exact Nat.le_refl _⟩, ⟨by (with_reducible repeat (first | apply Kd.R_alloc | apply Kd.R_drewN | apply Kd.R_drew)); exact HO194.out⟩, ⟨BWK⟩⟩
                 ·rw [if_neg c24] at H
                  exact absurd H (by simp)
                ·rw [if_neg c23] at H
                 exact absurd H (by simp)
               ·replace c21 := Bool.eq_false_iff.mpr c21
                subst c21
                have H1 := H; rw [if_neg (show ¬ (false = true) by decide)] at H1
                clear H
                have H := H1
                clear H1
                have H' := Aside0.mk H
                clear H
                go_wp2
                go_meet
                case rel => exact ⟨_, (x3_1), H', ⟨by have := HK1.out; have := HJ4.out; have := HJ15.out; first | omega | exact Nat.le_refl _⟩, ⟨by (with_reducible repeat (first | apply Kd.R_alloc | apply Kd.R_drewN | apply Kd.R_drew)); exact HO_3.out⟩, ⟨BWK⟩⟩
              case rest =>
               clear HC20
               try clear c1
               try clear p1
               try clear q1
               try clear hx1
               try clear c2
               try clear p2
               try clear q2
               try clear c3
               try clear c3b0
               try clear c3b1
               try clear c4
               try clear c4b0
               try clear c5
               try clear c6
               try clear c6b0
               try clear p6
               try clear c7
               try clear c7b0
               try clear p8
               try clear q8
               try clear hx8
               try clear c9
               try clear c9b0
               try clear c9b1
               try clear p10
               try clear q10
               try clear hx10
               try clear c11
               try clear c12
               try clear c12b0
               try clear c12b1
               try clear c13
               try clear c13b0
               try clear c13b1
               try clear c14
               try clear c14b0
               try clear c14b1
               try clear c18
               try clear c18b0
               try clear c18b1
               try clear c21
               try clear c23
               try clear c23b0
               try clear c23b1
               try clear c24
               try clear c24b0
               try clear c24b1
               try clear q26
               try clear p1
               try clear p10
               try clear p2
               try clear p6
               try clear p8
               try clear q1
               try clear q10
               try clear q26
               try clear q8
               obtain ⟨kq, x3_19, HA, HJ19, HO_3, HB⟩ := hcut
               cases kq with
               | zero => exact absurd HA.out (by simp [parapetref9_path.j3])
               | succ kj19 =>
                have H := HA.out
                clear HA
                simp only [parapetref9_path.j3] at H
                by_cases c27 : t191 = 0
                ·rw [if_pos c27] at H
                 have c27b0 : (t191 == 0) = true := beq_iff_eq.mpr c27
                 have c27b1 : (t191 != 0) = false := bne_eq_false_iff_eq.mpr c27
                 clear c27
                 replace H := Option.bind_eq_some_iff.mp H
                 obtain ⟨t195, A280, H⟩ := H
                 (try dsimp only at H)
                 have A28 := Aside0.mk A280
                 clear A280
                 by_cases c29 : x3_19.length < 8796093022208
                 ·rw [if_pos c29] at H
                  have LMc29 := Aside0.mk c29
                  clear c29
                  obtain ⟨y196, hy196⟩ : ∃ y_ : List ByteArray, y_ = (x3_19 ++ [t195]) := ⟨_, rfl⟩
                  replace H : (parapetref9_path.l0 kj19 a0 y196 (wrap64 (x5_1 + 1)) (wrap64 (x5_1 + 1))) = some r := by first | (rw [hy196]; with_reducible exact H) | (have H2_ := (Option.bind_some _ _).symm.trans H; rw [hy196]; with_reducible exact H2_) | (have H2_ := (Option.bind_some _ _).symm.trans H; with_reducible exact H2_) | with_reducible exact H | (rw [hy196]; exact H) | exact H
                  have Ny196 := Aside0.mk hy196
                  clear hy196
                  have H' := Aside0.mk H
                  clear H
                  go_wp2_with (first | ((with_reducible refine gate_callee (f := 35) rfl ?_); refine goesL_ (some 63) rfl rfl Tryd.func35 (by kernel_rfl) rfl #[.string (a0.extract (x4_1 : Int).toNat (x5_1 : Int).toNat), .int .i64 3] rfl GAK ?_; (with_reducible refine (parapetref9_Encode.calls kj19 (a0.extract (x4_1 : Int).toNat (x5_1 : Int).toNat) 3 t195 _ A28.out).mono ?_); rintro e w30 ⟨rfl, hb⟩; refine ⟨_, rfl, ?_⟩; have n0_ := Aside0.mk (Kd.R_below (by (with_reducible repeat (first | apply Kd.R_alloc | apply Kd.R_drewN | apply Kd.R_drew)); exact HO_3.out) hb); have n1_ := Aside0.mk (below_step BWK hb); clear HO_3; clear HB; have HO_3 := n0_; have HB := n1_; clear n0_ n1_; (try clear hb); (try clear hb2); (try clear hk); (try clear hi)) | ((with_reducible refine gate_builtin (b := .append) (xs := #[.tmp 61, .tmp 64]) rfl ?_); (try (refine gate_guard (by rfl) ?_; dsimp only)); at_builtin; refine Kd.R_append Kd.string (w0 := w) w.heap.size rfl (.tmp 61) (.tmp 64) 39 9 (.string ⟨#[]⟩) 16 rfl Tryd.underlying39 info9 rfl (by decide) (by omega) u3 x3_19 t195 [.string t195] (fun _ => True) (fun _ => False) rfl rfl ?aP (fun _ hk => hk.elim) ?aF ?aO ?aB ?aS ?aL ?_; (case aP => exact rfl); (case aB => exact BWK); (case aF => exact (fun _ _ => trivial)); (case aO => exact (by (with_reducible repeat (first | apply Kd.R_alloc | apply Kd.R_drewN | apply Kd.R_drew)); exact HO_3.out)); (case aS => exact (below_size BWK)); (case aL => have := LMc29.out; omega); intro v197 w31 ho hb hg hat; rw [← Ny196.out] at ho; have n0_ := Aside0.mk (hb); have n1_ := Aside0.mk (ho); clear HB; clear HO_3; have HB := n0_; have HO198 := n1_; clear n0_ n1_; clear ho hb hg hat))
                  go_roundg kj19
                  case measure => have := HK1.out; have := HJ4.out; have := HJ15.out; have := HJ19.out; omega
                  case rel => exact ⟨(y196), ((wrap64 (x5_1 + 1))), (wrap64 (x5_1 + 1)), RFK, RFK, H', ⟨by have := HK1.out; have := HJ4.out; have := HJ15.out; have := HJ19.out; omega⟩, ⟨by (with_reducible repeat (first | apply Kd.R_alloc | apply Kd.R_drewN | apply Kd.R_drew)); exact HO198.out⟩, ⟨BWK⟩⟩
                 ·rw [if_neg c29] at H
                  exact absurd H (by simp)
                ·rw [if_neg c27] at H
                 have c27b0 : (t191 == 0) = false := beq_eq_false_iff_ne.mpr c27
                 have c27b1 : (t191 != 0) = true := bne_iff_ne.mpr c27
                 by_cases c32 : (x5_1 == (a0.size : Int)) = true
                 ·rw [if_pos c32] at H
                  have c32b0 : (x5_1 == (a0.size : Int)) = true := c32
                  (try (have c32b1 : decide (x5_1 = (a0.size : Int)) = true := by simpa using c32))
                  (try (have c32b2 : (x5_1 == (a0.size : Int)) = true := by simpa using c32))
                  clear c32
                  by_cases c33 : x3_19.length < 8796093022208
                  ·rw [if_pos c33] at H
                   have LMc33 := Aside0.mk c33
                   clear c33
                   obtain ⟨y199, hy199⟩ : ∃ y_ : List ByteArray, y_ = (x3_19 ++ [(⟨#[]⟩ : ByteArray)]) := ⟨_, rfl⟩
                   replace H : (parapetref9_path.l0 kj19 a0 y199 (wrap64 (x5_1 + 1)) (wrap64 (x5_1 + 1))) = some r := by first | (rw [hy199]; with_reducible exact H) | (have H2_ := (Option.bind_some _ _).symm.trans H; rw [hy199]; with_reducible exact H2_) | (have H2_ := (Option.bind_some _ _).symm.trans H; with_reducible exact H2_) | with_reducible exact H | (rw [hy199]; exact H) | exact H
                   have Ny199 := Aside0.mk hy199
                   clear hy199
                   have H' := Aside0.mk H
                   clear H
                   go_wp2_with (first | ((with_reducible refine gate_builtin (b := .append) (xs := #[.tmp 67, .tmp 68]) rfl ?_); (try (refine gate_guard (by rfl) ?_; dsimp only)); at_builtin; refine Kd.R_append Kd.string (w0 := w) w.heap.size rfl (.tmp 67) (.tmp 68) 39 9 (.string ⟨#[]⟩) 16 rfl Tryd.underlying39 info9 rfl (by decide) (by omega) u3 x3_19 (⟨#[]⟩ : ByteArray) [.string (⟨#[]⟩ : ByteArray)] (fun _ => True) (fun _ => False) rfl rfl ?aP (fun _ hk => hk.elim) ?aF ?aO ?aB ?aS ?aL ?_; (case aP => exact rfl); (case aB => exact BWK); (case aF => exact (fun _ _ => trivial)); (case aO => exact (by (with_reducible repeat (first | apply Kd.R_alloc | apply Kd.R_drewN | apply Kd.R_drew)); exact HO_3.out)); (case aS => exact (below_size BWK)); (case aL => have := LMc33.out; omega); intro v200 w34 ho hb hg hat; rw [← Ny199.out] at ho; have n0_ := Aside0.mk (hb); have n1_ := Aside0.mk (ho); clear HB; clear HO_3; have HB := n0_; have HO201 := n1_; clear n0_ n1_; clear ho hb hg hat))
                   go_roundg kj19
                   case measure => have := HK1.out; have := HJ4.out; have := HJ15.out; have := HJ19.out; omega
                   case rel => exact ⟨(y199), ((wrap64 (x5_1 + 1))), (wrap64 (x5_1 + 1)), RFK, RFK, H', ⟨by have := HK1.out; have := HJ4.out; have := HJ15.out; have := HJ19.out; omega⟩, ⟨by (with_reducible repeat (first | apply Kd.R_alloc | apply Kd.R_drewN | apply Kd.R_drew)); exact HO201.out⟩, ⟨BWK⟩⟩
                  ·rw [if_neg c33] at H
                   exact absurd H (by simp)
                 ·rw [if_neg c32] at H
                  have c32b0 : (x5_1 == (a0.size : Int)) = false := by simpa using c32
                  (try (have c32b1 : decide (x5_1 = (a0.size : Int)) = false := by simpa using c32))
                  (try (have c32b2 : (x5_1 == (a0.size : Int)) = false := by simpa using c32))
                  (try (have c32b3 : ¬ (x5_1 = (a0.size : Int)) := by simpa using c32))
                  clear c32
                  have H' := Aside0.mk H
                  clear H
                  go_wp2
                  go_roundg kj19
                  case measure => have := HK1.out; have := HJ4.out; have := HJ15.out; have := HJ19.out; omega
                  case rel => exact ⟨(x3_19), ((wrap64 (x5_1 + 1))), (wrap64 (x5_1 + 1)), RFK, RFK, H', ⟨by have := HK1.out; have := HJ4.out; have := HJ15.out; have := HJ19.out; omega⟩, ⟨by (with_reducible repeat (first | apply Kd.R_alloc | apply Kd.R_drewN | apply Kd.R_drew)); exact HO_3.out⟩, ⟨BWK⟩⟩
           ·rw [if_neg c14] at H
            exact absurd H (by simp)
          ·rw [if_neg c13] at H
           exact absurd H (by simp)
         ·rw [if_neg c12] at H
          exact absurd H (by simp)
     ·rw [if_neg c4] at H
      have c4b0 := decide_eq_false c4
      clear c4
      have H' := Aside0.mk H
      clear H
      go_wp2
      go_meet
      case rel => exact ⟨_, (x3_1), H', ⟨by have := HK1.out; first | omega | exact Nat.le_refl _⟩, ⟨by (with_reducible repeat (first | apply Kd.R_alloc | apply Kd.R_drewN | apply Kd.R_drew)); exact HO_3.out⟩, ⟨BWK⟩⟩
 case rest =>
  clear HC2
  try clear c1
  try clear p1
  try clear q1
  try clear hx1
  try clear c2
  try clear p2
  try clear q2
  try clear c3
  try clear c3b0
  try clear c3b1
  try clear c4
  try clear c4b0
  try clear c5
  try clear c6
  try clear c6b0
  try clear p6
  try clear c7
  try clear c7b0
  try clear p8
  try clear q8
  try clear hx8
  try clear c9
  try clear c9b0
  try clear c9b1
  try clear p10
  try clear q10
  try clear hx10
  try clear c11
  try clear c12
  try clear c12b0
  try clear c12b1
  try clear c13
  try clear c13b0
  try clear c13b1
  try clear c14
  try clear c14b0
  try clear c14b1
  try clear c18
  try clear c18b0
  try clear c18b1
  try clear c21
  try clear c23
  try clear c23b0
  try clear c23b1
  try clear c24
  try clear c24b0
  try clear c24b1
  try clear q26
  try clear c27
  try clear c27b0
  try clear c27b1
  try clear c29
  try clear c32
  try clear c32b0
  try clear c32b1
  try clear c32b2
  try clear c33
  try clear p1
  try clear p10
  try clear p2
  try clear p6
  try clear p8
  try clear q1
  try clear q10
  try clear q2
  try clear q26
  try clear q8
  obtain ⟨kq, x3_1, HA, HJ1, HO_3, HB⟩ := hcut
  cases kq with
  | zero => exact absurd HA.out (by simp [parapetref9_path.j4])
  | succ kj1 =>
   have H := HA.out
   clear HA
   simp only [parapetref9_path.j4] at H
   by_cases c35 : (x3_1.length : Int) = 0
   ·rw [if_pos c35] at H
    have c35b0 : ((x3_1.length : Int) == 0) = true := beq_iff_eq.mpr c35
    have c35b1 : ((x3_1.length : Int) != 0) = false := bne_eq_false_iff_eq.mpr c35
    clear c35
    obtain rfl := Option.some.inj H
    obtain ⟨Ao36, co36, eo36⟩ := Kd.R_slice HO_3.out
    subst eo36
    go_wp2
    go_ret
    exact ⟨ERK, BWK⟩
   ·rw [if_neg c35] at H
    have c35b0 : ((x3_1.length : Int) == 0) = false := beq_eq_false_iff_ne.mpr c35
    have c35b1 : ((x3_1.length : Int) != 0) = true := bne_iff_ne.mpr c35
    have c35b2 : ¬ (x3_1 = []) := fun h_ => c35 (by rw [h_]; rfl)
    have H' := Aside0.mk H
    clear H
    obtain ⟨Ao37, co37, eo37⟩ := Kd.R_slice HO_3.out
    subst eo37
    go_wp2
    go_loopg [9, 10] kj1 (fun kq v9 v10 w' => ∃ (x9_2 : ByteArray) (x10_2 : Int), v9 = .string x9_2 ∧ v10 = .int .i64 x10_2 ∧ Aside0 (parapetref9_path.l1 kq x3_1 x9_2 x10_2 = some r) ∧ Aside0 (kq ≤ kj1) ∧ Aside0 (Kd.R Kd.string 9 w' w.heap.size (fun _ => True) (.slice Ao37 x3_1.length co37) x3_1) ∧ Aside0 (Below w.heap.size w w'))
    case atStart => exact ⟨((⟨#[]⟩ : ByteArray)), (0), RFK, RFK, H', ⟨Nat.le_refl _⟩, ⟨by (with_reducible repeat (first | apply Kd.R_alloc | apply Kd.R_drewN | apply Kd.R_drew)); exact HO_3.out⟩, ⟨BWK⟩⟩
    case round =>
     clear H'
     try clear c1
     try clear p1
     try clear q1
     try clear hx1
     try clear c2
     try clear p2
     try clear q2
     try clear c3
     try clear c3b0
     try clear c3b1
     try clear c4
     try clear c4b0
     try clear c5
     try clear c6
     try clear c6b0
     try clear p6
     try clear c7
     try clear c7b0
     try clear p8
     try clear q8
     try clear hx8
     try clear c9
     try clear c9b0
     try clear c9b1
     try clear p10
     try clear q10
     try clear hx10
     try clear c11
     try clear c12
     try clear c12b0
     try clear c12b1
     try clear c13
     try clear c13b0
     try clear c13b1
     try clear c14
     try clear c14b0
     try clear c14b1
     try clear c18
     try clear c18b0
     try clear c18b1
     try clear c21
     try clear c23
     try clear c23b0
     try clear c23b1
     try clear c24
     try clear c24b0
     try clear c24b1
     try clear q26
     try clear c27
     try clear c27b0
     try clear c27b1
     try clear c29
     try clear c32
     try clear c32b0
     try clear c32b1
     try clear c32b2
     try clear c33
     try clear c35
     try clear c35b0
     try clear c35b1
     try clear c35b2
     try clear c36
     try clear p1
     try clear p10
     try clear p2
     try clear p6
     try clear p8
     try clear q1
     try clear q10
     try clear q2
     try clear q26
     try clear q8
     obtain ⟨x9_2, x10_2, rfl, rfl, HA, HK2, HO_3, HB⟩ := hrel
     cases gk with
     | zero => exact absurd HA.out (by simp [parapetref9_path.l1])
     | succ k2 =>
      have H := HA.out
      clear HA
      simp only [parapetref9_path.l1] at H
      by_cases c38 : x10_2 < (x3_1.length : Int)
      ·rw [if_pos c38] at H
       have c38b0 := decide_eq_true c38
       clear c38
       by_cases c39 : x9_2.size + 1 ≤ 9223372036854775807
       ·rw [if_pos c39] at H
        have c39b0 := eq_true c39
        have c39b1 := decide_eq_true c39
        try have c39b2 : (9223372036854775807 < x9_2.size + 1) = False := eq_false (Nat.not_lt.2 c39)
        by_cases c40 : 0 ≤ x10_2
        ·rw [if_pos c40] at H
         have c40b0 := decide_eq_true c40
         clear c40
         by_cases c41 : (x9_2 ++ (⟨#[47]⟩ : ByteArray)).size + (rdOf ByteArray.empty x3_1 x10_2).size ≤ 9223372036854775807
         ·rw [if_pos c41] at H
          have c41b0 := eq_true c41
          have c41b1 := decide_eq_true c41
          try have c41b2 : (9223372036854775807 < (x9_2 ++ (⟨#[47]⟩ : ByteArray)).size + (rdOf ByteArray.empty x3_1 x10_2).size) = False := eq_false (Nat.not_lt.2 c41)
          (try (have c41b3 : (9223372036854775807 < x9_2.size + 1 + (rdOf ByteArray.empty x3_1 x10_2).size) = False := eq_false (Nat.not_lt.2 (by have h_ := c41; simp only [ByteArray.size_append] at h_; exact h_))))
          have H' := Aside0.mk H
          clear H
          have p202 : 0 ≤ (x10_2 : Int) := odA
          have q202 : x10_2 < (x3_1.length : Int) := odA
          obtain ⟨ad202, e202, hx202_0⟩ := Kd.at_string (Kd.R_reads' HO_3.out).2.2 x10_2 p202 q202
          cases e202
          replace p202 := eq_true p202
          replace q202 := eq_true q202
          go_wp2
          go_roundg k2
          case measure => have := HJ1.out; have := HK2.out; omega
          case rel => exact ⟨((x9_2 ++ (⟨#[47]⟩ : ByteArray)) ++ (rdOf ByteArray.empty x3_1 x10_2)), (wrap64 (x10_2 + 1)), RFK, RFK, H', ⟨by have := HJ1.out; have := HK2.out; omega⟩, ⟨by (with_reducible repeat (first | apply Kd.R_alloc | apply Kd.R_drewN | apply Kd.R_drew)); exact HO_3.out⟩, ⟨BWK⟩⟩
         ·rw [if_neg c41] at H
          exact absurd H (by simp)
        ·rw [if_neg c40] at H
         exact absurd H (by simp)
       ·rw [if_neg c39] at H
        exact absurd H (by simp)
      ·rw [if_neg c38] at H
       have c38b0 := decide_eq_false c38
       clear c38
       obtain rfl := Option.some.inj H
       go_wp2
       go_ret
       exact ⟨ERK, BWK⟩

end Go.Proofs.YtknkokkgefcdbaaDoor.PA
