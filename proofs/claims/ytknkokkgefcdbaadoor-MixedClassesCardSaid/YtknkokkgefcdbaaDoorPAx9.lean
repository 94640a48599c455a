-- half
-- written by pp.py, a program of this session's, which runs the kit's print with turns of its own; Lean checks it
import Derived.Test.YtknkokkgefcdbaaDoorBP
import Derived.Test.YtknkokkgefcdbaaDoorPAx0
import Derived.Test.YtknkokkgefcdbaaDoorPAx8
namespace Go.Proofs.YtknkokkgefcdbaaDoor.PA
open Go.RowKit Go.Proofs.YtknkokkgefcdbaaDoorW.PrintWords Go.Proofs.YtknkokkgefcdbaaDoorW.PrintLast Go.Proofs.YtknkokkgefcdbaaDoorW.PrintMore
attribute [local go_sem] max2_int min2_int max_two min_two max_three min_three max_four min_four   -- for this text's walks alone
set_option maxHeartbeats 8000000
set_option maxRecDepth 100000
set_option linter.unusedVariables false
set_option linter.unusedSimpArgs false

/-! ### parapetref9_part: function 45 -/
mutual
def parapetref9_part.j1 : Nat → ByteArray → Int → Option (Int × Bool)
 | 0, _, _ => none
 | k + 1, x0, x4 => (parapetref9_digits.f k x0 x4).bind fun t147 => (if t147 = true then (parapetref9_part.l0 k x0 x4 0 0) else (some (0, false)))
def parapetref9_part.l0 : Nat → ByteArray → Int → Int → Int → Option (Int × Bool)
 | 0, _, _, _, _ => none
 | k + 1, x0, x4, x5, x6 => if x6 < (x0.size : Int) then (if 0 ≤ x6 then ((parapetref9_hex.f k (bt x0 x6)).bind fun t148 => (if (IntKind.u64.wrap ((IntKind.u64.wrap (x5 * (IntKind.u64.wrap (x4)))) + (IntKind.u64.wrap (t148)))) ≥ 4294967296 then (some (0, false)) else (parapetref9_part.l0 k x0 x4 (IntKind.u64.wrap ((IntKind.u64.wrap (x5 * (IntKind.u64.wrap (x4)))) + (IntKind.u64.wrap (t148)))) (wrap64 (x6 + 1))))) else (none)) else (some (x5, true))
def parapetref9_part.j0 : Nat → ByteArray → Int → Bool → Option (Int × Bool)
 | 0, _, _, _ => none
 | k + 1, x0, x4, x7 => if x7 = true then (if 2 ≤ (x0.size : Int) then (if (x0.extract 2 x0.size).toList = ([] : List UInt8) then (some (0, true)) else (parapetref9_part.j1 k (x0.extract 2 x0.size) 16)) else (none)) else (if (x0.size : Int) ≥ 2 then (if 0 < (x0.size : Int) then (if (bt x0 0) = 48 then (if 1 ≤ (x0.size : Int) then (parapetref9_part.j1 k (x0.extract 1 x0.size) 8) else (none)) else (parapetref9_part.j1 k x0 x4)) else (none)) else (parapetref9_part.j1 k x0 x4))
end
def parapetref9_part.f (k : Nat) (a0 : ByteArray) : Option (Int × Bool) := if (a0.size : Int) ≥ 2 then (if 0 < (a0.size : Int) then (if (bt a0 0) = 48 then (if 1 < (a0.size : Int) then (if (bt a0 1) = 120 then (parapetref9_part.j0 k a0 10 true) else (parapetref9_part.j0 k a0 10 ((bt a0 1) == 88))) else (none)) else (parapetref9_part.j0 k a0 10 false)) else (none)) else (parapetref9_part.j0 k a0 10 false)
theorem parapetref9_part.mono_l : ∀ k, (∀ y0 y1, LeO (parapetref9_part.j1 k y0 y1) (parapetref9_part.j1 (k + 1) y0 y1)) ∧ (∀ y0 y1 y2 y3, LeO (parapetref9_part.l0 k y0 y1 y2 y3) (parapetref9_part.l0 (k + 1) y0 y1 y2 y3)) ∧ (∀ y0 y1 y2, LeO (parapetref9_part.j0 k y0 y1 y2) (parapetref9_part.j0 (k + 1) y0 y1 y2))
 | 0 => ⟨fun _ _ r h => by simp [parapetref9_part.j1] at h, fun _ _ _ _ r h => by simp [parapetref9_part.l0] at h, fun _ _ _ r h => by simp [parapetref9_part.j0] at h⟩
 | k + 1 => by
  obtain ⟨ih0, ih1, ih2⟩ := parapetref9_part.mono_l k
  refine ⟨?_, ?_, ?_⟩
  ·intro y0 y1
   unfold parapetref9_part.j1
   repeat' first
   | (with_reducible exact ih0 _ _)
   | (with_reducible exact ih1 _ _ _ _)
   | (with_reducible exact ih2 _ _ _)
   | (with_reducible exact parapetref9_digits.mono _ _ _)
   | (with_reducible exact parapetref9_hex.mono _ _)
   | (with_reducible exact LeO.refl _)
   | (with_reducible exact LeO.none _)
   | (with_reducible refine LeO.ite ?_ ?_)
   | (with_reducible refine LeO.bind ?_ (fun _ => ?_))
   | exact ih0 _ _
   | exact ih1 _ _ _ _
   | exact ih2 _ _ _
   | exact parapetref9_digits.mono _ _ _
   | exact parapetref9_hex.mono _ _
   | exact LeO.none _
   | refine LeO.ite ?_ ?_
   | refine LeO.bind ?_ (fun _ => ?_)
  ·intro y0 y1 y2 y3
   unfold parapetref9_part.l0
   repeat' first
   | (with_reducible exact ih0 _ _)
   | (with_reducible exact ih1 _ _ _ _)
   | (with_reducible exact ih2 _ _ _)
   | (with_reducible exact parapetref9_digits.mono _ _ _)
   | (with_reducible exact parapetref9_hex.mono _ _)
   | (with_reducible exact LeO.refl _)
   | (with_reducible exact LeO.none _)
   | (with_reducible refine LeO.ite ?_ ?_)
   | (with_reducible refine LeO.bind ?_ (fun _ => ?_))
   | exact ih0 _ _
   | exact ih1 _ _ _ _
   | exact ih2 _ _ _
   | exact parapetref9_digits.mono _ _ _
   | exact parapetref9_hex.mono _ _
   | exact LeO.none _
   | refine LeO.ite ?_ ?_
   | refine LeO.bind ?_ (fun _ => ?_)
  ·intro y0 y1 y2
   unfold parapetref9_part.j0
   repeat' first
   | (with_reducible exact ih0 _ _)
   | (with_reducible exact ih1 _ _ _ _)
   | (with_reducible exact ih2 _ _ _)
   | (with_reducible exact parapetref9_digits.mono _ _ _)
   | (with_reducible exact parapetref9_hex.mono _ _)
   | (with_reducible exact LeO.refl _)
   | (with_reducible exact LeO.none _)
   | (with_reducible refine LeO.ite ?_ ?_)
   | (with_reducible refine LeO.bind ?_ (fun _ => ?_))
   | exact ih0 _ _
   | exact ih1 _ _ _ _
   | exact ih2 _ _ _
   | exact parapetref9_digits.mono _ _ _
   | exact parapetref9_hex.mono _ _
   | exact LeO.none _
   | refine LeO.ite ?_ ?_
   | refine LeO.bind ?_ (fun _ => ?_)
theorem parapetref9_part.mono : ∀ a0 k, LeO (parapetref9_part.f k a0) (parapetref9_part.f (k + 1) a0) := by
 intro a0 k
 obtain ⟨ih0, ih1, ih2⟩ := parapetref9_part.mono_l k
 unfold parapetref9_part.f
 repeat' first
   | (with_reducible exact ih0 _ _)
   | (with_reducible exact ih1 _ _ _ _)
   | (with_reducible exact ih2 _ _ _)
   | (with_reducible exact parapetref9_digits.mono _ _ _)
   | (with_reducible exact parapetref9_hex.mono _ _)
   | (with_reducible exact LeO.refl _)
   | (with_reducible exact LeO.none _)
   | (with_reducible refine LeO.ite ?_ ?_)
   | (with_reducible refine LeO.bind ?_ (fun _ => ?_))
   | exact ih0 _ _
   | exact ih1 _ _ _ _
   | exact ih2 _ _ _
   | exact parapetref9_digits.mono _ _ _
   | exact parapetref9_hex.mono _ _
   | exact LeO.none _
   | refine LeO.ite ?_ ?_
   | refine LeO.bind ?_ (fun _ => ?_)
theorem parapetref9_part.calls (k : Nat) (a0 : ByteArray) (r1 : Int) (r2 : Bool) (w : World) (h : parapetref9_part.f k a0 = some (r1, r2)) :
  Calls Tryd.prog 45 #[.string a0] w fun e w' => e = .returned (.tuple #[.int .u64 r1, .bool r2]) ∧ Drawn0 w w' := by
 have H : (if (a0.size : Int) ≥ 2 then (if 0 < (a0.size : Int) then (if (bt a0 0) = 48 then (if 1 < (a0.size : Int) then (if (bt a0 1) = 120 then (parapetref9_part.j0 k a0 10 true) else (parapetref9_part.j0 k a0 10 ((bt a0 1) == 88))) else (none)) else (parapetref9_part.j0 k a0 10 false)) else (none)) else (parapetref9_part.j0 k a0 10 false)) = some (r1, r2) := h
 clear h
 have HC2 := Aside0.mk H
 clear H
 go_enter Tryd.func45, Tryd.ntmps45
 go_upto_block 0 with (fail)
 go_cut [0, 4] (fun v0 v4 wc => ∃ (kq : Nat) (x0_1 : ByteArray) (x4_1 : Int), v0 = .string x0_1 ∧ v4 = .int .i64 x4_1 ∧ Aside0 (parapetref9_part.j1 kq x0_1 x4_1 = some (r1, r2)) ∧ Aside0 (kq ≤ k) ∧ Drawn0 w wc)
 case first =>
  have H := HC2.out
  clear HC2
  have HC3 := Aside0.mk H
  clear H
  go_upto_region 2 with (fail)
  go_cut [7] (fun v7 wc => ∃ (kq : Nat) (x7_2 : Bool), v7 = .bool x7_2 ∧ Aside0 (parapetref9_part.j0 kq a0 10 x7_2 = some (r1, r2)) ∧ Aside0 (kq ≤ k) ∧ Drawn0 w wc)
  case first =>
   have H := HC3.out
   clear HC3
   by_cases c4 : (a0.size : Int) ≥ 2
   ·rw [if_pos c4] at H
    have c4b0 := decide_eq_true c4
    have c4b1 : decide (2 ≤ a0.size) = true := decide_eq_true (by omega)
    clear c4
    (first | rw [c4b0] | (simp only [i64_w, i32_w]; rw [c4b0]) | skip)
    by_cases c5 : 0 < (a0.size : Int)
    ·rw [if_pos c5] at H
     have c5b0 := decide_eq_true c5
     have c5b1 : decide (0 < a0.size) = true := decide_eq_true (by omega)
     clear c5
     by_cases c7 : (bt a0 0) = 48
     ·rw [if_pos c7] at H
      have c7b0 : ((bt a0 0) == 48) = true := beq_iff_eq.mpr c7
      have c7b1 : ((bt a0 0) != 48) = false := bne_eq_false_iff_eq.mpr c7
      clear c7
      by_cases c8 : 1 < (a0.size : Int)
      ·rw [if_pos c8] at H
       have c8b0 := decide_eq_true c8
       have c8b1 : decide (1 < a0.size) = true := decide_eq_true (by omega)
       clear c8
       by_cases c10 : (bt a0 1) = 120
       ·rw [if_pos c10] at H
        have c10b0 : ((bt a0 1) == 120) = true := beq_iff_eq.mpr c10
        have c10b1 : ((bt a0 1) != 120) = false := bne_eq_false_iff_eq.mpr c10
        clear c10
        have H' := Aside0.mk H
        clear H
        have p6 : 0 ≤ (0 : Int) := (by omega)
        have q6 : 0 < a0.size := (by have : (0 : Int) < (a0.size : Int) := odA; omega)
        have hx6 : ∀ h : 0 < a0.size, ((a0[0]'h).toNat : Int) = bt a0 0 := bt_at a0 0
        clear p6
        have qi6 : (0 < (a0.size : Int)) = True := eq_true odA
        replace q6 := eq_true q6
        have p9 : 0 ≤ (1 : Int) := (by omega)
        have q9 : 1 < a0.size := (by have : (1 : Int) < (a0.size : Int) := odA; omega)
        have hx9 : ∀ h : 1 < a0.size, ((a0[1]'h).toNat : Int) = bt a0 1 := bt_at a0 1
        clear p9
        have qi9 : (1 < (a0.size : Int)) = True := eq_true odA
        replace q9 := eq_true q9
        go_wp2
        go_meet
        case rel => exact ⟨_, (true), RFK, H', ⟨OMK⟩, DRK⟩
       ·rw [if_neg c10] at H
        have c10b0 : ((bt a0 1) == 120) = false := beq_eq_false_iff_ne.mpr c10
        have c10b1 : ((bt a0 1) != 120) = true := bne_iff_ne.mpr c10
        have H' := Aside0.mk H
        clear H
        have p6 : 0 ≤ (0 : Int) := (by omega)
        have q6 : 0 < a0.size := (by have : (0 : Int) < (a0.size : Int) := odA; omega)
        have hx6 : ∀ h : 0 < a0.size, ((a0[0]'h).toNat : Int) = bt a0 0 := bt_at a0 0
        clear p6
        have qi6 : (0 < (a0.size : Int)) = True := eq_true odA
        replace q6 := eq_true q6
        have p9 : 0 ≤ (1 : Int) := (by omega)
        have q9 : 1 < a0.size := (by have : (1 : Int) < (a0.size : Int) := odA; omega)
        have hx9 : ∀ h : 1 < a0.size, ((a0[1]'h).toNat : Int) = bt a0 1 := bt_at a0 1
        clear p9
        have qi9 : (1 < (a0.size : Int)) = True := eq_true odA
        replace q9 := eq_true q9
        have p11 : 0 ≤ (1 : Int) := (by omega)
        have q11 : 1 < a0.size := (by have : (1 : Int) < (a0.size : Int) := odA; omega)
        have hx11 : ∀ h : 1 < a0.size, ((a0[1]'h).toNat : Int) = bt a0 1 := bt_at a0 1
        clear p11
        have qi11 : (1 < (a0.size : Int)) = True := eq_true odA
        replace q11 := eq_true q11
        go_wp2
        go_meet
        case rel => exact ⟨_, (((bt a0 1) == 88)), RFK, H', ⟨OMK⟩, DRK⟩
      ·rw [if_neg c8] at H
       exact absurd H (by simp)
     ·rw [if_neg c7] at H
      have c7b0 : ((bt a0 0) == 48) = false := beq_eq_false_iff_ne.mpr c7
      have c7b1 : ((bt a0 0) != 48) = true := bne_iff_ne.mpr c7
      have H' := Aside0.mk H
      clear H
      have p6 : 0 ≤ (0 : Int) := (by omega)
      have q6 : 0 < a0.size := (by have : (0 : Int) < (a0.size : Int) := odA; omega)
      have hx6 : ∀ h : 0 < a0.size, ((a0[0]'h).toNat : Int) = bt a0 0 := bt_at a0 0
      clear p6
      have qi6 : (0 < (a0.size : Int)) = True := eq_true odA
      replace q6 := eq_true q6
      go_wp2
      go_meet
      case rel => exact ⟨_, (false), RFK, H', ⟨OMK⟩, DRK⟩
    ·rw [if_neg c5] at H
     exact absurd H (by simp)
   ·rw [if_neg c4] at H
    have c4b0 := decide_eq_false c4
    have c4b1 : decide (2 ≤ a0.size) = false := decide_eq_false (by omega)
    clear c4
    (first | rw [c4b0] | (simp only [i64_w, i32_w]; rw [c4b0]) | skip)
    have H' := Aside0.mk H
    clear H
    go_wp2
    go_meet
    case rel => exact ⟨_, (false), RFK, H', ⟨OMK⟩, DRK⟩
  case rest =>
   clear HC3
   try clear c1
   try clear p1
   try clear q1
   try clear hx1
   try clear qi1
   try clear p2
   try clear c4
   try clear c4b0
   try clear c4b1
   try clear c5
   try clear c5b0
   try clear c5b1
   try clear p6
   try clear q6
   try clear hx6
   try clear qi6
   try clear c7
   try clear c7b0
   try clear c7b1
   try clear c8
   try clear c8b0
   try clear c8b1
   try clear p9
   try clear q9
   try clear hx9
   try clear qi9
   try clear c10
   try clear c10b0
   try clear c10b1
   try clear p11
   try clear q11
   try clear hx11
   try clear qi11
   try clear p11
   try clear p6
   try clear p9
   try clear q11
   try clear q6
   try clear q9
   obtain ⟨kq, x7_2, rfl, HA, HJ2, ⟨mc2, rfl⟩⟩ := hcut
   cases kq with
   | zero => exact absurd HA.out (by simp [parapetref9_part.j0])
   | succ kj2 =>
    have H := HA.out
    clear HA
    simp only [parapetref9_part.j0] at H
    by_cases c12 : x7_2 = true
    ·subst c12
     have H1 : (if 2 ≤ (a0.size : Int) then (if (a0.extract 2 a0.size).toList = ([] : List UInt8) then (some (0, true)) else (parapetref9_part.j1 kj2 (a0.extract 2 a0.size) 16)) else (none)) = some (r1, r2) := by rw [if_pos rfl] at H; exact H
     clear H
     have H := H1
     clear H1
     by_cases c13 : 2 ≤ (a0.size : Int)
     ·rw [if_pos c13] at H
      have c13b0 := eq_true c13
      have c13b1 := decide_eq_true c13
      clear c13
      by_cases c14 : (a0.extract 2 a0.size).toList = ([] : List UInt8)
      ·rw [if_pos c14] at H
       have c14b0 : ((a0.extract 2 a0.size).toList == ([] : List UInt8)) = true := beq_iff_eq.mpr c14
       have c14b1 : ((a0.extract 2 a0.size).toList != ([] : List UInt8)) = false := bne_eq_false_iff_eq.mpr c14
       have c14b9 : (!(a0.extract 2 a0.size).toList.isEmpty) = false := by simp [c14]
       (try rw [c14b9])
       clear c14
       simp only [Option.some.injEq, Prod.mk.injEq] at H
       obtain ⟨rfl, rfl⟩ := H
       go_wp2
       go_ret2
       exact ⟨RFK, DRK⟩
      ·rw [if_neg c14] at H
       have c14b0 : ((a0.extract 2 a0.size).toList == ([] : List UInt8)) = false := beq_eq_false_iff_ne.mpr c14
       have c14b1 : ((a0.extract 2 a0.size).toList != ([] : List UInt8)) = true := bne_iff_ne.mpr c14
       have c14b9 : (!(a0.extract 2 a0.size).toList.isEmpty) = true := by simp [c14]
       (try rw [c14b9])
       have H' := Aside0.mk H
       clear H
       go_wp2
       go_meet
       case rel => exact ⟨_, (a0.extract 2 a0.size), (16), RFK, RFK, H', ⟨by have := HJ2.out; first | omega | exact Nat.le_refl _⟩, DRK⟩
     ·rw [if_neg c13] at H
      exact absurd H (by simp)
    ·replace c12 := Bool.eq_false_iff.mpr c12
     subst c12
     have H1 : (if (a0.size : Int) ≥ 2 then (if 0 < (a0.size : Int) then (if (bt a0 0) = 48 then (if 1 ≤ (a0.size : Int) then (parapetref9_part.j1 kj2 (a0.extract 1 a0.size) 8) else (none)) else (parapetref9_part.j1 kj2 a0 10)) else (none)) else (parapetref9_part.j1 kj2 a0 10)) = some (r1, r2) := by rw [if_neg (show ¬ (false = true) by decide)] at H; exact H
     clear H
     have H := H1
     clear H1
     by_cases c15 : (a0.size : Int) ≥ 2
     ·rw [if_pos c15] at H
      have c15b0 := decide_eq_true c15
      have c15b1 : decide (2 ≤ a0.size) = true := decide_eq_true (by omega)
      clear c15
      by_cases c16 : 0 < (a0.size : Int)
      ·rw [if_pos c16] at H
       have c16b0 := decide_eq_true c16
       have c16b1 : decide (0 < a0.size) = true := decide_eq_true (by omega)
       clear c16
       by_cases c18 : (bt a0 0) = 48
       ·rw [if_pos c18] at H
        have c18b0 : ((bt a0 0) == 48) = true := beq_iff_eq.mpr c18
        have c18b1 : ((bt a0 0) != 48) = false := bne_eq_false_iff_eq.mpr c18
        clear c18
        by_cases c19 : 1 ≤ (a0.size : Int)
        ·rw [if_pos c19] at H
         have c19b0 := eq_true c19
         have c19b1 := decide_eq_true c19
         clear c19
         have H' := Aside0.mk H
         clear H
         have p17 : 0 ≤ (0 : Int) := (by omega)
         have q17 : 0 < a0.size := (by have : (0 : Int) < (a0.size : Int) := odA; omega)
         have hx17 : ∀ h : 0 < a0.size, ((a0[0]'h).toNat : Int) = bt a0 0 := bt_at a0 0
         clear p17
         have qi17 : (0 < (a0.size : Int)) = True := eq_true odA
         replace q17 := eq_true q17
         go_wp2
         go_meet
         case rel => exact ⟨_, (a0.extract 1 a0.size), (8), RFK, RFK, H', ⟨by have := HJ2.out; first | omega | exact Nat.le_refl _⟩, DRK⟩
        ·rw [if_neg c19] at H
         exact absurd H (by simp)
       ·rw [if_neg c18] at H
        have c18b0 : ((bt a0 0) == 48) = false := beq_eq_false_iff_ne.mpr c18
        have c18b1 : ((bt a0 0) != 48) = true := bne_iff_ne.mpr c18
        have H' := Aside0.mk H
        clear H
        have p17 : 0 ≤ (0 : Int) := (by omega)
        have q17 : 0 < a0.size := (by have : (0 : Int) < (a0.size : Int) := odA; omega)
        have hx17 : ∀ h : 0 < a0.size, ((a0[0]'h).toNat : Int) = bt a0 0 := bt_at a0 0
        clear p17
        have qi17 : (0 < (a0.size : Int)) = True := eq_true odA
        replace q17 := eq_true q17
        go_wp2
        go_meet
        case rel => exact ⟨_, (a0), (10), RFK, RFK, H', ⟨by have := HJ2.out; first | omega | exact Nat.le_refl _⟩, DRK⟩
      ·rw [if_neg c16] at H
       exact absurd H (by simp)
     ·rw [if_neg c15] at H
      have c15b0 := decide_eq_false c15
      have c15b1 : decide (2 ≤ a0.size) = false := decide_eq_false (by omega)
      clear c15
      have H' := Aside0.mk H
      clear H
      go_wp2
      go_meet
      case rel => exact ⟨_, (a0), (10), RFK, RFK, H', ⟨by have := HJ2.out; first | omega | exact Nat.le_refl _⟩, DRK⟩
 case rest =>
  clear HC2
  try clear c1
  try clear p1
  try clear q1
  try clear hx1
  try clear qi1
  try clear c2
  try clear p2
  try clear c4
  try clear c4b0
  try clear c4b1
  try clear c5
  try clear c5b0
  try clear c5b1
  try clear p6
  try clear q6
  try clear hx6
  try clear qi6
  try clear c7
  try clear c7b0
  try clear c7b1
  try clear c8
  try clear c8b0
  try clear c8b1
  try clear p9
  try clear q9
  try clear hx9
  try clear qi9
  try clear c10
  try clear c10b0
  try clear c10b1
  try clear p11
  try clear q11
  try clear hx11
  try clear qi11
  try clear c12
  try clear c13
  try clear c13b0
  try clear c13b1
  try clear c14
  try clear c14b0
  try clear c14b1
  try clear c15
  try clear c15b0
  try clear c15b1
  try clear c16
  try clear c16b0
  try clear c16b1
  try clear p17
  try clear q17
  try clear hx17
  try clear qi17
  try clear c18
  try clear c18b0
  try clear c18b1
  try clear c19
  try clear c19b0
  try clear c19b1
  try clear p1
  try clear p11
  try clear p17
  try clear p2
  try clear p6
  try clear p9
  try clear q1
  try clear q11
  try clear q17
  try clear q6
  try clear q9
  obtain ⟨kq, x0_1, x4_1, rfl, rfl, HA, HJ1, ⟨mc1, rfl⟩⟩ := hcut
  cases kq with
  | zero => exact absurd HA.out (by simp [parapetref9_part.j1])
  | succ kj1 =>
   have H := HA.out
   clear HA
   simp only [parapetref9_part.j1] at H
   replace H := Option.bind_eq_some_iff.mp H
   obtain ⟨t147, A200, H⟩ := H
   replace H : (if t147 = true then (parapetref9_part.l0 kj1 x0_1 x4_1 0 0) else (some (0, false))) = some (r1, r2) := H
   have A20 := Aside0.mk A200
   clear A200
   by_cases c21 : t147 = true
   ·subst c21
    have H1 : (parapetref9_part.l0 kj1 x0_1 x4_1 0 0) = some (r1, r2) := by rw [if_pos rfl] at H; exact H
    clear H
    have H := H1
    clear H1
    have H' := Aside0.mk H
    clear H
    go_wp2_with (first | ((with_reducible refine gate_callee (f := 52) rfl ?_); refine goesL_ (some 43) rfl rfl Tryd.func52 (by kernel_rfl) rfl #[.string x0_1, .int .i64 x4_1] rfl GAK ?_; (with_reducible refine (parapetref9_digits.calls kj1 x0_1 x4_1 true _ A20.out).mono ?_); rintro e w' ⟨rfl, ⟨nd, rfl⟩⟩; refine ⟨_, rfl, ?_⟩))
    go_loopg [5, 6] kj1 (fun kq v5 v6 w' => ∃ (x5_2 : Int) (x6_2 : Int), v5 = .int .u64 x5_2 ∧ v6 = .int .i64 x6_2 ∧ Aside0 (parapetref9_part.l0 kq x0_1 x4_1 x5_2 x6_2 = some (r1, r2)) ∧ Aside0 (kq ≤ kj1) ∧ Drawn0 w w')
    case atStart => exact ⟨(0), (0), RFK, RFK, H', ⟨Nat.le_refl _⟩, DRK⟩
    case round =>
     clear H'
     try clear c1
     try clear p1
     try clear q1
     try clear hx1
     try clear qi1
     try clear c2
     try clear p2
     try clear c4
     try clear c4b0
     try clear c4b1
     try clear c5
     try clear c5b0
     try clear c5b1
     try clear p6
     try clear q6
     try clear hx6
     try clear qi6
     try clear c7
     try clear c7b0
     try clear c7b1
     try clear c8
     try clear c8b0
     try clear c8b1
     try clear p9
     try clear q9
     try clear hx9
     try clear qi9
     try clear c10
     try clear c10b0
     try clear c10b1
     try clear p11
     try clear q11
     try clear hx11
     try clear qi11
     try clear c12
     try clear c13
     try clear c13b0
     try clear c13b1
     try clear c14
     try clear c14b0
     try clear c14b1
     try clear c15
     try clear c15b0
     try clear c15b1
     try clear c16
     try clear c16b0
     try clear c16b1
     try clear p17
     try clear q17
     try clear hx17
     try clear qi17
     try clear c18
     try clear c18b0
     try clear c18b1
     try clear c19
     try clear c19b0
     try clear c19b1
     try clear c21
     try clear p1
     try clear p11
     try clear p17
     try clear p2
     try clear p6
     try clear p9
     try clear q1
     try clear q11
     try clear q17
     try clear q6
     try clear q9
     obtain ⟨x5_2, x6_2, rfl, rfl, HA, HK2, ⟨m2, rfl⟩⟩ := hrel
     cases gk with
     | zero => exact absurd HA.out (by simp [parapetref9_part.l0])
     | succ k2 =>
      have H := HA.out
      clear HA
      simp only [parapetref9_part.l0] at H
      by_cases c22 : x6_2 < (x0_1.size : Int)
      ·rw [if_pos c22] at H
       have c22b0 := decide_eq_true c22
       clear c22
       by_cases c23 : 0 ≤ x6_2
       ·rw [if_pos c23] at H
        have c23b0 := decide_eq_true c23
        clear c23
        replace H := Option.bind_eq_some_iff.mp H
        obtain ⟨t148, A250, H⟩ := H
        replace H : (if (IntKind.u64.wrap ((IntKind.u64.wrap (x5_2 * (IntKind.u64.wrap (x4_1)))) + (IntKind.u64.wrap (t148)))) ≥ 4294967296 then (some (0, false)) else (parapetref9_part.l0 k2 x0_1 x4_1 (IntKind.u64.wrap ((IntKind.u64.wrap (x5_2 * (IntKind.u64.wrap (x4_1)))) + (IntKind.u64.wrap (t148)))) (wrap64 (x6_2 + 1)))) = some (r1, r2) := H
        have A25 := Aside0.mk A250
        clear A250
        by_cases c26 : (IntKind.u64.wrap ((IntKind.u64.wrap (x5_2 * (IntKind.u64.wrap (x4_1)))) + (IntKind.u64.wrap (t148)))) ≥ 4294967296
        ·rw [if_pos c26] at H
         have c26b0 := decide_eq_true c26
         clear c26
         simp only [Option.some.injEq, Prod.mk.injEq] at H
         obtain ⟨rfl, rfl⟩ := H
         have p24 : 0 ≤ (x6_2 : Int) := odA
         have q24 : x6_2 < (x0_1.size : Int) := odA
         have hx24 := bt_at x0_1 x6_2
         replace p24 := eq_true p24
         replace q24 := eq_true q24
         go_wp2_with (first | ((with_reducible refine gate_callee (f := 62) rfl ?_); refine goesL_ (some 58) rfl rfl Tryd.func62 (by kernel_rfl) rfl #[.int .u8 (bt x0_1 x6_2)] rfl GAK ?_; (with_reducible refine (parapetref9_hex.calls k2 (bt x0_1 x6_2) t148 _ A25.out).mono ?_); rintro e w' ⟨rfl, ⟨nd, rfl⟩⟩; refine ⟨_, rfl, ?_⟩))
         go_ret2
         exact ⟨RFK, DRK⟩
        ·rw [if_neg c26] at H
         have c26b0 := decide_eq_false c26
         clear c26
         have H' := Aside0.mk H
         clear H
         have p24 : 0 ≤ (x6_2 : Int) := odA
         have q24 : x6_2 < (x0_1.size : Int) := odA
         have hx24 := bt_at x0_1 x6_2
         replace p24 := eq_true p24
         replace q24 := eq_true q24
         go_wp2_with (first | ((with_reducible refine gate_callee (f := 62) rfl ?_); refine goesL_ (some 58) rfl rfl Tryd.func62 (by kernel_rfl) rfl #[.int .u8 (bt x0_1 x6_2)] rfl GAK ?_; (with_reducible refine (parapetref9_hex.calls k2 (bt x0_1 x6_2) t148 _ A25.out).mono ?_); rintro e w' ⟨rfl, ⟨nd, rfl⟩⟩; refine ⟨_, rfl, ?_⟩))
         go_roundg k2
         case measure => have := HJ1.out; have := HK2.out; omega
         case rel => exact ⟨(IntKind.u64.wrap ((IntKind.u64.wrap (x5_2 * (IntKind.u64.wrap (x4_1)))) + (IntKind.u64.wrap (t148)))), (wrap64 (x6_2 + 1)), RFK, RFK, H', ⟨by have := HJ1.out; have := HK2.out; omega⟩, DRK⟩
       ·rw [if_neg c23] at H
        exact absurd H (by simp)
      ·rw [if_neg c22] at H
       have c22b0 := decide_eq_false c22
       clear c22
       simp only [Option.some.injEq, Prod.mk.injEq] at H
       obtain ⟨rfl, rfl⟩ := H
       go_wp2
       go_ret2
       exact ⟨RFK, DRK⟩
   ·replace c21 := Bool.eq_false_iff.mpr c21
    subst c21
    have H1 : (some (0, false)) = some (r1, r2) := by rw [if_neg (show ¬ (false = true) by decide)] at H; exact H
    clear H
    have H := H1
    clear H1
    simp only [Option.some.injEq, Prod.mk.injEq] at H
    obtain ⟨rfl, rfl⟩ := H
    go_wp2_with (first | ((with_reducible refine gate_callee (f := 52) rfl ?_); refine goesL_ (some 43) rfl rfl Tryd.func52 (by kernel_rfl) rfl #[.string x0_1, .int .i64 x4_1] rfl GAK ?_; (with_reducible refine (parapetref9_digits.calls kj1 x0_1 x4_1 false _ A20.out).mono ?_); rintro e w' ⟨rfl, ⟨nd, rfl⟩⟩; refine ⟨_, rfl, ?_⟩))
    go_ret2
    exact ⟨RFK, DRK⟩

end Go.Proofs.YtknkokkgefcdbaaDoor.PA
