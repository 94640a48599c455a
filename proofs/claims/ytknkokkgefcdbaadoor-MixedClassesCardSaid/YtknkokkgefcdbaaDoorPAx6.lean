-- half
-- written by pp.py, a program of this session's, which runs the kit's print with turns of its own; Lean checks it
import Derived.Test.YtknkokkgefcdbaaDoorBP
import Derived.Test.YtknkokkgefcdbaaDoorPAx0
namespace Go.Proofs.YtknkokkgefcdbaaDoor.PA
open Go.RowKit Go.Proofs.YtknkokkgefcdbaaDoorW.PrintWords Go.Proofs.YtknkokkgefcdbaaDoorW.PrintLast Go.Proofs.YtknkokkgefcdbaaDoorW.PrintMore
attribute [local go_sem] max2_int min2_int max_two min_two max_three min_three max_four min_four   -- for this text's walks alone
set_option maxHeartbeats 8000000
set_option maxRecDepth 100000
set_option linter.unusedVariables false
set_option linter.unusedSimpArgs false

/-! ### parapetref9_Default: function 32 -/
mutual
def parapetref9_Default.j0 : Nat → ByteArray → Bool → Option (Int × Bool)
 | 0, _, _ => none
 | k + 1, x4, x5 => if x5 = true then (some (80, true)) else (if x4.toList = ([104, 116, 116, 112, 115] : List UInt8) then (parapetref9_Default.j1 k x4 (x4.toList == ([104, 116, 116, 112, 115] : List UInt8))) else (parapetref9_Default.j1 k x4 (x4.toList == ([119, 115, 115] : List UInt8))))
def parapetref9_Default.j1 : Nat → ByteArray → Bool → Option (Int × Bool)
 | 0, _, _ => none
 | k + 1, x4, x8 => if x8 = true then (some (443, true)) else (if x4.toList = ([102, 116, 112] : List UInt8) then (some (21, true)) else (some (0, false)))
end
def parapetref9_Default.f (k : Nat) (a0 : ByteArray) : Option (Int × Bool) := if a0.toList = ([104, 116, 116, 112] : List UInt8) then (parapetref9_Default.j0 k a0 (a0.toList == ([104, 116, 116, 112] : List UInt8))) else (parapetref9_Default.j0 k a0 (a0.toList == ([119, 115] : List UInt8)))
theorem parapetref9_Default.mono_l : ∀ k, (∀ y0 y1, LeO (parapetref9_Default.j0 k y0 y1) (parapetref9_Default.j0 (k + 1) y0 y1)) ∧ (∀ y0 y1, LeO (parapetref9_Default.j1 k y0 y1) (parapetref9_Default.j1 (k + 1) y0 y1))
 | 0 => ⟨fun _ _ r h => by simp [parapetref9_Default.j0] at h, fun _ _ r h => by simp [parapetref9_Default.j1] at h⟩
 | k + 1 => by
  obtain ⟨ih0, ih1⟩ := parapetref9_Default.mono_l k
  refine ⟨?_, ?_⟩
  ·intro y0 y1
   unfold parapetref9_Default.j0
   repeat' first
   | (with_reducible exact ih0 _ _)
   | (with_reducible exact ih1 _ _)
   | (with_reducible exact LeO.refl _)
   | (with_reducible exact LeO.none _)
   | (with_reducible refine LeO.ite ?_ ?_)
   | (with_reducible refine LeO.bind ?_ (fun _ => ?_))
   | exact ih0 _ _
   | exact ih1 _ _
   | exact LeO.none _
   | refine LeO.ite ?_ ?_
   | refine LeO.bind ?_ (fun _ => ?_)
  ·intro y0 y1
   unfold parapetref9_Default.j1
   repeat' first
   | (with_reducible exact ih0 _ _)
   | (with_reducible exact ih1 _ _)
   | (with_reducible exact LeO.refl _)
   | (with_reducible exact LeO.none _)
   | (with_reducible refine LeO.ite ?_ ?_)
   | (with_reducible refine LeO.bind ?_ (fun _ => ?_))
   | exact ih0 _ _
   | exact ih1 _ _
   | exact LeO.none _
   | refine LeO.ite ?_ ?_
   | refine LeO.bind ?_ (fun _ => ?_)
theorem parapetref9_Default.mono : ∀ a0 k, LeO (parapetref9_Default.f k a0) (parapetref9_Default.f (k + 1) a0) := by
 intro a0 k
 obtain ⟨ih0, ih1⟩ := parapetref9_Default.mono_l k
 unfold parapetref9_Default.f
 repeat' first
   | (with_reducible exact ih0 _ _)
   | (with_reducible exact ih1 _ _)
   | (with_reducible exact LeO.refl _)
   | (with_reducible exact LeO.none _)
   | (with_reducible refine LeO.ite ?_ ?_)
   | (with_reducible refine LeO.bind ?_ (fun _ => ?_))
   | exact ih0 _ _
   | exact ih1 _ _
   | exact LeO.none _
   | refine LeO.ite ?_ ?_
   | refine LeO.bind ?_ (fun _ => ?_)
theorem parapetref9_Default.calls (k : Nat) (a0 : ByteArray) (r1 : Int) (r2 : Bool) (w : World) (h : parapetref9_Default.f k a0 = some (r1, r2)) :
  Calls Tryd.prog 32 #[.string a0] w fun e w' => e = .returned (.tuple #[.int .i64 r1, .bool r2]) ∧ Drawn0 w w' := by
 have H : (if a0.toList = ([104, 116, 116, 112] : List UInt8) then (parapetref9_Default.j0 k a0 (a0.toList == ([104, 116, 116, 112] : List UInt8))) else (parapetref9_Default.j0 k a0 (a0.toList == ([119, 115] : List UInt8)))) = some (r1, r2) := h
 clear h
 have HC2 := Aside0.mk H
 clear H
 go_enter Tryd.func32, Tryd.ntmps32
 go_upto_if 5 with (fail)
 go_cut [5] (fun v5 wc => ∃ (kq : Nat) (x5_1 : Bool), v5 = .bool x5_1 ∧ Aside0 (parapetref9_Default.j0 kq a0 x5_1 = some (r1, r2)) ∧ Aside0 (kq ≤ k) ∧ Drawn0 w wc)
 case first =>
  have H := HC2.out
  clear HC2
  by_cases c3 : a0.toList = ([104, 116, 116, 112] : List UInt8)
  ·rw [if_pos c3] at H
   have c3b0 : (a0.toList == ([104, 116, 116, 112] : List UInt8)) = true := beq_iff_eq.mpr c3
   have c3b1 : (a0.toList != ([104, 116, 116, 112] : List UInt8)) = false := bne_eq_false_iff_eq.mpr c3
   clear c3
   (first | rw [c3b0] | (simp only [i64_w, i32_w]; rw [c3b0]) | skip)
   have H' := Aside0.mk H
   clear H
   go_wp2
   go_meet
   case rel => exact ⟨_, ((a0.toList == ([104, 116, 116, 112] : List UInt8))), RFK, H', ⟨OMK⟩, DRK⟩
  ·rw [if_neg c3] at H
   have c3b0 : (a0.toList == ([104, 116, 116, 112] : List UInt8)) = false := beq_eq_false_iff_ne.mpr c3
   have c3b1 : (a0.toList != ([104, 116, 116, 112] : List UInt8)) = true := bne_iff_ne.mpr c3
   (first | rw [c3b0] | (simp only [i64_w, i32_w]; rw [c3b0]) | skip)
   have H' := Aside0.mk H
   clear H
   go_wp2
   go_meet
   case rel => exact ⟨_, ((a0.toList == ([119, 115] : List UInt8))), RFK, H', ⟨OMK⟩, DRK⟩
 case rest =>
  clear HC2
  try clear p2
  try clear c3
  try clear c3b0
  try clear c3b1
  obtain ⟨kq, x5_1, rfl, HA, HJ1, ⟨mc1, rfl⟩⟩ := hcut
  cases kq with
  | zero => exact absurd HA.out (by simp [parapetref9_Default.j0])
  | succ kj1 =>
   have H := HA.out
   clear HA
   simp only [parapetref9_Default.j0] at H
   by_cases c4 : x5_1 = true
   ·subst c4
    have H1 : (some (80, true)) = some (r1, r2) := by rw [if_pos rfl] at H; exact H
    clear H
    have H := H1
    clear H1
    simp only [Option.some.injEq, Prod.mk.injEq] at H
    obtain ⟨rfl, rfl⟩ := H
    go_wp2
    go_ret2
    exact ⟨RFK, DRK⟩
   ·replace c4 := Bool.eq_false_iff.mpr c4
    subst c4
    have H1 : (if a0.toList = ([104, 116, 116, 112, 115] : List UInt8) then (parapetref9_Default.j1 kj1 a0 (a0.toList == ([104, 116, 116, 112, 115] : List UInt8))) else (parapetref9_Default.j1 kj1 a0 (a0.toList == ([119, 115, 115] : List UInt8)))) = some (r1, r2) := by rw [if_neg (show ¬ (false = true) by decide)] at H; exact H
    clear H
    have H := H1
    clear H1
    have HC5 := Aside0.mk H
    clear H
    go_upto_if 8 with (fail)
    go_cut [8] (fun v8 wc => ∃ (kq : Nat) (x8_4 : Bool), v8 = .bool x8_4 ∧ Aside0 (parapetref9_Default.j1 kq a0 x8_4 = some (r1, r2)) ∧ Aside0 (kq ≤ kj1) ∧ Drawn0 w wc)
    case first =>
     have H := HC5.out
     clear HC5
     by_cases c6 : a0.toList = ([104, 116, 116, 112, 115] : List UInt8)
     ·rw [if_pos c6] at H
      have c6b0 : (a0.toList == ([104, 116, 116, 112, 115] : List UInt8)) = true := beq_iff_eq.mpr c6
      have c6b1 : (a0.toList != ([104, 116, 116, 112, 115] : List UInt8)) = false := bne_eq_false_iff_eq.mpr c6
      clear c6
      (first | rw [c6b0] | (simp only [i64_w, i32_w]; rw [c6b0]) | skip)
      have H' := Aside0.mk H
      clear H
      go_wp2
      go_meet
      case rel => exact ⟨_, ((a0.toList == ([104, 116, 116, 112, 115] : List UInt8))), RFK, H', ⟨by have := HJ1.out; first | omega | exact Nat.le_refl _⟩, DRK⟩
     ·rw [if_neg c6] at H
      have c6b0 : (a0.toList == ([104, 116, 116, 112, 115] : List UInt8)) = false := beq_eq_false_iff_ne.mpr c6
      have c6b1 : (a0.toList != ([104, 116, 116, 112, 115] : List UInt8)) = true := bne_iff_ne.mpr c6
      (first | rw [c6b0] | (simp only [i64_w, i32_w]; rw [c6b0]) | skip)
      have H' := Aside0.mk H
      clear H
      go_wp2
      go_meet
      case rel => exact ⟨_, ((a0.toList == ([119, 115, 115] : List UInt8))), RFK, H', ⟨by have := HJ1.out; first | omega | exact Nat.le_refl _⟩, DRK⟩
    case rest =>
     clear HC5
     try clear c1
     try clear p2
     try clear c3
     try clear c3b0
     try clear c3b1
     try clear c4
     try clear c6
     try clear c6b0
     try clear c6b1
     try clear p2
     obtain ⟨kq, x8_4, rfl, HA, HJ4, ⟨mc4, rfl⟩⟩ := hcut
     cases kq with
     | zero => exact absurd HA.out (by simp [parapetref9_Default.j1])
     | succ kj4 =>
      have H := HA.out
      clear HA
      simp only [parapetref9_Default.j1] at H
      by_cases c7 : x8_4 = true
      ·subst c7
       have H1 : (some (443, true)) = some (r1, r2) := by rw [if_pos rfl] at H; exact H
       clear H
       have H := H1
       clear H1
       simp only [Option.some.injEq, Prod.mk.injEq] at H
       obtain ⟨rfl, rfl⟩ := H
       go_wp2
       go_ret2
       exact ⟨RFK, DRK⟩
      ·replace c7 := Bool.eq_false_iff.mpr c7
       subst c7
       have H1 : (if a0.toList = ([102, 116, 112] : List UInt8) then (some (21, true)) else (some (0, false))) = some (r1, r2) := by rw [if_neg (show ¬ (false = true) by decide)] at H; exact H
       clear H
       have H := H1
       clear H1
       by_cases c8 : a0.toList = ([102, 116, 112] : List UInt8)
       ·rw [if_pos c8] at H
        have c8b0 : (a0.toList == ([102, 116, 112] : List UInt8)) = true := beq_iff_eq.mpr c8
        have c8b1 : (a0.toList != ([102, 116, 112] : List UInt8)) = false := bne_eq_false_iff_eq.mpr c8
        clear c8
        simp only [Option.some.injEq, Prod.mk.injEq] at H
        obtain ⟨rfl, rfl⟩ := H
        go_wp2
        go_ret2
        exact ⟨RFK, DRK⟩
       ·rw [if_neg c8] at H
        have c8b0 : (a0.toList == ([102, 116, 112] : List UInt8)) = false := beq_eq_false_iff_ne.mpr c8
        have c8b1 : (a0.toList != ([102, 116, 112] : List UInt8)) = true := bne_iff_ne.mpr c8
        simp only [Option.some.injEq, Prod.mk.injEq] at H
        obtain ⟨rfl, rfl⟩ := H
        go_wp2
        go_ret2
        exact ⟨RFK, DRK⟩

/-! ### parapetref1_Has: function 50 -/
def parapetref1_Has.l0 : Nat → ByteArray → Int → Int → Option (Bool)
 | 0, _, _, _ => none
 | k + 1, x0, x1, x5 => if x5 < (x0.size : Int) then (if 0 ≤ x5 then (if (bt x0 x5) = x1 then (some true) else (parapetref1_Has.l0 k x0 x1 (wrap64 (x5 + 1)))) else (none)) else (some false)
def parapetref1_Has.f (k : Nat) (a0 : ByteArray) (a1 : Int) : Option (Bool) := parapetref1_Has.l0 k a0 a1 0
theorem parapetref1_Has.mono_l : ∀ k, (∀ y0 y1 y2, LeO (parapetref1_Has.l0 k y0 y1 y2) (parapetref1_Has.l0 (k + 1) y0 y1 y2))
 | 0 => fun _ _ _ r h => by simp [parapetref1_Has.l0] at h
 | k + 1 => by
  have ih0 := parapetref1_Has.mono_l k
  ·intro y0 y1 y2
   unfold parapetref1_Has.l0
   repeat' first
   | (with_reducible exact ih0 _ _ _)
   | (with_reducible exact LeO.refl _)
   | (with_reducible exact LeO.none _)
   | (with_reducible refine LeO.ite ?_ ?_)
   | (with_reducible refine LeO.bind ?_ (fun _ => ?_))
   | exact ih0 _ _ _
   | exact LeO.none _
   | refine LeO.ite ?_ ?_
   | refine LeO.bind ?_ (fun _ => ?_)
theorem parapetref1_Has.mono : ∀ a0 a1 k, LeO (parapetref1_Has.f k a0 a1) (parapetref1_Has.f (k + 1) a0 a1) := by
 intro a0 a1 k
 have ih0 := parapetref1_Has.mono_l k
 unfold parapetref1_Has.f
 repeat' first
   | (with_reducible exact ih0 _ _ _)
   | (with_reducible exact LeO.refl _)
   | (with_reducible exact LeO.none _)
   | (with_reducible refine LeO.ite ?_ ?_)
   | (with_reducible refine LeO.bind ?_ (fun _ => ?_))
   | exact ih0 _ _ _
   | exact LeO.none _
   | refine LeO.ite ?_ ?_
   | refine LeO.bind ?_ (fun _ => ?_)
theorem parapetref1_Has.calls (k : Nat) (a0 : ByteArray) (a1 : Int) (r : Bool) (w : World) (h : parapetref1_Has.f k a0 a1 = some r) :
  Calls Tryd.prog 50 #[.string a0, .int .u8 a1] w fun e w' => e = .returned (.bool r) ∧ Drawn0 w w' := by
 have H : (parapetref1_Has.l0 k a0 a1 0) = some r := h
 clear h
 have H' := Aside0.mk H
 clear H
 go_enter Tryd.func50, Tryd.ntmps50
 go_wp2
 go_loopg [5] k (fun kq v5 w' => ∃ (x5_1 : Int), v5 = .int .i64 x5_1 ∧ Aside0 (parapetref1_Has.l0 kq a0 a1 x5_1 = some r) ∧ Aside0 (kq ≤ k) ∧ Drawn0 w w')
 case atStart => exact ⟨(0), RFK, H', ⟨Nat.le_refl _⟩, DRK⟩
 case round =>
  clear H'
  try clear p2
  obtain ⟨x5_1, rfl, HA, HK1, ⟨m1, rfl⟩⟩ := hrel
  cases gk with
  | zero => exact absurd HA.out (by simp [parapetref1_Has.l0])
  | succ k1 =>
   have H := HA.out
   clear HA
   simp only [parapetref1_Has.l0] at H
   by_cases c3 : x5_1 < (a0.size : Int)
   ·rw [if_pos c3] at H
    have c3b0 := decide_eq_true c3
    clear c3
    by_cases c4 : 0 ≤ x5_1
    ·rw [if_pos c4] at H
     have c4b0 := decide_eq_true c4
     clear c4
     by_cases c6 : (bt a0 x5_1) = a1
     ·rw [if_pos c6] at H
      have c6b0 : ((bt a0 x5_1) == a1) = true := beq_iff_eq.mpr c6
      have c6b1 : ((bt a0 x5_1) != a1) = false := bne_eq_false_iff_eq.mpr c6
      clear c6
      obtain rfl := Option.some.inj H
      have p5 : 0 ≤ (x5_1 : Int) := odA
      have q5 : x5_1 < (a0.size : Int) := odA
      have hx5 := bt_at a0 x5_1
      replace p5 := eq_true p5
      replace q5 := eq_true q5
      go_wp2
      go_ret
      exact ⟨RFK, DRK⟩
     ·rw [if_neg c6] at H
      have c6b0 : ((bt a0 x5_1) == a1) = false := beq_eq_false_iff_ne.mpr c6
      have c6b1 : ((bt a0 x5_1) != a1) = true := bne_iff_ne.mpr c6
      have H' := Aside0.mk H
      clear H
      have p5 : 0 ≤ (x5_1 : Int) := odA
      have q5 : x5_1 < (a0.size : Int) := odA
      have hx5 := bt_at a0 x5_1
      replace p5 := eq_true p5
      replace q5 := eq_true q5
      go_wp2
      go_roundg k1
      case measure => have := HK1.out; omega
      case rel => exact ⟨(wrap64 (x5_1 + 1)), RFK, H', ⟨by have := HK1.out; omega⟩, DRK⟩
    ·rw [if_neg c4] at H
     exact absurd H (by simp)
   ·rw [if_neg c3] at H
    have c3b0 := decide_eq_false c3
    clear c3
    obtain rfl := Option.some.inj H
    go_wp2
    go_ret
    exact ⟨RFK, DRK⟩

/-! ### parapetref9_upTo: function 33 -/
def parapetref9_upTo.l0 : Nat → ByteArray → ByteArray → Int → Option (Int)
 | 0, _, _, _ => none
 | k + 1, x0, x1, x5 => if x5 < (x0.size : Int) then (if 0 ≤ x5 then ((parapetref1_Has.f k x1 (bt x0 x5)).bind fun t118 => (if t118 = true then (some x5) else (parapetref9_upTo.l0 k x0 x1 (wrap64 (x5 + 1))))) else (none)) else (some (x0.size : Int))
def parapetref9_upTo.f (k : Nat) (a0 : ByteArray) (a1 : ByteArray) : Option (Int) := parapetref9_upTo.l0 k a0 a1 0
theorem parapetref9_upTo.mono_l : ∀ k, (∀ y0 y1 y2, LeO (parapetref9_upTo.l0 k y0 y1 y2) (parapetref9_upTo.l0 (k + 1) y0 y1 y2))
 | 0 => fun _ _ _ r h => by simp [parapetref9_upTo.l0] at h
 | k + 1 => by
  have ih0 := parapetref9_upTo.mono_l k
  ·intro y0 y1 y2
   unfold parapetref9_upTo.l0
   repeat' first
   | (with_reducible exact ih0 _ _ _)
   | (with_reducible exact parapetref1_Has.mono _ _ _)
   | (with_reducible exact LeO.refl _)
   | (with_reducible exact LeO.none _)
   | (with_reducible refine LeO.ite ?_ ?_)
   | (with_reducible refine LeO.bind ?_ (fun _ => ?_))
   | exact ih0 _ _ _
   | exact parapetref1_Has.mono _ _ _
   | exact LeO.none _
   | refine LeO.ite ?_ ?_
   | refine LeO.bind ?_ (fun _ => ?_)
theorem parapetref9_upTo.mono : ∀ a0 a1 k, LeO (parapetref9_upTo.f k a0 a1) (parapetref9_upTo.f (k + 1) a0 a1) := by
 intro a0 a1 k
 have ih0 := parapetref9_upTo.mono_l k
 unfold parapetref9_upTo.f
 repeat' first
   | (with_reducible exact ih0 _ _ _)
   | (with_reducible exact parapetref1_Has.mono _ _ _)
   | (with_reducible exact LeO.refl _)
   | (with_reducible exact LeO.none _)
   | (with_reducible refine LeO.ite ?_ ?_)
   | (with_reducible refine LeO.bind ?_ (fun _ => ?_))
   | exact ih0 _ _ _
   | exact parapetref1_Has.mono _ _ _
   | exact LeO.none _
   | refine LeO.ite ?_ ?_
   | refine LeO.bind ?_ (fun _ => ?_)
theorem parapetref9_upTo.calls (k : Nat) (a0 : ByteArray) (a1 : ByteArray) (r : Int) (w : World) (h : parapetref9_upTo.f k a0 a1 = some r) :
  Calls Tryd.prog 33 #[.string a0, .string a1] w fun e w' => e = .returned (.int .i64 r) ∧ Drawn0 w w' := by
 have H : (parapetref9_upTo.l0 k a0 a1 0) = some r := h
 clear h
 have H' := Aside0.mk H
 clear H
 go_enter Tryd.func33, Tryd.ntmps33
 go_wp2
 go_loopg [5] k (fun kq v5 w' => ∃ (x5_1 : Int), v5 = .int .i64 x5_1 ∧ Aside0 (parapetref9_upTo.l0 kq a0 a1 x5_1 = some r) ∧ Aside0 (kq ≤ k) ∧ Drawn0 w w')
 case atStart => exact ⟨(0), RFK, H', ⟨Nat.le_refl _⟩, DRK⟩
 case round =>
  clear H'
  try clear p2
  obtain ⟨x5_1, rfl, HA, HK1, ⟨m1, rfl⟩⟩ := hrel
  cases gk with
  | zero => exact absurd HA.out (by simp [parapetref9_upTo.l0])
  | succ k1 =>
   have H := HA.out
   clear HA
   simp only [parapetref9_upTo.l0] at H
   by_cases c3 : x5_1 < (a0.size : Int)
   ·rw [if_pos c3] at H
    have c3b0 := decide_eq_true c3
    clear c3
    by_cases c4 : 0 ≤ x5_1
    ·rw [if_pos c4] at H
     have c4b0 := decide_eq_true c4
     clear c4
     replace H := Option.bind_eq_some_iff.mp H
     obtain ⟨t118, A60, H⟩ := H
     (try dsimp only at H)
     have A6 := Aside0.mk A60
     clear A60
     by_cases c7 : t118 = true
     ·subst c7
      have H1 := H; rw [if_pos rfl] at H1
      clear H
      have H := H1
      clear H1
      obtain rfl := Option.some.inj H
      have p5 : 0 ≤ (x5_1 : Int) := odA
      have q5 : x5_1 < (a0.size : Int) := odA
      have hx5 := bt_at a0 x5_1
      replace p5 := eq_true p5
      replace q5 := eq_true q5
      go_wp2_with (first | ((with_reducible refine gate_callee (f := 50) rfl ?_); refine goesL_ (some 16) rfl rfl Tryd.func50 (by kernel_rfl) rfl #[.string a1, .int .u8 (bt a0 x5_1)] rfl GAK ?_; (with_reducible refine (parapetref1_Has.calls k1 a1 (bt a0 x5_1) true _ A6.out).mono ?_); rintro e w' ⟨rfl, ⟨nd, rfl⟩⟩; refine ⟨_, rfl, ?_⟩))
      go_ret
      exact ⟨RFK, DRK⟩
     ·replace c7 := Bool.eq_false_iff.mpr c7
      subst c7
      have H1 := H; rw [if_neg (show ¬ (false = true) by decide)] at H1
      clear H
      have H := H1
      clear H1
      have H' := Aside0.mk H
      clear H
      have p5 : 0 ≤ (x5_1 : Int) := odA
      have q5 : x5_1 < (a0.size : Int) := odA
      have hx5 := bt_at a0 x5_1
      replace p5 := eq_true p5
      replace q5 := eq_true q5
      go_wp2_with (first | ((with_reducible refine gate_callee (f := 50) rfl ?_); refine goesL_ (some 16) rfl rfl Tryd.func50 (by kernel_rfl) rfl #[.string a1, .int .u8 (bt a0 x5_1)] rfl GAK ?_; (with_reducible refine (parapetref1_Has.calls k1 a1 (bt a0 x5_1) false _ A6.out).mono ?_); rintro e w' ⟨rfl, ⟨nd, rfl⟩⟩; refine ⟨_, rfl, ?_⟩))
      go_roundg k1
      case measure => have := HK1.out; omega
      case rel => exact ⟨(wrap64 (x5_1 + 1)), RFK, H', ⟨by have := HK1.out; omega⟩, DRK⟩
    ·rw [if_neg c4] at H
     exact absurd H (by simp)
   ·rw [if_neg c3] at H
    have c3b0 := decide_eq_false c3
    clear c3
    obtain rfl := Option.some.inj H
    go_wp2
    go_ret
    exact ⟨RFK, DRK⟩

/-! ### parapetref9_In: function 53 -/
def parapetref9_In.f (k : Nat) (a0 : Int) (a1 : Int) : Option (Bool) := if a1 = 1 then (if a0 < 33 then (some true) else (if a0 > 126 then (some true) else ((parapetref1_Has.f k (⟨#[34, 60, 62, 96]⟩ : ByteArray) a0).bind fun t119 => (some t119)))) else (if a1 = 2 then (if a0 < 33 then (some true) else (if a0 > 126 then (some true) else ((parapetref1_Has.f k (⟨#[34, 35, 39, 60, 62]⟩ : ByteArray) a0).bind fun t120 => (some t120)))) else (if a1 = 3 then (if a0 < 33 then (some true) else (if a0 > 126 then (some true) else ((parapetref1_Has.f k (⟨#[34, 35, 60, 62, 63, 94, 96, 123, 125]⟩ : ByteArray) a0).bind fun t121 => (some t121)))) else (if a1 = 4 then (if a0 < 33 then (some true) else (if a0 > 126 then (some true) else ((parapetref1_Has.f k (⟨#[34, 35, 60, 62, 63, 94, 96, 123, 125, 47, 58, 59, 61, 64, 91, 92, 93, 124]⟩ : ByteArray) a0).bind fun t122 => (some t122)))) else (some false))))
theorem parapetref9_In.mono : ∀ a0 a1 k, LeO (parapetref9_In.f k a0 a1) (parapetref9_In.f (k + 1) a0 a1) := by
 intro a0 a1 k
 unfold parapetref9_In.f
 repeat' first
   | (with_reducible exact parapetref1_Has.mono _ _ _)
   | (with_reducible exact LeO.refl _)
   | (with_reducible exact LeO.none _)
   | (with_reducible refine LeO.ite ?_ ?_)
   | (with_reducible refine LeO.bind ?_ (fun _ => ?_))
   | exact parapetref1_Has.mono _ _ _
   | exact LeO.none _
   | refine LeO.ite ?_ ?_
   | refine LeO.bind ?_ (fun _ => ?_)
theorem parapetref9_In.calls (k : Nat) (a0 : Int) (a1 : Int) (r : Bool) (w : World) (h : parapetref9_In.f k a0 a1 = some r) :
  Calls Tryd.prog 53 #[.int .u8 a0, .int .i64 a1] w fun e w' => e = .returned (.bool r) ∧ Drawn0 w w' := by
 have H : (if a1 = 1 then (if a0 < 33 then (some true) else (if a0 > 126 then (some true) else ((parapetref1_Has.f k (⟨#[34, 60, 62, 96]⟩ : ByteArray) a0).bind fun t119 => (some t119)))) else (if a1 = 2 then (if a0 < 33 then (some true) else (if a0 > 126 then (some true) else ((parapetref1_Has.f k (⟨#[34, 35, 39, 60, 62]⟩ : ByteArray) a0).bind fun t120 => (some t120)))) else (if a1 = 3 then (if a0 < 33 then (some true) else (if a0 > 126 then (some true) else ((parapetref1_Has.f k (⟨#[34, 35, 60, 62, 63, 94, 96, 123, 125]⟩ : ByteArray) a0).bind fun t121 => (some t121)))) else (if a1 = 4 then (if a0 < 33 then (some true) else (if a0 > 126 then (some true) else ((parapetref1_Has.f k (⟨#[34, 35, 60, 62, 63, 94, 96, 123, 125, 47, 58, 59, 61, 64, 91, 92, 93, 124]⟩ : ByteArray) a0).bind fun t122 => (some t122)))) else (some false))))) = some r := h
 clear h
 by_cases c3 : a1 = 1
 ·rw [if_pos c3] at H
  have c3b0 : (a1 == 1) = true := beq_iff_eq.mpr c3
  have c3b1 : (a1 != 1) = false := bne_eq_false_iff_eq.mpr c3
  clear c3
  by_cases c4 : a0 < 33
  ·rw [if_pos c4] at H
   have c4b0 := decide_eq_true c4
   clear c4
   obtain rfl := Option.some.inj H
   go_enter Tryd.func53, Tryd.ntmps53
   go_wp2
   go_ret
   exact ⟨RFK, DRK⟩
  ·rw [if_neg c4] at H
   have c4b0 := decide_eq_false c4
   clear c4
   by_cases c5 : a0 > 126
   ·rw [if_pos c5] at H
    have c5b0 := decide_eq_true c5
    clear c5
    obtain rfl := Option.some.inj H
    go_enter Tryd.func53, Tryd.ntmps53
    go_wp2
    go_ret
    exact ⟨RFK, DRK⟩
   ·rw [if_neg c5] at H
    have c5b0 := decide_eq_false c5
    clear c5
    replace H := Option.bind_eq_some_iff.mp H
    obtain ⟨t119, A60, H⟩ := H
    (try dsimp only at H)
    have A6 := Aside0.mk A60
    clear A60
    obtain rfl := Option.some.inj H
    go_enter Tryd.func53, Tryd.ntmps53
    go_wp2_with (first | (go_at_call 50; (with_reducible refine (parapetref1_Has.calls k (⟨#[34, 60, 62, 96]⟩ : ByteArray) a0 t119 _ A6.out).mono ?_); rintro e w' ⟨rfl, ⟨nd, rfl⟩⟩))
    go_ret
    exact ⟨RFK, DRK⟩
 ·rw [if_neg c3] at H
  have c3b0 : (a1 == 1) = false := beq_eq_false_iff_ne.mpr c3
  have c3b1 : (a1 != 1) = true := bne_iff_ne.mpr c3
  by_cases c7 : a1 = 2
  ·rw [if_pos c7] at H
   have c7b0 : (a1 == 2) = true := beq_iff_eq.mpr c7
   have c7b1 : (a1 != 2) = false := bne_eq_false_iff_eq.mpr c7
   clear c7
   by_cases c8 : a0 < 33
   ·rw [if_pos c8] at H
    have c8b0 := decide_eq_true c8
    clear c8
    obtain rfl := Option.some.inj H
    go_enter Tryd.func53, Tryd.ntmps53
    go_wp2
    go_ret
    exact ⟨RFK, DRK⟩
   ·rw [if_neg c8] at H
    have c8b0 := decide_eq_false c8
    clear c8
    by_cases c9 : a0 > 126
    ·rw [if_pos c9] at H
     have c9b0 := decide_eq_true c9
     clear c9
     obtain rfl := Option.some.inj H
     go_enter Tryd.func53, Tryd.ntmps53
     go_wp2
     go_ret
     exact ⟨RFK, DRK⟩
    ·rw [if_neg c9] at H
     have c9b0 := decide_eq_false c9
     clear c9
     replace H := Option.bind_eq_some_iff.mp H
     obtain ⟨t120, A100, H⟩ := H
     (try dsimp only at H)
     have A10 := Aside0.mk A100
     clear A100
     obtain rfl := Option.some.inj H
     go_enter Tryd.func53, Tryd.ntmps53
     go_wp2_with (first | (go_at_call 50; (with_reducible refine (parapetref1_Has.calls k (⟨#[34, 35, 39, 60, 62]⟩ : ByteArray) a0 t120 _ A10.out).mono ?_); rintro e w' ⟨rfl, ⟨nd, rfl⟩⟩))
     go_ret
     exact ⟨RFK, DRK⟩
  ·rw [if_neg c7] at H
   have c7b0 : (a1 == 2) = false := beq_eq_false_iff_ne.mpr c7
   have c7b1 : (a1 != 2) = true := bne_iff_ne.mpr c7
   by_cases c11 : a1 = 3
   ·rw [if_pos c11] at H
    have c11b0 : (a1 == 3) = true := beq_iff_eq.mpr c11
    have c11b1 : (a1 != 3) = false := bne_eq_false_iff_eq.mpr c11
    clear c11
    by_cases c12 : a0 < 33
    ·rw [if_pos c12] at H
     have c12b0 := decide_eq_true c12
     clear c12
     obtain rfl := Option.some.inj H
     go_enter Tryd.func53, Tryd.ntmps53
     go_wp2
     go_ret
     exact ⟨RFK, DRK⟩
    ·rw [if_neg c12] at H
     have c12b0 := decide_eq_false c12
     clear c12
     by_cases c13 : a0 > 126
     ·rw [if_pos c13] at H
      have c13b0 := decide_eq_true c13
      clear c13
      obtain rfl := Option.some.inj H
      go_enter Tryd.func53, Tryd.ntmps53
      go_wp2
      go_ret
      exact ⟨RFK, DRK⟩
     ·rw [if_neg c13] at H
      have c13b0 := decide_eq_false c13
      clear c13
      replace H := Option.bind_eq_some_iff.mp H
      obtain ⟨t121, A140, H⟩ := H
      (try dsimp only at H)
      have A14 := Aside0.mk A140
      clear A140
      obtain rfl := Option.some.inj H
      go_enter Tryd.func53, Tryd.ntmps53
      go_wp2_with (first | (go_at_call 50; (with_reducible refine (parapetref1_Has.calls k (⟨#[34, 35, 60, 62, 63, 94, 96, 123, 125]⟩ : ByteArray) a0 t121 _ A14.out).mono ?_); rintro e w' ⟨rfl, ⟨nd, rfl⟩⟩))
      go_ret
      exact ⟨RFK, DRK⟩
   ·rw [if_neg c11] at H
    have c11b0 : (a1 == 3) = false := beq_eq_false_iff_ne.mpr c11
    have c11b1 : (a1 != 3) = true := bne_iff_ne.mpr c11
    by_cases c15 : a1 = 4
    ·rw [if_pos c15] at H
     have c15b0 : (a1 == 4) = true := beq_iff_eq.mpr c15
     have c15b1 : (a1 != 4) = false := bne_eq_false_iff_eq.mpr c15
     clear c15
     by_cases c16 : a0 < 33
     ·rw [if_pos c16] at H
      have c16b0 := decide_eq_true c16
      clear c16
      obtain rfl := Option.some.inj H
      go_enter Tryd.func53, Tryd.ntmps53
      go_wp2
      go_ret
      exact ⟨RFK, DRK⟩
     ·rw [if_neg c16] at H
      have c16b0 := decide_eq_false c16
      clear c16
      by_cases c17 : a0 > 126
      ·rw [if_pos c17] at H
       have c17b0 := decide_eq_true c17
       clear c17
       obtain rfl := Option.some.inj H
       go_enter Tryd.func53, Tryd.ntmps53
       go_wp2
       go_ret
       exact ⟨RFK, DRK⟩
      ·rw [if_neg c17] at H
       have c17b0 := decide_eq_false c17
       clear c17
       replace H := Option.bind_eq_some_iff.mp H
       obtain ⟨t122, A180, H⟩ := H
       (try dsimp only at H)
       have A18 := Aside0.mk A180
       clear A180
       obtain rfl := Option.some.inj H
       go_enter Tryd.func53, Tryd.ntmps53
       go_wp2_with (first | (go_at_call 50; (with_reducible refine (parapetref1_Has.calls k (⟨#[34, 35, 60, 62, 63, 94, 96, 123, 125, 47, 58, 59, 61, 64, 91, 92, 93, 124]⟩ : ByteArray) a0 t122 _ A18.out).mono ?_); rintro e w' ⟨rfl, ⟨nd, rfl⟩⟩))
       go_ret
       exact ⟨RFK, DRK⟩
    ·rw [if_neg c15] at H
     have c15b0 : (a1 == 4) = false := beq_eq_false_iff_ne.mpr c15
     have c15b1 : (a1 != 4) = true := bne_iff_ne.mpr c15
     obtain rfl := Option.some.inj H
     go_enter Tryd.func53, Tryd.ntmps53
     go_wp2
     go_ret
     exact ⟨RFK, DRK⟩

end Go.Proofs.YtknkokkgefcdbaaDoor.PA
