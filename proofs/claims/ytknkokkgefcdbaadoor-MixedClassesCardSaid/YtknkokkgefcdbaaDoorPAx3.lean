-- half
-- written by pp.py, a program of this session's, which runs the kit's print with turns of its own; Lean checks it
import Derived.Test.YtknkokkgefcdbaaDoorBP
import Derived.Test.YtknkokkgefcdbaaDoorPAx0
namespace Go.Proofs.YtknkokkgefcdbaaDoor.PA
open Go.RowKit Go.Proofs.YtknkokkgefcdbaaDoorW.PrintWords Go.Proofs.YtknkokkgefcdbaaDoorW.PrintLast Go.Proofs.YtknkokkgefcdbaaDoorW.PrintMore
attribute [local go_sem] max2_int min2_int max_two min_two max_three min_three max_four min_four   -- for this text's walks alone
set_option maxHeartbeats 8000000
set_option maxRecDepth 100000
set_option linter.unusedVariables false
set_option linter.unusedSimpArgs false

/-! ### parapetref9_runeAt: function 63 -/
mutual
def parapetref9_runeAt.j2 : Nat → ByteArray → Int → Int → Int → Option (Int)
 | 0, _, _, _, _ => none
 | k + 1, x0, x4, x5, x6 => if (x0.size : Int) < x4 then (some 0) else (parapetref9_runeAt.l0 k x0 x4 x5 x6 1)
def parapetref9_runeAt.l0 : Nat → ByteArray → Int → Int → Int → Int → Option (Int)
 | 0, _, _, _, _, _ => none
 | k + 1, x0, x4, x5, x6, x7 => if x7 < x4 then (if 0 ≤ x7 then (if x7 < (x0.size : Int) then (if (Go.bits .and .u8 (bt x0 x7) 192) = 128 then (parapetref9_runeAt.l0 k x0 x4 (Go.bits .or .i64 (wrap64 (x5 * 64)) (wrap64 (Go.bits .and .u8 (bt x0 x7) 63))) x6 (wrap64 (x7 + 1))) else (some 0)) else (none)) else (none)) else (if x5 < x6 then (some 0) else (if x5 > 1114111 then (some 0) else (if x5 ≥ 55296 then (if x5 ≤ 57343 then (some 0) else (some x4)) else (some x4))))
def parapetref9_runeAt.j0 : Nat → ByteArray → Int → Int → Bool → Option (Int)
 | 0, _, _, _, _ => none
 | k + 1, x0, x3, x5, x15 => if x15 = true then (parapetref9_runeAt.j2 k x0 2 (Go.bits .and .i64 x5 31) 128) else (if x3 ≥ 224 then (parapetref9_runeAt.j1 k x0 x3 x5 (decide (x3 < 240))) else (parapetref9_runeAt.j1 k x0 x3 x5 false))
def parapetref9_runeAt.j1 : Nat → ByteArray → Int → Int → Bool → Option (Int)
 | 0, _, _, _, _ => none
 | k + 1, x0, x3, x5, x24 => if x24 = true then (parapetref9_runeAt.j2 k x0 3 (Go.bits .and .i64 x5 15) 2048) else (if x3 ≥ 240 then (if x3 < 245 then (parapetref9_runeAt.j2 k x0 4 (Go.bits .and .i64 x5 7) 65536) else (some 0)) else (some 0))
end
def parapetref9_runeAt.f (k : Nat) (a0 : ByteArray) : Option (Int) := if 0 < (a0.size : Int) then (if (bt a0 0) < 128 then (some 1) else (if (bt a0 0) ≥ 194 then (parapetref9_runeAt.j0 k a0 (bt a0 0) (wrap64 (bt a0 0)) (decide ((bt a0 0) < 224))) else (parapetref9_runeAt.j0 k a0 (bt a0 0) (wrap64 (bt a0 0)) false))) else (none)
theorem parapetref9_runeAt.mono_l : ∀ k, (∀ y0 y1 y2 y3, LeO (parapetref9_runeAt.j2 k y0 y1 y2 y3) (parapetref9_runeAt.j2 (k + 1) y0 y1 y2 y3)) ∧ (∀ y0 y1 y2 y3 y4, LeO (parapetref9_runeAt.l0 k y0 y1 y2 y3 y4) (parapetref9_runeAt.l0 (k + 1) y0 y1 y2 y3 y4)) ∧ (∀ y0 y1 y2 y3, LeO (parapetref9_runeAt.j0 k y0 y1 y2 y3) (parapetref9_runeAt.j0 (k + 1) y0 y1 y2 y3)) ∧ (∀ y0 y1 y2 y3, LeO (parapetref9_runeAt.j1 k y0 y1 y2 y3) (parapetref9_runeAt.j1 (k + 1) y0 y1 y2 y3))
 | 0 => ⟨fun _ _ _ _ r h => by simp [parapetref9_runeAt.j2] at h, fun _ _ _ _ _ r h => by simp [parapetref9_runeAt.l0] at h, fun _ _ _ _ r h => by simp [parapetref9_runeAt.j0] at h, fun _ _ _ _ r h => by simp [parapetref9_runeAt.j1] at h⟩
 | k + 1 => by
  obtain ⟨ih0, ih1, ih2, ih3⟩ := parapetref9_runeAt.mono_l k
  refine ⟨?_, ?_, ?_, ?_⟩
  ·intro y0 y1 y2 y3
   unfold parapetref9_runeAt.j2
   repeat' first
   | (with_reducible exact ih0 _ _ _ _)
   | (with_reducible exact ih1 _ _ _ _ _)
   | (with_reducible exact ih2 _ _ _ _)
   | (with_reducible exact ih3 _ _ _ _)
   | (with_reducible exact LeO.refl _)
   | (with_reducible exact LeO.none _)
   | (with_reducible refine LeO.ite ?_ ?_)
   | (with_reducible refine LeO.bind ?_ (fun _ => ?_))
   | exact ih0 _ _ _ _
   | exact ih1 _ _ _ _ _
   | exact ih2 _ _ _ _
   | exact ih3 _ _ _ _
   | exact LeO.none _
   | refine LeO.ite ?_ ?_
   | refine LeO.bind ?_ (fun _ => ?_)
  ·intro y0 y1 y2 y3 y4
   unfold parapetref9_runeAt.l0
   repeat' first
   | (with_reducible exact ih0 _ _ _ _)
   | (with_reducible exact ih1 _ _ _ _ _)
   | (with_reducible exact ih2 _ _ _ _)
   | (with_reducible exact ih3 _ _ _ _)
   | (with_reducible exact LeO.refl _)
   | (with_reducible exact LeO.none _)
   | (with_reducible refine LeO.ite ?_ ?_)
   | (with_reducible refine LeO.bind ?_ (fun _ => ?_))
   | exact ih0 _ _ _ _
   | exact ih1 _ _ _ _ _
   | exact ih2 _ _ _ _
   | exact ih3 _ _ _ _
   | exact LeO.none _
   | refine LeO.ite ?_ ?_
   | refine LeO.bind ?_ (fun _ => ?_)
  ·intro y0 y1 y2 y3
   unfold parapetref9_runeAt.j0
   repeat' first
   | (with_reducible exact ih0 _ _ _ _)
   | (with_reducible exact ih1 _ _ _ _ _)
   | (with_reducible exact ih2 _ _ _ _)
   | (with_reducible exact ih3 _ _ _ _)
   | (with_reducible exact LeO.refl _)
   | (with_reducible exact LeO.none _)
   | (with_reducible refine LeO.ite ?_ ?_)
   | (with_reducible refine LeO.bind ?_ (fun _ => ?_))
   | exact ih0 _ _ _ _
   | exact ih1 _ _ _ _ _
   | exact ih2 _ _ _ _
   | exact ih3 _ _ _ _
   | exact LeO.none _
   | refine LeO.ite ?_ ?_
   | refine LeO.bind ?_ (fun _ => ?_)
  ·intro y0 y1 y2 y3
   unfold parapetref9_runeAt.j1
   repeat' first
   | (with_reducible exact ih0 _ _ _ _)
   | (with_reducible exact ih1 _ _ _ _ _)
   | (with_reducible exact ih2 _ _ _ _)
   | (with_reducible exact ih3 _ _ _ _)
   | (with_reducible exact LeO.refl _)
   | (with_reducible exact LeO.none _)
   | (with_reducible refine LeO.ite ?_ ?_)
   | (with_reducible refine LeO.bind ?_ (fun _ => ?_))
   | exact ih0 _ _ _ _
   | exact ih1 _ _ _ _ _
   | exact ih2 _ _ _ _
   | exact ih3 _ _ _ _
   | exact LeO.none _
   | refine LeO.ite ?_ ?_
   | refine LeO.bind ?_ (fun _ => ?_)
theorem parapetref9_runeAt.mono : ∀ a0 k, LeO (parapetref9_runeAt.f k a0) (parapetref9_runeAt.f (k + 1) a0) := by
 intro a0 k
 obtain ⟨ih0, ih1, ih2, ih3⟩ := parapetref9_runeAt.mono_l k
 unfold parapetref9_runeAt.f
 repeat' first
   | (with_reducible exact ih0 _ _ _ _)
   | (with_reducible exact ih1 _ _ _ _ _)
   | (with_reducible exact ih2 _ _ _ _)
   | (with_reducible exact ih3 _ _ _ _)
   | (with_reducible exact LeO.refl _)
   | (with_reducible exact LeO.none _)
   | (with_reducible refine LeO.ite ?_ ?_)
   | (with_reducible refine LeO.bind ?_ (fun _ => ?_))
   | exact ih0 _ _ _ _
   | exact ih1 _ _ _ _ _
   | exact ih2 _ _ _ _
   | exact ih3 _ _ _ _
   | exact LeO.none _
   | refine LeO.ite ?_ ?_
   | refine LeO.bind ?_ (fun _ => ?_)
theorem parapetref9_runeAt.calls (k : Nat) (a0 : ByteArray) (r : Int) (w : World) (h : parapetref9_runeAt.f k a0 = some r) :
  Calls Tryd.prog 63 #[.string a0] w fun e w' => e = .returned (.int .i64 r) ∧ Drawn0 w w' := by
 have H : (if 0 < (a0.size : Int) then (if (bt a0 0) < 128 then (some 1) else (if (bt a0 0) ≥ 194 then (parapetref9_runeAt.j0 k a0 (bt a0 0) (wrap64 (bt a0 0)) (decide ((bt a0 0) < 224))) else (parapetref9_runeAt.j0 k a0 (bt a0 0) (wrap64 (bt a0 0)) false))) else (none)) = some r := h
 clear h
 by_cases c2 : 0 < (a0.size : Int)
 ·rw [if_pos c2] at H
  have c2b0 := decide_eq_true c2
  have c2b1 : decide (0 < a0.size) = true := decide_eq_true (by omega)
  clear c2
  have HC4 := Aside0.mk H
  clear H
  have p3 : 0 ≤ (0 : Int) := (by omega)
  have q3 : 0 < a0.size := (by have : (0 : Int) < (a0.size : Int) := odA; omega)
  have hx3 : ∀ h : 0 < a0.size, ((a0[0]'h).toNat : Int) = bt a0 0 := bt_at a0 0
  clear p3
  have qi3 : (0 < (a0.size : Int)) = True := eq_true odA
  replace q3 := eq_true q3
  go_enter Tryd.func63, Tryd.ntmps63
  go_upto_block 0 with (fail)
  go_cut [4, 5, 6] (fun v4 v5 v6 wc => ∃ (kq : Nat) (x4_3 : Int) (x5_3 : Int) (x6_3 : Int), v4 = .int .i64 x4_3 ∧ v5 = .int .i64 x5_3 ∧ v6 = .int .i64 x6_3 ∧ Aside0 (parapetref9_runeAt.j2 kq a0 x4_3 x5_3 x6_3 = some r) ∧ Aside0 (kq ≤ k) ∧ Drawn0 w wc)
  case first =>
   have H := HC4.out
   clear HC4
   by_cases c5 : (bt a0 0) < 128
   ·rw [if_pos c5] at H
    have c5b0 := decide_eq_true c5
    clear c5
    (first | rw [c5b0] | (simp only [i64_w, i32_w]; rw [c5b0]) | skip)
    obtain rfl := Option.some.inj H
    go_wp2
    go_ret
    exact ⟨RFK, DRK⟩
   ·rw [if_neg c5] at H
    have c5b0 := decide_eq_false c5
    clear c5
    (first | rw [c5b0] | (simp only [i64_w, i32_w]; rw [c5b0]) | skip)
    have HC6 := Aside0.mk H
    clear H
    go_upto_region 8 with (fail)
    go_cut [15] (fun v15 wc => ∃ (kq : Nat) (x15_5 : Bool), v15 = .bool x15_5 ∧ Aside0 (parapetref9_runeAt.j0 kq a0 (bt a0 0) (wrap64 (bt a0 0)) x15_5 = some r) ∧ Aside0 (kq ≤ k) ∧ Drawn0 w wc)
    case first =>
     have H := HC6.out
     clear HC6
     by_cases c7 : (bt a0 0) ≥ 194
     ·rw [if_pos c7] at H
      have c7b0 := decide_eq_true c7
      clear c7
      (first | rw [c7b0] | (simp only [i64_w, i32_w]; rw [c7b0]) | skip)
      have H' := Aside0.mk H
      clear H
      go_wp2
      go_meet
      case rel => exact ⟨_, (decide ((bt a0 0) < 224)), RFK, H', ⟨OMK⟩, DRK⟩
     ·rw [if_neg c7] at H
      have c7b0 := decide_eq_false c7
      clear c7
      (first | rw [c7b0] | (simp only [i64_w, i32_w]; rw [c7b0]) | skip)
      have H' := Aside0.mk H
      clear H
      go_wp2
      go_meet
      case rel => exact ⟨_, (false), RFK, H', ⟨OMK⟩, DRK⟩
    case rest =>
     clear HC6
     try clear c2
     try clear c2b0
     try clear c2b1
     try clear p2
     try clear p3
     try clear q3
     try clear hx3
     try clear qi3
     try clear c5
     try clear c5b0
     try clear c6
     try clear p6
     try clear c7
     try clear c7b0
     try clear p3
     try clear q3
     obtain ⟨kq, x15_5, rfl, HA, HJ5, ⟨mc5, rfl⟩⟩ := hcut
     cases kq with
     | zero => exact absurd HA.out (by simp [parapetref9_runeAt.j0])
     | succ kj5 =>
      have H := HA.out
      clear HA
      simp only [parapetref9_runeAt.j0] at H
      by_cases c8 : x15_5 = true
      ·subst c8
       have H1 := H; rw [if_pos rfl] at H1
       clear H
       have H := H1
       clear H1
       have H' := Aside0.mk H
       clear H
       go_wp2
       go_meet
       case rel => exact ⟨_, (2), (Go.bits .and .i64 (wrap64 (bt a0 0)) 31), (128), RFK, RFK, RFK, H', ⟨by have := HJ5.out; first | omega | exact Nat.le_refl _⟩, DRK⟩
      ·replace c8 := Bool.eq_false_iff.mpr c8
       subst c8
       have H1 := H; rw [if_neg (show ¬ (false = true) by decide)] at H1
       clear H
       have H := H1
       clear H1
       have HC9 := Aside0.mk H
       clear H
       go_upto_region 12 with (fail)
       go_cut [24] (fun v24 wc => ∃ (kq : Nat) (x24_8 : Bool), v24 = .bool x24_8 ∧ Aside0 (parapetref9_runeAt.j1 kq a0 (bt a0 0) (wrap64 (bt a0 0)) x24_8 = some r) ∧ Aside0 (kq ≤ kj5) ∧ Drawn0 w wc)
       case first =>
        have H := HC9.out
        clear HC9
        by_cases c10 : (bt a0 0) ≥ 224
        ·rw [if_pos c10] at H
         have c10b0 := decide_eq_true c10
         clear c10
         (first | rw [c10b0] | (simp only [i64_w, i32_w]; rw [c10b0]) | skip)
         have H' := Aside0.mk H
         clear H
         go_wp2
         go_meet
         case rel => exact ⟨_, (decide ((bt a0 0) < 240)), RFK, H', ⟨by have := HJ5.out; first | omega | exact Nat.le_refl _⟩, DRK⟩
        ·rw [if_neg c10] at H
         have c10b0 := decide_eq_false c10
         clear c10
         (first | rw [c10b0] | (simp only [i64_w, i32_w]; rw [c10b0]) | skip)
         have H' := Aside0.mk H
         clear H
         go_wp2
         go_meet
         case rel => exact ⟨_, (false), RFK, H', ⟨by have := HJ5.out; first | omega | exact Nat.le_refl _⟩, DRK⟩
       case rest =>
        clear HC9
        try clear c1
        try clear c2
        try clear c2b0
        try clear c2b1
        try clear p2
        try clear p3
        try clear q3
        try clear hx3
        try clear qi3
        try clear c5
        try clear c5b0
        try clear c6
        try clear p6
        try clear c7
        try clear c7b0
        try clear c8
        try clear c10
        try clear c10b0
        try clear p2
        try clear p3
        try clear p6
        try clear q3
        obtain ⟨kq, x24_8, rfl, HA, HJ8, ⟨mc8, rfl⟩⟩ := hcut
        cases kq with
        | zero => exact absurd HA.out (by simp [parapetref9_runeAt.j1])
        | succ kj8 =>
         have H := HA.out
         clear HA
         simp only [parapetref9_runeAt.j1] at H
         by_cases c11 : x24_8 = true
         ·subst c11
          have H1 := H; rw [if_pos rfl] at H1
          clear H
          have H := H1
          clear H1
          have H' := Aside0.mk H
          clear H
          go_wp2
          go_meet
          case rel => exact ⟨_, (3), (Go.bits .and .i64 (wrap64 (bt a0 0)) 15), (2048), RFK, RFK, RFK, H', ⟨by have := HJ5.out; have := HJ8.out; first | omega | exact Nat.le_refl _⟩, DRK⟩
         ·replace c11 := Bool.eq_false_iff.mpr c11
          subst c11
          have H1 := H; rw [if_neg (show ¬ (false = true) by decide)] at H1
          clear H
          have H := H1
          clear H1
          by_cases c12 : (bt a0 0) ≥ 240
          ·rw [if_pos c12] at H
           have c12b0 := decide_eq_true c12
           clear c12
           by_cases c13 : (bt a0 0) < 245
           ·rw [if_pos c13] at H
            have c13b0 := decide_eq_true c13
            clear c13
            have H' := Aside0.mk H
            clear H
            go_wp2
            go_meet
            case rel => exact ⟨_, (4), (Go.bits .and .i64 (wrap64 (bt a0 0)) 7), (65536), RFK, RFK, RFK, H', ⟨by have := HJ5.out; have := HJ8.out; first | omega | exact Nat.le_refl _⟩, DRK⟩
           ·rw [if_neg c13] at H
            have c13b0 := decide_eq_false c13
            clear c13
            obtain rfl := Option.some.inj H
            go_wp2
            go_ret
            exact ⟨RFK, DRK⟩
          ·rw [if_neg c12] at H
           have c12b0 := decide_eq_false c12
           clear c12
           obtain rfl := Option.some.inj H
           go_wp2
           go_ret
           exact ⟨RFK, DRK⟩
  case rest =>
   clear HC4
   try clear c1
   try clear c2
   try clear c2b0
   try clear c2b1
   try clear p2
   try clear p3
   try clear q3
   try clear hx3
   try clear qi3
   try clear c5
   try clear c5b0
   try clear c6
   try clear p6
   try clear c7
   try clear c7b0
   try clear c8
   try clear c10
   try clear c10b0
   try clear c11
   try clear c12
   try clear c12b0
   try clear c13
   try clear c13b0
   try clear p2
   try clear p3
   try clear p6
   try clear q3
   obtain ⟨kq, x4_3, x5_3, x6_3, rfl, rfl, rfl, HA, HJ3, ⟨mc3, rfl⟩⟩ := hcut
   cases kq with
   | zero => exact absurd HA.out (by simp [parapetref9_runeAt.j2])
   | succ kj3 =>
    have H := HA.out
    clear HA
    simp only [parapetref9_runeAt.j2] at H
    by_cases c14 : (a0.size : Int) < x4_3
    ·rw [if_pos c14] at H
     have c14b0 := decide_eq_true c14
     clear c14
     obtain rfl := Option.some.inj H
     go_wp2
     go_ret
     exact ⟨RFK, DRK⟩
    ·rw [if_neg c14] at H
     have c14b0 := decide_eq_false c14
     clear c14
     have H' := Aside0.mk H
     clear H
     go_wp2
     go_loopg [5, 7] kj3 (fun kq v5 v7 w' => ∃ (x5_2 : Int) (x7_2 : Int), v5 = .int .i64 x5_2 ∧ v7 = .int .i64 x7_2 ∧ Aside0 (parapetref9_runeAt.l0 kq a0 x4_3 x5_2 x6_3 x7_2 = some r) ∧ Aside0 (kq ≤ kj3) ∧ Drawn0 w w')
     case atStart => exact ⟨(x5_3), (1), RFK, RFK, H', ⟨Nat.le_refl _⟩, DRK⟩
     case round =>
      clear H'
      try clear c1
      try clear c2
      try clear c2b0
      try clear c2b1
      try clear p2
      try clear c3
      try clear p3
      try clear q3
      try clear hx3
      try clear qi3
      try clear c5
      try clear c5b0
      try clear c6
      try clear p6
      try clear c7
      try clear c7b0
      try clear c8
      try clear c10
      try clear c10b0
      try clear c11
      try clear c12
      try clear c12b0
      try clear c13
      try clear c13b0
      try clear c14
      try clear c14b0
      try clear p2
      try clear p3
      try clear p6
      try clear q3
      obtain ⟨x5_2, x7_2, rfl, rfl, HA, HK2, ⟨m2, rfl⟩⟩ := hrel
      cases gk with
      | zero => exact absurd HA.out (by simp [parapetref9_runeAt.l0])
      | succ k2 =>
       have H := HA.out
       clear HA
       simp only [parapetref9_runeAt.l0] at H
       by_cases c15 : x7_2 < x4_3
       ·rw [if_pos c15] at H
        have c15b0 := decide_eq_true c15
        clear c15
        by_cases c16 : 0 ≤ x7_2
        ·rw [if_pos c16] at H
         have c16b0 := decide_eq_true c16
         clear c16
         by_cases c17 : x7_2 < (a0.size : Int)
         ·rw [if_pos c17] at H
          have c17b0 := decide_eq_true c17
          clear c17
          by_cases c19 : (Go.bits .and .u8 (bt a0 x7_2) 192) = 128
          ·rw [if_pos c19] at H
           have c19b0 : ((Go.bits .and .u8 (bt a0 x7_2) 192) == 128) = true := beq_iff_eq.mpr c19
           have c19b1 : ((Go.bits .and .u8 (bt a0 x7_2) 192) != 128) = false := bne_eq_false_iff_eq.mpr c19
           clear c19
           have H' := Aside0.mk H
           clear H
           have p18 : 0 ≤ (x7_2 : Int) := odA
           have q18 : x7_2 < (a0.size : Int) := odA
           have hx18 := bt_at a0 x7_2
           replace p18 := eq_true p18
           replace q18 := eq_true q18
           have p20 : 0 ≤ (x7_2 : Int) := odA
           have q20 : x7_2 < (a0.size : Int) := odA
           have hx20 := bt_at a0 x7_2
           replace p20 := eq_true p20
           replace q20 := eq_true q20
           go_wp2
           go_roundg k2
           case measure => have := HJ3.out; have := HK2.out; omega
           case rel => exact ⟨(Go.bits .or .i64 (wrap64 (x5_2 * 64)) (wrap64 (Go.bits .and .u8 (bt a0 x7_2) 63))), (wrap64 (x7_2 + 1)), RFK, RFK, H', ⟨by have := HJ3.out; have := HK2.out; omega⟩, DRK⟩
          ·rw [if_neg c19] at H
           have c19b0 : ((Go.bits .and .u8 (bt a0 x7_2) 192) == 128) = false := beq_eq_false_iff_ne.mpr c19
           have c19b1 : ((Go.bits .and .u8 (bt a0 x7_2) 192) != 128) = true := bne_iff_ne.mpr c19
           obtain rfl := Option.some.inj H
           have p18 : 0 ≤ (x7_2 : Int) := odA
           have q18 : x7_2 < (a0.size : Int) := odA
           have hx18 := bt_at a0 x7_2
           replace p18 := eq_true p18
           replace q18 := eq_true q18
           go_wp2
           go_ret
           exact ⟨RFK, DRK⟩
         ·rw [if_neg c17] at H
          exact absurd H (by simp)
        ·rw [if_neg c16] at H
         exact absurd H (by simp)
       ·rw [if_neg c15] at H
        have c15b0 := decide_eq_false c15
        clear c15
        by_cases c21 : x5_2 < x6_3
        ·rw [if_pos c21] at H
         have c21b0 := decide_eq_true c21
         clear c21
         obtain rfl := Option.some.inj H
         go_wp2
         go_ret
         exact ⟨RFK, DRK⟩
        ·rw [if_neg c21] at H
         have c21b0 := decide_eq_false c21
         clear c21
         by_cases c22 : x5_2 > 1114111
         ·rw [if_pos c22] at H
          have c22b0 := decide_eq_true c22
          clear c22
          obtain rfl := Option.some.inj H
          go_wp2
          go_ret
          exact ⟨RFK, DRK⟩
         ·rw [if_neg c22] at H
          have c22b0 := decide_eq_false c22
          clear c22
          by_cases c23 : x5_2 ≥ 55296
          ·rw [if_pos c23] at H
           have c23b0 := decide_eq_true c23
           clear c23
           by_cases c24 : x5_2 ≤ 57343
           ·rw [if_pos c24] at H
            have c24b0 := decide_eq_true c24
            clear c24
            obtain rfl := Option.some.inj H
            go_wp2
            go_ret
            exact ⟨RFK, DRK⟩
           ·rw [if_neg c24] at H
            have c24b0 := decide_eq_false c24
            clear c24
            obtain rfl := Option.some.inj H
            go_wp2
            go_ret
            exact ⟨RFK, DRK⟩
          ·rw [if_neg c23] at H
           have c23b0 := decide_eq_false c23
           clear c23
           obtain rfl := Option.some.inj H
           go_wp2
           go_ret
           exact ⟨RFK, DRK⟩
 ·rw [if_neg c2] at H
  exact absurd H (by simp)

/-! ### parapetref9_Broken: function 47 -/
def parapetref9_Broken.l0 : Nat → ByteArray → Int → Option (Int)
 | 0, _, _ => none
 | k + 1, x0, x3 => if x3 < (x0.size : Int) then (if 0 ≤ x3 then (if x3 ≤ (x0.size : Int) then ((parapetref9_runeAt.f k (x0.extract (x3 : Int).toNat x0.size)).bind fun t101 => (if t101 = 0 then (some x3) else (parapetref9_Broken.l0 k x0 (wrap64 (x3 + t101))))) else (none)) else (none)) else (some (x0.size : Int))
def parapetref9_Broken.f (k : Nat) (a0 : ByteArray) : Option (Int) := parapetref9_Broken.l0 k a0 0
theorem parapetref9_Broken.mono_l : ∀ k, (∀ y0 y1, LeO (parapetref9_Broken.l0 k y0 y1) (parapetref9_Broken.l0 (k + 1) y0 y1))
 | 0 => fun _ _ r h => by simp [parapetref9_Broken.l0] at h
 | k + 1 => by
  have ih0 := parapetref9_Broken.mono_l k
  ·intro y0 y1
   unfold parapetref9_Broken.l0
   repeat' first
   | (with_reducible exact ih0 _ _)
   | (with_reducible exact parapetref9_runeAt.mono _ _)
   | (with_reducible exact LeO.refl _)
   | (with_reducible exact LeO.none _)
   | (with_reducible refine LeO.ite ?_ ?_)
   | (with_reducible refine LeO.bind ?_ (fun _ => ?_))
   | exact ih0 _ _
   | exact parapetref9_runeAt.mono _ _
   | exact LeO.none _
   | refine LeO.ite ?_ ?_
   | refine LeO.bind ?_ (fun _ => ?_)
theorem parapetref9_Broken.mono : ∀ a0 k, LeO (parapetref9_Broken.f k a0) (parapetref9_Broken.f (k + 1) a0) := by
 intro a0 k
 have ih0 := parapetref9_Broken.mono_l k
 unfold parapetref9_Broken.f
 repeat' first
   | (with_reducible exact ih0 _ _)
   | (with_reducible exact parapetref9_runeAt.mono _ _)
   | (with_reducible exact LeO.refl _)
   | (with_reducible exact LeO.none _)
   | (with_reducible refine LeO.ite ?_ ?_)
   | (with_reducible refine LeO.bind ?_ (fun _ => ?_))
   | exact ih0 _ _
   | exact parapetref9_runeAt.mono _ _
   | exact LeO.none _
   | refine LeO.ite ?_ ?_
   | refine LeO.bind ?_ (fun _ => ?_)
theorem parapetref9_Broken.calls (k : Nat) (a0 : ByteArray) (r : Int) (w : World) (h : parapetref9_Broken.f k a0 = some r) :
  Calls Tryd.prog 47 #[.string a0] w fun e w' => e = .returned (.int .i64 r) ∧ Drawn0 w w' := by
 have H : (parapetref9_Broken.l0 k a0 0) = some r := h
 clear h
 have H' := Aside0.mk H
 clear H
 go_enter Tryd.func47, Tryd.ntmps47
 go_wp2
 go_loopg [3] k (fun kq v3 w' => ∃ (x3_1 : Int), v3 = .int .i64 x3_1 ∧ Aside0 (parapetref9_Broken.l0 kq a0 x3_1 = some r) ∧ Aside0 (kq ≤ k) ∧ Drawn0 w w')
 case atStart => exact ⟨(0), RFK, H', ⟨Nat.le_refl _⟩, DRK⟩
 case round =>
  clear H'
  obtain ⟨x3_1, rfl, HA, HK1, ⟨m1, rfl⟩⟩ := hrel
  cases gk with
  | zero => exact absurd HA.out (by simp [parapetref9_Broken.l0])
  | succ k1 =>
   have H := HA.out
   clear HA
   simp only [parapetref9_Broken.l0] at H
   by_cases c2 : x3_1 < (a0.size : Int)
   ·rw [if_pos c2] at H
    have c2b0 := decide_eq_true c2
    clear c2
    by_cases c3 : 0 ≤ x3_1
    ·rw [if_pos c3] at H
     have c3b0 := eq_true c3
     have c3b1 := decide_eq_true c3
     clear c3
     by_cases c4 : x3_1 ≤ (a0.size : Int)
     ·rw [if_pos c4] at H
      have c4b0 := eq_true c4
      have c4b1 := decide_eq_true c4
      clear c4
      replace H := Option.bind_eq_some_iff.mp H
      obtain ⟨t101, A50, H⟩ := H
      (try dsimp only at H)
      have A5 := Aside0.mk A50
      clear A50
      by_cases c6 : t101 = 0
      ·rw [if_pos c6] at H
       have c6b0 : (t101 == 0) = true := beq_iff_eq.mpr c6
       have c6b1 : (t101 != 0) = false := bne_eq_false_iff_eq.mpr c6
       clear c6
       obtain rfl := Option.some.inj H
       go_wp2_with (first | ((with_reducible refine gate_callee (f := 63) rfl ?_); refine goesL_ (some 12) rfl rfl Tryd.func63 (by kernel_rfl) rfl #[.string (a0.extract (x3_1 : Int).toNat a0.size)] rfl GAK ?_; (with_reducible refine (parapetref9_runeAt.calls k1 (a0.extract (x3_1 : Int).toNat a0.size) t101 _ A5.out).mono ?_); rintro e w' ⟨rfl, ⟨nd, rfl⟩⟩; refine ⟨_, rfl, ?_⟩))
       go_ret
       exact ⟨RFK, DRK⟩
      ·rw [if_neg c6] at H
       have c6b0 : (t101 == 0) = false := beq_eq_false_iff_ne.mpr c6
       have c6b1 : (t101 != 0) = true := bne_iff_ne.mpr c6
       have H' := Aside0.mk H
       clear H
       go_wp2_with (first | ((with_reducible refine gate_callee (f := 63) rfl ?_); refine goesL_ (some 12) rfl rfl Tryd.func63 (by kernel_rfl) rfl #[.string (a0.extract (x3_1 : Int).toNat a0.size)] rfl GAK ?_; (with_reducible refine (parapetref9_runeAt.calls k1 (a0.extract (x3_1 : Int).toNat a0.size) t101 _ A5.out).mono ?_); rintro e w' ⟨rfl, ⟨nd, rfl⟩⟩; refine ⟨_, rfl, ?_⟩))
       go_roundg k1
       case measure => have := HK1.out; omega
       case rel => exact ⟨(wrap64 (x3_1 + t101)), RFK, H', ⟨by have := HK1.out; omega⟩, DRK⟩
     ·rw [if_neg c4] at H
      exact absurd H (by simp)
    ·rw [if_neg c3] at H
     exact absurd H (by simp)
   ·rw [if_neg c2] at H
    have c2b0 := decide_eq_false c2
    clear c2
    obtain rfl := Option.some.inj H
    go_wp2
    go_ret
    exact ⟨RFK, DRK⟩

/-! ### parapetref9_UTF8: function 28 -/
def parapetref9_UTF8.f (k : Nat) (a0 : ByteArray) : Option (Bool) := (parapetref9_Broken.f k a0).bind fun t102 => (some (t102 == (a0.size : Int)))
theorem parapetref9_UTF8.mono : ∀ a0 k, LeO (parapetref9_UTF8.f k a0) (parapetref9_UTF8.f (k + 1) a0) := by
 intro a0 k
 unfold parapetref9_UTF8.f
 repeat' first
   | (with_reducible exact parapetref9_Broken.mono _ _)
   | (with_reducible exact LeO.refl _)
   | (with_reducible exact LeO.none _)
   | (with_reducible refine LeO.ite ?_ ?_)
   | (with_reducible refine LeO.bind ?_ (fun _ => ?_))
   | exact parapetref9_Broken.mono _ _
   | exact LeO.none _
   | refine LeO.ite ?_ ?_
   | refine LeO.bind ?_ (fun _ => ?_)
theorem parapetref9_UTF8.calls (k : Nat) (a0 : ByteArray) (r : Bool) (w : World) (h : parapetref9_UTF8.f k a0 = some r) :
  Calls Tryd.prog 28 #[.string a0] w fun e w' => e = .returned (.bool r) ∧ Drawn0 w w' := by
 have H : ((parapetref9_Broken.f k a0).bind fun t102 => (some (t102 == (a0.size : Int)))) = some r := h
 clear h
 replace H := Option.bind_eq_some_iff.mp H
 obtain ⟨t102, A20, H⟩ := H
 (try dsimp only at H)
 have A2 := Aside0.mk A20
 clear A20
 obtain rfl := Option.some.inj H
 go_enter Tryd.func28, Tryd.ntmps28
 go_wp2_with (first | ((with_reducible refine gate_callee (f := 47) rfl ?_); refine goesL_ (some 4) rfl rfl Tryd.func47 (by kernel_rfl) rfl #[.string a0] rfl GAK ?_; (with_reducible refine (parapetref9_Broken.calls k a0 t102 _ A2.out).mono ?_); rintro e w' ⟨rfl, ⟨nd, rfl⟩⟩; refine ⟨_, rfl, ?_⟩))
 go_ret
 exact ⟨RFK, DRK⟩

end Go.Proofs.YtknkokkgefcdbaaDoor.PA
