-- half
-- written by pp.py, a program of this session's, which runs the kit's print with turns of its own; Lean checks it
import Derived.Test.YtknkokkgefcdbaaDoorBP
import Derived.Test.YtknkokkgefcdbaaDoorPAx0
import Derived.Test.YtknkokkgefcdbaaDoorPAx7
import Derived.Test.YtknkokkgefcdbaaDoorPAx9
namespace Go.Proofs.YtknkokkgefcdbaaDoor.PA
open Go.RowKit Go.Proofs.YtknkokkgefcdbaaDoorW.PrintWords Go.Proofs.YtknkokkgefcdbaaDoorW.PrintLast Go.Proofs.YtknkokkgefcdbaaDoorW.PrintMore
attribute [local go_sem] max2_int min2_int max_two min_two max_three min_three max_four min_four   -- for this text's walks alone
set_option maxHeartbeats 8000000
set_option maxRecDepth 100000
set_option linter.unusedVariables false
set_option linter.unusedSimpArgs false

/-! ### parapetref9_Number: function 24 -/
mutual
def parapetref9_Number.l0 : Nat → List ByteArray → Int → Int → Option (Int × Bool)
 | 0, _, _, _ => none
 | k + 1, x4, x5, x6 => if x6 < (x4.length : Int) then (if 0 ≤ x6 then ((parapetref9_part.f k (rdOf ByteArray.empty x4 x6)).bind fun bt153 => (if bt153.2 = true then (if (wrap64 (x6 + 1)) < (x4.length : Int) then (if bt153.1 > 255 then (parapetref9_Number.j1 k x4 x5 x6 bt153.1 true) else (if (wrap64 (x6 + 1)) = (x4.length : Int) then (if 0 ≤ (wrap64 (8 * (wrap64 (5 - (x4.length : Int))))) then (parapetref9_Number.j1 k x4 x5 x6 bt153.1 (decide (bt153.1 ≥ (shl .u64 1 (wrap64 (8 * (wrap64 (5 - (x4.length : Int))))))))) else (none)) else (parapetref9_Number.j1 k x4 x5 x6 bt153.1 false))) else (if (wrap64 (x6 + 1)) = (x4.length : Int) then (if 0 ≤ (wrap64 (8 * (wrap64 (5 - (x4.length : Int))))) then (parapetref9_Number.j1 k x4 x5 x6 bt153.1 (decide (bt153.1 ≥ (shl .u64 1 (wrap64 (8 * (wrap64 (5 - (x4.length : Int))))))))) else (none)) else (parapetref9_Number.j1 k x4 x5 x6 bt153.1 false))) else (parapetref9_Number.j1 k x4 x5 x6 bt153.1 true))) else (none)) else (some ((x5) % 4294967296, true))
def parapetref9_Number.j1 : Nat → List ByteArray → Int → Int → Int → Bool → Option (Int × Bool)
 | 0, _, _, _, _, _ => none
 | k + 1, x4, x5, x6, x7, x56 => if x56 = true then (some (0, false)) else (if (wrap64 (x6 + 1)) < (x4.length : Int) then (if 0 ≤ (wrap64 (8 * (wrap64 (3 - x6)))) then (parapetref9_Number.l0 k x4 (IntKind.u64.wrap (x5 + (shl .u64 x7 (wrap64 (8 * (wrap64 (3 - x6))))))) (wrap64 (x6 + 1))) else (none)) else (parapetref9_Number.l0 k x4 (IntKind.u64.wrap (x5 + x7)) (wrap64 (x6 + 1))))
end
def parapetref9_Number.f (k : Nat) (a0 : ByteArray) : Option (Int × Bool) := (parapetref9_parts.f k a0).bind fun t149 => (if (t149.length : Int) > 4 then (some (0, false)) else (parapetref9_Number.l0 k t149 0 0))
theorem parapetref9_Number.mono_l : ∀ k, (∀ y0 y1 y2, LeO (parapetref9_Number.l0 k y0 y1 y2) (parapetref9_Number.l0 (k + 1) y0 y1 y2)) ∧ (∀ y0 y1 y2 y3 y4, LeO (parapetref9_Number.j1 k y0 y1 y2 y3 y4) (parapetref9_Number.j1 (k + 1) y0 y1 y2 y3 y4))
 | 0 => ⟨fun _ _ _ r h => by simp [parapetref9_Number.l0] at h, fun _ _ _ _ _ r h => by simp [parapetref9_Number.j1] at h⟩
 | k + 1 => by
  obtain ⟨ih0, ih1⟩ := parapetref9_Number.mono_l k
  refine ⟨?_, ?_⟩
  ·intro y0 y1 y2
   unfold parapetref9_Number.l0
   repeat' first
   | (with_reducible exact ih0 _ _ _)
   | (with_reducible exact ih1 _ _ _ _ _)
   | (with_reducible exact parapetref9_part.mono _ _)
   | (with_reducible exact parapetref9_parts.mono _ _)
   | (with_reducible exact LeO.refl _)
   | (with_reducible exact LeO.none _)
   | (with_reducible refine LeO.ite ?_ ?_)
   | (with_reducible refine LeO.bind ?_ (fun _ => ?_))
   | exact ih0 _ _ _
   | exact ih1 _ _ _ _ _
   | exact parapetref9_part.mono _ _
   | exact parapetref9_parts.mono _ _
   | exact LeO.none _
   | refine LeO.ite ?_ ?_
   | refine LeO.bind ?_ (fun _ => ?_)
  ·intro y0 y1 y2 y3 y4
   unfold parapetref9_Number.j1
   repeat' first
   | (with_reducible exact ih0 _ _ _)
   | (with_reducible exact ih1 _ _ _ _ _)
   | (with_reducible exact parapetref9_part.mono _ _)
   | (with_reducible exact parapetref9_parts.mono _ _)
   | (with_reducible exact LeO.refl _)
   | (with_reducible exact LeO.none _)
   | (with_reducible refine LeO.ite ?_ ?_)
   | (with_reducible refine LeO.bind ?_ (fun _ => ?_))
   | exact ih0 _ _ _
   | exact ih1 _ _ _ _ _
   | exact parapetref9_part.mono _ _
   | exact parapetref9_parts.mono _ _
   | exact LeO.none _
   | refine LeO.ite ?_ ?_
   | refine LeO.bind ?_ (fun _ => ?_)
theorem parapetref9_Number.mono : ∀ a0 k, LeO (parapetref9_Number.f k a0) (parapetref9_Number.f (k + 1) a0) := by
 intro a0 k
 obtain ⟨ih0, ih1⟩ := parapetref9_Number.mono_l k
 unfold parapetref9_Number.f
 repeat' first
   | (with_reducible exact ih0 _ _ _)
   | (with_reducible exact ih1 _ _ _ _ _)
   | (with_reducible exact parapetref9_part.mono _ _)
   | (with_reducible exact parapetref9_parts.mono _ _)
   | (with_reducible exact LeO.refl _)
   | (with_reducible exact LeO.none _)
   | (with_reducible refine LeO.ite ?_ ?_)
   | (with_reducible refine LeO.bind ?_ (fun _ => ?_))
   | exact ih0 _ _ _
   | exact ih1 _ _ _ _ _
   | exact parapetref9_part.mono _ _
   | exact parapetref9_parts.mono _ _
   | exact LeO.none _
   | refine LeO.ite ?_ ?_
   | refine LeO.bind ?_ (fun _ => ?_)
theorem parapetref9_Number.calls (k : Nat) (a0 : ByteArray) (r1 : Int) (r2 : Bool) (w : World) (h : parapetref9_Number.f k a0 = some (r1, r2)) :
  Calls Tryd.prog 24 #[.string a0] w fun e w' => e = .returned (.tuple #[.int .u32 r1, .bool r2]) ∧ Below w.heap.size w w' := by
 have HB := Aside0.mk (Below.refl w.heap.size w)
 have H : ((parapetref9_parts.f k a0).bind fun t149 => (if (t149.length : Int) > 4 then (some (0, false)) else (parapetref9_Number.l0 k t149 0 0))) = some (r1, r2) := h
 clear h
 replace H := Option.bind_eq_some_iff.mp H
 obtain ⟨t149, A20, H⟩ := H
 replace H : (if (t149.length : Int) > 4 then (some (0, false)) else (parapetref9_Number.l0 k t149 0 0)) = some (r1, r2) := H
 have A2 := Aside0.mk A20
 clear A20
 by_cases c3 : (t149.length : Int) > 4
 ·rw [if_pos c3] at H
  have c3b0 := decide_eq_true c3
  have c3b1 : decide (4 < t149.length) = true := decide_eq_true (by omega)
  clear c3
  simp only [Option.some.injEq, Prod.mk.injEq] at H
  obtain ⟨rfl, rfl⟩ := H
  go_enter Tryd.func24, Tryd.ntmps24
  go_wp2_with (first | ((with_reducible refine gate_callee (f := 44) rfl ?_); refine goesL_ (some 10) rfl rfl Tryd.func44 (by kernel_rfl) rfl #[.string a0] rfl GAK ?_; (with_reducible refine (parapetref9_parts.calls k a0 t149 _ A2.out).mono ?_); rintro e w4 ⟨v150, rfl, ho0, hb⟩; refine ⟨_, rfl, ?_⟩; have n0_ := Aside0.mk (Kd.R_lower ho0 (below_size BWK)); have n1_ := Aside0.mk (below_step BWK hb); clear HB; have HO151 := n0_; have HB := n1_; clear n0_ n1_; (try clear hb); (try clear hb2); (try clear hk); (try clear hi); (try clear ho0); obtain ⟨Ao5, co5, eo5⟩ := Kd.R_slice HO151.out; subst eo5))
  go_ret2
  exact ⟨ERK, BWK⟩
 ·rw [if_neg c3] at H
  have c3b0 := decide_eq_false c3
  have c3b1 : decide (4 < t149.length) = false := decide_eq_false (by omega)
  clear c3
  have H' := Aside0.mk H
  clear H
  go_enter Tryd.func24, Tryd.ntmps24
  go_wp2_with (first | ((with_reducible refine gate_callee (f := 44) rfl ?_); refine goesL_ (some 10) rfl rfl Tryd.func44 (by kernel_rfl) rfl #[.string a0] rfl GAK ?_; (with_reducible refine (parapetref9_parts.calls k a0 t149 _ A2.out).mono ?_); rintro e w6 ⟨v150, rfl, ho0, hb⟩; refine ⟨_, rfl, ?_⟩; have n0_ := Aside0.mk (Kd.R_lower ho0 (below_size BWK)); have n1_ := Aside0.mk (below_step BWK hb); clear HB; have HO151 := n0_; have HB := n1_; clear n0_ n1_; (try clear hb); (try clear hb2); (try clear hk); (try clear hi); (try clear ho0); obtain ⟨Ao7, co7, eo7⟩ := Kd.R_slice HO151.out; subst eo7))
  go_loopg [5, 6] k (fun kq v5 v6 w' => ∃ (x5_1 : Int) (x6_1 : Int), v5 = .int .u64 x5_1 ∧ v6 = .int .i64 x6_1 ∧ Aside0 (parapetref9_Number.l0 kq t149 x5_1 x6_1 = some (r1, r2)) ∧ Aside0 (kq ≤ k) ∧ Aside0 (Kd.R Kd.string 9 w' w.heap.size (fun _ => True) (.slice Ao7 t149.length co7) t149) ∧ Aside0 (Below w.heap.size w w'))
  case atStart => exact ⟨(0), (0), RFK, RFK, H', ⟨Nat.le_refl _⟩, ⟨by (with_reducible repeat (first | apply Kd.R_alloc | apply Kd.R_drewN | apply Kd.R_drew)); exact HO151.out⟩, ⟨BWK⟩⟩
  case round =>
   clear H'
   try clear c2
   try clear p2
   try clear c3
   try clear c3b0
   try clear c3b1
   try clear c4
   obtain ⟨x5_1, x6_1, rfl, rfl, HA, HK1, HO_4, HB⟩ := hrel
   cases gk with
   | zero => exact absurd HA.out (by simp [parapetref9_Number.l0])
   | succ k1 =>
    have H := HA.out
    clear HA
    simp only [parapetref9_Number.l0] at H
    by_cases c8 : x6_1 < (t149.length : Int)
    ·rw [if_pos c8] at H
     have c8b0 := decide_eq_true c8
     clear c8
     by_cases c9 : 0 ≤ x6_1
     ·rw [if_pos c9] at H
      have c9b0 := decide_eq_true c9
      clear c9
      replace H := Option.bind_eq_some_iff.mp H
      obtain ⟨⟨t153, t154⟩, A100, H⟩ := H
      replace H : (if t154 = true then (if (wrap64 (x6_1 + 1)) < (t149.length : Int) then (if t153 > 255 then (parapetref9_Number.j1 k1 t149 x5_1 x6_1 t153 true) else (if (wrap64 (x6_1 + 1)) = (t149.length : Int) then (if 0 ≤ (wrap64 (8 * (wrap64 (5 - (t149.length : Int))))) then (parapetref9_Number.j1 k1 t149 x5_1 x6_1 t153 (decide (t153 ≥ (shl .u64 1 (wrap64 (8 * (wrap64 (5 - (t149.length : Int))))))))) else (none)) else (parapetref9_Number.j1 k1 t149 x5_1 x6_1 t153 false))) else (if (wrap64 (x6_1 + 1)) = (t149.length : Int) then (if 0 ≤ (wrap64 (8 * (wrap64 (5 - (t149.length : Int))))) then (parapetref9_Number.j1 k1 t149 x5_1 x6_1 t153 (decide (t153 ≥ (shl .u64 1 (wrap64 (8 * (wrap64 (5 - (t149.length : Int))))))))) else (none)) else (parapetref9_Number.j1 k1 t149 x5_1 x6_1 t153 false))) else (parapetref9_Number.j1 k1 t149 x5_1 x6_1 t153 true)) = some (r1, r2) := H
      have A10 := Aside0.mk A100
      clear A100
      have HC11 := Aside0.mk H
      clear H
      have p152 : 0 ≤ (x6_1 : Int) := odA
      have q152 : x6_1 < (t149.length : Int) := odA
      obtain ⟨ad152, e152, hx152_0⟩ := Kd.at_string (Kd.R_reads' HO_4.out).2.2 x6_1 p152 q152
      cases e152
      replace p152 := eq_true p152
      replace q152 := eq_true q152
      go_upto_region 9 with (first | ((with_reducible refine gate_callee (f := 45) rfl ?_); refine goesL_ (some 25) rfl rfl Tryd.func45 (by kernel_rfl) rfl #[.string (rdOf ByteArray.empty t149 x6_1)] rfl GAK ?_; (with_reducible refine (parapetref9_part.calls k1 (rdOf ByteArray.empty t149 x6_1) t153 t154 _ A10.out).mono ?_); rintro e w' ⟨rfl, ⟨nd, rfl⟩⟩; refine ⟨_, rfl, ?_⟩))
      (try simp only [Act.put, List.setIfInBounds_toArray, List.set_cons_zero, List.set_cons_succ])
      go_cut [56] (fun v56 wc => ∃ (kq : Nat) (x56_10 : Bool), v56 = .bool x56_10 ∧ Aside0 (parapetref9_Number.j1 kq t149 x5_1 x6_1 t153 x56_10 = some (r1, r2)) ∧ Aside0 (kq ≤ k1) ∧ Aside0 (Kd.R Kd.string 9 wc w.heap.size (fun _ => True) (.slice (some ad152) t149.length co7) t149) ∧ Aside0 (Below w.heap.size w wc))
      case first =>
       have H := HC11.out
       clear HC11
       by_cases c12 : t154 = true
       ·subst c12
        have H1 : (if (wrap64 (x6_1 + 1)) < (t149.length : Int) then (if t153 > 255 then (parapetref9_Number.j1 k1 t149 x5_1 x6_1 t153 true) else (if (wrap64 (x6_1 + 1)) = (t149.length : Int) then (if 0 ≤ (wrap64 (8 * (wrap64 (5 - (t149.length : Int))))) then (parapetref9_Number.j1 k1 t149 x5_1 x6_1 t153 (decide (t153 ≥ (shl .u64 1 (wrap64 (8 * (wrap64 (5 - (t149.length : Int))))))))) else (none)) else (parapetref9_Number.j1 k1 t149 x5_1 x6_1 t153 false))) else (if (wrap64 (x6_1 + 1)) = (t149.length : Int) then (if 0 ≤ (wrap64 (8 * (wrap64 (5 - (t149.length : Int))))) then (parapetref9_Number.j1 k1 t149 x5_1 x6_1 t153 (decide (t153 ≥ (shl .u64 1 (wrap64 (8 * (wrap64 (5 - (t149.length : Int))))))))) else (none)) else (parapetref9_Number.j1 k1 t149 x5_1 x6_1 t153 false))) = some (r1, r2) := by rw [if_pos rfl] at H; exact H
        clear H
        have H := H1
        clear H1
        by_cases c13 : (wrap64 (x6_1 + 1)) < (t149.length : Int)
        ·rw [if_pos c13] at H
         have c13b0 := decide_eq_true c13
         clear c13
         (first | rw [c13b0] | (simp only [i64_w, i32_w]; rw [c13b0]) | skip)
         by_cases c14 : t153 > 255
         ·rw [if_pos c14] at H
          have c14b0 := decide_eq_true c14
          clear c14
          have H' := Aside0.mk H
          clear H
          go_wp2
          go_meet
          case rel => exact ⟨_, (true), RFK, H', ⟨by have := HK1.out; first | omega | exact Nat.le_refl _⟩, ⟨by (with_reducible repeat (first | apply Kd.R_alloc | apply Kd.R_drewN | apply Kd.R_drew)); exact HO_4.out⟩, ⟨BWK⟩⟩
         ·rw [if_neg c14] at H
          have c14b0 := decide_eq_false c14
          clear c14
          by_cases c15 : (wrap64 (x6_1 + 1)) = (t149.length : Int)
          ·rw [if_pos c15] at H
           have c15b0 : ((wrap64 (x6_1 + 1)) == (t149.length : Int)) = true := beq_iff_eq.mpr c15
           have c15b1 : ((wrap64 (x6_1 + 1)) != (t149.length : Int)) = false := bne_eq_false_iff_eq.mpr c15
           clear c15
           obtain ⟨ji16, hji16⟩ : ∃ j_ : Int, (wrap64 (8 * (wrap64 (5 - (t149.length : Int))))) = j_ := ⟨_, rfl⟩
           replace H : (if 0 ≤ (ji16) then (parapetref9_Number.j1 k1 t149 x5_1 x6_1 t153 (decide (t153 ≥ (shl .u64 1 (ji16))))) else (none)) = some (r1, r2) := by first | (rw [hji16] at H; exact H) | (simp only [hji16] at H ⊢; exact H)
           have hji16w : (IntKind.i64.wrap (8 * (wrap64 (5 - (t149.length : Int))))) = ji16 := (i64_w _).trans hji16
           by_cases c17 : 0 ≤ (ji16)
           ·rw [if_pos c17] at H
            have c17b0 := eq_true c17
            have c17b1 := decide_eq_true c17
            clear c17
            obtain ⟨ji18, hji18⟩ : ∃ j_ : Int, (shl .u64 1 (ji16)) = j_ := ⟨_, rfl⟩
            replace H : (parapetref9_Number.j1 k1 t149 x5_1 x6_1 t153 (decide (t153 ≥ (ji18)))) = some (r1, r2) := by first | (rw [hji18] at H; exact H) | (simp only [hji18] at H ⊢; exact H)
            have hji18_ : (IntKind.u64.wrap (1 * 2 ^ min (ji16).toNat 64)) = ji18 := hji18
            have hji18z : (ji16) ≤ 64 → (IntKind.u64.wrap (1 * 2 ^ (ji16).toNat)) = ji18 := shl_small hji18
            have hji18u : (IntKind.u64.wrap (2 ^ min (ji16).toNat 64)) = ji18 := by have h_ := hji18_; rw [Int.one_mul] at h_; exact h_
            have hji18v : (ji16) ≤ 64 → (IntKind.u64.wrap (2 ^ (ji16).toNat)) = ji18 := fun hle_ => by have h_ := hji18z hle_; rw [Int.one_mul] at h_; exact h_
            have H' := Aside0.mk H
            clear H
            go_wp2
            go_meet
            case rel => exact ⟨_, (decide (t153 ≥ (ji18))), (by first | rfl | (simp; done) | (simp only [← hji18] <;> (first | rfl | simp)) | (simp [*]; done) | (simp [*] <;> (generalize ByteArray.toList _ = l_; cases l_ <;> rfl))), H', ⟨by have := HK1.out; first | omega | exact Nat.le_refl _⟩, ⟨by (with_reducible repeat (first | apply Kd.R_alloc | apply Kd.R_drewN | apply Kd.R_drew)); exact HO_4.out⟩, ⟨BWK⟩⟩
           ·rw [if_neg c17] at H
            exact absurd H (by simp)
          ·rw [if_neg c15] at H
           have c15b0 : ((wrap64 (x6_1 + 1)) == (t149.length : Int)) = false := beq_eq_false_iff_ne.mpr c15
           have c15b1 : ((wrap64 (x6_1 + 1)) != (t149.length : Int)) = true := bne_iff_ne.mpr c15
           have H' := Aside0.mk H
           clear H
           go_wp2
           go_meet
           case rel => exact ⟨_, (false), RFK, H', ⟨by have := HK1.out; first | omega | exact Nat.le_refl _⟩, ⟨by (with_reducible repeat (first | apply Kd.R_alloc | apply Kd.R_drewN | apply Kd.R_drew)); exact HO_4.out⟩, ⟨BWK⟩⟩
        ·rw [if_neg c13] at H
         have c13b0 := decide_eq_false c13
         clear c13
         (first | rw [c13b0] | (simp only [i64_w, i32_w]; rw [c13b0]) | skip)
         by_cases c19 : (wrap64 (x6_1 + 1)) = (t149.length : Int)
         ·rw [if_pos c19] at H
          have c19b0 : ((wrap64 (x6_1 + 1)) == (t149.length : Int)) = true := beq_iff_eq.mpr c19
          have c19b1 : ((wrap64 (x6_1 + 1)) != (t149.length : Int)) = false := bne_eq_false_iff_eq.mpr c19
          clear c19
          obtain ⟨ji20, hji20⟩ : ∃ j_ : Int, (wrap64 (8 * (wrap64 (5 - (t149.length : Int))))) = j_ := ⟨_, rfl⟩
          replace H : (if 0 ≤ (ji20) then (parapetref9_Number.j1 k1 t149 x5_1 x6_1 t153 (decide (t153 ≥ (shl .u64 1 (ji20))))) else (none)) = some (r1, r2) := by first | (rw [hji20] at H; exact H) | (simp only [hji20] at H ⊢; exact H)
          have hji20w : (IntKind.i64.wrap (8 * (wrap64 (5 - (t149.length : Int))))) = ji20 := (i64_w _).trans hji20
          by_cases c21 : 0 ≤ (ji20)
          ·rw [if_pos c21] at H
           have c21b0 := eq_true c21
           have c21b1 := decide_eq_true c21
           clear c21
           obtain ⟨ji22, hji22⟩ : ∃ j_ : Int, (shl .u64 1 (ji20)) = j_ := ⟨_, rfl⟩
           replace H : (parapetref9_Number.j1 k1 t149 x5_1 x6_1 t153 (decide (t153 ≥ (ji22)))) = some (r1, r2) := by first | (rw [hji22] at H; exact H) | (simp only [hji22] at H ⊢; exact H)
           have hji22_ : (IntKind.u64.wrap (1 * 2 ^ min (ji20).toNat 64)) = ji22 := hji22
           have hji22z : (ji20) ≤ 64 → (IntKind.u64.wrap (1 * 2 ^ (ji20).toNat)) = ji22 := shl_small hji22
           have hji22u : (IntKind.u64.wrap (2 ^ min (ji20).toNat 64)) = ji22 := by have h_ := hji22_; rw [Int.one_mul] at h_; exact h_
           have hji22v : (ji20) ≤ 64 → (IntKind.u64.wrap (2 ^ (ji20).toNat)) = ji22 := fun hle_ => by have h_ := hji22z hle_; rw [Int.one_mul] at h_; exact h_
           have H' := Aside0.mk H
           clear H
           go_wp2
           go_meet
           case rel => exact ⟨_, (decide (t153 ≥ (ji22))), (by first | rfl | (simp; done) | (simp only [← hji22] <;> (first | rfl | simp)) | (simp [*]; done) | (simp [*] <;> (generalize ByteArray.toList _ = l_; cases l_ <;> rfl))), H', ⟨by have := HK1.out; first | omega | exact Nat.le_refl _⟩, ⟨by (with_reducible repeat (first | apply Kd.R_alloc | apply Kd.R_drewN | apply Kd.R_drew)); exact HO_4.out⟩, ⟨BWK⟩⟩
          ·rw [if_neg c21] at H
           exact absurd H (by simp)
         ·rw [if_neg c19] at H
          have c19b0 : ((wrap64 (x6_1 + 1)) == (t149.length : Int)) = false := beq_eq_false_iff_ne.mpr c19
          have c19b1 : ((wrap64 (x6_1 + 1)) != (t149.length : Int)) = true := bne_iff_ne.mpr c19
          have H' := Aside0.mk H
          clear H
          go_wp2
          go_meet
          case rel => exact ⟨_, (false), RFK, H', ⟨by have := HK1.out; first | omega | exact Nat.le_refl _⟩, ⟨by (with_reducible repeat (first | apply Kd.R_alloc | apply Kd.R_drewN | apply Kd.R_drew)); exact HO_4.out⟩, ⟨BWK⟩⟩
       ·replace c12 := Bool.eq_false_iff.mpr c12
        subst c12
        have H1 : (parapetref9_Number.j1 k1 t149 x5_1 x6_1 t153 true) = some (r1, r2) := by rw [if_neg (show ¬ (false = true) by decide)] at H; exact H
        clear H
        have H := H1
        clear H1
        have H' := Aside0.mk H
        clear H
        go_wp2
        go_meet
        case rel => exact ⟨_, (true), RFK, H', ⟨by have := HK1.out; first | omega | exact Nat.le_refl _⟩, ⟨by (with_reducible repeat (first | apply Kd.R_alloc | apply Kd.R_drewN | apply Kd.R_drew)); exact HO_4.out⟩, ⟨BWK⟩⟩
      case rest =>
       clear HC11
       try clear c1
       try clear p1
       try clear q1
       try clear hx1
       try clear c2
       try clear p2
       try clear c3
       try clear c3b0
       try clear c3b1
       try clear c4
       try clear p6
       try clear c8
       try clear c8b0
       try clear c9
       try clear c9b0
       try clear c12
       try clear c13
       try clear c13b0
       try clear c14
       try clear c14b0
       try clear c15
       try clear c15b0
       try clear c15b1
       try clear p15
       try clear q15
       try clear hx15
       try clear c17
       try clear c17b0
       try clear c17b1
       try clear c19
       try clear c19b0
       try clear c19b1
       try clear c21
       try clear c21b0
       try clear c21b1
       try clear hx152_0
       try clear p152
       try clear p2
       try clear q152
       obtain ⟨kq, x56_10, rfl, HA, HJ10, HO_4, HB⟩ := hcut
       cases kq with
       | zero => exact absurd HA.out (by simp [parapetref9_Number.j1])
       | succ kj10 =>
        have H := HA.out
        clear HA
        simp only [parapetref9_Number.j1] at H
        by_cases c23 : x56_10 = true
        ·subst c23
         have H1 : (some (0, false)) = some (r1, r2) := by rw [if_pos rfl] at H; exact H
         clear H
         have H := H1
         clear H1
         simp only [Option.some.injEq, Prod.mk.injEq] at H
         obtain ⟨rfl, rfl⟩ := H
         go_wp2
         go_ret2
         exact ⟨ERK, BWK⟩
        ·replace c23 := Bool.eq_false_iff.mpr c23
         subst c23
         have H1 : (if (wrap64 (x6_1 + 1)) < (t149.length : Int) then (if 0 ≤ (wrap64 (8 * (wrap64 (3 - x6_1)))) then (parapetref9_Number.l0 kj10 t149 (IntKind.u64.wrap (x5_1 + (shl .u64 t153 (wrap64 (8 * (wrap64 (3 - x6_1))))))) (wrap64 (x6_1 + 1))) else (none)) else (parapetref9_Number.l0 kj10 t149 (IntKind.u64.wrap (x5_1 + t153)) (wrap64 (x6_1 + 1)))) = some (r1, r2) := by rw [if_neg (show ¬ (false = true) by decide)] at H; exact H
         clear H
         have H := H1
         clear H1
         by_cases c24 : (wrap64 (x6_1 + 1)) < (t149.length : Int)
         ·rw [if_pos c24] at H
          have c24b0 := decide_eq_true c24
          clear c24
          obtain ⟨ji25, hji25⟩ : ∃ j_ : Int, (wrap64 (8 * (wrap64 (3 - x6_1)))) = j_ := ⟨_, rfl⟩
          replace H : (if 0 ≤ (ji25) then (parapetref9_Number.l0 kj10 t149 (IntKind.u64.wrap (x5_1 + (shl .u64 t153 (ji25)))) (wrap64 (x6_1 + 1))) else (none)) = some (r1, r2) := by first | (rw [hji25] at H; exact H) | (simp only [hji25] at H ⊢; exact H)
          have hji25w : (IntKind.i64.wrap (8 * (wrap64 (3 - x6_1)))) = ji25 := (i64_w _).trans hji25
          by_cases c26 : 0 ≤ (ji25)
          ·rw [if_pos c26] at H
           have c26b0 := eq_true c26
           have c26b1 := decide_eq_true c26
           clear c26
           obtain ⟨ji27, hji27⟩ : ∃ j_ : Int, (shl .u64 t153 (ji25)) = j_ := ⟨_, rfl⟩
           replace H : (parapetref9_Number.l0 kj10 t149 (IntKind.u64.wrap (x5_1 + (ji27))) (wrap64 (x6_1 + 1))) = some (r1, r2) := by first | (rw [hji27] at H; exact H) | (simp only [hji27] at H ⊢; exact H)
           have hji27_ : (IntKind.u64.wrap (t153 * 2 ^ min (ji25).toNat 64)) = ji27 := hji27
           have hji27z : (ji25) ≤ 64 → (IntKind.u64.wrap (t153 * 2 ^ (ji25).toNat)) = ji27 := shl_small hji27
           have H' := Aside0.mk H
           clear H
           go_wp2
           go_roundg kj10
           case measure => have := HK1.out; have := HJ10.out; omega
           case rel => exact ⟨(IntKind.u64.wrap (x5_1 + (ji27))), (wrap64 (x6_1 + 1)), (by first | rfl | (simp; done) | (simp only [← hji27] <;> (first | rfl | simp)) | (simp [*]; done) | (simp [*] <;> (generalize ByteArray.toList _ = l_; cases l_ <;> rfl))), RFK, H', ⟨by have := HK1.out; have := HJ10.out; omega⟩, ⟨by (with_reducible repeat (first | apply Kd.R_alloc | apply Kd.R_drewN | apply Kd.R_drew)); exact HO_4.out⟩, ⟨BWK⟩⟩
          ·rw [if_neg c26] at H
           exact absurd H (by simp)
         ·rw [if_neg c24] at H
          have c24b0 := decide_eq_false c24
          clear c24
          have H' := Aside0.mk H
          clear H
          go_wp2
          go_roundg kj10
          case measure => have := HK1.out; have := HJ10.out; omega
          case rel => exact ⟨(IntKind.u64.wrap (x5_1 + t153)), (wrap64 (x6_1 + 1)), RFK, RFK, H', ⟨by have := HK1.out; have := HJ10.out; omega⟩, ⟨by (with_reducible repeat (first | apply Kd.R_alloc | apply Kd.R_drewN | apply Kd.R_drew)); exact HO_4.out⟩, ⟨BWK⟩⟩
     ·rw [if_neg c9] at H
      exact absurd H (by simp)
    ·rw [if_neg c8] at H
     have c8b0 := decide_eq_false c8
     clear c8
     simp only [Option.some.injEq, Prod.mk.injEq] at H
     obtain ⟨rfl, rfl⟩ := H
     go_wp2
     go_ret2
     exact ⟨ERK, BWK⟩

end Go.Proofs.YtknkokkgefcdbaaDoor.PA
