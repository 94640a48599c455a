-- half
-- written by pp.py, a program of this session's, which runs the kit's print with turns of its own; Lean checks it
import Derived.Test.YtknkokkgefcdbaaDoorBP
import Derived.Test.YtknkokkgefcdbaaDoorPAx0
import Derived.Test.YtknkokkgefcdbaaDoorPAx15
namespace Go.Proofs.YtknkokkgefcdbaaDoor.PA
open Go.RowKit Go.Proofs.YtknkokkgefcdbaaDoorW.PrintWords Go.Proofs.YtknkokkgefcdbaaDoorW.PrintLast Go.Proofs.YtknkokkgefcdbaaDoorW.PrintMore
attribute [local go_sem] max2_int min2_int max_two min_two max_three min_three max_four min_four   -- for this text's walks alone
set_option maxHeartbeats 8000000
set_option maxRecDepth 100000
set_option linter.unusedVariables false
set_option linter.unusedSimpArgs false

/-! ### host_parts: function 55 -/
def host_parts.f (k : Nat) (a0 : ByteArray) : Option (List ByteArray) := (ascii_Split.f k a0 46).bind fun t241 => (if (wrap64 ((t241.length : Int) - 1)) > 0 then (if 0 ≤ (wrap64 ((t241.length : Int) - 1)) then (if (wrap64 ((t241.length : Int) - 1)) < (t241.length : Int) then (if (rdOf ByteArray.empty t241 (wrap64 ((t241.length : Int) - 1))).toList = ([] : List UInt8) then (if (wrap64 ((t241.length : Int) - 1)) ≤ (t241.length : Int) then (some (t241.take ((wrap64 ((t241.length : Int) - 1)) : Int).toNat)) else (none)) else (some t241)) else (none)) else (none)) else (some t241))
theorem host_parts.mono : ∀ a0 k, LeO (host_parts.f k a0) (host_parts.f (k + 1) a0) := by
 intro a0 k
 unfold host_parts.f
 repeat' first
   | (with_reducible exact ascii_Split.mono _ _ _)
   | (with_reducible exact LeO.refl _)
   | (with_reducible exact LeO.none _)
   | (with_reducible refine LeO.ite ?_ ?_)
   | (with_reducible refine LeO.bind ?_ (fun _ => ?_))
   | exact ascii_Split.mono _ _ _
   | exact LeO.none _
   | refine LeO.ite ?_ ?_
   | refine LeO.bind ?_ (fun _ => ?_)
theorem host_parts.calls (k : Nat) (a0 : ByteArray) (r : List ByteArray) (w : World) (h : host_parts.f k a0 = some r) :
  Calls Tryd.prog 55 #[.string a0] w fun e w' => ∃ v0_ : Value, e = .returned (v0_) ∧ Kd.R Kd.string 9 w' w.heap.size (fun _ => True) v0_ r ∧ Below w.heap.size w w' := by
 have HB := Aside0.mk (Below.refl w.heap.size w)
 have H : ((ascii_Split.f k a0 46).bind fun t241 => (if (wrap64 ((t241.length : Int) - 1)) > 0 then (if 0 ≤ (wrap64 ((t241.length : Int) - 1)) then (if (wrap64 ((t241.length : Int) - 1)) < (t241.length : Int) then (if (rdOf ByteArray.empty t241 (wrap64 ((t241.length : Int) - 1))).toList = ([] : List UInt8) then (if (wrap64 ((t241.length : Int) - 1)) ≤ (t241.length : Int) then (some (t241.take ((wrap64 ((t241.length : Int) - 1)) : Int).toNat)) else (none)) else (some t241)) else (none)) else (none)) else (some t241))) = some r := h
 clear h
 replace H := Option.bind_eq_some_iff.mp H
 obtain ⟨t241, A20, H⟩ := H
 (try dsimp only at H)
 have A2 := Aside0.mk A20
 clear A20
 by_cases c3 : (wrap64 ((t241.length : Int) - 1)) > 0
 ·rw [if_pos c3] at H
  have c3b0 := decide_eq_true c3
  clear c3
  obtain ⟨ji4, hji4⟩ : ∃ j_ : Int, (wrap64 ((t241.length : Int) - 1)) = j_ := ⟨_, rfl⟩
  replace H : (if 0 ≤ (ji4) then (if (ji4) < (t241.length : Int) then (if (rdOf ByteArray.empty t241 (ji4)).toList = ([] : List UInt8) then (if (ji4) ≤ (t241.length : Int) then (some (t241.take ((ji4) : Int).toNat)) else (none)) else (some t241)) else (none)) else (none)) = some r := by first | (rw [hji4] at H; exact H) | (simp only [hji4] at H ⊢; exact H)
  (try rw [hji4] at c3b0)
  (try rw [hji4] at A2)
  have hji4w : (IntKind.i64.wrap ((t241.length : Int) - 1)) = ji4 := (i64_w _).trans hji4
  by_cases c5 : 0 ≤ (ji4)
  ·rw [if_pos c5] at H
   have c5b0 := decide_eq_true c5
   clear c5
   by_cases c6 : (ji4) < (t241.length : Int)
   ·rw [if_pos c6] at H
    have c6b0 := decide_eq_true c6
    clear c6
    by_cases c7 : (rdOf ByteArray.empty t241 (ji4)).toList = ([] : List UInt8)
    ·rw [if_pos c7] at H
     have c7b0 : ((rdOf ByteArray.empty t241 (ji4)).toList == ([] : List UInt8)) = true := beq_iff_eq.mpr c7
     have c7b1 : ((rdOf ByteArray.empty t241 (ji4)).toList != ([] : List UInt8)) = false := bne_eq_false_iff_eq.mpr c7
     have c7b9 : (!(rdOf ByteArray.empty t241 (ji4)).toList.isEmpty) = false := by simp [c7]
     (try rw [c7b9])
     clear c7
     by_cases c8 : (ji4) ≤ (t241.length : Int)
     ·rw [if_pos c8] at H
      have c8b0 := eq_true c8
      have c8b1 := decide_eq_true c8
      clear c8
      obtain ⟨y245, hy245⟩ : ∃ y_ : List ByteArray, y_ = (t241.take ((ji4) : Int).toNat) := ⟨_, rfl⟩
      replace H : (some y245) = some r := by first | (rw [hy245]; with_reducible exact H) | (have H2_ := (Option.bind_some _ _).symm.trans H; rw [hy245]; with_reducible exact H2_) | (have H2_ := (Option.bind_some _ _).symm.trans H; with_reducible exact H2_) | with_reducible exact H | (rw [hy245]; exact H) | exact H
      have Ny245 := Aside0.mk hy245
      clear hy245
      obtain rfl := Option.some.inj H
      go_enter Tryd.func55, Tryd.ntmps55
      go_wp2_with (first | ((with_reducible refine gate_callee (f := 66) rfl ?_); refine goesL_ (some 6) rfl rfl Tryd.func66 (by kernel_rfl) rfl #[.string a0, .int .u8 46] rfl GAK ?_; (with_reducible refine (ascii_Split.calls k a0 46 t241 _ A2.out).mono ?_); rintro e w9 ⟨v242, rfl, ho0, hb⟩; refine ⟨_, rfl, ?_⟩; have n0_ := Aside0.mk (Kd.R_lower ho0 (below_size BWK)); have n1_ := Aside0.mk (below_step BWK hb); clear HB; have HO243 := n0_; have HB := n1_; clear n0_ n1_; (try clear hb); (try clear hb2); (try clear hk); (try clear hi); (try clear ho0); obtain ⟨Ao10, co10, eo10⟩ := Kd.R_slice HO243.out; subst eo10; have p244 : 0 ≤ ((ji4) : Int) := odA; have q244 : (ji4) < (t241.length : Int) := odA; obtain ⟨ad244, e244, hx244_0⟩ := Kd.at_string (Kd.R_reads' HO243.out).2.2 (ji4) p244 q244; cases e244; replace p244 := eq_true p244; replace q244 := eq_true q244; have q11 : ((ji4) : Int) ≤ ((t241.length : Int) : Int) := odA; obtain ⟨i011, hi011, _, hsz11, _⟩ := info_parts info9; have hcut11 := cut_to (P := Tryd.prog) 39 9 .i64 Tryd.underlying39 hi011 (some ad244) t241.length co10 (ji4) odA q11 (Kd.R_reads' HO243.out).2.1; have hr11 := Kd.R_take (m := ((ji4) : Int).toNat) HO243.out (by first | omega | (have hl_ := (Kd.R_reads' HO243.out).1; omega)); have hy11 : y245.length = ((ji4) : Int).toNat := (by rw [Ny245.out, List.length_take]; first | omega | (have hl_ := (Kd.R_reads' HO243.out).1; omega)); rw [← Ny245.out] at hr11; rw [← hy11] at hr11 hcut11; clear hy11 hi011 hsz11 HO243; have HO247 := Aside0.mk hr11; clear hr11; replace q11 := eq_true q11))
      go_ret
      exact ⟨_, by first | rfl | (simp [errW_none, errW_some] <;> rfl) | (simp only [← hji4]; first | rfl | (simp [errW_none, errW_some] <;> rfl)) | (simp [*, errW_none, errW_some] <;> rfl), by (with_reducible repeat (first | apply Kd.R_alloc | apply Kd.R_drewN | apply Kd.R_drew)); exact HO247.out, BWK⟩
     ·rw [if_neg c8] at H
      exact absurd H (by simp)
    ·rw [if_neg c7] at H
     have c7b0 : ((rdOf ByteArray.empty t241 (ji4)).toList == ([] : List UInt8)) = false := beq_eq_false_iff_ne.mpr c7
     have c7b1 : ((rdOf ByteArray.empty t241 (ji4)).toList != ([] : List UInt8)) = true := bne_iff_ne.mpr c7
     have c7b9 : (!(rdOf ByteArray.empty t241 (ji4)).toList.isEmpty) = true := by simp [c7]
     (try rw [c7b9])
     obtain rfl := Option.some.inj H
     go_enter Tryd.func55, Tryd.ntmps55
     go_wp2_with (first | ((with_reducible refine gate_callee (f := 66) rfl ?_); refine goesL_ (some 6) rfl rfl Tryd.func66 (by kernel_rfl) rfl #[.string a0, .int .u8 46] rfl GAK ?_; (with_reducible refine (ascii_Split.calls k a0 46 t241 _ A2.out).mono ?_); rintro e w12 ⟨v242, rfl, ho0, hb⟩; refine ⟨_, rfl, ?_⟩; have n0_ := Aside0.mk (Kd.R_lower ho0 (below_size BWK)); have n1_ := Aside0.mk (below_step BWK hb); clear HB; have HO243 := n0_; have HB := n1_; clear n0_ n1_; (try clear hb); (try clear hb2); (try clear hk); (try clear hi); (try clear ho0); obtain ⟨Ao13, co13, eo13⟩ := Kd.R_slice HO243.out; subst eo13; have p244 : 0 ≤ ((ji4) : Int) := odA; have q244 : (ji4) < (t241.length : Int) := odA; obtain ⟨ad244, e244, hx244_0⟩ := Kd.at_string (Kd.R_reads' HO243.out).2.2 (ji4) p244 q244; cases e244; replace p244 := eq_true p244; replace q244 := eq_true q244))
     go_ret
     exact ⟨_, by first | rfl | (simp [errW_none, errW_some] <;> rfl) | (simp only [← hji4]; first | rfl | (simp [errW_none, errW_some] <;> rfl)) | (simp [*, errW_none, errW_some] <;> rfl), by (with_reducible repeat (first | apply Kd.R_alloc | apply Kd.R_drewN | apply Kd.R_drew)); exact HO243.out, BWK⟩
   ·rw [if_neg c6] at H
    exact absurd H (by simp)
  ·rw [if_neg c5] at H
   exact absurd H (by simp)
 ·rw [if_neg c3] at H
  have c3b0 := decide_eq_false c3
  clear c3
  obtain rfl := Option.some.inj H
  go_enter Tryd.func55, Tryd.ntmps55
  go_wp2_with (first | ((with_reducible refine gate_callee (f := 66) rfl ?_); refine goesL_ (some 6) rfl rfl Tryd.func66 (by kernel_rfl) rfl #[.string a0, .int .u8 46] rfl GAK ?_; (with_reducible refine (ascii_Split.calls k a0 46 t241 _ A2.out).mono ?_); rintro e w14 ⟨v242, rfl, ho0, hb⟩; refine ⟨_, rfl, ?_⟩; have n0_ := Aside0.mk (Kd.R_lower ho0 (below_size BWK)); have n1_ := Aside0.mk (below_step BWK hb); clear HB; have HO243 := n0_; have HB := n1_; clear n0_ n1_; (try clear hb); (try clear hb2); (try clear hk); (try clear hi); (try clear ho0); obtain ⟨Ao15, co15, eo15⟩ := Kd.R_slice HO243.out; subst eo15))
  go_ret
  exact ⟨_, ERK, by (with_reducible repeat (first | apply Kd.R_alloc | apply Kd.R_drewN | apply Kd.R_drew)); exact HO243.out, BWK⟩

/-! ### host_hex: function 71 -/
def host_hex.f (a0 : ByteArray) : Option (ByteArray × Bool) := if (a0.size : Int) > 1 then (if 0 < (a0.size : Int) then (if (bt a0 0) = 48 then (if 1 < (a0.size : Int) then (if (bt a0 1) = 120 then (if 2 ≤ (a0.size : Int) then (some (a0.extract 2 a0.size, true)) else (none)) else (if (bt a0 1) = 88 then (if 2 ≤ (a0.size : Int) then (some (a0.extract 2 a0.size, true)) else (none)) else (some ((⟨#[]⟩ : ByteArray), false)))) else (none)) else (some ((⟨#[]⟩ : ByteArray), false))) else (none)) else (some ((⟨#[]⟩ : ByteArray), false))
theorem host_hex.calls (a0 : ByteArray) (r1 : ByteArray) (r2 : Bool) (w : World) (h : host_hex.f a0 = some (r1, r2)) :
  Calls Tryd.prog 71 #[.string a0] w fun e w' => e = .returned (.tuple #[.string r1, .bool r2]) ∧ Drawn0 w w' := by
 have H : (if (a0.size : Int) > 1 then (if 0 < (a0.size : Int) then (if (bt a0 0) = 48 then (if 1 < (a0.size : Int) then (if (bt a0 1) = 120 then (if 2 ≤ (a0.size : Int) then (some (a0.extract 2 a0.size, true)) else (none)) else (if (bt a0 1) = 88 then (if 2 ≤ (a0.size : Int) then (some (a0.extract 2 a0.size, true)) else (none)) else (some ((⟨#[]⟩ : ByteArray), false)))) else (none)) else (some ((⟨#[]⟩ : ByteArray), false))) else (none)) else (some ((⟨#[]⟩ : ByteArray), false))) = some (r1, r2) := h
 clear h
 by_cases c2 : (a0.size : Int) > 1
 ·rw [if_pos c2] at H
  have c2b0 := decide_eq_true c2
  have c2b1 : decide (1 < a0.size) = true := decide_eq_true (by omega)
  clear c2
  by_cases c3 : 0 < (a0.size : Int)
  ·rw [if_pos c3] at H
   have c3b0 := decide_eq_true c3
   have c3b1 : decide (0 < a0.size) = true := decide_eq_true (by omega)
   clear c3
   by_cases c5 : (bt a0 0) = 48
   ·rw [if_pos c5] at H
    have c5b0 : ((bt a0 0) == 48) = true := beq_iff_eq.mpr c5
    have c5b1 : ((bt a0 0) != 48) = false := bne_eq_false_iff_eq.mpr c5
    clear c5
    by_cases c6 : 1 < (a0.size : Int)
    ·rw [if_pos c6] at H
     have c6b0 := decide_eq_true c6
     have c6b1 : decide (1 < a0.size) = true := decide_eq_true (by omega)
     clear c6
     by_cases c8 : (bt a0 1) = 120
     ·rw [if_pos c8] at H
      have c8b0 : ((bt a0 1) == 120) = true := beq_iff_eq.mpr c8
      have c8b1 : ((bt a0 1) != 120) = false := bne_eq_false_iff_eq.mpr c8
      clear c8
      by_cases c9 : 2 ≤ (a0.size : Int)
      ·rw [if_pos c9] at H
       have c9b0 := eq_true c9
       have c9b1 := decide_eq_true c9
       clear c9
       simp only [Option.some.injEq, Prod.mk.injEq] at H
       obtain ⟨rfl, rfl⟩ := H
       have p4 : 0 ≤ (0 : Int) := (by omega)
       have q4 : 0 < a0.size := (by have : (0 : Int) < (a0.size : Int) := odA; omega)
       have hx4 : ∀ h : 0 < a0.size, ((a0[0]'h).toNat : Int) = bt a0 0 := bt_at a0 0
       clear p4
       have qi4 : (0 < (a0.size : Int)) = True := eq_true odA
       replace q4 := eq_true q4
       have p7 : 0 ≤ (1 : Int) := (by omega)
       have q7 : 1 < a0.size := (by have : (1 : Int) < (a0.size : Int) := odA; omega)
       have hx7 : ∀ h : 1 < a0.size, ((a0[1]'h).toNat : Int) = bt a0 1 := bt_at a0 1
       clear p7
       have qi7 : (1 < (a0.size : Int)) = True := eq_true odA
       replace q7 := eq_true q7
       go_enter Tryd.func71, Tryd.ntmps71
       go_wp2
       go_ret2
       exact ⟨RFK, DRK⟩
      ·rw [if_neg c9] at H
       exact absurd H (by simp)
     ·rw [if_neg c8] at H
      have c8b0 : ((bt a0 1) == 120) = false := beq_eq_false_iff_ne.mpr c8
      have c8b1 : ((bt a0 1) != 120) = true := bne_iff_ne.mpr c8
      by_cases c11 : (bt a0 1) = 88
      ·rw [if_pos c11] at H
       have c11b0 : ((bt a0 1) == 88) = true := beq_iff_eq.mpr c11
       have c11b1 : ((bt a0 1) != 88) = false := bne_eq_false_iff_eq.mpr c11
       clear c11
       by_cases c12 : 2 ≤ (a0.size : Int)
       ·rw [if_pos c12] at H
        have c12b0 := eq_true c12
        have c12b1 := decide_eq_true c12
        clear c12
        simp only [Option.some.injEq, Prod.mk.injEq] at H
        obtain ⟨rfl, rfl⟩ := H
        have p4 : 0 ≤ (0 : Int) := (by omega)
        have q4 : 0 < a0.size := (by have : (0 : Int) < (a0.size : Int) := odA; omega)
        have hx4 : ∀ h : 0 < a0.size, ((a0[0]'h).toNat : Int) = bt a0 0 := bt_at a0 0
        clear p4
        have qi4 : (0 < (a0.size : Int)) = True := eq_true odA
        replace q4 := eq_true q4
        have p7 : 0 ≤ (1 : Int) := (by omega)
        have q7 : 1 < a0.size := (by have : (1 : Int) < (a0.size : Int) := odA; omega)
        have hx7 : ∀ h : 1 < a0.size, ((a0[1]'h).toNat : Int) = bt a0 1 := bt_at a0 1
        clear p7
        have qi7 : (1 < (a0.size : Int)) = True := eq_true odA
        replace q7 := eq_true q7
        have p10 : 0 ≤ (1 : Int) := (by omega)
        have q10 : 1 < a0.size := (by have : (1 : Int) < (a0.size : Int) := odA; omega)
        have hx10 : ∀ h : 1 < a0.size, ((a0[1]'h).toNat : Int) = bt a0 1 := bt_at a0 1
        clear p10
        have qi10 : (1 < (a0.size : Int)) = True := eq_true odA
        replace q10 := eq_true q10
        go_enter Tryd.func71, Tryd.ntmps71
        go_wp2
        go_ret2
        exact ⟨RFK, DRK⟩
       ·rw [if_neg c12] at H
        exact absurd H (by simp)
      ·rw [if_neg c11] at H
       have c11b0 : ((bt a0 1) == 88) = false := beq_eq_false_iff_ne.mpr c11
       have c11b1 : ((bt a0 1) != 88) = true := bne_iff_ne.mpr c11
       simp only [Option.some.injEq, Prod.mk.injEq] at H
       obtain ⟨rfl, rfl⟩ := H
       have p4 : 0 ≤ (0 : Int) := (by omega)
       have q4 : 0 < a0.size := (by have : (0 : Int) < (a0.size : Int) := odA; omega)
       have hx4 : ∀ h : 0 < a0.size, ((a0[0]'h).toNat : Int) = bt a0 0 := bt_at a0 0
       clear p4
       have qi4 : (0 < (a0.size : Int)) = True := eq_true odA
       replace q4 := eq_true q4
       have p7 : 0 ≤ (1 : Int) := (by omega)
       have q7 : 1 < a0.size := (by have : (1 : Int) < (a0.size : Int) := odA; omega)
       have hx7 : ∀ h : 1 < a0.size, ((a0[1]'h).toNat : Int) = bt a0 1 := bt_at a0 1
       clear p7
       have qi7 : (1 < (a0.size : Int)) = True := eq_true odA
       replace q7 := eq_true q7
       have p10 : 0 ≤ (1 : Int) := (by omega)
       have q10 : 1 < a0.size := (by have : (1 : Int) < (a0.size : Int) := odA; omega)
       have hx10 : ∀ h : 1 < a0.size, ((a0[1]'h).toNat : Int) = bt a0 1 := bt_at a0 1
       clear p10
       have qi10 : (1 < (a0.size : Int)) = True := eq_true odA
       replace q10 := eq_true q10
       go_enter Tryd.func71, Tryd.ntmps71
       go_wp2
       go_ret2
       exact ⟨RFK, DRK⟩
    ·rw [if_neg c6] at H
     exact absurd H (by simp)
   ·rw [if_neg c5] at H
    have c5b0 : ((bt a0 0) == 48) = false := beq_eq_false_iff_ne.mpr c5
    have c5b1 : ((bt a0 0) != 48) = true := bne_iff_ne.mpr c5
    simp only [Option.some.injEq, Prod.mk.injEq] at H
    obtain ⟨rfl, rfl⟩ := H
    have p4 : 0 ≤ (0 : Int) := (by omega)
    have q4 : 0 < a0.size := (by have : (0 : Int) < (a0.size : Int) := odA; omega)
    have hx4 : ∀ h : 0 < a0.size, ((a0[0]'h).toNat : Int) = bt a0 0 := bt_at a0 0
    clear p4
    have qi4 : (0 < (a0.size : Int)) = True := eq_true odA
    replace q4 := eq_true q4
    go_enter Tryd.func71, Tryd.ntmps71
    go_wp2
    go_ret2
    exact ⟨RFK, DRK⟩
  ·rw [if_neg c3] at H
   exact absurd H (by simp)
 ·rw [if_neg c2] at H
  have c2b0 := decide_eq_false c2
  have c2b1 : decide (1 < a0.size) = false := decide_eq_false (by omega)
  clear c2
  simp only [Option.some.injEq, Prod.mk.injEq] at H
  obtain ⟨rfl, rfl⟩ := H
  go_enter Tryd.func71, Tryd.ntmps71
  go_wp2
  go_ret2
  exact ⟨RFK, DRK⟩

/-! ### host_value: function 73 -/
mutual
def host_value.j0 : Nat → Int → Bool → Option (Int)
 | 0, _, _ => none
 | k + 1, x0, x3 => if x3 = true then (some ((x0 - 48) % 256)) else (if x0 ≥ 97 then (host_value.j1 k x0 (decide (x0 ≤ 102))) else (host_value.j1 k x0 false))
def host_value.j1 : Nat → Int → Bool → Option (Int)
 | 0, _, _ => none
 | k + 1, x0, x13 => if x13 = true then (some (((x0 - 97) % 256) + 10)) else (if x0 ≥ 65 then (if x0 ≤ 70 then (some (((x0 - 65) % 256) + 10)) else (some (-1))) else (some (-1)))
end
def host_value.f (k : Nat) (a0 : Int) : Option (Int) := if a0 ≥ 48 then (host_value.j0 k a0 (decide (a0 ≤ 57))) else (host_value.j0 k a0 false)
theorem host_value.mono_l : ∀ k, (∀ y0 y1, LeO (host_value.j0 k y0 y1) (host_value.j0 (k + 1) y0 y1)) ∧ (∀ y0 y1, LeO (host_value.j1 k y0 y1) (host_value.j1 (k + 1) y0 y1))
 | 0 => ⟨fun _ _ r h => by simp [host_value.j0] at h, fun _ _ r h => by simp [host_value.j1] at h⟩
 | k + 1 => by
  obtain ⟨ih0, ih1⟩ := host_value.mono_l k
  refine ⟨?_, ?_⟩
  ·intro y0 y1
   unfold host_value.j0
   repeat' first
   | (with_reducible exact ih0 _ _)
   | (with_reducible exact ih1 _ _)
   | (with_reducible exact LeO.refl _)
   | (with_reducible exact LeO.none _)
   | (with_reducible refine LeO.ite ?_ ?_)
   | (with_reducible refine LeO.bind ?_ (fun _ => ?_))
   | exact ih0 _ _
   | exact ih1 _ _
   | exact LeO.none _
   | refine LeO.ite ?_ ?_
   | refine LeO.bind ?_ (fun _ => ?_)
  ·intro y0 y1
   unfold host_value.j1
   repeat' first
   | (with_reducible exact ih0 _ _)
   | (with_reducible exact ih1 _ _)
   | (with_reducible exact LeO.refl _)
   | (with_reducible exact LeO.none _)
   | (with_reducible refine LeO.ite ?_ ?_)
   | (with_reducible refine LeO.bind ?_ (fun _ => ?_))
   | exact ih0 _ _
   | exact ih1 _ _
   | exact LeO.none _
   | refine LeO.ite ?_ ?_
   | refine LeO.bind ?_ (fun _ => ?_)
theorem host_value.mono : ∀ a0 k, LeO (host_value.f k a0) (host_value.f (k + 1) a0) := by
 intro a0 k
 obtain ⟨ih0, ih1⟩ := host_value.mono_l k
 unfold host_value.f
 repeat' first
   | (with_reducible exact ih0 _ _)
   | (with_reducible exact ih1 _ _)
   | (with_reducible exact LeO.refl _)
   | (with_reducible exact LeO.none _)
   | (with_reducible refine LeO.ite ?_ ?_)
   | (with_reducible refine LeO.bind ?_ (fun _ => ?_))
   | exact ih0 _ _
   | exact ih1 _ _
   | exact LeO.none _
   | refine LeO.ite ?_ ?_
   | refine LeO.bind ?_ (fun _ => ?_)
theorem host_value.calls (k : Nat) (a0 : Int) (r : Int) (w : World) (h : host_value.f k a0 = some r) :
  Calls Tryd.prog 73 #[.int .u8 a0] w fun e w' => e = .returned (.int .i64 r) ∧ Drawn0 w w' := by
 have H : (if a0 ≥ 48 then (host_value.j0 k a0 (decide (a0 ≤ 57))) else (host_value.j0 k a0 false)) = some r := h
 clear h
 have HC2 := Aside0.mk H
 clear H
 go_enter Tryd.func73, Tryd.ntmps73
 go_upto_region 1 with (fail)
 go_cut [3] (fun v3 wc => ∃ (kq : Nat) (x3_1 : Bool), v3 = .bool x3_1 ∧ Aside0 (host_value.j0 kq a0 x3_1 = some r) ∧ Aside0 (kq ≤ k) ∧ Drawn0 w wc)
 case first =>
  have H := HC2.out
  clear HC2
  by_cases c3 : a0 ≥ 48
  ·rw [if_pos c3] at H
   have c3b0 := decide_eq_true c3
   clear c3
   (first | rw [c3b0] | (simp only [i64_w, i32_w]; rw [c3b0]) | skip)
   have H' := Aside0.mk H
   clear H
   go_wp2
   go_meet
   case rel => exact ⟨_, (decide (a0 ≤ 57)), RFK, H', ⟨OMK⟩, DRK⟩
  ·rw [if_neg c3] at H
   have c3b0 := decide_eq_false c3
   clear c3
   (first | rw [c3b0] | (simp only [i64_w, i32_w]; rw [c3b0]) | skip)
   have H' := Aside0.mk H
   clear H
   go_wp2
   go_meet
   case rel => exact ⟨_, (false), RFK, H', ⟨OMK⟩, DRK⟩
 case rest =>
  clear HC2
  try clear p2
  try clear c3
  try clear c3b0
  obtain ⟨kq, x3_1, rfl, HA, HJ1, ⟨mc1, rfl⟩⟩ := hcut
  cases kq with
  | zero => exact absurd HA.out (by simp [host_value.j0])
  | succ kj1 =>
   have H := HA.out
   clear HA
   simp only [host_value.j0] at H
   by_cases c4 : x3_1 = true
   ·subst c4
    have H1 := H; rw [if_pos rfl] at H1
    clear H
    have H := H1
    clear H1
    obtain rfl := Option.some.inj H
    go_wp2
    go_ret
    exact ⟨RFK, DRK⟩
   ·replace c4 := Bool.eq_false_iff.mpr c4
    subst c4
    have H1 := H; rw [if_neg (show ¬ (false = true) by decide)] at H1
    clear H
    have H := H1
    clear H1
    have HC5 := Aside0.mk H
    clear H
    go_upto_region 3 with (fail)
    go_cut [13] (fun v13 wc => ∃ (kq : Nat) (x13_4 : Bool), v13 = .bool x13_4 ∧ Aside0 (host_value.j1 kq a0 x13_4 = some r) ∧ Aside0 (kq ≤ kj1) ∧ Drawn0 w wc)
    case first =>
     have H := HC5.out
     clear HC5
     by_cases c6 : a0 ≥ 97
     ·rw [if_pos c6] at H
      have c6b0 := decide_eq_true c6
      clear c6
      (first | rw [c6b0] | (simp only [i64_w, i32_w]; rw [c6b0]) | skip)
      have H' := Aside0.mk H
      clear H
      go_wp2
      go_meet
      case rel => exact ⟨_, (decide (a0 ≤ 102)), RFK, H', ⟨by have := HJ1.out; first | omega | exact Nat.le_refl _⟩, DRK⟩
     ·rw [if_neg c6] at H
      have c6b0 := decide_eq_false c6
      clear c6
      (first | rw [c6b0] | (simp only [i64_w, i32_w]; rw [c6b0]) | skip)
      have H' := Aside0.mk H
      clear H
      go_wp2
      go_meet
      case rel => exact ⟨_, (false), RFK, H', ⟨by have := HJ1.out; first | omega | exact Nat.le_refl _⟩, DRK⟩
    case rest =>
     clear HC5
     try clear c1
     try clear p2
     try clear c3
     try clear c3b0
     try clear c4
     try clear c6
     try clear c6b0
     try clear p2
     obtain ⟨kq, x13_4, rfl, HA, HJ4, ⟨mc4, rfl⟩⟩ := hcut
     cases kq with
     | zero => exact absurd HA.out (by simp [host_value.j1])
     | succ kj4 =>
      have H := HA.out
      clear HA
      simp only [host_value.j1] at H
      by_cases c7 : x13_4 = true
      ·subst c7
       have H1 := H; rw [if_pos rfl] at H1
       clear H
       have H := H1
       clear H1
       obtain rfl := Option.some.inj H
       go_wp2
       go_ret
       exact ⟨RFK, DRK⟩
      ·replace c7 := Bool.eq_false_iff.mpr c7
       subst c7
       have H1 := H; rw [if_neg (show ¬ (false = true) by decide)] at H1
       clear H
       have H := H1
       clear H1
       by_cases c8 : a0 ≥ 65
       ·rw [if_pos c8] at H
        have c8b0 := decide_eq_true c8
        clear c8
        by_cases c9 : a0 ≤ 70
        ·rw [if_pos c9] at H
         have c9b0 := decide_eq_true c9
         clear c9
         obtain rfl := Option.some.inj H
         go_wp2
         go_ret
         exact ⟨RFK, DRK⟩
        ·rw [if_neg c9] at H
         have c9b0 := decide_eq_false c9
         clear c9
         obtain rfl := Option.some.inj H
         go_wp2
         go_ret
         exact ⟨RFK, DRK⟩
       ·rw [if_neg c8] at H
        have c8b0 := decide_eq_false c8
        clear c8
        obtain rfl := Option.some.inj H
        go_wp2
        go_ret
        exact ⟨RFK, DRK⟩

/-! ### host_digits: function 72 -/
def host_digits.l0 : Nat → ByteArray → Int → Int → Int → Option (Bool)
 | 0, _, _, _, _ => none
 | k + 1, x0, x1, x8, x9 => if x9 < x8 then (if 0 ≤ x9 then (if x9 < (x0.size : Int) then ((host_value.f k (bt x0 x9)).bind fun t248 => (if t248 < 0 then (some false) else (if t248 ≥ x1 then (some false) else (host_digits.l0 k x0 x1 x8 (wrap64 (x9 + 1)))))) else (none)) else (none)) else (some true)
def host_digits.f (k : Nat) (a0 : ByteArray) (a1 : Int) : Option (Bool) := host_digits.l0 k a0 a1 (a0.size : Int) 0
theorem host_digits.mono_l : ∀ k, (∀ y0 y1 y2 y3, LeO (host_digits.l0 k y0 y1 y2 y3) (host_digits.l0 (k + 1) y0 y1 y2 y3))
 | 0 => fun _ _ _ _ r h => by simp [host_digits.l0] at h
 | k + 1 => by
  have ih0 := host_digits.mono_l k
  ·intro y0 y1 y2 y3
   unfold host_digits.l0
   repeat' first
   | (with_reducible exact ih0 _ _ _ _)
   | (with_reducible exact host_value.mono _ _)
   | (with_reducible exact LeO.refl _)
   | (with_reducible exact LeO.none _)
   | (with_reducible refine LeO.ite ?_ ?_)
   | (with_reducible refine LeO.bind ?_ (fun _ => ?_))
   | exact ih0 _ _ _ _
   | exact host_value.mono _ _
   | exact LeO.none _
   | refine LeO.ite ?_ ?_
   | refine LeO.bind ?_ (fun _ => ?_)
theorem host_digits.mono : ∀ a0 a1 k, LeO (host_digits.f k a0 a1) (host_digits.f (k + 1) a0 a1) := by
 intro a0 a1 k
 have ih0 := host_digits.mono_l k
 unfold host_digits.f
 repeat' first
   | (with_reducible exact ih0 _ _ _ _)
   | (with_reducible exact host_value.mono _ _)
   | (with_reducible exact LeO.refl _)
   | (with_reducible exact LeO.none _)
   | (with_reducible refine LeO.ite ?_ ?_)
   | (with_reducible refine LeO.bind ?_ (fun _ => ?_))
   | exact ih0 _ _ _ _
   | exact host_value.mono _ _
   | exact LeO.none _
   | refine LeO.ite ?_ ?_
   | refine LeO.bind ?_ (fun _ => ?_)
theorem host_digits.calls (k : Nat) (a0 : ByteArray) (a1 : Int) (r : Bool) (w : World) (h : host_digits.f k a0 a1 = some r) :
  Calls Tryd.prog 72 #[.string a0, .int .i64 a1] w fun e w' => e = .returned (.bool r) ∧ Drawn0 w w' := by
 have H : (host_digits.l0 k a0 a1 (a0.size : Int) 0) = some r := h
 clear h
 have H' := Aside0.mk H
 clear H
 go_enter Tryd.func72, Tryd.ntmps72
 go_wp2
 go_loopg [9] k (fun kq v9 w' => ∃ (x9_1 : Int), v9 = .int .i64 x9_1 ∧ Aside0 (host_digits.l0 kq a0 a1 (a0.size : Int) x9_1 = some r) ∧ Aside0 (kq ≤ k) ∧ Drawn0 w w')
 case atStart => exact ⟨(0), RFK, H', ⟨Nat.le_refl _⟩, DRK⟩
 case round =>
  clear H'
  try clear p2
  obtain ⟨x9_1, rfl, HA, HK1, ⟨m1, rfl⟩⟩ := hrel
  cases gk with
  | zero => exact absurd HA.out (by simp [host_digits.l0])
  | succ k1 =>
   have H := HA.out
   clear HA
   simp only [host_digits.l0] at H
   by_cases c3 : x9_1 < (a0.size : Int)
   ·rw [if_pos c3] at H
    have c3b0 := decide_eq_true c3
    clear c3
    by_cases c4 : 0 ≤ x9_1
    ·rw [if_pos c4] at H
     have c4b0 := decide_eq_true c4
     clear c4
     by_cases c5 : x9_1 < (a0.size : Int)
     ·rw [if_pos c5] at H
      have c5b0 := decide_eq_true c5
      clear c5
      replace H := Option.bind_eq_some_iff.mp H
      obtain ⟨t248, A70, H⟩ := H
      (try dsimp only at H)
      have A7 := Aside0.mk A70
      clear A70
      by_cases c8 : t248 < 0
      ·rw [if_pos c8] at H
       have c8b0 := decide_eq_true c8
       clear c8
       obtain rfl := Option.some.inj H
       have p6 : 0 ≤ (x9_1 : Int) := odA
       have q6 : x9_1 < (a0.size : Int) := odA
       have hx6 := bt_at a0 x9_1
       replace p6 := eq_true p6
       replace q6 := eq_true q6
       go_wp2_with (first | ((with_reducible refine gate_callee (f := 73) rfl ?_); refine goesL_ (some 15) rfl rfl Tryd.func73 (by kernel_rfl) rfl #[.int .u8 (bt a0 x9_1)] rfl GAK ?_; (with_reducible refine (host_value.calls k1 (bt a0 x9_1) t248 _ A7.out).mono ?_); rintro e w' ⟨rfl, ⟨nd, rfl⟩⟩; refine ⟨_, rfl, ?_⟩))
       go_ret
       exact ⟨RFK, DRK⟩
      ·rw [if_neg c8] at H
       have c8b0 := decide_eq_false c8
       clear c8
       by_cases c9 : t248 ≥ a1
       ·rw [if_pos c9] at H
        have c9b0 := decide_eq_true c9
        clear c9
        obtain rfl := Option.some.inj H
        have p6 : 0 ≤ (x9_1 : Int) := odA
        have q6 : x9_1 < (a0.size : Int) := odA
        have hx6 := bt_at a0 x9_1
        replace p6 := eq_true p6
        replace q6 := eq_true q6
        go_wp2_with (first | ((with_reducible refine gate_callee (f := 73) rfl ?_); refine goesL_ (some 15) rfl rfl Tryd.func73 (by kernel_rfl) rfl #[.int .u8 (bt a0 x9_1)] rfl GAK ?_; (with_reducible refine (host_value.calls k1 (bt a0 x9_1) t248 _ A7.out).mono ?_); rintro e w' ⟨rfl, ⟨nd, rfl⟩⟩; refine ⟨_, rfl, ?_⟩))
        go_ret
        exact ⟨RFK, DRK⟩
       ·rw [if_neg c9] at H
        have c9b0 := decide_eq_false c9
        clear c9
        have H' := Aside0.mk H
        clear H
        have p6 : 0 ≤ (x9_1 : Int) := odA
        have q6 : x9_1 < (a0.size : Int) := odA
        have hx6 := bt_at a0 x9_1
        replace p6 := eq_true p6
        replace q6 := eq_true q6
        go_wp2_with (first | ((with_reducible refine gate_callee (f := 73) rfl ?_); refine goesL_ (some 15) rfl rfl Tryd.func73 (by kernel_rfl) rfl #[.int .u8 (bt a0 x9_1)] rfl GAK ?_; (with_reducible refine (host_value.calls k1 (bt a0 x9_1) t248 _ A7.out).mono ?_); rintro e w' ⟨rfl, ⟨nd, rfl⟩⟩; refine ⟨_, rfl, ?_⟩))
        go_roundg k1
        case measure => have := HK1.out; omega
        case rel => exact ⟨(wrap64 (x9_1 + 1)), RFK, H', ⟨by have := HK1.out; omega⟩, DRK⟩
     ·rw [if_neg c5] at H
      exact absurd H (by simp)
    ·rw [if_neg c4] at H
     exact absurd H (by simp)
   ·rw [if_neg c3] at H
    have c3b0 := decide_eq_false c3
    clear c3
    obtain rfl := Option.some.inj H
    go_wp2
    go_ret
    exact ⟨RFK, DRK⟩

end Go.Proofs.YtknkokkgefcdbaaDoor.PA
