-- half
-- written by pp.py, a program of this session's, which runs the kit's print with turns of its own; Lean checks it
import Derived.Test.YtknkokkgefcdbaaDoorBP
import Derived.Test.YtknkokkgefcdbaaDoorPAx0
import Derived.Test.YtknkokkgefcdbaaDoorPAx5
import Derived.Test.YtknkokkgefcdbaaDoorPAx6
import Derived.Test.YtknkokkgefcdbaaDoorPAx7
import Derived.Test.YtknkokkgefcdbaaDoorPAx8
import Derived.Test.YtknkokkgefcdbaaDoorPAx10
import Derived.Test.YtknkokkgefcdbaaDoorPAx11
import Derived.Test.YtknkokkgefcdbaaDoorPAx12
namespace Go.Proofs.YtknkokkgefcdbaaDoor.PA
open Go.RowKit Go.Proofs.YtknkokkgefcdbaaDoorW.PrintWords Go.Proofs.YtknkokkgefcdbaaDoorW.PrintLast Go.Proofs.YtknkokkgefcdbaaDoorW.PrintMore
attribute [local go_sem] max2_int min2_int max_two min_two max_three min_three max_four min_four   -- for this text's walks alone
set_option maxHeartbeats 8000000
set_option maxRecDepth 100000
set_option linter.unusedVariables false
set_option linter.unusedSimpArgs false

/-! ### parapetref9_numeric: function 65 -/
def parapetref9_numeric.f (k : Nat) (a0 : ByteArray) : Option (Bool) := (parapetref9_parts.f k a0).bind fun t176 => (if 0 ≤ (wrap64 ((t176.length : Int) - 1)) then (if (wrap64 ((t176.length : Int) - 1)) < (t176.length : Int) then ((parapetref9_digits.f k (rdOf ByteArray.empty t176 (wrap64 ((t176.length : Int) - 1))) 10).bind fun t180 => (if t180 = true then (some true) else (if ((rdOf ByteArray.empty t176 (wrap64 ((t176.length : Int) - 1))).size : Int) ≥ 2 then (if 0 < ((rdOf ByteArray.empty t176 (wrap64 ((t176.length : Int) - 1))).size : Int) then (if (bt (rdOf ByteArray.empty t176 (wrap64 ((t176.length : Int) - 1))) 0) = 48 then (if 1 < ((rdOf ByteArray.empty t176 (wrap64 ((t176.length : Int) - 1))).size : Int) then (if (bt (rdOf ByteArray.empty t176 (wrap64 ((t176.length : Int) - 1))) 1) = 120 then (if ((rdOf ByteArray.empty t176 (wrap64 ((t176.length : Int) - 1))).size : Int) = 2 then (some true) else (if 2 ≤ ((rdOf ByteArray.empty t176 (wrap64 ((t176.length : Int) - 1))).size : Int) then ((parapetref9_digits.f k ((rdOf ByteArray.empty t176 (wrap64 ((t176.length : Int) - 1))).extract 2 (rdOf ByteArray.empty t176 (wrap64 ((t176.length : Int) - 1))).size) 16).bind fun t181 => (some t181)) else (none))) else (if (bt (rdOf ByteArray.empty t176 (wrap64 ((t176.length : Int) - 1))) 1) = 88 then (if ((rdOf ByteArray.empty t176 (wrap64 ((t176.length : Int) - 1))).size : Int) = 2 then (some true) else (if 2 ≤ ((rdOf ByteArray.empty t176 (wrap64 ((t176.length : Int) - 1))).size : Int) then ((parapetref9_digits.f k ((rdOf ByteArray.empty t176 (wrap64 ((t176.length : Int) - 1))).extract 2 (rdOf ByteArray.empty t176 (wrap64 ((t176.length : Int) - 1))).size) 16).bind fun t182 => (some t182)) else (none))) else (some false))) else (none)) else (some false)) else (none)) else (some false)))) else (none)) else (none))
theorem parapetref9_numeric.mono : ∀ a0 k, LeO (parapetref9_numeric.f k a0) (parapetref9_numeric.f (k + 1) a0) := by
 intro a0 k
 unfold parapetref9_numeric.f
 repeat' first
   | (with_reducible exact parapetref9_digits.mono _ _ _)
   | (with_reducible exact parapetref9_parts.mono _ _)
   | (with_reducible exact LeO.refl _)
   | (with_reducible exact LeO.none _)
   | (with_reducible refine LeO.ite ?_ ?_)
   | (with_reducible refine LeO.bind ?_ (fun _ => ?_))
   | exact parapetref9_digits.mono _ _ _
   | exact parapetref9_parts.mono _ _
   | exact LeO.none _
   | refine LeO.ite ?_ ?_
   | refine LeO.bind ?_ (fun _ => ?_)
theorem parapetref9_numeric.calls (k : Nat) (a0 : ByteArray) (r : Bool) (w : World) (h : parapetref9_numeric.f k a0 = some r) :
  Calls Tryd.prog 65 #[.string a0] w fun e w' => e = .returned (.bool r) ∧ Below w.heap.size w w' := by
 have HB := Aside0.mk (Below.refl w.heap.size w)
 have H : ((parapetref9_parts.f k a0).bind fun t176 => (if 0 ≤ (wrap64 ((t176.length : Int) - 1)) then (if (wrap64 ((t176.length : Int) - 1)) < (t176.length : Int) then ((parapetref9_digits.f k (rdOf ByteArray.empty t176 (wrap64 ((t176.length : Int) - 1))) 10).bind fun t180 => (if t180 = true then (some true) else (if ((rdOf ByteArray.empty t176 (wrap64 ((t176.length : Int) - 1))).size : Int) ≥ 2 then (if 0 < ((rdOf ByteArray.empty t176 (wrap64 ((t176.length : Int) - 1))).size : Int) then (if (bt (rdOf ByteArray.empty t176 (wrap64 ((t176.length : Int) - 1))) 0) = 48 then (if 1 < ((rdOf ByteArray.empty t176 (wrap64 ((t176.length : Int) - 1))).size : Int) then (if (bt (rdOf ByteArray.empty t176 (wrap64 ((t176.length : Int) - 1))) 1) = 120 then (if ((rdOf ByteArray.empty t176 (wrap64 ((t176.length : Int) - 1))).size : Int) = 2 then (some true) else (if 2 ≤ ((rdOf ByteArray.empty t176 (wrap64 ((t176.length : Int) - 1))).size : Int) then ((parapetref9_digits.f k ((rdOf ByteArray.empty t176 (wrap64 ((t176.length : Int) - 1))).extract 2 (rdOf ByteArray.empty t176 (wrap64 ((t176.length : Int) - 1))).size) 16).bind fun t181 => (some t181)) else (none))) else (if (bt (rdOf ByteArray.empty t176 (wrap64 ((t176.length : Int) - 1))) 1) = 88 then (if ((rdOf ByteArray.empty t176 (wrap64 ((t176.length : Int) - 1))).size : Int) = 2 then (some true) else (if 2 ≤ ((rdOf ByteArray.empty t176 (wrap64 ((t176.length : Int) - 1))).size : Int) then ((parapetref9_digits.f k ((rdOf ByteArray.empty t176 (wrap64 ((t176.length : Int) - 1))).extract 2 (rdOf ByteArray.empty t176 (wrap64 ((t176.length : Int) - 1))).size) 16).bind fun t182 => (some t182)) else (none))) else (some false))) else (none)) else (some false)) else (none)) else (some false)))) else (none)) else (none))) = some r := h
 clear h
 replace H := Option.bind_eq_some_iff.mp H
 obtain ⟨t176, A20, H⟩ := H
 (try dsimp only at H)
 have A2 := Aside0.mk A20
 clear A20
 obtain ⟨ji3, hji3⟩ : ∃ j_ : Int, (wrap64 ((t176.length : Int) - 1)) = j_ := ⟨_, rfl⟩
 replace H : (if 0 ≤ (ji3) then (if (ji3) < (t176.length : Int) then ((parapetref9_digits.f k (rdOf ByteArray.empty t176 (ji3)) 10).bind fun t180 => (if t180 = true then (some true) else (if ((rdOf ByteArray.empty t176 (ji3)).size : Int) ≥ 2 then (if 0 < ((rdOf ByteArray.empty t176 (ji3)).size : Int) then (if (bt (rdOf ByteArray.empty t176 (ji3)) 0) = 48 then (if 1 < ((rdOf ByteArray.empty t176 (ji3)).size : Int) then (if (bt (rdOf ByteArray.empty t176 (ji3)) 1) = 120 then (if ((rdOf ByteArray.empty t176 (ji3)).size : Int) = 2 then (some true) else (if 2 ≤ ((rdOf ByteArray.empty t176 (ji3)).size : Int) then ((parapetref9_digits.f k ((rdOf ByteArray.empty t176 (ji3)).extract 2 (rdOf ByteArray.empty t176 (ji3)).size) 16).bind fun t181 => (some t181)) else (none))) else (if (bt (rdOf ByteArray.empty t176 (ji3)) 1) = 88 then (if ((rdOf ByteArray.empty t176 (ji3)).size : Int) = 2 then (some true) else (if 2 ≤ ((rdOf ByteArray.empty t176 (ji3)).size : Int) then ((parapetref9_digits.f k ((rdOf ByteArray.empty t176 (ji3)).extract 2 (rdOf ByteArray.empty t176 (ji3)).size) 16).bind fun t182 => (some t182)) else (none))) else (some false))) else (none)) else (some false)) else (none)) else (some false)))) else (none)) else (none)) = some r := by first | (rw [hji3] at H; exact H) | (simp only [hji3] at H ⊢; exact H)
 (try rw [hji3] at A2)
 have hji3w : (IntKind.i64.wrap ((t176.length : Int) - 1)) = ji3 := (i64_w _).trans hji3
 by_cases c4 : 0 ≤ (ji3)
 ·rw [if_pos c4] at H
  have c4b0 := decide_eq_true c4
  clear c4
  by_cases c5 : (ji3) < (t176.length : Int)
  ·rw [if_pos c5] at H
   have c5b0 := decide_eq_true c5
   clear c5
   replace H := Option.bind_eq_some_iff.mp H
   obtain ⟨t180, A60, H⟩ := H
   (try dsimp only at H)
   have A6 := Aside0.mk A60
   clear A60
   by_cases c7 : t180 = true
   ·subst c7
    have H1 := H; rw [if_pos rfl] at H1
    clear H
    have H := H1
    clear H1
    obtain rfl := Option.some.inj H
    go_enter Tryd.func65, Tryd.ntmps65
    go_wp2_with (first | ((with_reducible refine gate_callee (f := 44) rfl ?_); refine goesL_ (some 6) rfl rfl Tryd.func44 (by kernel_rfl) rfl #[.string a0] rfl GAK ?_; (with_reducible refine (parapetref9_parts.calls k a0 t176 _ A2.out).mono ?_); rintro e w8 ⟨v177, rfl, ho0, hb⟩; refine ⟨_, rfl, ?_⟩; have n0_ := Aside0.mk (Kd.R_lower ho0 (below_size BWK)); have n1_ := Aside0.mk (below_step BWK hb); clear HB; have HO178 := n0_; have HB := n1_; clear n0_ n1_; (try clear hb); (try clear hb2); (try clear hk); (try clear hi); (try clear ho0); obtain ⟨Ao9, co9, eo9⟩ := Kd.R_slice HO178.out; subst eo9; have p179 : 0 ≤ ((ji3) : Int) := odA; have q179 : (ji3) < (t176.length : Int) := odA; obtain ⟨ad179, e179, hx179_0⟩ := Kd.at_string (Kd.R_reads' HO178.out).2.2 (ji3) p179 q179; cases e179; replace p179 := eq_true p179; replace q179 := eq_true q179) | ((with_reducible refine gate_callee (f := 52) rfl ?_); refine goesL_ (some 14) rfl rfl Tryd.func52 (by kernel_rfl) rfl #[.string (rdOf ByteArray.empty t176 (ji3)), .int .i64 10] rfl (by (try simp only [List.map_toArray, List.map_cons, List.map_nil]); first | done | (simp only [hji3]; rfl) | rfl | (simp only [List.length_drop, List.length_take]; rfl)) ?_; (with_reducible refine (parapetref9_digits.calls k (rdOf ByteArray.empty t176 (ji3)) 10 true _ A6.out).mono ?_); rintro e w' ⟨rfl, ⟨nd, rfl⟩⟩; refine ⟨_, rfl, ?_⟩))
    go_ret
    exact ⟨by first | rfl | (simp [errW_none, errW_some] <;> rfl) | (simp only [← hji3]; first | rfl | (simp [errW_none, errW_some] <;> rfl)) | (simp [*, errW_none, errW_some] <;> rfl), BWK⟩
   ·replace c7 := Bool.eq_false_iff.mpr c7
    subst c7
    have H1 := H; rw [if_neg (show ¬ (false = true) by decide)] at H1
    clear H
    have H := H1
    clear H1
    by_cases c10 : ((rdOf ByteArray.empty t176 (ji3)).size : Int) ≥ 2
    ·rw [if_pos c10] at H
     have c10b0 := decide_eq_true c10
     have c10b1 : decide (2 ≤ (rdOf ByteArray.empty t176 (ji3)).size) = true := decide_eq_true (by omega)
     clear c10
     by_cases c11 : 0 < ((rdOf ByteArray.empty t176 (ji3)).size : Int)
     ·rw [if_pos c11] at H
      have c11b0 := decide_eq_true c11
      have c11b1 : decide (0 < (rdOf ByteArray.empty t176 (ji3)).size) = true := decide_eq_true (by omega)
      clear c11
      by_cases c13 : (bt (rdOf ByteArray.empty t176 (ji3)) 0) = 48
      ·rw [if_pos c13] at H
       have c13b0 : ((bt (rdOf ByteArray.empty t176 (ji3)) 0) == 48) = true := beq_iff_eq.mpr c13
       have c13b1 : ((bt (rdOf ByteArray.empty t176 (ji3)) 0) != 48) = false := bne_eq_false_iff_eq.mpr c13
       clear c13
       by_cases c14 : 1 < ((rdOf ByteArray.empty t176 (ji3)).size : Int)
       ·rw [if_pos c14] at H
        have c14b0 := decide_eq_true c14
        have c14b1 : decide (1 < (rdOf ByteArray.empty t176 (ji3)).size) = true := decide_eq_true (by omega)
        clear c14
        by_cases c16 : (bt (rdOf ByteArray.empty t176 (ji3)) 1) = 120
        ·rw [if_pos c16] at H
         have c16b0 : ((bt (rdOf ByteArray.empty t176 (ji3)) 1) == 120) = true := beq_iff_eq.mpr c16
         have c16b1 : ((bt (rdOf ByteArray.empty t176 (ji3)) 1) != 120) = false := bne_eq_false_iff_eq.mpr c16
         clear c16
         by_cases c17 : ((rdOf ByteArray.empty t176 (ji3)).size : Int) = 2
         ·rw [if_pos c17] at H
          have c17b0 : (((rdOf ByteArray.empty t176 (ji3)).size : Int) == 2) = true := beq_iff_eq.mpr c17
          have c17b1 : (((rdOf ByteArray.empty t176 (ji3)).size : Int) != 2) = false := bne_eq_false_iff_eq.mpr c17
          clear c17
          obtain rfl := Option.some.inj H
          go_enter Tryd.func65, Tryd.ntmps65
          go_wp2_with (first | ((with_reducible refine gate_callee (f := 44) rfl ?_); refine goesL_ (some 6) rfl rfl Tryd.func44 (by kernel_rfl) rfl #[.string a0] rfl GAK ?_; (with_reducible refine (parapetref9_parts.calls k a0 t176 _ A2.out).mono ?_); rintro e w18 ⟨v177, rfl, ho0, hb⟩; refine ⟨_, rfl, ?_⟩; have n0_ := Aside0.mk (Kd.R_lower ho0 (below_size BWK)); have n1_ := Aside0.mk (below_step BWK hb); clear HB; have HO178 := n0_; have HB := n1_; clear n0_ n1_; (try clear hb); (try clear hb2); (try clear hk); (try clear hi); (try clear ho0); obtain ⟨Ao19, co19, eo19⟩ := Kd.R_slice HO178.out; subst eo19; have p179 : 0 ≤ ((ji3) : Int) := odA; have q179 : (ji3) < (t176.length : Int) := odA; obtain ⟨ad179, e179, hx179_0⟩ := Kd.at_string (Kd.R_reads' HO178.out).2.2 (ji3) p179 q179; cases e179; replace p179 := eq_true p179; replace q179 := eq_true q179) | ((with_reducible refine gate_callee (f := 52) rfl ?_); refine goesL_ (some 14) rfl rfl Tryd.func52 (by kernel_rfl) rfl #[.string (rdOf ByteArray.empty t176 (ji3)), .int .i64 10] rfl (by (try simp only [List.map_toArray, List.map_cons, List.map_nil]); first | done | (simp only [hji3]; rfl) | rfl | (simp only [List.length_drop, List.length_take]; rfl)) ?_; (with_reducible refine (parapetref9_digits.calls k (rdOf ByteArray.empty t176 (ji3)) 10 false _ A6.out).mono ?_); rintro e w' ⟨rfl, ⟨nd, rfl⟩⟩; refine ⟨_, rfl, ?_⟩; have p12 : 0 ≤ (0 : Int) := (by omega); have q12 : 0 < (rdOf ByteArray.empty t176 (ji3)).size := (by have : (0 : Int) < ((rdOf ByteArray.empty t176 (ji3)).size : Int) := odA; omega); have hx12 : ∀ h : 0 < (rdOf ByteArray.empty t176 (ji3)).size, (((rdOf ByteArray.empty t176 (ji3))[0]'h).toNat : Int) = bt (rdOf ByteArray.empty t176 (ji3)) 0 := bt_at (rdOf ByteArray.empty t176 (ji3)) 0; clear p12; have qi12 : (0 < ((rdOf ByteArray.empty t176 (ji3)).size : Int)) = True := eq_true odA; replace q12 := eq_true q12; have p15 : 0 ≤ (1 : Int) := (by omega); have q15 : 1 < (rdOf ByteArray.empty t176 (ji3)).size := (by have : (1 : Int) < ((rdOf ByteArray.empty t176 (ji3)).size : Int) := odA; omega); have hx15 : ∀ h : 1 < (rdOf ByteArray.empty t176 (ji3)).size, (((rdOf ByteArray.empty t176 (ji3))[1]'h).toNat : Int) = bt (rdOf ByteArray.empty t176 (ji3)) 1 := bt_at (rdOf ByteArray.empty t176 (ji3)) 1; clear p15; have qi15 : (1 < ((rdOf ByteArray.empty t176 (ji3)).size : Int)) = True := eq_true odA; replace q15 := eq_true q15))
          go_ret
          exact ⟨by first | rfl | (simp [errW_none, errW_some] <;> rfl) | (simp only [← hji3]; first | rfl | (simp [errW_none, errW_some] <;> rfl)) | (simp [*, errW_none, errW_some] <;> rfl), BWK⟩
         ·rw [if_neg c17] at H
          have c17b0 : (((rdOf ByteArray.empty t176 (ji3)).size : Int) == 2) = false := beq_eq_false_iff_ne.mpr c17
          have c17b1 : (((rdOf ByteArray.empty t176 (ji3)).size : Int) != 2) = true := bne_iff_ne.mpr c17
          by_cases c20 : 2 ≤ ((rdOf ByteArray.empty t176 (ji3)).size : Int)
          ·rw [if_pos c20] at H
           have c20b0 := eq_true c20
           have c20b1 := decide_eq_true c20
           clear c20
           replace H := Option.bind_eq_some_iff.mp H
           obtain ⟨t181, A210, H⟩ := H
           (try dsimp only at H)
           have A21 := Aside0.mk A210
           clear A210
           obtain rfl := Option.some.inj H
           go_enter Tryd.func65, Tryd.ntmps65
           go_wp2_with (first | ((with_reducible refine gate_callee (f := 44) rfl ?_); refine goesL_ (some 6) rfl rfl Tryd.func44 (by kernel_rfl) rfl #[.string a0] rfl GAK ?_; (with_reducible refine (parapetref9_parts.calls k a0 t176 _ A2.out).mono ?_); rintro e w22 ⟨v177, rfl, ho0, hb⟩; refine ⟨_, rfl, ?_⟩; have n0_ := Aside0.mk (Kd.R_lower ho0 (below_size BWK)); have n1_ := Aside0.mk (below_step BWK hb); clear HB; have HO178 := n0_; have HB := n1_; clear n0_ n1_; (try clear hb); (try clear hb2); (try clear hk); (try clear hi); (try clear ho0); obtain ⟨Ao23, co23, eo23⟩ := Kd.R_slice HO178.out; subst eo23; have p179 : 0 ≤ ((ji3) : Int) := odA; have q179 : (ji3) < (t176.length : Int) := odA; obtain ⟨ad179, e179, hx179_0⟩ := Kd.at_string (Kd.R_reads' HO178.out).2.2 (ji3) p179 q179; cases e179; replace p179 := eq_true p179; replace q179 := eq_true q179) | ((with_reducible refine gate_callee (f := 52) rfl ?_); refine goesL_ (some 14) rfl rfl Tryd.func52 (by kernel_rfl) rfl #[.string (rdOf ByteArray.empty t176 (ji3)), .int .i64 10] rfl (by (try simp only [List.map_toArray, List.map_cons, List.map_nil]); first | done | (simp only [hji3]; rfl) | rfl | (simp only [List.length_drop, List.length_take]; rfl)) ?_; (with_reducible refine (parapetref9_digits.calls k (rdOf ByteArray.empty t176 (ji3)) 10 false _ A6.out).mono ?_); rintro e w' ⟨rfl, ⟨nd, rfl⟩⟩; refine ⟨_, rfl, ?_⟩; have p12 : 0 ≤ (0 : Int) := (by omega); have q12 : 0 < (rdOf ByteArray.empty t176 (ji3)).size := (by have : (0 : Int) < ((rdOf ByteArray.empty t176 (ji3)).size : Int) := odA; omega); have hx12 : ∀ h : 0 < (rdOf ByteArray.empty t176 (ji3)).size, (((rdOf ByteArray.empty t176 (ji3))[0]'h).toNat : Int) = bt (rdOf ByteArray.empty t176 (ji3)) 0 := bt_at (rdOf ByteArray.empty t176 (ji3)) 0; clear p12; have qi12 : (0 < ((rdOf ByteArray.empty t176 (ji3)).size : Int)) = True := eq_true odA; replace q12 := eq_true q12; have p15 : 0 ≤ (1 : Int) := (by omega); have q15 : 1 < (rdOf ByteArray.empty t176 (ji3)).size := (by have : (1 : Int) < ((rdOf ByteArray.empty t176 (ji3)).size : Int) := odA; omega); have hx15 : ∀ h : 1 < (rdOf ByteArray.empty t176 (ji3)).size, (((rdOf ByteArray.empty t176 (ji3))[1]'h).toNat : Int) = bt (rdOf ByteArray.empty t176 (ji3)) 1 := bt_at (rdOf ByteArray.empty t176 (ji3)) 1; clear p15; have qi15 : (1 < ((rdOf ByteArray.empty t176 (ji3)).size : Int)) = True := eq_true odA; replace q15 := eq_true q15) | (go_at_call 52; (with_reducible refine (parapetref9_digits.calls k ((rdOf ByteArray.empty t176 (ji3)).extract 2 (rdOf ByteArray.empty t176 (ji3)).size) 16 t181 _ A21.out).mono ?_); rintro e w' ⟨rfl, ⟨nd, rfl⟩⟩))
           go_ret
           exact ⟨by first | rfl | (simp [errW_none, errW_some] <;> rfl) | (simp only [← hji3]; first | rfl | (simp [errW_none, errW_some] <;> rfl)) | (simp [*, errW_none, errW_some] <;> rfl), BWK⟩
          ·rw [if_neg c20] at H
           exact absurd H (by simp)
        ·rw [if_neg c16] at H
         have c16b0 : ((bt (rdOf ByteArray.empty t176 (ji3)) 1) == 120) = false := beq_eq_false_iff_ne.mpr c16
         have c16b1 : ((bt (rdOf ByteArray.empty t176 (ji3)) 1) != 120) = true := bne_iff_ne.mpr c16
         by_cases c25 : (bt (rdOf ByteArray.empty t176 (ji3)) 1) = 88
         ·rw [if_pos c25] at H
          have c25b0 : ((bt (rdOf ByteArray.empty t176 (ji3)) 1) == 88) = true := beq_iff_eq.mpr c25
          have c25b1 : ((bt (rdOf ByteArray.empty t176 (ji3)) 1) != 88) = false := bne_eq_false_iff_eq.mpr c25
          clear c25
          by_cases c26 : ((rdOf ByteArray.empty t176 (ji3)).size : Int) = 2
          ·rw [if_pos c26] at H
           have c26b0 : (((rdOf ByteArray.empty t176 (ji3)).size : Int) == 2) = true := beq_iff_eq.mpr c26
           have c26b1 : (((rdOf ByteArray.empty t176 (ji3)).size : Int) != 2) = false := bne_eq_false_iff_eq.mpr c26
           clear c26
           obtain rfl := Option.some.inj H
           go_enter Tryd.func65, Tryd.ntmps65
           go_wp2_with (first | ((with_reducible refine gate_callee (f := 44) rfl ?_); refine goesL_ (some 6) rfl rfl Tryd.func44 (by kernel_rfl) rfl #[.string a0] rfl GAK ?_; (with_reducible refine (parapetref9_parts.calls k a0 t176 _ A2.out).mono ?_); rintro e w27 ⟨v177, rfl, ho0, hb⟩; refine ⟨_, rfl, ?_⟩; have n0_ := Aside0.mk (Kd.R_lower ho0 (below_size BWK)); have n1_ := Aside0.mk (below_step BWK hb); clear HB; have HO178 := n0_; have HB := n1_; clear n0_ n1_; (try clear hb); (try clear hb2); (try clear hk); (try clear hi); (try clear ho0); obtain ⟨Ao28, co28, eo28⟩ := Kd.R_slice HO178.out; subst eo28; have p179 : 0 ≤ ((ji3) : Int) := odA; have q179 : (ji3) < (t176.length : Int) := odA; obtain ⟨ad179, e179, hx179_0⟩ := Kd.at_string (Kd.R_reads' HO178.out).2.2 (ji3) p179 q179; cases e179; replace p179 := eq_true p179; replace q179 := eq_true q179) | ((with_reducible refine gate_callee (f := 52) rfl ?_); refine goesL_ (some 14) rfl rfl Tryd.func52 (by kernel_rfl) rfl #[.string (rdOf ByteArray.empty t176 (ji3)), .int .i64 10] rfl (by (try simp only [List.map_toArray, List.map_cons, List.map_nil]); first | done | (simp only [hji3]; rfl) | rfl | (simp only [List.length_drop, List.length_take]; rfl)) ?_; (with_reducible refine (parapetref9_digits.calls k (rdOf ByteArray.empty t176 (ji3)) 10 false _ A6.out).mono ?_); rintro e w' ⟨rfl, ⟨nd, rfl⟩⟩; refine ⟨_, rfl, ?_⟩; have p12 : 0 ≤ (0 : Int) := (by omega); have q12 : 0 < (rdOf ByteArray.empty t176 (ji3)).size := (by have : (0 : Int) < ((rdOf ByteArray.empty t176 (ji3)).size : Int) := odA; omega); have hx12 : ∀ h : 0 < (rdOf ByteArray.empty t176 (ji3)).size, (((rdOf ByteArray.empty t176 (ji3))[0]'h).toNat : Int) = bt (rdOf ByteArray.empty t176 (ji3)) 0 := bt_at (rdOf ByteArray.empty t176 (ji3)) 0; clear p12; have qi12 : (0 < ((rdOf ByteArray.empty t176 (ji3)).size : Int)) = True := eq_true odA; replace q12 := eq_true q12; have p15 : 0 ≤ (1 : Int) := (by omega); have q15 : 1 < (rdOf ByteArray.empty t176 (ji3)).size := (by have : (1 : Int) < ((rdOf ByteArray.empty t176 (ji3)).size : Int) := odA; omega); have hx15 : ∀ h : 1 < (rdOf ByteArray.empty t176 (ji3)).size, (((rdOf ByteArray.empty t176 (ji3))[1]'h).toNat : Int) = bt (rdOf ByteArray.empty t176 (ji3)) 1 := bt_at (rdOf ByteArray.empty t176 (ji3)) 1; clear p15; have qi15 : (1 < ((rdOf ByteArray.empty t176 (ji3)).size : Int)) = True := eq_true odA; replace q15 := eq_true q15; have p24 : 0 ≤ (1 : Int) := (by omega); have q24 : 1 < (rdOf ByteArray.empty t176 (ji3)).size := (by have : (1 : Int) < ((rdOf ByteArray.empty t176 (ji3)).size : Int) := odA; omega); have hx24 : ∀ h : 1 < (rdOf ByteArray.empty t176 (ji3)).size, (((rdOf ByteArray.empty t176 (ji3))[1]'h).toNat : Int) = bt (rdOf ByteArray.empty t176 (ji3)) 1 := bt_at (rdOf ByteArray.empty t176 (ji3)) 1; clear p24; have qi24 : (1 < ((rdOf ByteArray.empty t176 (ji3)).size : Int)) = True := eq_true odA; replace q24 := eq_true q24))
           go_ret
           exact ⟨by first | rfl | (simp [errW_none, errW_some] <;> rfl) | (simp only [← hji3]; first | rfl | (simp [errW_none, errW_some] <;> rfl)) | (simp [*, errW_none, errW_some] <;> rfl), BWK⟩
          ·rw [if_neg c26] at H
           have c26b0 : (((rdOf ByteArray.empty t176 (ji3)).size : Int) == 2) = false := beq_eq_false_iff_ne.mpr c26
           have c26b1 : (((rdOf ByteArray.empty t176 (ji3)).size : Int) != 2) = true := bne_iff_ne.mpr c26
           by_cases c29 : 2 ≤ ((rdOf ByteArray.empty t176 (ji3)).size : Int)
           ·rw [if_pos c29] at H
            have c29b0 := eq_true c29
            have c29b1 := decide_eq_true c29
            clear c29
            replace H := Option.bind_eq_some_iff.mp H
            obtain ⟨t182, A300, H⟩ := H
            (try dsimp only at H)
            have A30 := Aside0.mk A300
            clear A300
            obtain rfl := Option.some.inj H
            go_enter Tryd.func65, Tryd.ntmps65
            go_wp2_with (first | ((with_reducible refine gate_callee (f := 44) rfl ?_); refine goesL_ (some 6) rfl rfl Tryd.func44 (by kernel_rfl) rfl #[.string a0] rfl GAK ?_; (with_reducible refine (parapetref9_parts.calls k a0 t176 _ A2.out).mono ?_); rintro e w31 ⟨v177, rfl, ho0, hb⟩; refine ⟨_, rfl, ?_⟩; have n0_ := Aside0.mk (Kd.R_lower ho0 (below_size BWK)); have n1_ := Aside0.mk (below_step BWK hb); clear HB; have HO178 := n0_; have HB := n1_; clear n0_ n1_; (try clear hb); (try clear hb2); (try clear hk); (try clear hi); (try clear ho0); obtain ⟨Ao32, co32, eo32⟩ := Kd.R_slice HO178.out; subst eo32; have p179 : 0 ≤ ((ji3) : Int) := odA; have q179 : (ji3) < (t176.length : Int) := odA; obtain ⟨ad179, e179, hx179_0⟩ := Kd.at_string (Kd.R_reads' HO178.out).2.2 (ji3) p179 q179; cases e179; replace p179 := eq_true p179; replace q179 := eq_true q179) | ((with_reducible refine gate_callee (f := 52) rfl ?_); refine goesL_ (some 14) rfl rfl Tryd.func52 (by kernel_rfl) rfl #[.string (rdOf ByteArray.empty t176 (ji3)), .int .i64 10] rfl (by (try simp only [List.map_toArray, List.map_cons, List.map_nil]); first | done | (simp only [hji3]; rfl) | rfl | (simp only [List.length_drop, List.length_take]; rfl)) ?_; (with_reducible refine (parapetref9_digits.calls k (rdOf ByteArray.empty t176 (ji3)) 10 false _ A6.out).mono ?_); rintro e w' ⟨rfl, ⟨nd, rfl⟩⟩; refine ⟨_, rfl, ?_⟩; have p12 : 0 ≤ (0 : Int) := (by omega); have q12 : 0 < (rdOf ByteArray.empty t176 (ji3)).size := (by have : (0 : Int) < ((rdOf ByteArray.empty t176 (ji3)).size : Int) := odA; omega); have hx12 : ∀ h : 0 < (rdOf ByteArray.empty t176 (ji3)).size, (((rdOf ByteArray.empty t176 (ji3))[0]'h).toNat : Int) = bt (rdOf ByteArray.empty t176 (ji3)) 0 := bt_at (rdOf ByteArray.empty t176 (ji3)) 0; clear p12; have qi12 : (0 < ((rdOf ByteArray.empty t176 (ji3)).size : Int)) = True := eq_true odA; replace q12 := eq_true q12; have p15 : 0 ≤ (1 : Int) := (by omega); have q15 : 1 < (rdOf ByteArray.empty t176 (ji3)).size := (by have : (1 : Int) < ((rdOf ByteArray.empty t176 (ji3)).size : Int) := odA; omega); have hx15 : ∀ h : 1 < (rdOf ByteArray.empty t176 (ji3)).size, (((rdOf ByteArray.empty t176 (ji3))[1]'h).toNat : Int) = bt (rdOf ByteArray.empty t176 (ji3)) 1 := bt_at (rdOf ByteArray.empty t176 (ji3)) 1; clear p15; have qi15 : (1 < ((rdOf ByteArray.empty t176 (ji3)).size : Int)) = True := eq_true odA; replace q15 := eq_true q15; have p24 : 0 ≤ (1 : Int) := (by omega); have q24 : 1 < (rdOf ByteArray.empty t176 (ji3)).size := (by have : (1 : Int) < ((rdOf ByteArray.empty t176 (ji3)).size : Int) := odA; omega); have hx24 : ∀ h : 1 < (rdOf ByteArray.empty t176 (ji3)).size, (((rdOf ByteArray.empty t176 (ji3))[1]'h).toNat : Int) = bt (rdOf ByteArray.empty t176 (ji3)) 1 := bt_at (rdOf ByteArray.empty t176 (ji3)) 1; clear p24; have qi24 : (1 < ((rdOf ByteArray.empty t176 (ji3)).size : Int)) = True := eq_true odA; replace q24 := eq_true q24) | (go_at_call 52; (with_reducible refine (parapetref9_digits.calls k ((rdOf ByteArray.empty t176 (ji3)).extract 2 (rdOf ByteArray.empty t176 (ji3)).size) 16 t182 _ A30.out).mono ?_); rintro e w' ⟨rfl, ⟨nd, rfl⟩⟩))
            go_ret
            exact ⟨by first | rfl | (simp [errW_none, errW_some] <;> rfl) | (simp only [← hji3]; first | rfl | (simp [errW_none, errW_some] <;> rfl)) | (simp [*, errW_none, errW_some] <;> rfl), BWK⟩
           ·rw [if_neg c29] at H
            exact absurd H (by simp)
         ·rw [if_neg c25] at H
          have c25b0 : ((bt (rdOf ByteArray.empty t176 (ji3)) 1) == 88) = false := beq_eq_false_iff_ne.mpr c25
          have c25b1 : ((bt (rdOf ByteArray.empty t176 (ji3)) 1) != 88) = true := bne_iff_ne.mpr c25
          obtain rfl := Option.some.inj H
          go_enter Tryd.func65, Tryd.ntmps65
          go_wp2_with (first | ((with_reducible refine gate_callee (f := 44) rfl ?_); refine goesL_ (some 6) rfl rfl Tryd.func44 (by kernel_rfl) rfl #[.string a0] rfl GAK ?_; (with_reducible refine (parapetref9_parts.calls k a0 t176 _ A2.out).mono ?_); rintro e w33 ⟨v177, rfl, ho0, hb⟩; refine ⟨_, rfl, ?_⟩; have n0_ := Aside0.mk (Kd.R_lower ho0 (below_size BWK)); have n1_ := Aside0.mk (below_step BWK hb); clear HB; have HO178 := n0_; have HB := n1_; clear n0_ n1_; (try clear hb); (try clear hb2); (try clear hk); (try clear hi); (try clear ho0); obtain ⟨Ao34, co34, eo34⟩ := Kd.R_slice HO178.out; subst eo34; have p179 : 0 ≤ ((ji3) : Int) := odA; have q179 : (ji3) < (t176.length : Int) := odA; obtain ⟨ad179, e179, hx179_0⟩ := Kd.at_string (Kd.R_reads' HO178.out).2.2 (ji3) p179 q179; cases e179; replace p179 := eq_true p179; replace q179 := eq_true q179) | ((with_reducible refine gate_callee (f := 52) rfl ?_); refine goesL_ (some 14) rfl rfl Tryd.func52 (by kernel_rfl) rfl #[.string (rdOf ByteArray.empty t176 (ji3)), .int .i64 10] rfl (by (try simp only [List.map_toArray, List.map_cons, List.map_nil]); first | done | (simp only [hji3]; rfl) | rfl | (simp only [List.length_drop, List.length_take]; rfl)) ?_; (with_reducible refine (parapetref9_digits.calls k (rdOf ByteArray.empty t176 (ji3)) 10 false _ A6.out).mono ?_); rintro e w' ⟨rfl, ⟨nd, rfl⟩⟩; refine ⟨_, rfl, ?_⟩; have p12 : 0 ≤ (0 : Int) := (by omega); have q12 : 0 < (rdOf ByteArray.empty t176 (ji3)).size := (by have : (0 : Int) < ((rdOf ByteArray.empty t176 (ji3)).size : Int) := odA; omega); have hx12 : ∀ h : 0 < (rdOf ByteArray.empty t176 (ji3)).size, (((rdOf ByteArray.empty t176 (ji3))[0]'h).toNat : Int) = bt (rdOf ByteArray.empty t176 (ji3)) 0 := bt_at (rdOf ByteArray.empty t176 (ji3)) 0; clear p12; have qi12 : (0 < ((rdOf ByteArray.empty t176 (ji3)).size : Int)) = True := eq_true odA; replace q12 := eq_true q12; have p15 : 0 ≤ (1 : Int) := (by omega); have q15 : 1 < (rdOf ByteArray.empty t176 (ji3)).size := (by have : (1 : Int) < ((rdOf ByteArray.empty t176 (ji3)).size : Int) := odA; omega); have hx15 : ∀ h : 1 < (rdOf ByteArray.empty t176 (ji3)).size, (((rdOf ByteArray.empty t176 (ji3))[1]'h).toNat : Int) = bt (rdOf ByteArray.empty t176 (ji3)) 1 := bt_at (rdOf ByteArray.empty t176 (ji3)) 1; clear p15; have qi15 : (1 < ((rdOf ByteArray.empty t176 (ji3)).size : Int)) = True := eq_true odA; replace q15 := eq_true q15; have p24 : 0 ≤ (1 : Int) := (by omega); have q24 : 1 < (rdOf ByteArray.empty t176 (ji3)).size := (by have : (1 : Int) < ((rdOf ByteArray.empty t176 (ji3)).size : Int) := odA; omega); have hx24 : ∀ h : 1 < (rdOf ByteArray.empty t176 (ji3)).size, (((rdOf ByteArray.empty t176 (ji3))[1]'h).toNat : Int) = bt (rdOf ByteArray.empty t176 (ji3)) 1 := bt_at (rdOf ByteArray.empty t176 (ji3)) 1; clear p24; have qi24 : (1 < ((rdOf ByteArray.empty t176 (ji3)).size : Int)) = True := eq_true odA; replace q24 := eq_true q24))
          go_ret
          exact ⟨by first | rfl | (simp [errW_none, errW_some] <;> rfl) | (simp only [← hji3]; first | rfl | (simp [errW_none, errW_some] <;> rfl)) | (simp [*, errW_none, errW_some] <;> rfl), BWK⟩
       ·rw [if_neg c14] at H
        exact absurd H (by simp)
      ·rw [if_neg c13] at H
       have c13b0 : ((bt (rdOf ByteArray.empty t176 (ji3)) 0) == 48) = false := beq_eq_false_iff_ne.mpr c13
       have c13b1 : ((bt (rdOf ByteArray.empty t176 (ji3)) 0) != 48) = true := bne_iff_ne.mpr c13
       obtain rfl := Option.some.inj H
       go_enter Tryd.func65, Tryd.ntmps65
       go_wp2_with (first | ((with_reducible refine gate_callee (f := 44) rfl ?_); refine goesL_ (some 6) rfl rfl Tryd.func44 (by kernel_rfl) rfl #[.string a0] rfl GAK ?_; (with_reducible refine (parapetref9_parts.calls k a0 t176 _ A2.out).mono ?_); rintro e w35 ⟨v177, rfl, ho0, hb⟩; refine ⟨_, rfl, ?_⟩; have n0_ := Aside0.mk (Kd.R_lower ho0 (below_size BWK)); have n1_ := Aside0.mk (below_step BWK hb); clear HB; have HO178 := n0_; have HB := n1_; clear n0_ n1_; (try clear hb); (try clear hb2); (try clear hk); (try clear hi); (try clear ho0); obtain ⟨Ao36, co36, eo36⟩ := Kd.R_slice HO178.out; subst eo36; have p179 : 0 ≤ ((ji3) : Int) := odA; have q179 : (ji3) < (t176.length : Int) := odA; obtain ⟨ad179, e179, hx179_0⟩ := Kd.at_string (Kd.R_reads' HO178.out).2.2 (ji3) p179 q179; cases e179; replace p179 := eq_true p179; replace q179 := eq_true q179) | ((with_reducible refine gate_callee (f := 52) rfl ?_); refine goesL_ (some 14) rfl rfl Tryd.func52 (by kernel_rfl) rfl #[.string (rdOf ByteArray.empty t176 (ji3)), .int .i64 10] rfl (by (try simp only [List.map_toArray, List.map_cons, List.map_nil]); first | done | (simp only [hji3]; rfl) | rfl | (simp only [List.length_drop, List.length_take]; rfl)) ?_; (with_reducible refine (parapetref9_digits.calls k (rdOf ByteArray.empty t176 (ji3)) 10 false _ A6.out).mono ?_); rintro e w' ⟨rfl, ⟨nd, rfl⟩⟩; refine ⟨_, rfl, ?_⟩; have p12 : 0 ≤ (0 : Int) := (by omega); have q12 : 0 < (rdOf ByteArray.empty t176 (ji3)).size := (by have : (0 : Int) < ((rdOf ByteArray.empty t176 (ji3)).size : Int) := odA; omega); have hx12 : ∀ h : 0 < (rdOf ByteArray.empty t176 (ji3)).size, (((rdOf ByteArray.empty t176 (ji3))[0]'h).toNat : Int) = bt (rdOf ByteArray.empty t176 (ji3)) 0 := bt_at (rdOf ByteArray.empty t176 (ji3)) 0; clear p12; have qi12 : (0 < ((rdOf ByteArray.empty t176 (ji3)).size : Int)) = True := eq_true odA; replace q12 := eq_true q12))
       go_ret
       exact ⟨by first | rfl | (simp [errW_none, errW_some] <;> rfl) | (simp only [← hji3]; first | rfl | (simp [errW_none, errW_some] <;> rfl)) | (simp [*, errW_none, errW_some] <;> rfl), BWK⟩
     ·rw [if_neg c11] at H
      exact absurd H (by simp)
    ·rw [if_neg c10] at H
     have c10b0 := decide_eq_false c10
     have c10b1 : decide (2 ≤ (rdOf ByteArray.empty t176 (ji3)).size) = false := decide_eq_false (by omega)
     clear c10
     obtain rfl := Option.some.inj H
     go_enter Tryd.func65, Tryd.ntmps65
     go_wp2_with (first | ((with_reducible refine gate_callee (f := 44) rfl ?_); refine goesL_ (some 6) rfl rfl Tryd.func44 (by kernel_rfl) rfl #[.string a0] rfl GAK ?_; (with_reducible refine (parapetref9_parts.calls k a0 t176 _ A2.out).mono ?_); rintro e w37 ⟨v177, rfl, ho0, hb⟩; refine ⟨_, rfl, ?_⟩; have n0_ := Aside0.mk (Kd.R_lower ho0 (below_size BWK)); have n1_ := Aside0.mk (below_step BWK hb); clear HB; have HO178 := n0_; have HB := n1_; clear n0_ n1_; (try clear hb); (try clear hb2); (try clear hk); (try clear hi); (try clear ho0); obtain ⟨Ao38, co38, eo38⟩ := Kd.R_slice HO178.out; subst eo38; have p179 : 0 ≤ ((ji3) : Int) := odA; have q179 : (ji3) < (t176.length : Int) := odA; obtain ⟨ad179, e179, hx179_0⟩ := Kd.at_string (Kd.R_reads' HO178.out).2.2 (ji3) p179 q179; cases e179; replace p179 := eq_true p179; replace q179 := eq_true q179) | ((with_reducible refine gate_callee (f := 52) rfl ?_); refine goesL_ (some 14) rfl rfl Tryd.func52 (by kernel_rfl) rfl #[.string (rdOf ByteArray.empty t176 (ji3)), .int .i64 10] rfl (by (try simp only [List.map_toArray, List.map_cons, List.map_nil]); first | done | (simp only [hji3]; rfl) | rfl | (simp only [List.length_drop, List.length_take]; rfl)) ?_; (with_reducible refine (parapetref9_digits.calls k (rdOf ByteArray.empty t176 (ji3)) 10 false _ A6.out).mono ?_); rintro e w' ⟨rfl, ⟨nd, rfl⟩⟩; refine ⟨_, rfl, ?_⟩))
     go_ret
     exact ⟨by first | rfl | (simp [errW_none, errW_some] <;> rfl) | (simp only [← hji3]; first | rfl | (simp [errW_none, errW_some] <;> rfl)) | (simp [*, errW_none, errW_some] <;> rfl), BWK⟩
  ·rw [if_neg c5] at H
   exact absurd H (by simp)
 ·rw [if_neg c4] at H
  exact absurd H (by simp)

/-! ### parapetref9_Host: function 51 -/
def parapetref9_Host.l0 : Nat → ByteArray → Int → Option (ByteArray × Int)
 | 0, _, _ => none
 | k + 1, x4, x5 => if x5 < (x4.size : Int) then (if 0 ≤ x5 then (if (bt x4 x5) ≤ 32 then (some ((⟨#[]⟩ : ByteArray), 8)) else (if (bt x4 x5) ≥ 127 then (some ((⟨#[]⟩ : ByteArray), 8)) else ((parapetref1_Has.f k (⟨#[35, 37, 47, 58, 60, 62, 63, 64, 91, 92, 93, 94, 124]⟩ : ByteArray) (bt x4 x5)).bind fun t185 => (if t185 = true then (some ((⟨#[]⟩ : ByteArray), 8)) else (parapetref9_Host.l0 k x4 (wrap64 (x5 + 1))))))) else (none)) else ((parapetref9_numeric.f k x4).bind fun t186 => (if t186 = true then ((parapetref9_Number.f k x4).bind fun bt187 => (if bt187.2 = true then ((parapetref9_Address.f k bt187.1).bind fun t189 => (some (t189, 0))) else (some ((⟨#[]⟩ : ByteArray), 8)))) else (some (x4, 0))))
def parapetref9_Host.f (k : Nat) (a0 : ByteArray) : Option (ByteArray × Int) := (parapetref9_Decode.f k a0).bind fun t183 => ((parapetref1_Lower.f k t183).bind fun t184 => (if t184.toList = ([] : List UInt8) then (some ((⟨#[]⟩ : ByteArray), 8)) else (parapetref9_Host.l0 k t184 0)))
theorem parapetref9_Host.mono_l : ∀ k, (∀ y0 y1, LeO (parapetref9_Host.l0 k y0 y1) (parapetref9_Host.l0 (k + 1) y0 y1))
 | 0 => fun _ _ r h => by simp [parapetref9_Host.l0] at h
 | k + 1 => by
  have ih0 := parapetref9_Host.mono_l k
  ·intro y0 y1
   unfold parapetref9_Host.l0
   repeat' first
   | (with_reducible exact ih0 _ _)
   | (with_reducible exact parapetref1_Has.mono _ _ _)
   | (with_reducible exact parapetref1_Lower.mono _ _)
   | (with_reducible exact parapetref9_Address.mono _ _)
   | (with_reducible exact parapetref9_Decode.mono _ _)
   | (with_reducible exact parapetref9_Number.mono _ _)
   | (with_reducible exact parapetref9_numeric.mono _ _)
   | (with_reducible exact LeO.refl _)
   | (with_reducible exact LeO.none _)
   | (with_reducible refine LeO.ite ?_ ?_)
   | (with_reducible refine LeO.bind ?_ (fun _ => ?_))
   | exact ih0 _ _
   | exact parapetref1_Has.mono _ _ _
   | exact parapetref1_Lower.mono _ _
   | exact parapetref9_Address.mono _ _
   | exact parapetref9_Decode.mono _ _
   | exact parapetref9_Number.mono _ _
   | exact parapetref9_numeric.mono _ _
   | exact LeO.none _
   | refine LeO.ite ?_ ?_
   | refine LeO.bind ?_ (fun _ => ?_)
theorem parapetref9_Host.mono : ∀ a0 k, LeO (parapetref9_Host.f k a0) (parapetref9_Host.f (k + 1) a0) := by
 intro a0 k
 have ih0 := parapetref9_Host.mono_l k
 unfold parapetref9_Host.f
 repeat' first
   | (with_reducible exact ih0 _ _)
   | (with_reducible exact parapetref1_Has.mono _ _ _)
   | (with_reducible exact parapetref1_Lower.mono _ _)
   | (with_reducible exact parapetref9_Address.mono _ _)
   | (with_reducible exact parapetref9_Decode.mono _ _)
   | (with_reducible exact parapetref9_Number.mono _ _)
   | (with_reducible exact parapetref9_numeric.mono _ _)
   | (with_reducible exact LeO.refl _)
   | (with_reducible exact LeO.none _)
   | (with_reducible refine LeO.ite ?_ ?_)
   | (with_reducible refine LeO.bind ?_ (fun _ => ?_))
   | exact ih0 _ _
   | exact parapetref1_Has.mono _ _ _
   | exact parapetref1_Lower.mono _ _
   | exact parapetref9_Address.mono _ _
   | exact parapetref9_Decode.mono _ _
   | exact parapetref9_Number.mono _ _
   | exact parapetref9_numeric.mono _ _
   | exact LeO.none _
   | refine LeO.ite ?_ ?_
   | refine LeO.bind ?_ (fun _ => ?_)
theorem parapetref9_Host.calls (k : Nat) (a0 : ByteArray) (r1 : ByteArray) (r2 : Int) (w : World) (h : parapetref9_Host.f k a0 = some (r1, r2)) :
  Calls Tryd.prog 51 #[.string a0] w fun e w' => e = .returned (.tuple #[.string r1, .int .i64 r2]) ∧ Below w.heap.size w w' := by
 have HB := Aside0.mk (Below.refl w.heap.size w)
 have H : ((parapetref9_Decode.f k a0).bind fun t183 => ((parapetref1_Lower.f k t183).bind fun t184 => (if t184.toList = ([] : List UInt8) then (some ((⟨#[]⟩ : ByteArray), 8)) else (parapetref9_Host.l0 k t184 0)))) = some (r1, r2) := h
 clear h
 replace H := Option.bind_eq_some_iff.mp H
 obtain ⟨t183, A20, H⟩ := H
 replace H : ((parapetref1_Lower.f k t183).bind fun t184 => (if t184.toList = ([] : List UInt8) then (some ((⟨#[]⟩ : ByteArray), 8)) else (parapetref9_Host.l0 k t184 0))) = some (r1, r2) := H
 have A2 := Aside0.mk A20
 clear A20
 replace H := Option.bind_eq_some_iff.mp H
 obtain ⟨t184, A30, H⟩ := H
 replace H : (if t184.toList = ([] : List UInt8) then (some ((⟨#[]⟩ : ByteArray), 8)) else (parapetref9_Host.l0 k t184 0)) = some (r1, r2) := H
 have A3 := Aside0.mk A30
 clear A30
 by_cases c4 : t184.toList = ([] : List UInt8)
 ·rw [if_pos c4] at H
  have c4b0 : (t184.toList == ([] : List UInt8)) = true := beq_iff_eq.mpr c4
  have c4b1 : (t184.toList != ([] : List UInt8)) = false := bne_eq_false_iff_eq.mpr c4
  have c4b9 : (!t184.toList.isEmpty) = false := by simp [c4]
  (try rw [c4b9])
  clear c4
  simp only [Option.some.injEq, Prod.mk.injEq] at H
  obtain ⟨rfl, rfl⟩ := H
  go_enter Tryd.func51, Tryd.ntmps51
  go_wp2_with (first | ((with_reducible refine gate_callee (f := 64) rfl ?_); refine goesL_ (some 9) rfl rfl Tryd.func64 (by kernel_rfl) rfl #[.string a0] rfl GAK ?_; (with_reducible refine (parapetref9_Decode.calls k a0 t183 _ A2.out).mono ?_); rintro e w5 ⟨rfl, hb⟩; refine ⟨_, rfl, ?_⟩; have n0_ := Aside0.mk (below_step BWK hb); clear HB; have HB := n0_; clear n0_; (try clear hb); (try clear hb2); (try clear hk); (try clear hi)) | ((with_reducible refine gate_callee (f := 31) rfl ?_); refine goesL_ (some 10) rfl rfl Tryd.func31 (by kernel_rfl) rfl #[.string t183] rfl GAK ?_; (with_reducible refine (parapetref1_Lower.calls k t183 t184 _ A3.out).mono ?_); rintro e w6 ⟨rfl, hb⟩; refine ⟨_, rfl, ?_⟩; have n0_ := Aside0.mk (below_step BWK hb); clear HB; have HB := n0_; clear n0_; (try clear hb); (try clear hb2); (try clear hk); (try clear hi)))
  go_ret2
  exact ⟨ERK, BWK⟩
 ·rw [if_neg c4] at H
  have c4b0 : (t184.toList == ([] : List UInt8)) = false := beq_eq_false_iff_ne.mpr c4
  have c4b1 : (t184.toList != ([] : List UInt8)) = true := bne_iff_ne.mpr c4
  have c4b9 : (!t184.toList.isEmpty) = true := by simp [c4]
  (try rw [c4b9])
  have H' := Aside0.mk H
  clear H
  go_enter Tryd.func51, Tryd.ntmps51
  go_wp2_with (first | ((with_reducible refine gate_callee (f := 64) rfl ?_); refine goesL_ (some 9) rfl rfl Tryd.func64 (by kernel_rfl) rfl #[.string a0] rfl GAK ?_; (with_reducible refine (parapetref9_Decode.calls k a0 t183 _ A2.out).mono ?_); rintro e w7 ⟨rfl, hb⟩; refine ⟨_, rfl, ?_⟩; have n0_ := Aside0.mk (below_step BWK hb); clear HB; have HB := n0_; clear n0_; (try clear hb); (try clear hb2); (try clear hk); (try clear hi)) | ((with_reducible refine gate_callee (f := 31) rfl ?_); refine goesL_ (some 10) rfl rfl Tryd.func31 (by kernel_rfl) rfl #[.string t183] rfl GAK ?_; (with_reducible refine (parapetref1_Lower.calls k t183 t184 _ A3.out).mono ?_); rintro e w8 ⟨rfl, hb⟩; refine ⟨_, rfl, ?_⟩; have n0_ := Aside0.mk (below_step BWK hb); clear HB; have HB := n0_; clear n0_; (try clear hb); (try clear hb2); (try clear hk); (try clear hi)))
  go_loopg [5] k (fun kq v5 w' => ∃ (x5_1 : Int), v5 = .int .i64 x5_1 ∧ Aside0 (parapetref9_Host.l0 kq t184 x5_1 = some (r1, r2)) ∧ Aside0 (kq ≤ k) ∧ Aside0 (Below w.heap.size w w'))
  case atStart => exact ⟨(0), RFK, H', ⟨Nat.le_refl _⟩, ⟨BWK⟩⟩
  case round =>
   clear H'
   try clear p2
   try clear c3
   try clear c4
   try clear c4b0
   try clear c4b1
   try clear c5
   try clear c6
   obtain ⟨x5_1, rfl, HA, HK1, HB⟩ := hrel
   cases gk with
   | zero => exact absurd HA.out (by simp [parapetref9_Host.l0])
   | succ k1 =>
    have H := HA.out
    clear HA
    simp only [parapetref9_Host.l0] at H
    by_cases c9 : x5_1 < (t184.size : Int)
    ·rw [if_pos c9] at H
     have c9b0 := decide_eq_true c9
     clear c9
     by_cases c10 : 0 ≤ x5_1
     ·rw [if_pos c10] at H
      have c10b0 := decide_eq_true c10
      clear c10
      by_cases c12 : (bt t184 x5_1) ≤ 32
      ·rw [if_pos c12] at H
       have c12b0 := decide_eq_true c12
       clear c12
       simp only [Option.some.injEq, Prod.mk.injEq] at H
       obtain ⟨rfl, rfl⟩ := H
       have p11 : 0 ≤ (x5_1 : Int) := odA
       have q11 : x5_1 < (t184.size : Int) := odA
       have hx11 := bt_at t184 x5_1
       replace p11 := eq_true p11
       replace q11 := eq_true q11
       go_wp2
       go_ret2
       exact ⟨ERK, BWK⟩
      ·rw [if_neg c12] at H
       have c12b0 := decide_eq_false c12
       clear c12
       by_cases c14 : (bt t184 x5_1) ≥ 127
       ·rw [if_pos c14] at H
        have c14b0 := decide_eq_true c14
        clear c14
        simp only [Option.some.injEq, Prod.mk.injEq] at H
        obtain ⟨rfl, rfl⟩ := H
        have p11 : 0 ≤ (x5_1 : Int) := odA
        have q11 : x5_1 < (t184.size : Int) := odA
        have hx11 := bt_at t184 x5_1
        replace p11 := eq_true p11
        replace q11 := eq_true q11
        have p13 : 0 ≤ (x5_1 : Int) := odA
        have q13 : x5_1 < (t184.size : Int) := odA
        have hx13 := bt_at t184 x5_1
        replace p13 := eq_true p13
        replace q13 := eq_true q13
        go_wp2
        go_ret2
        exact ⟨ERK, BWK⟩
       ·rw [if_neg c14] at H
        have c14b0 := decide_eq_false c14
        clear c14
        replace H := Option.bind_eq_some_iff.mp H
        obtain ⟨t185, A160, H⟩ := H
        replace H : (if t185 = true then (some ((⟨#[]⟩ : ByteArray), 8)) else (parapetref9_Host.l0 k1 t184 (wrap64 (x5_1 + 1)))) = some (r1, r2) := H
        have A16 := Aside0.mk A160
        clear A160
        by_cases c17 : t185 = true
        ·subst c17
         have H1 : (some ((⟨#[]⟩ : ByteArray), 8)) = some (r1, r2) := by rw [if_pos rfl] at H; exact H
         clear H
         have H := H1
         clear H1
         simp only [Option.some.injEq, Prod.mk.injEq] at H
         obtain ⟨rfl, rfl⟩ := H
         have p11 : 0 ≤ (x5_1 : Int) := odA
         have q11 : x5_1 < (t184.size : Int) := odA
         have hx11 := bt_at t184 x5_1
         replace p11 := eq_true p11
         replace q11 := eq_true q11
         have p13 : 0 ≤ (x5_1 : Int) := odA
         have q13 : x5_1 < (t184.size : Int) := odA
         have hx13 := bt_at t184 x5_1
         replace p13 := eq_true p13
         replace q13 := eq_true q13
         have p15 : 0 ≤ (x5_1 : Int) := odA
         have q15 : x5_1 < (t184.size : Int) := odA
         have hx15 := bt_at t184 x5_1
         replace p15 := eq_true p15
         replace q15 := eq_true q15
         go_wp2_with (first | (go_at_call 50; (with_reducible refine (parapetref1_Has.calls k1 (⟨#[35, 37, 47, 58, 60, 62, 63, 64, 91, 92, 93, 94, 124]⟩ : ByteArray) (bt t184 x5_1) true _ A16.out).mono ?_); rintro e w' ⟨rfl, ⟨nd, rfl⟩⟩))
         go_ret2
         exact ⟨ERK, BWK⟩
        ·replace c17 := Bool.eq_false_iff.mpr c17
         subst c17
         have H1 : (parapetref9_Host.l0 k1 t184 (wrap64 (x5_1 + 1))) = some (r1, r2) := by rw [if_neg (show ¬ (false = true) by decide)] at H; exact H
         clear H
         have H := H1
         clear H1
         have H' := Aside0.mk H
         clear H
         have p11 : 0 ≤ (x5_1 : Int) := odA
         have q11 : x5_1 < (t184.size : Int) := odA
         have hx11 := bt_at t184 x5_1
         replace p11 := eq_true p11
         replace q11 := eq_true q11
         have p13 : 0 ≤ (x5_1 : Int) := odA
         have q13 : x5_1 < (t184.size : Int) := odA
         have hx13 := bt_at t184 x5_1
         replace p13 := eq_true p13
         replace q13 := eq_true q13
         have p15 : 0 ≤ (x5_1 : Int) := odA
         have q15 : x5_1 < (t184.size : Int) := odA
         have hx15 := bt_at t184 x5_1
         replace p15 := eq_true p15
         replace q15 := eq_true q15
         go_wp2_with (first | (go_at_call 50; (with_reducible refine (parapetref1_Has.calls k1 (⟨#[35, 37, 47, 58, 60, 62, 63, 64, 91, 92, 93, 94, 124]⟩ : ByteArray) (bt t184 x5_1) false _ A16.out).mono ?_); rintro e w' ⟨rfl, ⟨nd, rfl⟩⟩))
         go_roundg k1
         case measure => have := HK1.out; omega
         case rel => exact ⟨(wrap64 (x5_1 + 1)), RFK, H', ⟨by have := HK1.out; omega⟩, ⟨BWK⟩⟩
     ·rw [if_neg c10] at H
      exact absurd H (by simp)
    ·rw [if_neg c9] at H
     have c9b0 := decide_eq_false c9
     clear c9
     replace H := Option.bind_eq_some_iff.mp H
     obtain ⟨t186, A180, H⟩ := H
     replace H : (if t186 = true then ((parapetref9_Number.f k1 t184).bind fun bt187 => (if bt187.2 = true then ((parapetref9_Address.f k1 bt187.1).bind fun t189 => (some (t189, 0))) else (some ((⟨#[]⟩ : ByteArray), 8)))) else (some (t184, 0))) = some (r1, r2) := H
     have A18 := Aside0.mk A180
     clear A180
     by_cases c19 : t186 = true
     ·subst c19
      have H1 : ((parapetref9_Number.f k1 t184).bind fun bt187 => (if bt187.2 = true then ((parapetref9_Address.f k1 bt187.1).bind fun t189 => (some (t189, 0))) else (some ((⟨#[]⟩ : ByteArray), 8)))) = some (r1, r2) := by rw [if_pos rfl] at H; exact H
      clear H
      have H := H1
      clear H1
      replace H := Option.bind_eq_some_iff.mp H
      obtain ⟨⟨t187, t188⟩, A200, H⟩ := H
      replace H : (if t188 = true then ((parapetref9_Address.f k1 t187).bind fun t189 => (some (t189, 0))) else (some ((⟨#[]⟩ : ByteArray), 8))) = some (r1, r2) := H
      have A20 := Aside0.mk A200
      clear A200
      by_cases c21 : t188 = true
      ·subst c21
       have H1 : ((parapetref9_Address.f k1 t187).bind fun t189 => (some (t189, 0))) = some (r1, r2) := by rw [if_pos rfl] at H; exact H
       clear H
       have H := H1
       clear H1
       replace H := Option.bind_eq_some_iff.mp H
       obtain ⟨t189, A220, H⟩ := H
       replace H : (some (t189, 0)) = some (r1, r2) := H
       have A22 := Aside0.mk A220
       clear A220
       simp only [Option.some.injEq, Prod.mk.injEq] at H
       obtain ⟨rfl, rfl⟩ := H
       go_wp2_with (first | ((with_reducible refine gate_callee (f := 65) rfl ?_); refine goesL_ (some 36) rfl rfl Tryd.func65 (by kernel_rfl) rfl #[.string t184] rfl GAK ?_; (with_reducible refine (parapetref9_numeric.calls k1 t184 true _ A18.out).mono ?_); rintro e w23 ⟨rfl, hb⟩; refine ⟨_, rfl, ?_⟩; have n0_ := Aside0.mk (below_step BWK hb); clear HB; have HB := n0_; clear n0_; (try clear hb); (try clear hb2); (try clear hk); (try clear hi)) | ((with_reducible refine gate_callee (f := 24) rfl ?_); refine goesL_ (some 39) rfl rfl Tryd.func24 (by kernel_rfl) rfl #[.string t184] rfl GAK ?_; (with_reducible refine (parapetref9_Number.calls k1 t184 t187 true _ A20.out).mono ?_); rintro e w24 ⟨rfl, hb⟩; refine ⟨_, rfl, ?_⟩; have n0_ := Aside0.mk (below_step BWK hb); clear HB; have HB := n0_; clear n0_; (try clear hb); (try clear hb2); (try clear hk); (try clear hi)) | ((with_reducible refine gate_callee (f := 25) rfl ?_); refine goesL_ (some 45) rfl rfl Tryd.func25 (by kernel_rfl) rfl #[.int .u32 t187] rfl GAK ?_; (with_reducible refine (parapetref9_Address.calls k1 t187 t189 _ A22.out).mono ?_); rintro e w25 ⟨rfl, hb⟩; refine ⟨_, rfl, ?_⟩; have n0_ := Aside0.mk (below_step BWK hb); clear HB; have HB := n0_; clear n0_; (try clear hb); (try clear hb2); (try clear hk); (try clear hi)))
       go_ret2
       exact ⟨ERK, BWK⟩
      ·replace c21 := Bool.eq_false_iff.mpr c21
       subst c21
       have H1 : (some ((⟨#[]⟩ : ByteArray), 8)) = some (r1, r2) := by rw [if_neg (show ¬ (false = true) by decide)] at H; exact H
       clear H
       have H := H1
       clear H1
       simp only [Option.some.injEq, Prod.mk.injEq] at H
       obtain ⟨rfl, rfl⟩ := H
       go_wp2_with (first | ((with_reducible refine gate_callee (f := 65) rfl ?_); refine goesL_ (some 36) rfl rfl Tryd.func65 (by kernel_rfl) rfl #[.string t184] rfl GAK ?_; (with_reducible refine (parapetref9_numeric.calls k1 t184 true _ A18.out).mono ?_); rintro e w26 ⟨rfl, hb⟩; refine ⟨_, rfl, ?_⟩; have n0_ := Aside0.mk (below_step BWK hb); clear HB; have HB := n0_; clear n0_; (try clear hb); (try clear hb2); (try clear hk); (try clear hi)) | ((with_reducible refine gate_callee (f := 24) rfl ?_); refine goesL_ (some 39) rfl rfl Tryd.func24 (by kernel_rfl) rfl #[.string t184] rfl GAK ?_; (with_reducible refine (parapetref9_Number.calls k1 t184 t187 false _ A20.out).mono ?_); rintro e w27 ⟨rfl, hb⟩; refine ⟨_, rfl, ?_⟩; have n0_ := Aside0.mk (below_step BWK hb); clear HB; have HB := n0_; clear n0_; (try clear hb); (try clear hb2); (try clear hk); (try clear hi)))
       go_ret2
       exact ⟨ERK, BWK⟩
     ·replace c19 := Bool.eq_false_iff.mpr c19
      subst c19
      have H1 : (some (t184, 0)) = some (r1, r2) := by rw [if_neg (show ¬ (false = true) by decide)] at H; exact H
      clear H
      have H := H1
      clear H1
      simp only [Option.some.injEq, Prod.mk.injEq] at H
      obtain ⟨rfl, rfl⟩ := H
      go_wp2_with (first | ((with_reducible refine gate_callee (f := 65) rfl ?_); refine goesL_ (some 36) rfl rfl Tryd.func65 (by kernel_rfl) rfl #[.string t184] rfl GAK ?_; (with_reducible refine (parapetref9_numeric.calls k1 t184 false _ A18.out).mono ?_); rintro e w28 ⟨rfl, hb⟩; refine ⟨_, rfl, ?_⟩; have n0_ := Aside0.mk (below_step BWK hb); clear HB; have HB := n0_; clear n0_; (try clear hb); (try clear hb2); (try clear hk); (try clear hi)))
      go_ret2
      exact ⟨ERK, BWK⟩

-- NOT PRINTED: function 34 (parapetref9_authority)

/-! ### parapetref9_dots: function 54 -/
def parapetref9_dots.l0 : Nat → ByteArray → Int → Option (Int)
 | 0, _, _ => none
 | k + 1, x0, x3 => if x0.toList = ([] : List UInt8) then (if x3 > 2 then (some 0) else (some x3)) else (if 0 < (x0.size : Int) then (if (bt x0 0) = 46 then (if 1 ≤ (x0.size : Int) then (parapetref9_dots.l0 k (x0.extract 1 x0.size) (wrap64 (x3 + 1))) else (none)) else (if (x0.size : Int) ≥ 3 then (if 0 ≤ 3 then (if 3 ≤ (x0.size : Int) then (if (x0.extract 0 3).toList = ([37, 50, 101] : List UInt8) then (parapetref9_dots.l0 k (x0.extract 3 x0.size) (wrap64 (x3 + 1))) else (some 0)) else (none)) else (none)) else (some 0))) else (none))
def parapetref9_dots.f (k : Nat) (a0 : ByteArray) : Option (Int) := (parapetref1_Lower.f k a0).bind fun t190 => (parapetref9_dots.l0 k t190 0)
theorem parapetref9_dots.mono_l : ∀ k, (∀ y0 y1, LeO (parapetref9_dots.l0 k y0 y1) (parapetref9_dots.l0 (k + 1) y0 y1))
 | 0 => fun _ _ r h => by simp [parapetref9_dots.l0] at h
 | k + 1 => by
  have ih0 := parapetref9_dots.mono_l k
  ·intro y0 y1
   unfold parapetref9_dots.l0
   repeat' first
   | (with_reducible exact ih0 _ _)
   | (with_reducible exact parapetref1_Lower.mono _ _)
   | (with_reducible exact LeO.refl _)
   | (with_reducible exact LeO.none _)
   | (with_reducible refine LeO.ite ?_ ?_)
   | (with_reducible refine LeO.bind ?_ (fun _ => ?_))
   | exact ih0 _ _
   | exact parapetref1_Lower.mono _ _
   | exact LeO.none _
   | refine LeO.ite ?_ ?_
   | refine LeO.bind ?_ (fun _ => ?_)
theorem parapetref9_dots.mono : ∀ a0 k, LeO (parapetref9_dots.f k a0) (parapetref9_dots.f (k + 1) a0) := by
 intro a0 k
 have ih0 := parapetref9_dots.mono_l k
 unfold parapetref9_dots.f
 repeat' first
   | (with_reducible exact ih0 _ _)
   | (with_reducible exact parapetref1_Lower.mono _ _)
   | (with_reducible exact LeO.refl _)
   | (with_reducible exact LeO.none _)
   | (with_reducible refine LeO.ite ?_ ?_)
   | (with_reducible refine LeO.bind ?_ (fun _ => ?_))
   | exact ih0 _ _
   | exact parapetref1_Lower.mono _ _
   | exact LeO.none _
   | refine LeO.ite ?_ ?_
   | refine LeO.bind ?_ (fun _ => ?_)
theorem parapetref9_dots.calls (k : Nat) (a0 : ByteArray) (r : Int) (w : World) (h : parapetref9_dots.f k a0 = some r) :
  Calls Tryd.prog 54 #[.string a0] w fun e w' => e = .returned (.int .i64 r) ∧ Below w.heap.size w w' := by
 have HB := Aside0.mk (Below.refl w.heap.size w)
 have H : ((parapetref1_Lower.f k a0).bind fun t190 => (parapetref9_dots.l0 k t190 0)) = some r := h
 clear h
 replace H := Option.bind_eq_some_iff.mp H
 obtain ⟨t190, A20, H⟩ := H
 (try dsimp only at H)
 have A2 := Aside0.mk A20
 clear A20
 have H' := Aside0.mk H
 clear H
 go_enter Tryd.func54, Tryd.ntmps54
 go_wp2_with (first | ((with_reducible refine gate_callee (f := 31) rfl ?_); refine goesL_ (some 5) rfl rfl Tryd.func31 (by kernel_rfl) rfl #[.string a0] rfl GAK ?_; (with_reducible refine (parapetref1_Lower.calls k a0 t190 _ A2.out).mono ?_); rintro e w3 ⟨rfl, hb⟩; refine ⟨_, rfl, ?_⟩; have n0_ := Aside0.mk (below_step BWK hb); clear HB; have HB := n0_; clear n0_; (try clear hb); (try clear hb2); (try clear hk); (try clear hi)))
 go_loopg [0, 3] k (fun kq v0 v3 w' => ∃ (x0_1 : ByteArray) (x3_1 : Int), v0 = .string x0_1 ∧ v3 = .int .i64 x3_1 ∧ Aside0 (parapetref9_dots.l0 kq x0_1 x3_1 = some r) ∧ Aside0 (kq ≤ k) ∧ Aside0 (Below w.heap.size w w'))
 case atStart => exact ⟨(t190), (0), RFK, RFK, H', ⟨Nat.le_refl _⟩, ⟨BWK⟩⟩
 case round =>
  clear H'
  try clear p2
  try clear c3
  obtain ⟨x0_1, x3_1, rfl, rfl, HA, HK1, HB⟩ := hrel
  cases gk with
  | zero => exact absurd HA.out (by simp [parapetref9_dots.l0])
  | succ k1 =>
   have H := HA.out
   clear HA
   simp only [parapetref9_dots.l0] at H
   by_cases c4 : x0_1.toList = ([] : List UInt8)
   ·rw [if_pos c4] at H
    have c4b0 : (x0_1.toList == ([] : List UInt8)) = true := beq_iff_eq.mpr c4
    have c4b1 : (x0_1.toList != ([] : List UInt8)) = false := bne_eq_false_iff_eq.mpr c4
    have c4b9 : (!x0_1.toList.isEmpty) = false := by simp [c4]
    (try rw [c4b9])
    clear c4
    by_cases c5 : x3_1 > 2
    ·rw [if_pos c5] at H
     have c5b0 := decide_eq_true c5
     clear c5
     obtain rfl := Option.some.inj H
     go_wp2
     go_ret
     exact ⟨ERK, BWK⟩
    ·rw [if_neg c5] at H
     have c5b0 := decide_eq_false c5
     clear c5
     obtain rfl := Option.some.inj H
     go_wp2
     go_ret
     exact ⟨ERK, BWK⟩
   ·rw [if_neg c4] at H
    have c4b0 : (x0_1.toList == ([] : List UInt8)) = false := beq_eq_false_iff_ne.mpr c4
    have c4b1 : (x0_1.toList != ([] : List UInt8)) = true := bne_iff_ne.mpr c4
    have c4b9 : (!x0_1.toList.isEmpty) = true := by simp [c4]
    (try rw [c4b9])
    by_cases c6 : 0 < (x0_1.size : Int)
    ·rw [if_pos c6] at H
     have c6b0 := decide_eq_true c6
     have c6b1 : decide (0 < x0_1.size) = true := decide_eq_true (by omega)
     clear c6
     by_cases c8 : (bt x0_1 0) = 46
     ·rw [if_pos c8] at H
      have c8b0 : ((bt x0_1 0) == 46) = true := beq_iff_eq.mpr c8
      have c8b1 : ((bt x0_1 0) != 46) = false := bne_eq_false_iff_eq.mpr c8
      clear c8
      by_cases c9 : 1 ≤ (x0_1.size : Int)
      ·rw [if_pos c9] at H
       have c9b0 := eq_true c9
       have c9b1 := decide_eq_true c9
       clear c9
       have H' := Aside0.mk H
       clear H
       have p7 : 0 ≤ (0 : Int) := (by omega)
       have q7 : 0 < x0_1.size := (by have : (0 : Int) < (x0_1.size : Int) := odA; omega)
       have hx7 : ∀ h : 0 < x0_1.size, ((x0_1[0]'h).toNat : Int) = bt x0_1 0 := bt_at x0_1 0
       clear p7
       have qi7 : (0 < (x0_1.size : Int)) = True := eq_true odA
       replace q7 := eq_true q7
       go_wp2
       go_roundg k1
       case measure => have := HK1.out; omega
       case rel => exact ⟨(x0_1.extract 1 x0_1.size), (wrap64 (x3_1 + 1)), RFK, RFK, H', ⟨by have := HK1.out; omega⟩, ⟨BWK⟩⟩
      ·rw [if_neg c9] at H
       exact absurd H (by simp)
     ·rw [if_neg c8] at H
      have c8b0 : ((bt x0_1 0) == 46) = false := beq_eq_false_iff_ne.mpr c8
      have c8b1 : ((bt x0_1 0) != 46) = true := bne_iff_ne.mpr c8
      by_cases c10 : (x0_1.size : Int) ≥ 3
      ·rw [if_pos c10] at H
       have c10b0 := decide_eq_true c10
       have c10b1 : decide (3 ≤ x0_1.size) = true := decide_eq_true (by omega)
       clear c10
       by_cases c11 : 0 ≤ 3
       ·rw [if_pos c11] at H
        have c11b0 := eq_true c11
        have c11b1 := decide_eq_true c11
        clear c11
        by_cases c12 : 3 ≤ (x0_1.size : Int)
        ·rw [if_pos c12] at H
         have c12b0 := eq_true c12
         have c12b1 := decide_eq_true c12
         clear c12
         by_cases c13 : (x0_1.extract 0 3).toList = ([37, 50, 101] : List UInt8)
         ·rw [if_pos c13] at H
          have c13b0 : ((x0_1.extract 0 3).toList == ([37, 50, 101] : List UInt8)) = true := beq_iff_eq.mpr c13
          have c13b1 : ((x0_1.extract 0 3).toList != ([37, 50, 101] : List UInt8)) = false := bne_eq_false_iff_eq.mpr c13
          clear c13
          have c14b0 := eq_true (odA : 3 ≤ (x0_1.size : Int))
          have H' := Aside0.mk H
          clear H
          have p7 : 0 ≤ (0 : Int) := (by omega)
          have q7 : 0 < x0_1.size := (by have : (0 : Int) < (x0_1.size : Int) := odA; omega)
          have hx7 : ∀ h : 0 < x0_1.size, ((x0_1[0]'h).toNat : Int) = bt x0_1 0 := bt_at x0_1 0
          clear p7
          have qi7 : (0 < (x0_1.size : Int)) = True := eq_true odA
          replace q7 := eq_true q7
          go_wp2
          go_roundg k1
          case measure => have := HK1.out; omega
          case rel => exact ⟨(x0_1.extract 3 x0_1.size), (wrap64 (x3_1 + 1)), RFK, RFK, H', ⟨by have := HK1.out; omega⟩, ⟨BWK⟩⟩
         ·rw [if_neg c13] at H
          have c13b0 : ((x0_1.extract 0 3).toList == ([37, 50, 101] : List UInt8)) = false := beq_eq_false_iff_ne.mpr c13
          have c13b1 : ((x0_1.extract 0 3).toList != ([37, 50, 101] : List UInt8)) = true := bne_iff_ne.mpr c13
          obtain rfl := Option.some.inj H
          have p7 : 0 ≤ (0 : Int) := (by omega)
          have q7 : 0 < x0_1.size := (by have : (0 : Int) < (x0_1.size : Int) := odA; omega)
          have hx7 : ∀ h : 0 < x0_1.size, ((x0_1[0]'h).toNat : Int) = bt x0_1 0 := bt_at x0_1 0
          clear p7
          have qi7 : (0 < (x0_1.size : Int)) = True := eq_true odA
          replace q7 := eq_true q7
          go_wp2
          go_ret
          exact ⟨ERK, BWK⟩
        ·rw [if_neg c12] at H
         exact absurd H (by simp)
       ·exact absurd (by decide) c11
      ·rw [if_neg c10] at H
       have c10b0 := decide_eq_false c10
       have c10b1 : decide (3 ≤ x0_1.size) = false := decide_eq_false (by omega)
       clear c10
       obtain rfl := Option.some.inj H
       have p7 : 0 ≤ (0 : Int) := (by omega)
       have q7 : 0 < x0_1.size := (by have : (0 : Int) < (x0_1.size : Int) := odA; omega)
       have hx7 : ∀ h : 0 < x0_1.size, ((x0_1[0]'h).toNat : Int) = bt x0_1 0 := bt_at x0_1 0
       clear p7
       have qi7 : (0 < (x0_1.size : Int)) = True := eq_true odA
       replace q7 := eq_true q7
       go_wp2
       go_ret
       exact ⟨ERK, BWK⟩
    ·rw [if_neg c6] at H
     exact absurd H (by simp)

end Go.Proofs.YtknkokkgefcdbaaDoor.PA
