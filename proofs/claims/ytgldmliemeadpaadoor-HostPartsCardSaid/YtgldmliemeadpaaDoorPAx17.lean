-- written by pp.py, a program of this session's, which runs the kit's print with turns of its own; Lean checks it
import Derived.Test.YtgldmliemeadpaaDoorPAx0
import Derived.Test.YtgldmliemeadpaaDoorPAx7
import Derived.Test.YtgldmliemeadpaaDoorPAx11
import Derived.Test.YtgldmliemeadpaaDoorPAx13
import Derived.Test.YtgldmliemeadpaaDoorPAx14
import Derived.Test.YtgldmliemeadpaaDoorPAx15
import Derived.Test.YtgldmliemeadpaaDoorPAx16
namespace Go.Proofs.YtgldmliemeadpaaDoor.PA
open Go.RowKit Go.Proofs.YtgldmliemeadpaaDoorW.PrintWords Go.Proofs.YtgldmliemeadpaaDoorW.PrintLast Go.Proofs.YtgldmliemeadpaaDoorW.PrintMore
attribute [local go_sem] max2_int min2_int max_two min_two max_three min_three max_four min_four   -- for this text's walks alone
set_option linter.unusedVariables false
set_option linter.unusedSimpArgs false

/-! ### parapetref9_numeric: function 37 -/
def parapetref9_numeric.f (k : Nat) (a0 : ByteArray) : Option (Bool) := (parapetref9_parts.f k a0).bind fun t323 => (if 0 ≤ (wrap64 ((t323.length : Int) - 1)) then (if (wrap64 ((t323.length : Int) - 1)) < (t323.length : Int) then ((parapetref9_digits.f k (rdOf ByteArray.empty t323 (wrap64 ((t323.length : Int) - 1))) 10).bind fun t327 => (if t327 = true then (some true) else (if ((rdOf ByteArray.empty t323 (wrap64 ((t323.length : Int) - 1))).size : Int) ≥ 2 then (if 0 < ((rdOf ByteArray.empty t323 (wrap64 ((t323.length : Int) - 1))).size : Int) then (if (bt (rdOf ByteArray.empty t323 (wrap64 ((t323.length : Int) - 1))) 0) = 48 then (if 1 < ((rdOf ByteArray.empty t323 (wrap64 ((t323.length : Int) - 1))).size : Int) then (if (bt (rdOf ByteArray.empty t323 (wrap64 ((t323.length : Int) - 1))) 1) = 120 then (if ((rdOf ByteArray.empty t323 (wrap64 ((t323.length : Int) - 1))).size : Int) = 2 then (some true) else (if 2 ≤ ((rdOf ByteArray.empty t323 (wrap64 ((t323.length : Int) - 1))).size : Int) then ((parapetref9_digits.f k ((rdOf ByteArray.empty t323 (wrap64 ((t323.length : Int) - 1))).extract 2 (rdOf ByteArray.empty t323 (wrap64 ((t323.length : Int) - 1))).size) 16).bind fun t328 => (some t328)) else (none))) else (if (bt (rdOf ByteArray.empty t323 (wrap64 ((t323.length : Int) - 1))) 1) = 88 then (if ((rdOf ByteArray.empty t323 (wrap64 ((t323.length : Int) - 1))).size : Int) = 2 then (some true) else (if 2 ≤ ((rdOf ByteArray.empty t323 (wrap64 ((t323.length : Int) - 1))).size : Int) then ((parapetref9_digits.f k ((rdOf ByteArray.empty t323 (wrap64 ((t323.length : Int) - 1))).extract 2 (rdOf ByteArray.empty t323 (wrap64 ((t323.length : Int) - 1))).size) 16).bind fun t329 => (some t329)) else (none))) else (some false))) else (none)) else (some false)) else (none)) else (some false)))) else (none)) else (none))
theorem parapetref9_numeric.mono : ∀ a0 k, LeO (parapetref9_numeric.f k a0) (parapetref9_numeric.f (k + 1) a0) := by
  intro a0 k
  unfold parapetref9_numeric.f
  repeat' first
      | (with_reducible exact parapetref9_digits.mono _ _ _)
      | (with_reducible exact parapetref9_parts.mono _ _)
      | (with_reducible exact LeO.refl _)
      | (with_reducible exact LeO.none _)
      | (with_reducible refine LeO.ite ?_ ?_)
      | (with_reducible refine LeO.bind ?_ (fun _ => ?_))
      | exact parapetref9_digits.mono _ _ _
      | exact parapetref9_parts.mono _ _
      | exact LeO.none _
      | refine LeO.ite ?_ ?_
      | refine LeO.bind ?_ (fun _ => ?_)
set_option maxHeartbeats 8000000 in
set_option maxRecDepth 100000 in
theorem parapetref9_numeric.calls (k : Nat) (a0 : ByteArray) (r : Bool) (w : World) (h : parapetref9_numeric.f k a0 = some r) :
    Calls Tryd.prog 37 #[.string a0] w fun e w' => e = .returned (.bool r) ∧ Below w.heap.size w w' := by
  have HB := Aside0.mk (Below.refl w.heap.size w)
  have H : ((parapetref9_parts.f k a0).bind fun t323 => (if 0 ≤ (wrap64 ((t323.length : Int) - 1)) then (if (wrap64 ((t323.length : Int) - 1)) < (t323.length : Int) then ((parapetref9_digits.f k (rdOf ByteArray.empty t323 (wrap64 ((t323.length : Int) - 1))) 10).bind fun t327 => (if t327 = true then (some true) else (if ((rdOf ByteArray.empty t323 (wrap64 ((t323.length : Int) - 1))).size : Int) ≥ 2 then (if 0 < ((rdOf ByteArray.empty t323 (wrap64 ((t323.length : Int) - 1))).size : Int) then (if (bt (rdOf ByteArray.empty t323 (wrap64 ((t323.length : Int) - 1))) 0) = 48 then (if 1 < ((rdOf ByteArray.empty t323 (wrap64 ((t323.length : Int) - 1))).size : Int) then (if (bt (rdOf ByteArray.empty t323 (wrap64 ((t323.length : Int) - 1))) 1) = 120 then (if ((rdOf ByteArray.empty t323 (wrap64 ((t323.length : Int) - 1))).size : Int) = 2 then (some true) else (if 2 ≤ ((rdOf ByteArray.empty t323 (wrap64 ((t323.length : Int) - 1))).size : Int) then ((parapetref9_digits.f k ((rdOf ByteArray.empty t323 (wrap64 ((t323.length : Int) - 1))).extract 2 (rdOf ByteArray.empty t323 (wrap64 ((t323.length : Int) - 1))).size) 16).bind fun t328 => (some t328)) else (none))) else (if (bt (rdOf ByteArray.empty t323 (wrap64 ((t323.length : Int) - 1))) 1) = 88 then (if ((rdOf ByteArray.empty t323 (wrap64 ((t323.length : Int) - 1))).size : Int) = 2 then (some true) else (if 2 ≤ ((rdOf ByteArray.empty t323 (wrap64 ((t323.length : Int) - 1))).size : Int) then ((parapetref9_digits.f k ((rdOf ByteArray.empty t323 (wrap64 ((t323.length : Int) - 1))).extract 2 (rdOf ByteArray.empty t323 (wrap64 ((t323.length : Int) - 1))).size) 16).bind fun t329 => (some t329)) else (none))) else (some false))) else (none)) else (some false)) else (none)) else (some false)))) else (none)) else (none))) = some r := h
  clear h
  replace H := Option.bind_eq_some_iff.mp H
  obtain ⟨t323, A20, H⟩ := H
  replace H : (if 0 ≤ (wrap64 ((t323.length : Int) - 1)) then (if (wrap64 ((t323.length : Int) - 1)) < (t323.length : Int) then ((parapetref9_digits.f k (rdOf ByteArray.empty t323 (wrap64 ((t323.length : Int) - 1))) 10).bind fun t327 => (if t327 = true then (some true) else (if ((rdOf ByteArray.empty t323 (wrap64 ((t323.length : Int) - 1))).size : Int) ≥ 2 then (if 0 < ((rdOf ByteArray.empty t323 (wrap64 ((t323.length : Int) - 1))).size : Int) then (if (bt (rdOf ByteArray.empty t323 (wrap64 ((t323.length : Int) - 1))) 0) = 48 then (if 1 < ((rdOf ByteArray.empty t323 (wrap64 ((t323.length : Int) - 1))).size : Int) then (if (bt (rdOf ByteArray.empty t323 (wrap64 ((t323.length : Int) - 1))) 1) = 120 then (if ((rdOf ByteArray.empty t323 (wrap64 ((t323.length : Int) - 1))).size : Int) = 2 then (some true) else (if 2 ≤ ((rdOf ByteArray.empty t323 (wrap64 ((t323.length : Int) - 1))).size : Int) then ((parapetref9_digits.f k ((rdOf ByteArray.empty t323 (wrap64 ((t323.length : Int) - 1))).extract 2 (rdOf ByteArray.empty t323 (wrap64 ((t323.length : Int) - 1))).size) 16).bind fun t328 => (some t328)) else (none))) else (if (bt (rdOf ByteArray.empty t323 (wrap64 ((t323.length : Int) - 1))) 1) = 88 then (if ((rdOf ByteArray.empty t323 (wrap64 ((t323.length : Int) - 1))).size : Int) = 2 then (some true) else (if 2 ≤ ((rdOf ByteArray.empty t323 (wrap64 ((t323.length : Int) - 1))).size : Int) then ((parapetref9_digits.f k ((rdOf ByteArray.empty t323 (wrap64 ((t323.length : Int) - 1))).extract 2 (rdOf ByteArray.empty t323 (wrap64 ((t323.length : Int) - 1))).size) 16).bind fun t329 => (some t329)) else (none))) else (some false))) else (none)) else (some false)) else (none)) else (some false)))) else (none)) else (none)) = some r := H
  have A2 := Aside0.mk A20
  clear A20
  obtain ⟨ji3, hji3⟩ : ∃ j_ : Int, (wrap64 ((t323.length : Int) - 1)) = j_ := ⟨_, rfl⟩
  replace H : (if 0 ≤ (ji3) then (if (ji3) < (t323.length : Int) then ((parapetref9_digits.f k (rdOf ByteArray.empty t323 (ji3)) 10).bind fun t327 => (if t327 = true then (some true) else (if ((rdOf ByteArray.empty t323 (ji3)).size : Int) ≥ 2 then (if 0 < ((rdOf ByteArray.empty t323 (ji3)).size : Int) then (if (bt (rdOf ByteArray.empty t323 (ji3)) 0) = 48 then (if 1 < ((rdOf ByteArray.empty t323 (ji3)).size : Int) then (if (bt (rdOf ByteArray.empty t323 (ji3)) 1) = 120 then (if ((rdOf ByteArray.empty t323 (ji3)).size : Int) = 2 then (some true) else (if 2 ≤ ((rdOf ByteArray.empty t323 (ji3)).size : Int) then ((parapetref9_digits.f k ((rdOf ByteArray.empty t323 (ji3)).extract 2 (rdOf ByteArray.empty t323 (ji3)).size) 16).bind fun t328 => (some t328)) else (none))) else (if (bt (rdOf ByteArray.empty t323 (ji3)) 1) = 88 then (if ((rdOf ByteArray.empty t323 (ji3)).size : Int) = 2 then (some true) else (if 2 ≤ ((rdOf ByteArray.empty t323 (ji3)).size : Int) then ((parapetref9_digits.f k ((rdOf ByteArray.empty t323 (ji3)).extract 2 (rdOf ByteArray.empty t323 (ji3)).size) 16).bind fun t329 => (some t329)) else (none))) else (some false))) else (none)) else (some false)) else (none)) else (some false)))) else (none)) else (none)) = some r := by first | (rw [hji3] at H; exact H) | (simp only [hji3] at H ⊢; exact H)
  (try rw [hji3] at A2)
  have hji3w : (IntKind.i64.wrap ((t323.length : Int) - 1)) = ji3 := (i64_w _).trans hji3
  by_cases c4 : 0 ≤ (ji3)
  rotate_left
  · rw [if_neg c4] at H
    exact absurd H (by simp)
  rw [if_pos c4] at H
  have c4b0 : decide (0 ≤ (ji3)) = true := decide_eq_true c4
  clear c4
  by_cases c5 : (ji3) < (t323.length : Int)
  rotate_left
  · rw [if_neg c5] at H
    exact absurd H (by simp)
  rw [if_pos c5] at H
  have c5b0 : decide ((ji3) < (t323.length : Int)) = true := decide_eq_true c5
  clear c5
  replace H := Option.bind_eq_some_iff.mp H
  obtain ⟨t327, A60, H⟩ := H
  replace H : (if t327 = true then (some true) else (if ((rdOf ByteArray.empty t323 (ji3)).size : Int) ≥ 2 then (if 0 < ((rdOf ByteArray.empty t323 (ji3)).size : Int) then (if (bt (rdOf ByteArray.empty t323 (ji3)) 0) = 48 then (if 1 < ((rdOf ByteArray.empty t323 (ji3)).size : Int) then (if (bt (rdOf ByteArray.empty t323 (ji3)) 1) = 120 then (if ((rdOf ByteArray.empty t323 (ji3)).size : Int) = 2 then (some true) else (if 2 ≤ ((rdOf ByteArray.empty t323 (ji3)).size : Int) then ((parapetref9_digits.f k ((rdOf ByteArray.empty t323 (ji3)).extract 2 (rdOf ByteArray.empty t323 (ji3)).size) 16).bind fun t328 => (some t328)) else (none))) else (if (bt (rdOf ByteArray.empty t323 (ji3)) 1) = 88 then (if ((rdOf ByteArray.empty t323 (ji3)).size : Int) = 2 then (some true) else (if 2 ≤ ((rdOf ByteArray.empty t323 (ji3)).size : Int) then ((parapetref9_digits.f k ((rdOf ByteArray.empty t323 (ji3)).extract 2 (rdOf ByteArray.empty t323 (ji3)).size) 16).bind fun t329 => (some t329)) else (none))) else (some false))) else (none)) else (some false)) else (none)) else (some false))) = some r := H
  have A6 := Aside0.mk A60
  clear A60
  by_cases c7 : t327 = true
  · subst c7
    have H1 : (some true) = some r := by rw [if_pos rfl] at H; exact H
    clear H
    have H := H1
    clear H1
    obtain rfl := Option.some.inj H
    go_enter Tryd.func37, Tryd.ntmps37
    go_wp2_with (first | ((with_reducible refine gate_callee (f := 31) rfl ?_); refine goesL_ (some 6) rfl rfl Tryd.func31 (by kernel_rfl) rfl #[.string a0] rfl (by (try simp only [List.map_toArray, List.map_cons, List.map_nil]); first | done | rfl | (simp only [List.length_drop, List.length_take]; rfl)) ?_; (with_reducible refine (parapetref9_parts.calls k a0 t323 _ A2.out).mono ?_); rintro e w8 ⟨v324, rfl, ho0, hb⟩; refine ⟨_, rfl, ?_⟩; have n0_ := Aside0.mk (Kd.R_lower ho0 (below_size (by repeat (first | (with_reducible first | exact HB.out | apply below_alloc | apply pw_below_drewN | apply below_drew1) | exact HB.out)))); have n1_ := Aside0.mk (below_step (by repeat (first | (with_reducible first | exact HB.out | apply below_alloc | apply pw_below_drewN | apply below_drew1) | exact HB.out)) hb); clear HB; have HO325 := n0_; have HB := n1_; clear n0_ n1_; (try clear hb); (try clear hb2); (try clear hk); (try clear hi); (try clear ho0); obtain ⟨Ao9, co9, eo9⟩ := Kd.R_slice HO325.out; subst eo9; have p326 : 0 ≤ ((ji3) : Int) := of_decide_eq_true (by first | (with_reducible assumption) | assumption); have q326 : (ji3) < (t323.length : Int) := of_decide_eq_true (by first | (with_reducible assumption) | assumption); obtain ⟨ad326, e326, hx326_0⟩ := Kd.at_string (Kd.R_reads' HO325.out).2.2 (ji3) p326 q326; cases e326; replace p326 := eq_true p326; replace q326 := eq_true q326) | ((with_reducible refine gate_callee (f := 46) rfl ?_); refine goesL_ (some 14) rfl rfl Tryd.func46 (by kernel_rfl) rfl #[.string (rdOf ByteArray.empty t323 (ji3)), .int .i64 10] rfl (by (try simp only [List.map_toArray, List.map_cons, List.map_nil]); first | done | (simp only [hji3]; rfl) | rfl | (simp only [List.length_drop, List.length_take]; rfl)) ?_; (with_reducible refine (parapetref9_digits.calls k (rdOf ByteArray.empty t323 (ji3)) 10 true _ A6.out).mono ?_); rintro e w' ⟨rfl, ⟨nd, rfl⟩⟩; refine ⟨_, rfl, ?_⟩))
    go_ret
    exact ⟨by first | rfl | (simp [errW_none, errW_some] <;> rfl) | (simp only [← hji3]; first | rfl | (simp [errW_none, errW_some] <;> rfl)) | (simp [*, errW_none, errW_some] <;> rfl), by repeat (first | (with_reducible first | exact HB.out | apply below_alloc | apply pw_below_drewN | apply below_drew1) | exact HB.out)⟩
  · replace c7 := Bool.eq_false_iff.mpr c7
    subst c7
    have H1 : (if ((rdOf ByteArray.empty t323 (ji3)).size : Int) ≥ 2 then (if 0 < ((rdOf ByteArray.empty t323 (ji3)).size : Int) then (if (bt (rdOf ByteArray.empty t323 (ji3)) 0) = 48 then (if 1 < ((rdOf ByteArray.empty t323 (ji3)).size : Int) then (if (bt (rdOf ByteArray.empty t323 (ji3)) 1) = 120 then (if ((rdOf ByteArray.empty t323 (ji3)).size : Int) = 2 then (some true) else (if 2 ≤ ((rdOf ByteArray.empty t323 (ji3)).size : Int) then ((parapetref9_digits.f k ((rdOf ByteArray.empty t323 (ji3)).extract 2 (rdOf ByteArray.empty t323 (ji3)).size) 16).bind fun t328 => (some t328)) else (none))) else (if (bt (rdOf ByteArray.empty t323 (ji3)) 1) = 88 then (if ((rdOf ByteArray.empty t323 (ji3)).size : Int) = 2 then (some true) else (if 2 ≤ ((rdOf ByteArray.empty t323 (ji3)).size : Int) then ((parapetref9_digits.f k ((rdOf ByteArray.empty t323 (ji3)).extract 2 (rdOf ByteArray.empty t323 (ji3)).size) 16).bind fun t329 => (some t329)) else (none))) else (some false))) else (none)) else (some false)) else (none)) else (some false)) = some r := by rw [if_neg (show ¬ (false = true) by decide)] at H; exact H
    clear H
    have H := H1
    clear H1
    by_cases c10 : ((rdOf ByteArray.empty t323 (ji3)).size : Int) ≥ 2
    · rw [if_pos c10] at H
      have c10b0 : decide (2 ≤ ((rdOf ByteArray.empty t323 (ji3)).size : Int)) = true := decide_eq_true c10
      have c10b1 : decide (2 ≤ (rdOf ByteArray.empty t323 (ji3)).size) = true := decide_eq_true (by omega)
      clear c10
      by_cases c11 : 0 < ((rdOf ByteArray.empty t323 (ji3)).size : Int)
      rotate_left
      · rw [if_neg c11] at H
        exact absurd H (by simp)
      rw [if_pos c11] at H
      have c11b0 : decide (0 < ((rdOf ByteArray.empty t323 (ji3)).size : Int)) = true := decide_eq_true c11
      have c11b1 : decide (0 < (rdOf ByteArray.empty t323 (ji3)).size) = true := decide_eq_true (by omega)
      clear c11
      by_cases c13 : (bt (rdOf ByteArray.empty t323 (ji3)) 0) = 48
      rotate_left
      · rw [if_neg c13] at H
        have c13b0 : ((bt (rdOf ByteArray.empty t323 (ji3)) 0) == 48) = false := beq_eq_false_iff_ne.mpr c13
        have c13b1 : ((bt (rdOf ByteArray.empty t323 (ji3)) 0) != 48) = true := bne_iff_ne.mpr c13
        obtain rfl := Option.some.inj H
        go_enter Tryd.func37, Tryd.ntmps37
        go_wp2_with (first | ((with_reducible refine gate_callee (f := 31) rfl ?_); refine goesL_ (some 6) rfl rfl Tryd.func31 (by kernel_rfl) rfl #[.string a0] rfl (by (try simp only [List.map_toArray, List.map_cons, List.map_nil]); first | done | rfl | (simp only [List.length_drop, List.length_take]; rfl)) ?_; (with_reducible refine (parapetref9_parts.calls k a0 t323 _ A2.out).mono ?_); rintro e w35 ⟨v324, rfl, ho0, hb⟩; refine ⟨_, rfl, ?_⟩; have n0_ := Aside0.mk (Kd.R_lower ho0 (below_size (by repeat (first | (with_reducible first | exact HB.out | apply below_alloc | apply pw_below_drewN | apply below_drew1) | exact HB.out)))); have n1_ := Aside0.mk (below_step (by repeat (first | (with_reducible first | exact HB.out | apply below_alloc | apply pw_below_drewN | apply below_drew1) | exact HB.out)) hb); clear HB; have HO325 := n0_; have HB := n1_; clear n0_ n1_; (try clear hb); (try clear hb2); (try clear hk); (try clear hi); (try clear ho0); obtain ⟨Ao36, co36, eo36⟩ := Kd.R_slice HO325.out; subst eo36; have p326 : 0 ≤ ((ji3) : Int) := of_decide_eq_true (by first | (with_reducible assumption) | assumption); have q326 : (ji3) < (t323.length : Int) := of_decide_eq_true (by first | (with_reducible assumption) | assumption); obtain ⟨ad326, e326, hx326_0⟩ := Kd.at_string (Kd.R_reads' HO325.out).2.2 (ji3) p326 q326; cases e326; replace p326 := eq_true p326; replace q326 := eq_true q326) | ((with_reducible refine gate_callee (f := 46) rfl ?_); refine goesL_ (some 14) rfl rfl Tryd.func46 (by kernel_rfl) rfl #[.string (rdOf ByteArray.empty t323 (ji3)), .int .i64 10] rfl (by (try simp only [List.map_toArray, List.map_cons, List.map_nil]); first | done | (simp only [hji3]; rfl) | rfl | (simp only [List.length_drop, List.length_take]; rfl)) ?_; (with_reducible refine (parapetref9_digits.calls k (rdOf ByteArray.empty t323 (ji3)) 10 false _ A6.out).mono ?_); rintro e w' ⟨rfl, ⟨nd, rfl⟩⟩; refine ⟨_, rfl, ?_⟩; have p12 : 0 ≤ (0 : Int) := (by omega); have q12 : 0 < (rdOf ByteArray.empty t323 (ji3)).size := (by have : (0 : Int) < ((rdOf ByteArray.empty t323 (ji3)).size : Int) := of_decide_eq_true (by first | (with_reducible assumption) | assumption); omega); have hx12 : ∀ h : 0 < (rdOf ByteArray.empty t323 (ji3)).size, (((rdOf ByteArray.empty t323 (ji3))[0]'h).toNat : Int) = bt (rdOf ByteArray.empty t323 (ji3)) 0 := bt_at (rdOf ByteArray.empty t323 (ji3)) 0; clear p12; have qi12 : (0 < ((rdOf ByteArray.empty t323 (ji3)).size : Int)) = True := eq_true (of_decide_eq_true (by first | (with_reducible assumption) | assumption)); replace q12 := eq_true q12))
        go_ret
        exact ⟨by first | rfl | (simp [errW_none, errW_some] <;> rfl) | (simp only [← hji3]; first | rfl | (simp [errW_none, errW_some] <;> rfl)) | (simp [*, errW_none, errW_some] <;> rfl), by repeat (first | (with_reducible first | exact HB.out | apply below_alloc | apply pw_below_drewN | apply below_drew1) | exact HB.out)⟩
      rw [if_pos c13] at H
      have c13b0 : ((bt (rdOf ByteArray.empty t323 (ji3)) 0) == 48) = true := beq_iff_eq.mpr c13
      have c13b1 : ((bt (rdOf ByteArray.empty t323 (ji3)) 0) != 48) = false := bne_eq_false_iff_eq.mpr c13
      clear c13
      by_cases c14 : 1 < ((rdOf ByteArray.empty t323 (ji3)).size : Int)
      rotate_left
      · rw [if_neg c14] at H
        exact absurd H (by simp)
      rw [if_pos c14] at H
      have c14b0 : decide (1 < ((rdOf ByteArray.empty t323 (ji3)).size : Int)) = true := decide_eq_true c14
      have c14b1 : decide (1 < (rdOf ByteArray.empty t323 (ji3)).size) = true := decide_eq_true (by omega)
      clear c14
      by_cases c16 : (bt (rdOf ByteArray.empty t323 (ji3)) 1) = 120
      · rw [if_pos c16] at H
        have c16b0 : ((bt (rdOf ByteArray.empty t323 (ji3)) 1) == 120) = true := beq_iff_eq.mpr c16
        have c16b1 : ((bt (rdOf ByteArray.empty t323 (ji3)) 1) != 120) = false := bne_eq_false_iff_eq.mpr c16
        clear c16
        by_cases c17 : ((rdOf ByteArray.empty t323 (ji3)).size : Int) = 2
        · rw [if_pos c17] at H
          have c17b0 : (((rdOf ByteArray.empty t323 (ji3)).size : Int) == 2) = true := beq_iff_eq.mpr c17
          have c17b1 : (((rdOf ByteArray.empty t323 (ji3)).size : Int) != 2) = false := bne_eq_false_iff_eq.mpr c17
          clear c17
          obtain rfl := Option.some.inj H
          go_enter Tryd.func37, Tryd.ntmps37
          go_wp2_with (first | ((with_reducible refine gate_callee (f := 31) rfl ?_); refine goesL_ (some 6) rfl rfl Tryd.func31 (by kernel_rfl) rfl #[.string a0] rfl (by (try simp only [List.map_toArray, List.map_cons, List.map_nil]); first | done | rfl | (simp only [List.length_drop, List.length_take]; rfl)) ?_; (with_reducible refine (parapetref9_parts.calls k a0 t323 _ A2.out).mono ?_); rintro e w18 ⟨v324, rfl, ho0, hb⟩; refine ⟨_, rfl, ?_⟩; have n0_ := Aside0.mk (Kd.R_lower ho0 (below_size (by repeat (first | (with_reducible first | exact HB.out | apply below_alloc | apply pw_below_drewN | apply below_drew1) | exact HB.out)))); have n1_ := Aside0.mk (below_step (by repeat (first | (with_reducible first | exact HB.out | apply below_alloc | apply pw_below_drewN | apply below_drew1) | exact HB.out)) hb); clear HB; have HO325 := n0_; have HB := n1_; clear n0_ n1_; (try clear hb); (try clear hb2); (try clear hk); (try clear hi); (try clear ho0); obtain ⟨Ao19, co19, eo19⟩ := Kd.R_slice HO325.out; subst eo19; have p326 : 0 ≤ ((ji3) : Int) := of_decide_eq_true (by first | (with_reducible assumption) | assumption); have q326 : (ji3) < (t323.length : Int) := of_decide_eq_true (by first | (with_reducible assumption) | assumption); obtain ⟨ad326, e326, hx326_0⟩ := Kd.at_string (Kd.R_reads' HO325.out).2.2 (ji3) p326 q326; cases e326; replace p326 := eq_true p326; replace q326 := eq_true q326) | ((with_reducible refine gate_callee (f := 46) rfl ?_); refine goesL_ (some 14) rfl rfl Tryd.func46 (by kernel_rfl) rfl #[.string (rdOf ByteArray.empty t323 (ji3)), .int .i64 10] rfl (by (try simp only [List.map_toArray, List.map_cons, List.map_nil]); first | done | (simp only [hji3]; rfl) | rfl | (simp only [List.length_drop, List.length_take]; rfl)) ?_; (with_reducible refine (parapetref9_digits.calls k (rdOf ByteArray.empty t323 (ji3)) 10 false _ A6.out).mono ?_); rintro e w' ⟨rfl, ⟨nd, rfl⟩⟩; refine ⟨_, rfl, ?_⟩; have p12 : 0 ≤ (0 : Int) := (by omega); have q12 : 0 < (rdOf ByteArray.empty t323 (ji3)).size := (by have : (0 : Int) < ((rdOf ByteArray.empty t323 (ji3)).size : Int) := of_decide_eq_true (by first | (with_reducible assumption) | assumption); omega); have hx12 : ∀ h : 0 < (rdOf ByteArray.empty t323 (ji3)).size, (((rdOf ByteArray.empty t323 (ji3))[0]'h).toNat : Int) = bt (rdOf ByteArray.empty t323 (ji3)) 0 := bt_at (rdOf ByteArray.empty t323 (ji3)) 0; clear p12; have qi12 : (0 < ((rdOf ByteArray.empty t323 (ji3)).size : Int)) = True := eq_true (of_decide_eq_true (by first | (with_reducible assumption) | assumption)); replace q12 := eq_true q12; have p15 : 0 ≤ (1 : Int) := (by omega); have q15 : 1 < (rdOf ByteArray.empty t323 (ji3)).size := (by have : (1 : Int) < ((rdOf ByteArray.empty t323 (ji3)).size : Int) := of_decide_eq_true (by first | (with_reducible assumption) | assumption); omega); have hx15 : ∀ h : 1 < (rdOf ByteArray.empty t323 (ji3)).size, (((rdOf ByteArray.empty t323 (ji3))[1]'h).toNat : Int) = bt (rdOf ByteArray.empty t323 (ji3)) 1 := bt_at (rdOf ByteArray.empty t323 (ji3)) 1; clear p15; have qi15 : (1 < ((rdOf ByteArray.empty t323 (ji3)).size : Int)) = True := eq_true (of_decide_eq_true (by first | (with_reducible assumption) | assumption)); replace q15 := eq_true q15))
          go_ret
          exact ⟨by first | rfl | (simp [errW_none, errW_some] <;> rfl) | (simp only [← hji3]; first | rfl | (simp [errW_none, errW_some] <;> rfl)) | (simp [*, errW_none, errW_some] <;> rfl), by repeat (first | (with_reducible first | exact HB.out | apply below_alloc | apply pw_below_drewN | apply below_drew1) | exact HB.out)⟩
        · rw [if_neg c17] at H
          have c17b0 : (((rdOf ByteArray.empty t323 (ji3)).size : Int) == 2) = false := beq_eq_false_iff_ne.mpr c17
          have c17b1 : (((rdOf ByteArray.empty t323 (ji3)).size : Int) != 2) = true := bne_iff_ne.mpr c17
          by_cases c20 : 2 ≤ ((rdOf ByteArray.empty t323 (ji3)).size : Int)
          rotate_left
          · rw [if_neg c20] at H
            exact absurd H (by simp)
          rw [if_pos c20] at H
          have c20b0 := eq_true c20
          have c20b1 : decide (2 ≤ ((rdOf ByteArray.empty t323 (ji3)).size : Int)) = true := decide_eq_true c20
          clear c20
          replace H := Option.bind_eq_some_iff.mp H
          obtain ⟨t328, A210, H⟩ := H
          replace H : (some t328) = some r := H
          have A21 := Aside0.mk A210
          clear A210
          obtain rfl := Option.some.inj H
          go_enter Tryd.func37, Tryd.ntmps37
          go_wp2_with (first | ((with_reducible refine gate_callee (f := 31) rfl ?_); refine goesL_ (some 6) rfl rfl Tryd.func31 (by kernel_rfl) rfl #[.string a0] rfl (by (try simp only [List.map_toArray, List.map_cons, List.map_nil]); first | done | rfl | (simp only [List.length_drop, List.length_take]; rfl)) ?_; (with_reducible refine (parapetref9_parts.calls k a0 t323 _ A2.out).mono ?_); rintro e w22 ⟨v324, rfl, ho0, hb⟩; refine ⟨_, rfl, ?_⟩; have n0_ := Aside0.mk (Kd.R_lower ho0 (below_size (by repeat (first | (with_reducible first | exact HB.out | apply below_alloc | apply pw_below_drewN | apply below_drew1) | exact HB.out)))); have n1_ := Aside0.mk (below_step (by repeat (first | (with_reducible first | exact HB.out | apply below_alloc | apply pw_below_drewN | apply below_drew1) | exact HB.out)) hb); clear HB; have HO325 := n0_; have HB := n1_; clear n0_ n1_; (try clear hb); (try clear hb2); (try clear hk); (try clear hi); (try clear ho0); obtain ⟨Ao23, co23, eo23⟩ := Kd.R_slice HO325.out; subst eo23; have p326 : 0 ≤ ((ji3) : Int) := of_decide_eq_true (by first | (with_reducible assumption) | assumption); have q326 : (ji3) < (t323.length : Int) := of_decide_eq_true (by first | (with_reducible assumption) | assumption); obtain ⟨ad326, e326, hx326_0⟩ := Kd.at_string (Kd.R_reads' HO325.out).2.2 (ji3) p326 q326; cases e326; replace p326 := eq_true p326; replace q326 := eq_true q326) | ((with_reducible refine gate_callee (f := 46) rfl ?_); refine goesL_ (some 14) rfl rfl Tryd.func46 (by kernel_rfl) rfl #[.string (rdOf ByteArray.empty t323 (ji3)), .int .i64 10] rfl (by (try simp only [List.map_toArray, List.map_cons, List.map_nil]); first | done | (simp only [hji3]; rfl) | rfl | (simp only [List.length_drop, List.length_take]; rfl)) ?_; (with_reducible refine (parapetref9_digits.calls k (rdOf ByteArray.empty t323 (ji3)) 10 false _ A6.out).mono ?_); rintro e w' ⟨rfl, ⟨nd, rfl⟩⟩; refine ⟨_, rfl, ?_⟩; have p12 : 0 ≤ (0 : Int) := (by omega); have q12 : 0 < (rdOf ByteArray.empty t323 (ji3)).size := (by have : (0 : Int) < ((rdOf ByteArray.empty t323 (ji3)).size : Int) := of_decide_eq_true (by first | (with_reducible assumption) | assumption); omega); have hx12 : ∀ h : 0 < (rdOf ByteArray.empty t323 (ji3)).size, (((rdOf ByteArray.empty t323 (ji3))[0]'h).toNat : Int) = bt (rdOf ByteArray.empty t323 (ji3)) 0 := bt_at (rdOf ByteArray.empty t323 (ji3)) 0; clear p12; have qi12 : (0 < ((rdOf ByteArray.empty t323 (ji3)).size : Int)) = True := eq_true (of_decide_eq_true (by first | (with_reducible assumption) | assumption)); replace q12 := eq_true q12; have p15 : 0 ≤ (1 : Int) := (by omega); have q15 : 1 < (rdOf ByteArray.empty t323 (ji3)).size := (by have : (1 : Int) < ((rdOf ByteArray.empty t323 (ji3)).size : Int) := of_decide_eq_true (by first | (with_reducible assumption) | assumption); omega); have hx15 : ∀ h : 1 < (rdOf ByteArray.empty t323 (ji3)).size, (((rdOf ByteArray.empty t323 (ji3))[1]'h).toNat : Int) = bt (rdOf ByteArray.empty t323 (ji3)) 1 := bt_at (rdOf ByteArray.empty t323 (ji3)) 1; clear p15; have qi15 : (1 < ((rdOf ByteArray.empty t323 (ji3)).size : Int)) = True := eq_true (of_decide_eq_true (by first | (with_reducible assumption) | assumption)); replace q15 := eq_true q15) | (go_at_call 46; (with_reducible refine (parapetref9_digits.calls k ((rdOf ByteArray.empty t323 (ji3)).extract 2 (rdOf ByteArray.empty t323 (ji3)).size) 16 t328 _ A21.out).mono ?_); rintro e w' ⟨rfl, ⟨nd, rfl⟩⟩))
          go_ret
          exact ⟨by first | rfl | (simp [errW_none, errW_some] <;> rfl) | (simp only [← hji3]; first | rfl | (simp [errW_none, errW_some] <;> rfl)) | (simp [*, errW_none, errW_some] <;> rfl), by repeat (first | (with_reducible first | exact HB.out | apply below_alloc | apply pw_below_drewN | apply below_drew1) | exact HB.out)⟩
      · rw [if_neg c16] at H
        have c16b0 : ((bt (rdOf ByteArray.empty t323 (ji3)) 1) == 120) = false := beq_eq_false_iff_ne.mpr c16
        have c16b1 : ((bt (rdOf ByteArray.empty t323 (ji3)) 1) != 120) = true := bne_iff_ne.mpr c16
        by_cases c25 : (bt (rdOf ByteArray.empty t323 (ji3)) 1) = 88
        rotate_left
        · rw [if_neg c25] at H
          have c25b0 : ((bt (rdOf ByteArray.empty t323 (ji3)) 1) == 88) = false := beq_eq_false_iff_ne.mpr c25
          have c25b1 : ((bt (rdOf ByteArray.empty t323 (ji3)) 1) != 88) = true := bne_iff_ne.mpr c25
          obtain rfl := Option.some.inj H
          go_enter Tryd.func37, Tryd.ntmps37
          go_wp2_with (first | ((with_reducible refine gate_callee (f := 31) rfl ?_); refine goesL_ (some 6) rfl rfl Tryd.func31 (by kernel_rfl) rfl #[.string a0] rfl (by (try simp only [List.map_toArray, List.map_cons, List.map_nil]); first | done | rfl | (simp only [List.length_drop, List.length_take]; rfl)) ?_; (with_reducible refine (parapetref9_parts.calls k a0 t323 _ A2.out).mono ?_); rintro e w33 ⟨v324, rfl, ho0, hb⟩; refine ⟨_, rfl, ?_⟩; have n0_ := Aside0.mk (Kd.R_lower ho0 (below_size (by repeat (first | (with_reducible first | exact HB.out | apply below_alloc | apply pw_below_drewN | apply below_drew1) | exact HB.out)))); have n1_ := Aside0.mk (below_step (by repeat (first | (with_reducible first | exact HB.out | apply below_alloc | apply pw_below_drewN | apply below_drew1) | exact HB.out)) hb); clear HB; have HO325 := n0_; have HB := n1_; clear n0_ n1_; (try clear hb); (try clear hb2); (try clear hk); (try clear hi); (try clear ho0); obtain ⟨Ao34, co34, eo34⟩ := Kd.R_slice HO325.out; subst eo34; have p326 : 0 ≤ ((ji3) : Int) := of_decide_eq_true (by first | (with_reducible assumption) | assumption); have q326 : (ji3) < (t323.length : Int) := of_decide_eq_true (by first | (with_reducible assumption) | assumption); obtain ⟨ad326, e326, hx326_0⟩ := Kd.at_string (Kd.R_reads' HO325.out).2.2 (ji3) p326 q326; cases e326; replace p326 := eq_true p326; replace q326 := eq_true q326) | ((with_reducible refine gate_callee (f := 46) rfl ?_); refine goesL_ (some 14) rfl rfl Tryd.func46 (by kernel_rfl) rfl #[.string (rdOf ByteArray.empty t323 (ji3)), .int .i64 10] rfl (by (try simp only [List.map_toArray, List.map_cons, List.map_nil]); first | done | (simp only [hji3]; rfl) | rfl | (simp only [List.length_drop, List.length_take]; rfl)) ?_; (with_reducible refine (parapetref9_digits.calls k (rdOf ByteArray.empty t323 (ji3)) 10 false _ A6.out).mono ?_); rintro e w' ⟨rfl, ⟨nd, rfl⟩⟩; refine ⟨_, rfl, ?_⟩; have p12 : 0 ≤ (0 : Int) := (by omega); have q12 : 0 < (rdOf ByteArray.empty t323 (ji3)).size := (by have : (0 : Int) < ((rdOf ByteArray.empty t323 (ji3)).size : Int) := of_decide_eq_true (by first | (with_reducible assumption) | assumption); omega); have hx12 : ∀ h : 0 < (rdOf ByteArray.empty t323 (ji3)).size, (((rdOf ByteArray.empty t323 (ji3))[0]'h).toNat : Int) = bt (rdOf ByteArray.empty t323 (ji3)) 0 := bt_at (rdOf ByteArray.empty t323 (ji3)) 0; clear p12; have qi12 : (0 < ((rdOf ByteArray.empty t323 (ji3)).size : Int)) = True := eq_true (of_decide_eq_true (by first | (with_reducible assumption) | assumption)); replace q12 := eq_true q12; have p15 : 0 ≤ (1 : Int) := (by omega); have q15 : 1 < (rdOf ByteArray.empty t323 (ji3)).size := (by have : (1 : Int) < ((rdOf ByteArray.empty t323 (ji3)).size : Int) := of_decide_eq_true (by first | (with_reducible assumption) | assumption); omega); have hx15 : ∀ h : 1 < (rdOf ByteArray.empty t323 (ji3)).size, (((rdOf ByteArray.empty t323 (ji3))[1]'h).toNat : Int) = bt (rdOf ByteArray.empty t323 (ji3)) 1 := bt_at (rdOf ByteArray.empty t323 (ji3)) 1; clear p15; have qi15 : (1 < ((rdOf ByteArray.empty t323 (ji3)).size : Int)) = True := eq_true (of_decide_eq_true (by first | (with_reducible assumption) | assumption)); replace q15 := eq_true q15; have p24 : 0 ≤ (1 : Int) := (by omega); have q24 : 1 < (rdOf ByteArray.empty t323 (ji3)).size := (by have : (1 : Int) < ((rdOf ByteArray.empty t323 (ji3)).size : Int) := of_decide_eq_true (by first | (with_reducible assumption) | assumption); omega); have hx24 : ∀ h : 1 < (rdOf ByteArray.empty t323 (ji3)).size, (((rdOf ByteArray.empty t323 (ji3))[1]'h).toNat : Int) = bt (rdOf ByteArray.empty t323 (ji3)) 1 := bt_at (rdOf ByteArray.empty t323 (ji3)) 1; clear p24; have qi24 : (1 < ((rdOf ByteArray.empty t323 (ji3)).size : Int)) = True := eq_true (of_decide_eq_true (by first | (with_reducible assumption) | assumption)); replace q24 := eq_true q24))
          go_ret
          exact ⟨by first | rfl | (simp [errW_none, errW_some] <;> rfl) | (simp only [← hji3]; first | rfl | (simp [errW_none, errW_some] <;> rfl)) | (simp [*, errW_none, errW_some] <;> rfl), by repeat (first | (with_reducible first | exact HB.out | apply below_alloc | apply pw_below_drewN | apply below_drew1) | exact HB.out)⟩
        rw [if_pos c25] at H
        have c25b0 : ((bt (rdOf ByteArray.empty t323 (ji3)) 1) == 88) = true := beq_iff_eq.mpr c25
        have c25b1 : ((bt (rdOf ByteArray.empty t323 (ji3)) 1) != 88) = false := bne_eq_false_iff_eq.mpr c25
        clear c25
        by_cases c26 : ((rdOf ByteArray.empty t323 (ji3)).size : Int) = 2
        · rw [if_pos c26] at H
          have c26b0 : (((rdOf ByteArray.empty t323 (ji3)).size : Int) == 2) = true := beq_iff_eq.mpr c26
          have c26b1 : (((rdOf ByteArray.empty t323 (ji3)).size : Int) != 2) = false := bne_eq_false_iff_eq.mpr c26
          clear c26
          obtain rfl := Option.some.inj H
          go_enter Tryd.func37, Tryd.ntmps37
          go_wp2_with (first | ((with_reducible refine gate_callee (f := 31) rfl ?_); refine goesL_ (some 6) rfl rfl Tryd.func31 (by kernel_rfl) rfl #[.string a0] rfl (by (try simp only [List.map_toArray, List.map_cons, List.map_nil]); first | done | rfl | (simp only [List.length_drop, List.length_take]; rfl)) ?_; (with_reducible refine (parapetref9_parts.calls k a0 t323 _ A2.out).mono ?_); rintro e w27 ⟨v324, rfl, ho0, hb⟩; refine ⟨_, rfl, ?_⟩; have n0_ := Aside0.mk (Kd.R_lower ho0 (below_size (by repeat (first | (with_reducible first | exact HB.out | apply below_alloc | apply pw_below_drewN | apply below_drew1) | exact HB.out)))); have n1_ := Aside0.mk (below_step (by repeat (first | (with_reducible first | exact HB.out | apply below_alloc | apply pw_below_drewN | apply below_drew1) | exact HB.out)) hb); clear HB; have HO325 := n0_; have HB := n1_; clear n0_ n1_; (try clear hb); (try clear hb2); (try clear hk); (try clear hi); (try clear ho0); obtain ⟨Ao28, co28, eo28⟩ := Kd.R_slice HO325.out; subst eo28; have p326 : 0 ≤ ((ji3) : Int) := of_decide_eq_true (by first | (with_reducible assumption) | assumption); have q326 : (ji3) < (t323.length : Int) := of_decide_eq_true (by first | (with_reducible assumption) | assumption); obtain ⟨ad326, e326, hx326_0⟩ := Kd.at_string (Kd.R_reads' HO325.out).2.2 (ji3) p326 q326; cases e326; replace p326 := eq_true p326; replace q326 := eq_true q326) | ((with_reducible refine gate_callee (f := 46) rfl ?_); refine goesL_ (some 14) rfl rfl Tryd.func46 (by kernel_rfl) rfl #[.string (rdOf ByteArray.empty t323 (ji3)), .int .i64 10] rfl (by (try simp only [List.map_toArray, List.map_cons, List.map_nil]); first | done | (simp only [hji3]; rfl) | rfl | (simp only [List.length_drop, List.length_take]; rfl)) ?_; (with_reducible refine (parapetref9_digits.calls k (rdOf ByteArray.empty t323 (ji3)) 10 false _ A6.out).mono ?_); rintro e w' ⟨rfl, ⟨nd, rfl⟩⟩; refine ⟨_, rfl, ?_⟩; have p12 : 0 ≤ (0 : Int) := (by omega); have q12 : 0 < (rdOf ByteArray.empty t323 (ji3)).size := (by have : (0 : Int) < ((rdOf ByteArray.empty t323 (ji3)).size : Int) := of_decide_eq_true (by first | (with_reducible assumption) | assumption); omega); have hx12 : ∀ h : 0 < (rdOf ByteArray.empty t323 (ji3)).size, (((rdOf ByteArray.empty t323 (ji3))[0]'h).toNat : Int) = bt (rdOf ByteArray.empty t323 (ji3)) 0 := bt_at (rdOf ByteArray.empty t323 (ji3)) 0; clear p12; have qi12 : (0 < ((rdOf ByteArray.empty t323 (ji3)).size : Int)) = True := eq_true (of_decide_eq_true (by first | (with_reducible assumption) | assumption)); replace q12 := eq_true q12; have p15 : 0 ≤ (1 : Int) := (by omega); have q15 : 1 < (rdOf ByteArray.empty t323 (ji3)).size := (by have : (1 : Int) < ((rdOf ByteArray.empty t323 (ji3)).size : Int) := of_decide_eq_true (by first | (with_reducible assumption) | assumption); omega); have hx15 : ∀ h : 1 < (rdOf ByteArray.empty t323 (ji3)).size, (((rdOf ByteArray.empty t323 (ji3))[1]'h).toNat : Int) = bt (rdOf ByteArray.empty t323 (ji3)) 1 := bt_at (rdOf ByteArray.empty t323 (ji3)) 1; clear p15; have qi15 : (1 < ((rdOf ByteArray.empty t323 (ji3)).size : Int)) = True := eq_true (of_decide_eq_true (by first | (with_reducible assumption) | assumption)); replace q15 := eq_true q15; have p24 : 0 ≤ (1 : Int) := (by omega); have q24 : 1 < (rdOf ByteArray.empty t323 (ji3)).size := (by have : (1 : Int) < ((rdOf ByteArray.empty t323 (ji3)).size : Int) := of_decide_eq_true (by first | (with_reducible assumption) | assumption); omega); have hx24 : ∀ h : 1 < (rdOf ByteArray.empty t323 (ji3)).size, (((rdOf ByteArray.empty t323 (ji3))[1]'h).toNat : Int) = bt (rdOf ByteArray.empty t323 (ji3)) 1 := bt_at (rdOf ByteArray.empty t323 (ji3)) 1; clear p24; have qi24 : (1 < ((rdOf ByteArray.empty t323 (ji3)).size : Int)) = True := eq_true (of_decide_eq_true (by first | (with_reducible assumption) | assumption)); replace q24 := eq_true q24))
          go_ret
          exact ⟨by first | rfl | (simp [errW_none, errW_some] <;> rfl) | (simp only [← hji3]; first | rfl | (simp [errW_none, errW_some] <;> rfl)) | (simp [*, errW_none, errW_some] <;> rfl), by repeat (first | (with_reducible first | exact HB.out | apply below_alloc | apply pw_below_drewN | apply below_drew1) | exact HB.out)⟩
        · rw [if_neg c26] at H
          have c26b0 : (((rdOf ByteArray.empty t323 (ji3)).size : Int) == 2) = false := beq_eq_false_iff_ne.mpr c26
          have c26b1 : (((rdOf ByteArray.empty t323 (ji3)).size : Int) != 2) = true := bne_iff_ne.mpr c26
          by_cases c29 : 2 ≤ ((rdOf ByteArray.empty t323 (ji3)).size : Int)
          rotate_left
          · rw [if_neg c29] at H
            exact absurd H (by simp)
          rw [if_pos c29] at H
          have c29b0 := eq_true c29
          have c29b1 : decide (2 ≤ ((rdOf ByteArray.empty t323 (ji3)).size : Int)) = true := decide_eq_true c29
          clear c29
          replace H := Option.bind_eq_some_iff.mp H
          obtain ⟨t329, A300, H⟩ := H
          replace H : (some t329) = some r := H
          have A30 := Aside0.mk A300
          clear A300
          obtain rfl := Option.some.inj H
          go_enter Tryd.func37, Tryd.ntmps37
          go_wp2_with (first | ((with_reducible refine gate_callee (f := 31) rfl ?_); refine goesL_ (some 6) rfl rfl Tryd.func31 (by kernel_rfl) rfl #[.string a0] rfl (by (try simp only [List.map_toArray, List.map_cons, List.map_nil]); first | done | rfl | (simp only [List.length_drop, List.length_take]; rfl)) ?_; (with_reducible refine (parapetref9_parts.calls k a0 t323 _ A2.out).mono ?_); rintro e w31 ⟨v324, rfl, ho0, hb⟩; refine ⟨_, rfl, ?_⟩; have n0_ := Aside0.mk (Kd.R_lower ho0 (below_size (by repeat (first | (with_reducible first | exact HB.out | apply below_alloc | apply pw_below_drewN | apply below_drew1) | exact HB.out)))); have n1_ := Aside0.mk (below_step (by repeat (first | (with_reducible first | exact HB.out | apply below_alloc | apply pw_below_drewN | apply below_drew1) | exact HB.out)) hb); clear HB; have HO325 := n0_; have HB := n1_; clear n0_ n1_; (try clear hb); (try clear hb2); (try clear hk); (try clear hi); (try clear ho0); obtain ⟨Ao32, co32, eo32⟩ := Kd.R_slice HO325.out; subst eo32; have p326 : 0 ≤ ((ji3) : Int) := of_decide_eq_true (by first | (with_reducible assumption) | assumption); have q326 : (ji3) < (t323.length : Int) := of_decide_eq_true (by first | (with_reducible assumption) | assumption); obtain ⟨ad326, e326, hx326_0⟩ := Kd.at_string (Kd.R_reads' HO325.out).2.2 (ji3) p326 q326; cases e326; replace p326 := eq_true p326; replace q326 := eq_true q326) | ((with_reducible refine gate_callee (f := 46) rfl ?_); refine goesL_ (some 14) rfl rfl Tryd.func46 (by kernel_rfl) rfl #[.string (rdOf ByteArray.empty t323 (ji3)), .int .i64 10] rfl (by (try simp only [List.map_toArray, List.map_cons, List.map_nil]); first | done | (simp only [hji3]; rfl) | rfl | (simp only [List.length_drop, List.length_take]; rfl)) ?_; (with_reducible refine (parapetref9_digits.calls k (rdOf ByteArray.empty t323 (ji3)) 10 false _ A6.out).mono ?_); rintro e w' ⟨rfl, ⟨nd, rfl⟩⟩; refine ⟨_, rfl, ?_⟩; have p12 : 0 ≤ (0 : Int) := (by omega); have q12 : 0 < (rdOf ByteArray.empty t323 (ji3)).size := (by have : (0 : Int) < ((rdOf ByteArray.empty t323 (ji3)).size : Int) := of_decide_eq_true (by first | (with_reducible assumption) | assumption); omega); have hx12 : ∀ h : 0 < (rdOf ByteArray.empty t323 (ji3)).size, (((rdOf ByteArray.empty t323 (ji3))[0]'h).toNat : Int) = bt (rdOf ByteArray.empty t323 (ji3)) 0 := bt_at (rdOf ByteArray.empty t323 (ji3)) 0; clear p12; have qi12 : (0 < ((rdOf ByteArray.empty t323 (ji3)).size : Int)) = True := eq_true (of_decide_eq_true (by first | (with_reducible assumption) | assumption)); replace q12 := eq_true q12; have p15 : 0 ≤ (1 : Int) := (by omega); have q15 : 1 < (rdOf ByteArray.empty t323 (ji3)).size := (by have : (1 : Int) < ((rdOf ByteArray.empty t323 (ji3)).size : Int) := of_decide_eq_true (by first | (with_reducible assumption) | assumption); omega); have hx15 : ∀ h : 1 < (rdOf ByteArray.empty t323 (ji3)).size, (((rdOf ByteArray.empty t323 (ji3))[1]'h).toNat : Int) = bt (rdOf ByteArray.empty t323 (ji3)) 1 := bt_at (rdOf ByteArray.empty t323 (ji3)) 1; clear p15; have qi15 : (1 < ((rdOf ByteArray.empty t323 (ji3)).size : Int)) = True := eq_true (of_decide_eq_true (by first | (with_reducible assumption) | assumption)); replace q15 := eq_true q15; have p24 : 0 ≤ (1 : Int) := (by omega); have q24 : 1 < (rdOf ByteArray.empty t323 (ji3)).size := (by have : (1 : Int) < ((rdOf ByteArray.empty t323 (ji3)).size : Int) := of_decide_eq_true (by first | (with_reducible assumption) | assumption); omega); have hx24 : ∀ h : 1 < (rdOf ByteArray.empty t323 (ji3)).size, (((rdOf ByteArray.empty t323 (ji3))[1]'h).toNat : Int) = bt (rdOf ByteArray.empty t323 (ji3)) 1 := bt_at (rdOf ByteArray.empty t323 (ji3)) 1; clear p24; have qi24 : (1 < ((rdOf ByteArray.empty t323 (ji3)).size : Int)) = True := eq_true (of_decide_eq_true (by first | (with_reducible assumption) | assumption)); replace q24 := eq_true q24) | (go_at_call 46; (with_reducible refine (parapetref9_digits.calls k ((rdOf ByteArray.empty t323 (ji3)).extract 2 (rdOf ByteArray.empty t323 (ji3)).size) 16 t329 _ A30.out).mono ?_); rintro e w' ⟨rfl, ⟨nd, rfl⟩⟩))
          go_ret
          exact ⟨by first | rfl | (simp [errW_none, errW_some] <;> rfl) | (simp only [← hji3]; first | rfl | (simp [errW_none, errW_some] <;> rfl)) | (simp [*, errW_none, errW_some] <;> rfl), by repeat (first | (with_reducible first | exact HB.out | apply below_alloc | apply pw_below_drewN | apply below_drew1) | exact HB.out)⟩
    · rw [if_neg c10] at H
      have c10b0 : decide (2 ≤ ((rdOf ByteArray.empty t323 (ji3)).size : Int)) = false := decide_eq_false c10
      have c10b1 : decide (2 ≤ (rdOf ByteArray.empty t323 (ji3)).size) = false := decide_eq_false (by omega)
      clear c10
      obtain rfl := Option.some.inj H
      go_enter Tryd.func37, Tryd.ntmps37
      go_wp2_with (first | ((with_reducible refine gate_callee (f := 31) rfl ?_); refine goesL_ (some 6) rfl rfl Tryd.func31 (by kernel_rfl) rfl #[.string a0] rfl (by (try simp only [List.map_toArray, List.map_cons, List.map_nil]); first | done | rfl | (simp only [List.length_drop, List.length_take]; rfl)) ?_; (with_reducible refine (parapetref9_parts.calls k a0 t323 _ A2.out).mono ?_); rintro e w37 ⟨v324, rfl, ho0, hb⟩; refine ⟨_, rfl, ?_⟩; have n0_ := Aside0.mk (Kd.R_lower ho0 (below_size (by repeat (first | (with_reducible first | exact HB.out | apply below_alloc | apply pw_below_drewN | apply below_drew1) | exact HB.out)))); have n1_ := Aside0.mk (below_step (by repeat (first | (with_reducible first | exact HB.out | apply below_alloc | apply pw_below_drewN | apply below_drew1) | exact HB.out)) hb); clear HB; have HO325 := n0_; have HB := n1_; clear n0_ n1_; (try clear hb); (try clear hb2); (try clear hk); (try clear hi); (try clear ho0); obtain ⟨Ao38, co38, eo38⟩ := Kd.R_slice HO325.out; subst eo38; have p326 : 0 ≤ ((ji3) : Int) := of_decide_eq_true (by first | (with_reducible assumption) | assumption); have q326 : (ji3) < (t323.length : Int) := of_decide_eq_true (by first | (with_reducible assumption) | assumption); obtain ⟨ad326, e326, hx326_0⟩ := Kd.at_string (Kd.R_reads' HO325.out).2.2 (ji3) p326 q326; cases e326; replace p326 := eq_true p326; replace q326 := eq_true q326) | ((with_reducible refine gate_callee (f := 46) rfl ?_); refine goesL_ (some 14) rfl rfl Tryd.func46 (by kernel_rfl) rfl #[.string (rdOf ByteArray.empty t323 (ji3)), .int .i64 10] rfl (by (try simp only [List.map_toArray, List.map_cons, List.map_nil]); first | done | (simp only [hji3]; rfl) | rfl | (simp only [List.length_drop, List.length_take]; rfl)) ?_; (with_reducible refine (parapetref9_digits.calls k (rdOf ByteArray.empty t323 (ji3)) 10 false _ A6.out).mono ?_); rintro e w' ⟨rfl, ⟨nd, rfl⟩⟩; refine ⟨_, rfl, ?_⟩))
      go_ret
      exact ⟨by first | rfl | (simp [errW_none, errW_some] <;> rfl) | (simp only [← hji3]; first | rfl | (simp [errW_none, errW_some] <;> rfl)) | (simp [*, errW_none, errW_some] <;> rfl), by repeat (first | (with_reducible first | exact HB.out | apply below_alloc | apply pw_below_drewN | apply below_drew1) | exact HB.out)⟩

/-! ### parapetref9_Host: function 21 -/
def parapetref9_Host.l0 : Nat → ByteArray → Int → Option (ByteArray × Int)
  | 0, _, _ => none
  | k + 1, x4, x5 => if x5 < (x4.size : Int) then (if 0 ≤ x5 then (if (bt x4 x5) ≤ 32 then (some ((⟨#[]⟩ : ByteArray), 8)) else (if (bt x4 x5) ≥ 127 then (some ((⟨#[]⟩ : ByteArray), 8)) else ((parapetref1_Has.f k (⟨#[35, 37, 47, 58, 60, 62, 63, 64, 91, 92, 93, 94, 124]⟩ : ByteArray) (bt x4 x5)).bind fun t332 => (if t332 = true then (some ((⟨#[]⟩ : ByteArray), 8)) else (parapetref9_Host.l0 k x4 (wrap64 (x5 + 1))))))) else (none)) else ((parapetref9_numeric.f k x4).bind fun t333 => (if t333 = true then ((parapetref9_Number.f k x4).bind fun bt334 => (if bt334.2 = true then ((parapetref9_Address.f k bt334.1).bind fun t336 => (some (t336, 0))) else (some ((⟨#[]⟩ : ByteArray), 8)))) else (some (x4, 0))))
def parapetref9_Host.f (k : Nat) (a0 : ByteArray) : Option (ByteArray × Int) := (parapetref9_Decode.f k a0).bind fun t330 => ((parapetref1_Lower.f k t330).bind fun t331 => (if t331.toList = ([] : List UInt8) then (some ((⟨#[]⟩ : ByteArray), 8)) else (parapetref9_Host.l0 k t331 0)))
theorem parapetref9_Host.mono_l : ∀ k, (∀ y0 y1, LeO (parapetref9_Host.l0 k y0 y1) (parapetref9_Host.l0 (k + 1) y0 y1))
  | 0 => fun _ _ r h => by simp [parapetref9_Host.l0] at h
  | k + 1 => by
    have ih0 := parapetref9_Host.mono_l k
    · intro y0 y1
      unfold parapetref9_Host.l0
      repeat' first
      | (with_reducible exact ih0 _ _)
      | (with_reducible exact parapetref1_Has.mono _ _ _)
      | (with_reducible exact parapetref1_Lower.mono _ _)
      | (with_reducible exact parapetref9_Address.mono _ _)
      | (with_reducible exact parapetref9_Decode.mono _ _)
      | (with_reducible exact parapetref9_Number.mono _ _)
      | (with_reducible exact parapetref9_numeric.mono _ _)
      | (with_reducible exact LeO.refl _)
      | (with_reducible exact LeO.none _)
      | (with_reducible refine LeO.ite ?_ ?_)
      | (with_reducible refine LeO.bind ?_ (fun _ => ?_))
      | exact ih0 _ _
      | exact parapetref1_Has.mono _ _ _
      | exact parapetref1_Lower.mono _ _
      | exact parapetref9_Address.mono _ _
      | exact parapetref9_Decode.mono _ _
      | exact parapetref9_Number.mono _ _
      | exact parapetref9_numeric.mono _ _
      | exact LeO.none _
      | refine LeO.ite ?_ ?_
      | refine LeO.bind ?_ (fun _ => ?_)
theorem parapetref9_Host.mono : ∀ a0 k, LeO (parapetref9_Host.f k a0) (parapetref9_Host.f (k + 1) a0) := by
  intro a0 k
  have ih0 := parapetref9_Host.mono_l k
  unfold parapetref9_Host.f
  repeat' first
      | (with_reducible exact ih0 _ _)
      | (with_reducible exact parapetref1_Has.mono _ _ _)
      | (with_reducible exact parapetref1_Lower.mono _ _)
      | (with_reducible exact parapetref9_Address.mono _ _)
      | (with_reducible exact parapetref9_Decode.mono _ _)
      | (with_reducible exact parapetref9_Number.mono _ _)
      | (with_reducible exact parapetref9_numeric.mono _ _)
      | (with_reducible exact LeO.refl _)
      | (with_reducible exact LeO.none _)
      | (with_reducible refine LeO.ite ?_ ?_)
      | (with_reducible refine LeO.bind ?_ (fun _ => ?_))
      | exact ih0 _ _
      | exact parapetref1_Has.mono _ _ _
      | exact parapetref1_Lower.mono _ _
      | exact parapetref9_Address.mono _ _
      | exact parapetref9_Decode.mono _ _
      | exact parapetref9_Number.mono _ _
      | exact parapetref9_numeric.mono _ _
      | exact LeO.none _
      | refine LeO.ite ?_ ?_
      | refine LeO.bind ?_ (fun _ => ?_)
set_option maxHeartbeats 8000000 in
set_option maxRecDepth 100000 in
theorem parapetref9_Host.calls (k : Nat) (a0 : ByteArray) (r1 : ByteArray) (r2 : Int) (w : World) (h : parapetref9_Host.f k a0 = some (r1, r2)) :
    Calls Tryd.prog 21 #[.string a0] w fun e w' => e = .returned (.tuple #[.string r1, .int .i64 r2]) ∧ Below w.heap.size w w' := by
  have HB := Aside0.mk (Below.refl w.heap.size w)
  have H : ((parapetref9_Decode.f k a0).bind fun t330 => ((parapetref1_Lower.f k t330).bind fun t331 => (if t331.toList = ([] : List UInt8) then (some ((⟨#[]⟩ : ByteArray), 8)) else (parapetref9_Host.l0 k t331 0)))) = some (r1, r2) := h
  clear h
  replace H := Option.bind_eq_some_iff.mp H
  obtain ⟨t330, A20, H⟩ := H
  replace H : ((parapetref1_Lower.f k t330).bind fun t331 => (if t331.toList = ([] : List UInt8) then (some ((⟨#[]⟩ : ByteArray), 8)) else (parapetref9_Host.l0 k t331 0))) = some (r1, r2) := H
  have A2 := Aside0.mk A20
  clear A20
  replace H := Option.bind_eq_some_iff.mp H
  obtain ⟨t331, A30, H⟩ := H
  replace H : (if t331.toList = ([] : List UInt8) then (some ((⟨#[]⟩ : ByteArray), 8)) else (parapetref9_Host.l0 k t331 0)) = some (r1, r2) := H
  have A3 := Aside0.mk A30
  clear A30
  by_cases c4 : t331.toList = ([] : List UInt8)
  · rw [if_pos c4] at H
    have c4b0 : (t331.toList == ([] : List UInt8)) = true := beq_iff_eq.mpr c4
    have c4b1 : (t331.toList != ([] : List UInt8)) = false := bne_eq_false_iff_eq.mpr c4
    clear c4
    simp only [Option.some.injEq, Prod.mk.injEq] at H
    obtain ⟨rfl, rfl⟩ := H
    go_enter Tryd.func21, Tryd.ntmps21
    go_wp2_with (first | ((with_reducible refine gate_callee (f := 35) rfl ?_); refine goesL_ (some 9) rfl rfl Tryd.func35 (by kernel_rfl) rfl #[.string a0] rfl (by (try simp only [List.map_toArray, List.map_cons, List.map_nil]); first | done | rfl | (simp only [List.length_drop, List.length_take]; rfl)) ?_; (with_reducible refine (parapetref9_Decode.calls k a0 t330 _ A2.out).mono ?_); rintro e w5 ⟨rfl, hb⟩; refine ⟨_, rfl, ?_⟩; have n0_ := Aside0.mk (below_step (by repeat (first | (with_reducible first | exact HB.out | apply below_alloc | apply pw_below_drewN | apply below_drew1) | exact HB.out)) hb); clear HB; have HB := n0_; clear n0_; (try clear hb); (try clear hb2); (try clear hk); (try clear hi)) | ((with_reducible refine gate_callee (f := 34) rfl ?_); refine goesL_ (some 10) rfl rfl Tryd.func34 (by kernel_rfl) rfl #[.string t330] rfl (by (try simp only [List.map_toArray, List.map_cons, List.map_nil]); first | done | rfl | (simp only [List.length_drop, List.length_take]; rfl)) ?_; (with_reducible refine (parapetref1_Lower.calls k t330 t331 _ A3.out).mono ?_); rintro e w6 ⟨rfl, hb⟩; refine ⟨_, rfl, ?_⟩; have n0_ := Aside0.mk (below_step (by repeat (first | (with_reducible first | exact HB.out | apply below_alloc | apply pw_below_drewN | apply below_drew1) | exact HB.out)) hb); clear HB; have HB := n0_; clear n0_; (try clear hb); (try clear hb2); (try clear hk); (try clear hi)))
    go_ret2
    exact ⟨by first | rfl | (simp [errW_none, errW_some] <;> rfl) | (simp [*, errW_none, errW_some] <;> rfl), by repeat (first | (with_reducible first | exact HB.out | apply below_alloc | apply pw_below_drewN | apply below_drew1) | exact HB.out)⟩
  · rw [if_neg c4] at H
    have c4b0 : (t331.toList == ([] : List UInt8)) = false := beq_eq_false_iff_ne.mpr c4
    have c4b1 : (t331.toList != ([] : List UInt8)) = true := bne_iff_ne.mpr c4
    have H' := Aside0.mk H
    clear H
    go_enter Tryd.func21, Tryd.ntmps21
    go_wp2_with (first | ((with_reducible refine gate_callee (f := 35) rfl ?_); refine goesL_ (some 9) rfl rfl Tryd.func35 (by kernel_rfl) rfl #[.string a0] rfl (by (try simp only [List.map_toArray, List.map_cons, List.map_nil]); first | done | rfl | (simp only [List.length_drop, List.length_take]; rfl)) ?_; (with_reducible refine (parapetref9_Decode.calls k a0 t330 _ A2.out).mono ?_); rintro e w7 ⟨rfl, hb⟩; refine ⟨_, rfl, ?_⟩; have n0_ := Aside0.mk (below_step (by repeat (first | (with_reducible first | exact HB.out | apply below_alloc | apply pw_below_drewN | apply below_drew1) | exact HB.out)) hb); clear HB; have HB := n0_; clear n0_; (try clear hb); (try clear hb2); (try clear hk); (try clear hi)) | ((with_reducible refine gate_callee (f := 34) rfl ?_); refine goesL_ (some 10) rfl rfl Tryd.func34 (by kernel_rfl) rfl #[.string t330] rfl (by (try simp only [List.map_toArray, List.map_cons, List.map_nil]); first | done | rfl | (simp only [List.length_drop, List.length_take]; rfl)) ?_; (with_reducible refine (parapetref1_Lower.calls k t330 t331 _ A3.out).mono ?_); rintro e w8 ⟨rfl, hb⟩; refine ⟨_, rfl, ?_⟩; have n0_ := Aside0.mk (below_step (by repeat (first | (with_reducible first | exact HB.out | apply below_alloc | apply pw_below_drewN | apply below_drew1) | exact HB.out)) hb); clear HB; have HB := n0_; clear n0_; (try clear hb); (try clear hb2); (try clear hk); (try clear hi)))
    go_loopg [5] k (fun kq v5 w' => ∃ (x5_1 : Int), v5 = .int .i64 x5_1 ∧ Aside0 (parapetref9_Host.l0 kq t331 x5_1 = some (r1, r2)) ∧ Aside0 (kq ≤ k) ∧ Aside0 (Below w.heap.size w w'))
    case atStart => exact ⟨(0), (by first | rfl | (simp; done) | (simp [*]; done) | (simp [*] <;> (generalize ByteArray.toList _ = l_; cases l_ <;> rfl))), H', ⟨Nat.le_refl _⟩, ⟨by repeat (first | (with_reducible first | exact HB.out | apply below_alloc | apply pw_below_drewN | apply below_drew1) | exact HB.out)⟩⟩
    case round =>
      clear H'
      try clear c2
      try clear p2
      try clear c3
      try clear c4
      try clear c4b0
      try clear c4b1
      obtain ⟨x5_1, rfl, HA, HK1, HB⟩ := hrel
      cases gk with
      | zero => exact absurd HA.out (by simp [parapetref9_Host.l0])
      | succ k1 =>
        have H := HA.out
        clear HA
        simp only [parapetref9_Host.l0] at H
        by_cases c9 : x5_1 < (t331.size : Int)
        · rw [if_pos c9] at H
          have c9b0 : decide (x5_1 < (t331.size : Int)) = true := decide_eq_true c9
          clear c9
          by_cases c10 : 0 ≤ x5_1
          rotate_left
          · rw [if_neg c10] at H
            exact absurd H (by simp)
          rw [if_pos c10] at H
          have c10b0 : decide (0 ≤ x5_1) = true := decide_eq_true c10
          clear c10
          by_cases c12 : (bt t331 x5_1) ≤ 32
          · rw [if_pos c12] at H
            have c12b0 : decide ((bt t331 x5_1) ≤ 32) = true := decide_eq_true c12
            clear c12
            simp only [Option.some.injEq, Prod.mk.injEq] at H
            obtain ⟨rfl, rfl⟩ := H
            have p11 : 0 ≤ (x5_1 : Int) := of_decide_eq_true (by first | (with_reducible assumption) | assumption)
            have q11 : x5_1 < (t331.size : Int) := of_decide_eq_true (by first | (with_reducible assumption) | assumption)
            have hx11 := bt_at t331 x5_1
            replace p11 := eq_true p11
            replace q11 := eq_true q11
            go_wp2
            go_ret2
            exact ⟨by first | rfl | (simp [errW_none, errW_some] <;> rfl) | (simp [*, errW_none, errW_some] <;> rfl), by repeat (first | (with_reducible first | exact HB.out | apply below_alloc | apply pw_below_drewN | apply below_drew1) | exact HB.out)⟩
          · rw [if_neg c12] at H
            have c12b0 : decide ((bt t331 x5_1) ≤ 32) = false := decide_eq_false c12
            clear c12
            by_cases c14 : (bt t331 x5_1) ≥ 127
            · rw [if_pos c14] at H
              have c14b0 : decide (127 ≤ (bt t331 x5_1)) = true := decide_eq_true c14
              clear c14
              simp only [Option.some.injEq, Prod.mk.injEq] at H
              obtain ⟨rfl, rfl⟩ := H
              have p11 : 0 ≤ (x5_1 : Int) := of_decide_eq_true (by first | (with_reducible assumption) | assumption)
              have q11 : x5_1 < (t331.size : Int) := of_decide_eq_true (by first | (with_reducible assumption) | assumption)
              have hx11 := bt_at t331 x5_1
              replace p11 := eq_true p11
              replace q11 := eq_true q11
              have p13 : 0 ≤ (x5_1 : Int) := of_decide_eq_true (by first | (with_reducible assumption) | assumption)
              have q13 : x5_1 < (t331.size : Int) := of_decide_eq_true (by first | (with_reducible assumption) | assumption)
              have hx13 := bt_at t331 x5_1
              replace p13 := eq_true p13
              replace q13 := eq_true q13
              go_wp2
              go_ret2
              exact ⟨by first | rfl | (simp [errW_none, errW_some] <;> rfl) | (simp [*, errW_none, errW_some] <;> rfl), by repeat (first | (with_reducible first | exact HB.out | apply below_alloc | apply pw_below_drewN | apply below_drew1) | exact HB.out)⟩
            · rw [if_neg c14] at H
              have c14b0 : decide (127 ≤ (bt t331 x5_1)) = false := decide_eq_false c14
              clear c14
              replace H := Option.bind_eq_some_iff.mp H
              obtain ⟨t332, A160, H⟩ := H
              replace H : (if t332 = true then (some ((⟨#[]⟩ : ByteArray), 8)) else (parapetref9_Host.l0 k1 t331 (wrap64 (x5_1 + 1)))) = some (r1, r2) := H
              have A16 := Aside0.mk A160
              clear A160
              by_cases c17 : t332 = true
              · subst c17
                have H1 : (some ((⟨#[]⟩ : ByteArray), 8)) = some (r1, r2) := by rw [if_pos rfl] at H; exact H
                clear H
                have H := H1
                clear H1
                simp only [Option.some.injEq, Prod.mk.injEq] at H
                obtain ⟨rfl, rfl⟩ := H
                have p11 : 0 ≤ (x5_1 : Int) := of_decide_eq_true (by first | (with_reducible assumption) | assumption)
                have q11 : x5_1 < (t331.size : Int) := of_decide_eq_true (by first | (with_reducible assumption) | assumption)
                have hx11 := bt_at t331 x5_1
                replace p11 := eq_true p11
                replace q11 := eq_true q11
                have p13 : 0 ≤ (x5_1 : Int) := of_decide_eq_true (by first | (with_reducible assumption) | assumption)
                have q13 : x5_1 < (t331.size : Int) := of_decide_eq_true (by first | (with_reducible assumption) | assumption)
                have hx13 := bt_at t331 x5_1
                replace p13 := eq_true p13
                replace q13 := eq_true q13
                have p15 : 0 ≤ (x5_1 : Int) := of_decide_eq_true (by first | (with_reducible assumption) | assumption)
                have q15 : x5_1 < (t331.size : Int) := of_decide_eq_true (by first | (with_reducible assumption) | assumption)
                have hx15 := bt_at t331 x5_1
                replace p15 := eq_true p15
                replace q15 := eq_true q15
                go_wp2_with (first | (go_at_call 36; (with_reducible refine (parapetref1_Has.calls k1 (⟨#[35, 37, 47, 58, 60, 62, 63, 64, 91, 92, 93, 94, 124]⟩ : ByteArray) (bt t331 x5_1) true _ A16.out).mono ?_); rintro e w' ⟨rfl, ⟨nd, rfl⟩⟩))
                go_ret2
                exact ⟨by first | rfl | (simp [errW_none, errW_some] <;> rfl) | (simp [*, errW_none, errW_some] <;> rfl), by repeat (first | (with_reducible first | exact HB.out | apply below_alloc | apply pw_below_drewN | apply below_drew1) | exact HB.out)⟩
              · replace c17 := Bool.eq_false_iff.mpr c17
                subst c17
                have H1 : (parapetref9_Host.l0 k1 t331 (wrap64 (x5_1 + 1))) = some (r1, r2) := by rw [if_neg (show ¬ (false = true) by decide)] at H; exact H
                clear H
                have H := H1
                clear H1
                have H' := Aside0.mk H
                clear H
                have p11 : 0 ≤ (x5_1 : Int) := of_decide_eq_true (by first | (with_reducible assumption) | assumption)
                have q11 : x5_1 < (t331.size : Int) := of_decide_eq_true (by first | (with_reducible assumption) | assumption)
                have hx11 := bt_at t331 x5_1
                replace p11 := eq_true p11
                replace q11 := eq_true q11
                have p13 : 0 ≤ (x5_1 : Int) := of_decide_eq_true (by first | (with_reducible assumption) | assumption)
                have q13 : x5_1 < (t331.size : Int) := of_decide_eq_true (by first | (with_reducible assumption) | assumption)
                have hx13 := bt_at t331 x5_1
                replace p13 := eq_true p13
                replace q13 := eq_true q13
                have p15 : 0 ≤ (x5_1 : Int) := of_decide_eq_true (by first | (with_reducible assumption) | assumption)
                have q15 : x5_1 < (t331.size : Int) := of_decide_eq_true (by first | (with_reducible assumption) | assumption)
                have hx15 := bt_at t331 x5_1
                replace p15 := eq_true p15
                replace q15 := eq_true q15
                go_wp2_with (first | (go_at_call 36; (with_reducible refine (parapetref1_Has.calls k1 (⟨#[35, 37, 47, 58, 60, 62, 63, 64, 91, 92, 93, 94, 124]⟩ : ByteArray) (bt t331 x5_1) false _ A16.out).mono ?_); rintro e w' ⟨rfl, ⟨nd, rfl⟩⟩))
                go_roundg k1
                case measure => have := HK1.out; omega
                case rel => exact ⟨(wrap64 (x5_1 + 1)), (by first | rfl | (simp; done) | (simp [*]; done) | (simp [*] <;> (generalize ByteArray.toList _ = l_; cases l_ <;> rfl))), H', ⟨by have := HK1.out; omega⟩, ⟨by repeat (first | (with_reducible first | exact HB.out | apply below_alloc | apply pw_below_drewN | apply below_drew1) | exact HB.out)⟩⟩
        · rw [if_neg c9] at H
          have c9b0 : decide (x5_1 < (t331.size : Int)) = false := decide_eq_false c9
          clear c9
          replace H := Option.bind_eq_some_iff.mp H
          obtain ⟨t333, A180, H⟩ := H
          replace H : (if t333 = true then ((parapetref9_Number.f k1 t331).bind fun bt334 => (if bt334.2 = true then ((parapetref9_Address.f k1 bt334.1).bind fun t336 => (some (t336, 0))) else (some ((⟨#[]⟩ : ByteArray), 8)))) else (some (t331, 0))) = some (r1, r2) := H
          have A18 := Aside0.mk A180
          clear A180
          by_cases c19 : t333 = true
          · subst c19
            have H1 : ((parapetref9_Number.f k1 t331).bind fun bt334 => (if bt334.2 = true then ((parapetref9_Address.f k1 bt334.1).bind fun t336 => (some (t336, 0))) else (some ((⟨#[]⟩ : ByteArray), 8)))) = some (r1, r2) := by rw [if_pos rfl] at H; exact H
            clear H
            have H := H1
            clear H1
            replace H := Option.bind_eq_some_iff.mp H
            obtain ⟨⟨t334, t335⟩, A200, H⟩ := H
            replace H : (if t335 = true then ((parapetref9_Address.f k1 t334).bind fun t336 => (some (t336, 0))) else (some ((⟨#[]⟩ : ByteArray), 8))) = some (r1, r2) := H
            have A20 := Aside0.mk A200
            clear A200
            by_cases c21 : t335 = true
            · subst c21
              have H1 : ((parapetref9_Address.f k1 t334).bind fun t336 => (some (t336, 0))) = some (r1, r2) := by rw [if_pos rfl] at H; exact H
              clear H
              have H := H1
              clear H1
              replace H := Option.bind_eq_some_iff.mp H
              obtain ⟨t336, A220, H⟩ := H
              replace H : (some (t336, 0)) = some (r1, r2) := H
              have A22 := Aside0.mk A220
              clear A220
              simp only [Option.some.injEq, Prod.mk.injEq] at H
              obtain ⟨rfl, rfl⟩ := H
              go_wp2_with (first | ((with_reducible refine gate_callee (f := 37) rfl ?_); refine goesL_ (some 36) rfl rfl Tryd.func37 (by kernel_rfl) rfl #[.string t331] rfl (by (try simp only [List.map_toArray, List.map_cons, List.map_nil]); first | done | rfl | (simp only [List.length_drop, List.length_take]; rfl)) ?_; (with_reducible refine (parapetref9_numeric.calls k1 t331 true _ A18.out).mono ?_); rintro e w23 ⟨rfl, hb⟩; refine ⟨_, rfl, ?_⟩; have n0_ := Aside0.mk (below_step (by repeat (first | (with_reducible first | exact HB.out | apply below_alloc | apply pw_below_drewN | apply below_drew1) | exact HB.out)) hb); clear HB; have HB := n0_; clear n0_; (try clear hb); (try clear hb2); (try clear hk); (try clear hi)) | ((with_reducible refine gate_callee (f := 17) rfl ?_); refine goesL_ (some 39) rfl rfl Tryd.func17 (by kernel_rfl) rfl #[.string t331] rfl (by (try simp only [List.map_toArray, List.map_cons, List.map_nil]); first | done | rfl | (simp only [List.length_drop, List.length_take]; rfl)) ?_; (with_reducible refine (parapetref9_Number.calls k1 t331 t334 true _ A20.out).mono ?_); rintro e w24 ⟨rfl, hb⟩; refine ⟨_, rfl, ?_⟩; have n0_ := Aside0.mk (below_step (by repeat (first | (with_reducible first | exact HB.out | apply below_alloc | apply pw_below_drewN | apply below_drew1) | exact HB.out)) hb); clear HB; have HB := n0_; clear n0_; (try clear hb); (try clear hb2); (try clear hk); (try clear hi)) | ((with_reducible refine gate_callee (f := 20) rfl ?_); refine goesL_ (some 45) rfl rfl Tryd.func20 (by kernel_rfl) rfl #[.int .u32 t334] rfl (by (try simp only [List.map_toArray, List.map_cons, List.map_nil]); first | done | rfl | (simp only [List.length_drop, List.length_take]; rfl)) ?_; (with_reducible refine (parapetref9_Address.calls k1 t334 t336 _ A22.out).mono ?_); rintro e w25 ⟨rfl, hb⟩; refine ⟨_, rfl, ?_⟩; have n0_ := Aside0.mk (below_step (by repeat (first | (with_reducible first | exact HB.out | apply below_alloc | apply pw_below_drewN | apply below_drew1) | exact HB.out)) hb); clear HB; have HB := n0_; clear n0_; (try clear hb); (try clear hb2); (try clear hk); (try clear hi)))
              go_ret2
              exact ⟨by first | rfl | (simp [errW_none, errW_some] <;> rfl) | (simp [*, errW_none, errW_some] <;> rfl), by repeat (first | (with_reducible first | exact HB.out | apply below_alloc | apply pw_below_drewN | apply below_drew1) | exact HB.out)⟩
            · replace c21 := Bool.eq_false_iff.mpr c21
              subst c21
              have H1 : (some ((⟨#[]⟩ : ByteArray), 8)) = some (r1, r2) := by rw [if_neg (show ¬ (false = true) by decide)] at H; exact H
              clear H
              have H := H1
              clear H1
              simp only [Option.some.injEq, Prod.mk.injEq] at H
              obtain ⟨rfl, rfl⟩ := H
              go_wp2_with (first | ((with_reducible refine gate_callee (f := 37) rfl ?_); refine goesL_ (some 36) rfl rfl Tryd.func37 (by kernel_rfl) rfl #[.string t331] rfl (by (try simp only [List.map_toArray, List.map_cons, List.map_nil]); first | done | rfl | (simp only [List.length_drop, List.length_take]; rfl)) ?_; (with_reducible refine (parapetref9_numeric.calls k1 t331 true _ A18.out).mono ?_); rintro e w26 ⟨rfl, hb⟩; refine ⟨_, rfl, ?_⟩; have n0_ := Aside0.mk (below_step (by repeat (first | (with_reducible first | exact HB.out | apply below_alloc | apply pw_below_drewN | apply below_drew1) | exact HB.out)) hb); clear HB; have HB := n0_; clear n0_; (try clear hb); (try clear hb2); (try clear hk); (try clear hi)) | ((with_reducible refine gate_callee (f := 17) rfl ?_); refine goesL_ (some 39) rfl rfl Tryd.func17 (by kernel_rfl) rfl #[.string t331] rfl (by (try simp only [List.map_toArray, List.map_cons, List.map_nil]); first | done | rfl | (simp only [List.length_drop, List.length_take]; rfl)) ?_; (with_reducible refine (parapetref9_Number.calls k1 t331 t334 false _ A20.out).mono ?_); rintro e w27 ⟨rfl, hb⟩; refine ⟨_, rfl, ?_⟩; have n0_ := Aside0.mk (below_step (by repeat (first | (with_reducible first | exact HB.out | apply below_alloc | apply pw_below_drewN | apply below_drew1) | exact HB.out)) hb); clear HB; have HB := n0_; clear n0_; (try clear hb); (try clear hb2); (try clear hk); (try clear hi)))
              go_ret2
              exact ⟨by first | rfl | (simp [errW_none, errW_some] <;> rfl) | (simp [*, errW_none, errW_some] <;> rfl), by repeat (first | (with_reducible first | exact HB.out | apply below_alloc | apply pw_below_drewN | apply below_drew1) | exact HB.out)⟩
          · replace c19 := Bool.eq_false_iff.mpr c19
            subst c19
            have H1 : (some (t331, 0)) = some (r1, r2) := by rw [if_neg (show ¬ (false = true) by decide)] at H; exact H
            clear H
            have H := H1
            clear H1
            simp only [Option.some.injEq, Prod.mk.injEq] at H
            obtain ⟨rfl, rfl⟩ := H
            go_wp2_with (first | ((with_reducible refine gate_callee (f := 37) rfl ?_); refine goesL_ (some 36) rfl rfl Tryd.func37 (by kernel_rfl) rfl #[.string t331] rfl (by (try simp only [List.map_toArray, List.map_cons, List.map_nil]); first | done | rfl | (simp only [List.length_drop, List.length_take]; rfl)) ?_; (with_reducible refine (parapetref9_numeric.calls k1 t331 false _ A18.out).mono ?_); rintro e w28 ⟨rfl, hb⟩; refine ⟨_, rfl, ?_⟩; have n0_ := Aside0.mk (below_step (by repeat (first | (with_reducible first | exact HB.out | apply below_alloc | apply pw_below_drewN | apply below_drew1) | exact HB.out)) hb); clear HB; have HB := n0_; clear n0_; (try clear hb); (try clear hb2); (try clear hk); (try clear hi)))
            go_ret2
            exact ⟨by first | rfl | (simp [errW_none, errW_some] <;> rfl) | (simp [*, errW_none, errW_some] <;> rfl), by repeat (first | (with_reducible first | exact HB.out | apply below_alloc | apply pw_below_drewN | apply below_drew1) | exact HB.out)⟩

/-! ### host_Domain: function 22 -/
def host_Domain.f (k : Nat) (a0 : ByteArray) : Option (Bool) := (host_Parse.f k a0).bind fun bt337 => ((host_Address.f k a0).bind fun bt339 => (if bt337.2 = 0 then (if bt337.1.toList = a0.toList then (some (!bt339.2)) else (some false)) else (some false)))
theorem host_Domain.mono : ∀ a0 k, LeO (host_Domain.f k a0) (host_Domain.f (k + 1) a0) := by
  intro a0 k
  unfold host_Domain.f
  repeat' first
      | (with_reducible exact host_Address.mono _ _)
      | (with_reducible exact host_Parse.mono _ _)
      | (with_reducible exact LeO.refl _)
      | (with_reducible exact LeO.none _)
      | (with_reducible refine LeO.ite ?_ ?_)
      | (with_reducible refine LeO.bind ?_ (fun _ => ?_))
      | exact host_Address.mono _ _
      | exact host_Parse.mono _ _
      | exact LeO.none _
      | refine LeO.ite ?_ ?_
      | refine LeO.bind ?_ (fun _ => ?_)
set_option maxHeartbeats 8000000 in
set_option maxRecDepth 100000 in
theorem host_Domain.calls (k : Nat) (a0 : ByteArray) (r : Bool) (w : World) (h : host_Domain.f k a0 = some r) :
    Calls Tryd.prog 22 #[.string a0] w fun e w' => e = .returned (.bool r) ∧ Below w.heap.size w w' := by
  have HB := Aside0.mk (Below.refl w.heap.size w)
  have H : ((host_Parse.f k a0).bind fun bt337 => ((host_Address.f k a0).bind fun bt339 => (if bt337.2 = 0 then (if bt337.1.toList = a0.toList then (some (!bt339.2)) else (some false)) else (some false)))) = some r := h
  clear h
  replace H := Option.bind_eq_some_iff.mp H
  obtain ⟨⟨t337, t338⟩, A20, H⟩ := H
  replace H : ((host_Address.f k a0).bind fun bt339 => (if t338 = 0 then (if t337.toList = a0.toList then (some (!bt339.2)) else (some false)) else (some false))) = some r := H
  have A2 := Aside0.mk A20
  clear A20
  replace H := Option.bind_eq_some_iff.mp H
  obtain ⟨⟨t339, t340⟩, A30, H⟩ := H
  replace H : (if t338 = 0 then (if t337.toList = a0.toList then (some (!t340)) else (some false)) else (some false)) = some r := H
  have A3 := Aside0.mk A30
  clear A30
  by_cases c4 : t338 = 0
  rotate_left
  · rw [if_neg c4] at H
    have c4b0 : (t338 == 0) = false := beq_eq_false_iff_ne.mpr c4
    have c4b1 : (t338 != 0) = true := bne_iff_ne.mpr c4
    obtain rfl := Option.some.inj H
    go_enter Tryd.func22, Tryd.ntmps22
    go_wp2_with (first | ((with_reducible refine gate_callee (f := 13) rfl ?_); refine goesL_ (some 9) rfl rfl Tryd.func13 (by kernel_rfl) rfl #[.string a0] rfl (by (try simp only [List.map_toArray, List.map_cons, List.map_nil]); first | done | rfl | (simp only [List.length_drop, List.length_take]; rfl)) ?_; (with_reducible refine (host_Parse.calls k a0 t337 t338 _ A2.out).mono ?_); rintro e w10 ⟨rfl, hb⟩; refine ⟨_, rfl, ?_⟩; have n0_ := Aside0.mk (below_step (by repeat (first | (with_reducible first | exact HB.out | apply below_alloc | apply pw_below_drewN | apply below_drew1) | exact HB.out)) hb); clear HB; have HB := n0_; clear n0_; (try clear hb); (try clear hb2); (try clear hk); (try clear hi)) | ((with_reducible refine gate_callee (f := 18) rfl ?_); refine goesL_ (some 14) rfl rfl Tryd.func18 (by kernel_rfl) rfl #[.string a0] rfl (by (try simp only [List.map_toArray, List.map_cons, List.map_nil]); first | done | rfl | (simp only [List.length_drop, List.length_take]; rfl)) ?_; (with_reducible refine (host_Address.calls k a0 t339 t340 _ A3.out).mono ?_); rintro e w11 ⟨rfl, hb⟩; refine ⟨_, rfl, ?_⟩; have n0_ := Aside0.mk (below_step (by repeat (first | (with_reducible first | exact HB.out | apply below_alloc | apply pw_below_drewN | apply below_drew1) | exact HB.out)) hb); clear HB; have HB := n0_; clear n0_; (try clear hb); (try clear hb2); (try clear hk); (try clear hi)))
    go_ret
    exact ⟨by first | rfl | (simp [errW_none, errW_some] <;> rfl) | (simp [*, errW_none, errW_some] <;> rfl), by repeat (first | (with_reducible first | exact HB.out | apply below_alloc | apply pw_below_drewN | apply below_drew1) | exact HB.out)⟩
  rw [if_pos c4] at H
  have c4b0 : (t338 == 0) = true := beq_iff_eq.mpr c4
  have c4b1 : (t338 != 0) = false := bne_eq_false_iff_eq.mpr c4
  clear c4
  by_cases c5 : t337.toList = a0.toList
  rotate_left
  · rw [if_neg c5] at H
    have c5b0 : (t337.toList == a0.toList) = false := beq_eq_false_iff_ne.mpr c5
    have c5b1 : (t337.toList != a0.toList) = true := bne_iff_ne.mpr c5
    obtain rfl := Option.some.inj H
    go_enter Tryd.func22, Tryd.ntmps22
    go_wp2_with (first | ((with_reducible refine gate_callee (f := 13) rfl ?_); refine goesL_ (some 9) rfl rfl Tryd.func13 (by kernel_rfl) rfl #[.string a0] rfl (by (try simp only [List.map_toArray, List.map_cons, List.map_nil]); first | done | rfl | (simp only [List.length_drop, List.length_take]; rfl)) ?_; (with_reducible refine (host_Parse.calls k a0 t337 t338 _ A2.out).mono ?_); rintro e w8 ⟨rfl, hb⟩; refine ⟨_, rfl, ?_⟩; have n0_ := Aside0.mk (below_step (by repeat (first | (with_reducible first | exact HB.out | apply below_alloc | apply pw_below_drewN | apply below_drew1) | exact HB.out)) hb); clear HB; have HB := n0_; clear n0_; (try clear hb); (try clear hb2); (try clear hk); (try clear hi)) | ((with_reducible refine gate_callee (f := 18) rfl ?_); refine goesL_ (some 14) rfl rfl Tryd.func18 (by kernel_rfl) rfl #[.string a0] rfl (by (try simp only [List.map_toArray, List.map_cons, List.map_nil]); first | done | rfl | (simp only [List.length_drop, List.length_take]; rfl)) ?_; (with_reducible refine (host_Address.calls k a0 t339 t340 _ A3.out).mono ?_); rintro e w9 ⟨rfl, hb⟩; refine ⟨_, rfl, ?_⟩; have n0_ := Aside0.mk (below_step (by repeat (first | (with_reducible first | exact HB.out | apply below_alloc | apply pw_below_drewN | apply below_drew1) | exact HB.out)) hb); clear HB; have HB := n0_; clear n0_; (try clear hb); (try clear hb2); (try clear hk); (try clear hi)))
    go_ret
    exact ⟨by first | rfl | (simp [errW_none, errW_some] <;> rfl) | (simp [*, errW_none, errW_some] <;> rfl), by repeat (first | (with_reducible first | exact HB.out | apply below_alloc | apply pw_below_drewN | apply below_drew1) | exact HB.out)⟩
  rw [if_pos c5] at H
  have c5b0 : (t337.toList == a0.toList) = true := beq_iff_eq.mpr c5
  have c5b1 : (t337.toList != a0.toList) = false := bne_eq_false_iff_eq.mpr c5
  clear c5
  obtain rfl := Option.some.inj H
  go_enter Tryd.func22, Tryd.ntmps22
  go_wp2_with (first | ((with_reducible refine gate_callee (f := 13) rfl ?_); refine goesL_ (some 9) rfl rfl Tryd.func13 (by kernel_rfl) rfl #[.string a0] rfl (by (try simp only [List.map_toArray, List.map_cons, List.map_nil]); first | done | rfl | (simp only [List.length_drop, List.length_take]; rfl)) ?_; (with_reducible refine (host_Parse.calls k a0 t337 t338 _ A2.out).mono ?_); rintro e w6 ⟨rfl, hb⟩; refine ⟨_, rfl, ?_⟩; have n0_ := Aside0.mk (below_step (by repeat (first | (with_reducible first | exact HB.out | apply below_alloc | apply pw_below_drewN | apply below_drew1) | exact HB.out)) hb); clear HB; have HB := n0_; clear n0_; (try clear hb); (try clear hb2); (try clear hk); (try clear hi)) | ((with_reducible refine gate_callee (f := 18) rfl ?_); refine goesL_ (some 14) rfl rfl Tryd.func18 (by kernel_rfl) rfl #[.string a0] rfl (by (try simp only [List.map_toArray, List.map_cons, List.map_nil]); first | done | rfl | (simp only [List.length_drop, List.length_take]; rfl)) ?_; (with_reducible refine (host_Address.calls k a0 t339 t340 _ A3.out).mono ?_); rintro e w7 ⟨rfl, hb⟩; refine ⟨_, rfl, ?_⟩; have n0_ := Aside0.mk (below_step (by repeat (first | (with_reducible first | exact HB.out | apply below_alloc | apply pw_below_drewN | apply below_drew1) | exact HB.out)) hb); clear HB; have HB := n0_; clear n0_; (try clear hb); (try clear hb2); (try clear hk); (try clear hi)))
  go_ret
  exact ⟨by first | rfl | (simp [errW_none, errW_some] <;> rfl) | (simp [*, errW_none, errW_some] <;> rfl), by repeat (first | (with_reducible first | exact HB.out | apply below_alloc | apply pw_below_drewN | apply below_drew1) | exact HB.out)⟩

/-! ### parapetref9_Domain: function 23 -/
def parapetref9_Domain.f (k : Nat) (a0 : ByteArray) : Option (Bool) := (parapetref9_Host.f k a0).bind fun bt341 => ((parapetref9_IsAddress.f k a0).bind fun bt343 => (if bt341.2 = 0 then (if bt341.1.toList = a0.toList then (some (!bt343.2)) else (some false)) else (some false)))
theorem parapetref9_Domain.mono : ∀ a0 k, LeO (parapetref9_Domain.f k a0) (parapetref9_Domain.f (k + 1) a0) := by
  intro a0 k
  unfold parapetref9_Domain.f
  repeat' first
      | (with_reducible exact parapetref9_Host.mono _ _)
      | (with_reducible exact parapetref9_IsAddress.mono _ _)
      | (with_reducible exact LeO.refl _)
      | (with_reducible exact LeO.none _)
      | (with_reducible refine LeO.ite ?_ ?_)
      | (with_reducible refine LeO.bind ?_ (fun _ => ?_))
      | exact parapetref9_Host.mono _ _
      | exact parapetref9_IsAddress.mono _ _
      | exact LeO.none _
      | refine LeO.ite ?_ ?_
      | refine LeO.bind ?_ (fun _ => ?_)
set_option maxHeartbeats 8000000 in
set_option maxRecDepth 100000 in
theorem parapetref9_Domain.calls (k : Nat) (a0 : ByteArray) (r : Bool) (w : World) (h : parapetref9_Domain.f k a0 = some r) :
    Calls Tryd.prog 23 #[.string a0] w fun e w' => e = .returned (.bool r) ∧ Below w.heap.size w w' := by
  have HB := Aside0.mk (Below.refl w.heap.size w)
  have H : ((parapetref9_Host.f k a0).bind fun bt341 => ((parapetref9_IsAddress.f k a0).bind fun bt343 => (if bt341.2 = 0 then (if bt341.1.toList = a0.toList then (some (!bt343.2)) else (some false)) else (some false)))) = some r := h
  clear h
  replace H := Option.bind_eq_some_iff.mp H
  obtain ⟨⟨t341, t342⟩, A20, H⟩ := H
  replace H : ((parapetref9_IsAddress.f k a0).bind fun bt343 => (if t342 = 0 then (if t341.toList = a0.toList then (some (!bt343.2)) else (some false)) else (some false))) = some r := H
  have A2 := Aside0.mk A20
  clear A20
  replace H := Option.bind_eq_some_iff.mp H
  obtain ⟨⟨t343, t344⟩, A30, H⟩ := H
  replace H : (if t342 = 0 then (if t341.toList = a0.toList then (some (!t344)) else (some false)) else (some false)) = some r := H
  have A3 := Aside0.mk A30
  clear A30
  by_cases c4 : t342 = 0
  rotate_left
  · rw [if_neg c4] at H
    have c4b0 : (t342 == 0) = false := beq_eq_false_iff_ne.mpr c4
    have c4b1 : (t342 != 0) = true := bne_iff_ne.mpr c4
    obtain rfl := Option.some.inj H
    go_enter Tryd.func23, Tryd.ntmps23
    go_wp2_with (first | ((with_reducible refine gate_callee (f := 21) rfl ?_); refine goesL_ (some 9) rfl rfl Tryd.func21 (by kernel_rfl) rfl #[.string a0] rfl (by (try simp only [List.map_toArray, List.map_cons, List.map_nil]); first | done | rfl | (simp only [List.length_drop, List.length_take]; rfl)) ?_; (with_reducible refine (parapetref9_Host.calls k a0 t341 t342 _ A2.out).mono ?_); rintro e w10 ⟨rfl, hb⟩; refine ⟨_, rfl, ?_⟩; have n0_ := Aside0.mk (below_step (by repeat (first | (with_reducible first | exact HB.out | apply below_alloc | apply pw_below_drewN | apply below_drew1) | exact HB.out)) hb); clear HB; have HB := n0_; clear n0_; (try clear hb); (try clear hb2); (try clear hk); (try clear hi)) | ((with_reducible refine gate_callee (f := 19) rfl ?_); refine goesL_ (some 14) rfl rfl Tryd.func19 (by kernel_rfl) rfl #[.string a0] rfl (by (try simp only [List.map_toArray, List.map_cons, List.map_nil]); first | done | rfl | (simp only [List.length_drop, List.length_take]; rfl)) ?_; (with_reducible refine (parapetref9_IsAddress.calls k a0 t343 t344 _ A3.out).mono ?_); rintro e w11 ⟨rfl, hb⟩; refine ⟨_, rfl, ?_⟩; have n0_ := Aside0.mk (below_step (by repeat (first | (with_reducible first | exact HB.out | apply below_alloc | apply pw_below_drewN | apply below_drew1) | exact HB.out)) hb); clear HB; have HB := n0_; clear n0_; (try clear hb); (try clear hb2); (try clear hk); (try clear hi)))
    go_ret
    exact ⟨by first | rfl | (simp [errW_none, errW_some] <;> rfl) | (simp [*, errW_none, errW_some] <;> rfl), by repeat (first | (with_reducible first | exact HB.out | apply below_alloc | apply pw_below_drewN | apply below_drew1) | exact HB.out)⟩
  rw [if_pos c4] at H
  have c4b0 : (t342 == 0) = true := beq_iff_eq.mpr c4
  have c4b1 : (t342 != 0) = false := bne_eq_false_iff_eq.mpr c4
  clear c4
  by_cases c5 : t341.toList = a0.toList
  rotate_left
  · rw [if_neg c5] at H
    have c5b0 : (t341.toList == a0.toList) = false := beq_eq_false_iff_ne.mpr c5
    have c5b1 : (t341.toList != a0.toList) = true := bne_iff_ne.mpr c5
    obtain rfl := Option.some.inj H
    go_enter Tryd.func23, Tryd.ntmps23
    go_wp2_with (first | ((with_reducible refine gate_callee (f := 21) rfl ?_); refine goesL_ (some 9) rfl rfl Tryd.func21 (by kernel_rfl) rfl #[.string a0] rfl (by (try simp only [List.map_toArray, List.map_cons, List.map_nil]); first | done | rfl | (simp only [List.length_drop, List.length_take]; rfl)) ?_; (with_reducible refine (parapetref9_Host.calls k a0 t341 t342 _ A2.out).mono ?_); rintro e w8 ⟨rfl, hb⟩; refine ⟨_, rfl, ?_⟩; have n0_ := Aside0.mk (below_step (by repeat (first | (with_reducible first | exact HB.out | apply below_alloc | apply pw_below_drewN | apply below_drew1) | exact HB.out)) hb); clear HB; have HB := n0_; clear n0_; (try clear hb); (try clear hb2); (try clear hk); (try clear hi)) | ((with_reducible refine gate_callee (f := 19) rfl ?_); refine goesL_ (some 14) rfl rfl Tryd.func19 (by kernel_rfl) rfl #[.string a0] rfl (by (try simp only [List.map_toArray, List.map_cons, List.map_nil]); first | done | rfl | (simp only [List.length_drop, List.length_take]; rfl)) ?_; (with_reducible refine (parapetref9_IsAddress.calls k a0 t343 t344 _ A3.out).mono ?_); rintro e w9 ⟨rfl, hb⟩; refine ⟨_, rfl, ?_⟩; have n0_ := Aside0.mk (below_step (by repeat (first | (with_reducible first | exact HB.out | apply below_alloc | apply pw_below_drewN | apply below_drew1) | exact HB.out)) hb); clear HB; have HB := n0_; clear n0_; (try clear hb); (try clear hb2); (try clear hk); (try clear hi)))
    go_ret
    exact ⟨by first | rfl | (simp [errW_none, errW_some] <;> rfl) | (simp [*, errW_none, errW_some] <;> rfl), by repeat (first | (with_reducible first | exact HB.out | apply below_alloc | apply pw_below_drewN | apply below_drew1) | exact HB.out)⟩
  rw [if_pos c5] at H
  have c5b0 : (t341.toList == a0.toList) = true := beq_iff_eq.mpr c5
  have c5b1 : (t341.toList != a0.toList) = false := bne_eq_false_iff_eq.mpr c5
  clear c5
  obtain rfl := Option.some.inj H
  go_enter Tryd.func23, Tryd.ntmps23
  go_wp2_with (first | ((with_reducible refine gate_callee (f := 21) rfl ?_); refine goesL_ (some 9) rfl rfl Tryd.func21 (by kernel_rfl) rfl #[.string a0] rfl (by (try simp only [List.map_toArray, List.map_cons, List.map_nil]); first | done | rfl | (simp only [List.length_drop, List.length_take]; rfl)) ?_; (with_reducible refine (parapetref9_Host.calls k a0 t341 t342 _ A2.out).mono ?_); rintro e w6 ⟨rfl, hb⟩; refine ⟨_, rfl, ?_⟩; have n0_ := Aside0.mk (below_step (by repeat (first | (with_reducible first | exact HB.out | apply below_alloc | apply pw_below_drewN | apply below_drew1) | exact HB.out)) hb); clear HB; have HB := n0_; clear n0_; (try clear hb); (try clear hb2); (try clear hk); (try clear hi)) | ((with_reducible refine gate_callee (f := 19) rfl ?_); refine goesL_ (some 14) rfl rfl Tryd.func19 (by kernel_rfl) rfl #[.string a0] rfl (by (try simp only [List.map_toArray, List.map_cons, List.map_nil]); first | done | rfl | (simp only [List.length_drop, List.length_take]; rfl)) ?_; (with_reducible refine (parapetref9_IsAddress.calls k a0 t343 t344 _ A3.out).mono ?_); rintro e w7 ⟨rfl, hb⟩; refine ⟨_, rfl, ?_⟩; have n0_ := Aside0.mk (below_step (by repeat (first | (with_reducible first | exact HB.out | apply below_alloc | apply pw_below_drewN | apply below_drew1) | exact HB.out)) hb); clear HB; have HB := n0_; clear n0_; (try clear hb); (try clear hb2); (try clear hk); (try clear hi)))
  go_ret
  exact ⟨by first | rfl | (simp [errW_none, errW_some] <;> rfl) | (simp [*, errW_none, errW_some] <;> rfl), by repeat (first | (with_reducible first | exact HB.out | apply below_alloc | apply pw_below_drewN | apply below_drew1) | exact HB.out)⟩

end Go.Proofs.YtgldmliemeadpaaDoor.PA
