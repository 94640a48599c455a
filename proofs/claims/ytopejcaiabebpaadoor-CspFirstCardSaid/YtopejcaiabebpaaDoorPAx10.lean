-- written by pp.py, a program of this session's, which runs the kit's print with turns of its own; Lean checks it
import Derived.Test.YtopejcaiabebpaaDoorPAx0
import Derived.Test.YtopejcaiabebpaaDoorPAx3
import Derived.Test.YtopejcaiabebpaaDoorPAx4
namespace Go.Proofs.YtopejcaiabebpaaDoor.PA
open Go.RowKit Go.Proofs.YtopejcaiabebpaaDoorW.PrintWords Go.Proofs.YtopejcaiabebpaaDoorW.PrintLast Go.Proofs.YtopejcaiabebpaaDoorW.PrintMore
attribute [local go_sem] max2_int min2_int max_two min_two max_three min_three max_four min_four   -- for this text's walks alone
set_option linter.unusedVariables false
set_option linter.unusedSimpArgs false

/-! ### parapetlaw14_CspFirst: function 4 -/
mutual
def parapetlaw14_CspFirst.j0 : Nat → List (S29) → Bool → Option (Bool)
  | 0, _, _ => none
  | k + 1, x5, x37 => if x37 = true then (some false) else (parapetlaw14_CspFirst.l0 k x5 0)
def parapetlaw14_CspFirst.l0 : Nat → List (S29) → Int → Option (Bool)
  | 0, _, _ => none
  | k + 1, x5, x7 => if x7 < (x5.length : Int) then (parapetlaw14_CspFirst.l1 k x5 x7 0) else ((parapetlaw14_awake.f k).bind fun t250 => (some t250))
def parapetlaw14_CspFirst.l1 : Nat → List (S29) → Int → Int → Option (Bool)
  | 0, _, _, _ => none
  | k + 1, x5, x7, x8 => if 0 ≤ x7 then (if x7 < (x5.length : Int) then (if x8 < (((rd_T29 x5 x7).f0).size : Int) then (if 0 ≤ x8 then (if (bt ((rd_T29 x5 x7).f0) x8) ≥ 65 then (if (bt ((rd_T29 x5 x7).f0) x8) ≤ 90 then (some false) else (if (bt ((rd_T29 x5 x7).f0) x8) ≥ 128 then (some false) else (parapetlaw14_CspFirst.l1 k x5 x7 (wrap64 (x8 + 1))))) else (if (bt ((rd_T29 x5 x7).f0) x8) ≥ 128 then (some false) else (parapetlaw14_CspFirst.l1 k x5 x7 (wrap64 (x8 + 1))))) else (none)) else (parapetlaw14_CspFirst.l2 k x5 x7 0)) else (none)) else (none)
def parapetlaw14_CspFirst.l2 : Nat → List (S29) → Int → Int → Option (Bool)
  | 0, _, _, _ => none
  | k + 1, x5, x7, x9 => if x9 < x7 then (if 0 ≤ x9 then (if x9 < (x5.length : Int) then (if 0 ≤ x7 then (if x7 < (x5.length : Int) then (if ((rd_T29 x5 x9).f0).toList = ((rd_T29 x5 x7).f0).toList then (some false) else (parapetlaw14_CspFirst.l2 k x5 x7 (wrap64 (x9 + 1)))) else (none)) else (none)) else (none)) else (none)) else (parapetlaw14_CspFirst.l0 k x5 (wrap64 (x7 + 1)))
end
def parapetlaw14_CspFirst.f (k : Nat) (a0 : ByteArray) (a1 : ByteArray) : Option (Bool) := if (wrap64 ((a0.size : Int) + (a1.size : Int))) > 3000 then ((parapetlaw14_awake.f k).bind fun t237 => (some t237)) else (if a0.size + 1 ≤ 9223372036854775807 then (if (a0 ++ (⟨#[59]⟩ : ByteArray)).size + a1.size ≤ 9223372036854775807 then ((csp_Parse.f k ((a0 ++ (⟨#[59]⟩ : ByteArray)) ++ a1)).bind fun t238 => ((csp_Parse.f k a0).bind fun t241 => (if (t238.length : Int) < (t241.length : Int) then (parapetlaw14_CspFirst.j0 k t238 true) else (if 0 ≤ (t241.length : Int) then (if (t241.length : Int) ≤ (t238.length : Int) then ((parapetlaw14_same.f k (t238.take ((t241.length : Int) : Int).toNat) t241).bind fun t249 => (parapetlaw14_CspFirst.j0 k t238 (!t249))) else (none)) else (none))))) else (none)) else (none))
theorem parapetlaw14_CspFirst.mono_l : ∀ k, (∀ y0 y1, LeO (parapetlaw14_CspFirst.j0 k y0 y1) (parapetlaw14_CspFirst.j0 (k + 1) y0 y1)) ∧ (∀ y0 y1, LeO (parapetlaw14_CspFirst.l0 k y0 y1) (parapetlaw14_CspFirst.l0 (k + 1) y0 y1)) ∧ (∀ y0 y1 y2, LeO (parapetlaw14_CspFirst.l1 k y0 y1 y2) (parapetlaw14_CspFirst.l1 (k + 1) y0 y1 y2)) ∧ (∀ y0 y1 y2, LeO (parapetlaw14_CspFirst.l2 k y0 y1 y2) (parapetlaw14_CspFirst.l2 (k + 1) y0 y1 y2))
  | 0 => ⟨fun _ _ r h => by simp [parapetlaw14_CspFirst.j0] at h, fun _ _ r h => by simp [parapetlaw14_CspFirst.l0] at h, fun _ _ _ r h => by simp [parapetlaw14_CspFirst.l1] at h, fun _ _ _ r h => by simp [parapetlaw14_CspFirst.l2] at h⟩
  | k + 1 => by
    obtain ⟨ih0, ih1, ih2, ih3⟩ := parapetlaw14_CspFirst.mono_l k
    refine ⟨?_, ?_, ?_, ?_⟩
    · intro y0 y1
      unfold parapetlaw14_CspFirst.j0
      repeat' first
      | (with_reducible exact ih0 _ _)
      | (with_reducible exact ih1 _ _)
      | (with_reducible exact ih2 _ _ _)
      | (with_reducible exact ih3 _ _ _)
      | (with_reducible exact csp_Parse.mono _ _)
      | (with_reducible exact parapetlaw14_awake.mono _)
      | (with_reducible exact parapetlaw14_same.mono _ _ _)
      | (with_reducible exact LeO.refl _)
      | (with_reducible exact LeO.none _)
      | (with_reducible refine LeO.ite ?_ ?_)
      | (with_reducible refine LeO.bind ?_ (fun _ => ?_))
      | exact ih0 _ _
      | exact ih1 _ _
      | exact ih2 _ _ _
      | exact ih3 _ _ _
      | exact csp_Parse.mono _ _
      | exact parapetlaw14_awake.mono _
      | exact parapetlaw14_same.mono _ _ _
      | exact LeO.none _
      | refine LeO.ite ?_ ?_
      | refine LeO.bind ?_ (fun _ => ?_)
    · intro y0 y1
      unfold parapetlaw14_CspFirst.l0
      repeat' first
      | (with_reducible exact ih0 _ _)
      | (with_reducible exact ih1 _ _)
      | (with_reducible exact ih2 _ _ _)
      | (with_reducible exact ih3 _ _ _)
      | (with_reducible exact csp_Parse.mono _ _)
      | (with_reducible exact parapetlaw14_awake.mono _)
      | (with_reducible exact parapetlaw14_same.mono _ _ _)
      | (with_reducible exact LeO.refl _)
      | (with_reducible exact LeO.none _)
      | (with_reducible refine LeO.ite ?_ ?_)
      | (with_reducible refine LeO.bind ?_ (fun _ => ?_))
      | exact ih0 _ _
      | exact ih1 _ _
      | exact ih2 _ _ _
      | exact ih3 _ _ _
      | exact csp_Parse.mono _ _
      | exact parapetlaw14_awake.mono _
      | exact parapetlaw14_same.mono _ _ _
      | exact LeO.none _
      | refine LeO.ite ?_ ?_
      | refine LeO.bind ?_ (fun _ => ?_)
    · intro y0 y1 y2
      unfold parapetlaw14_CspFirst.l1
      repeat' first
      | (with_reducible exact ih0 _ _)
      | (with_reducible exact ih1 _ _)
      | (with_reducible exact ih2 _ _ _)
      | (with_reducible exact ih3 _ _ _)
      | (with_reducible exact csp_Parse.mono _ _)
      | (with_reducible exact parapetlaw14_awake.mono _)
      | (with_reducible exact parapetlaw14_same.mono _ _ _)
      | (with_reducible exact LeO.refl _)
      | (with_reducible exact LeO.none _)
      | (with_reducible refine LeO.ite ?_ ?_)
      | (with_reducible refine LeO.bind ?_ (fun _ => ?_))
      | exact ih0 _ _
      | exact ih1 _ _
      | exact ih2 _ _ _
      | exact ih3 _ _ _
      | exact csp_Parse.mono _ _
      | exact parapetlaw14_awake.mono _
      | exact parapetlaw14_same.mono _ _ _
      | exact LeO.none _
      | refine LeO.ite ?_ ?_
      | refine LeO.bind ?_ (fun _ => ?_)
    · intro y0 y1 y2
      unfold parapetlaw14_CspFirst.l2
      repeat' first
      | (with_reducible exact ih0 _ _)
      | (with_reducible exact ih1 _ _)
      | (with_reducible exact ih2 _ _ _)
      | (with_reducible exact ih3 _ _ _)
      | (with_reducible exact csp_Parse.mono _ _)
      | (with_reducible exact parapetlaw14_awake.mono _)
      | (with_reducible exact parapetlaw14_same.mono _ _ _)
      | (with_reducible exact LeO.refl _)
      | (with_reducible exact LeO.none _)
      | (with_reducible refine LeO.ite ?_ ?_)
      | (with_reducible refine LeO.bind ?_ (fun _ => ?_))
      | exact ih0 _ _
      | exact ih1 _ _
      | exact ih2 _ _ _
      | exact ih3 _ _ _
      | exact csp_Parse.mono _ _
      | exact parapetlaw14_awake.mono _
      | exact parapetlaw14_same.mono _ _ _
      | exact LeO.none _
      | refine LeO.ite ?_ ?_
      | refine LeO.bind ?_ (fun _ => ?_)
theorem parapetlaw14_CspFirst.mono : ∀ a0 a1 k, LeO (parapetlaw14_CspFirst.f k a0 a1) (parapetlaw14_CspFirst.f (k + 1) a0 a1) := by
  intro a0 a1 k
  obtain ⟨ih0, ih1, ih2, ih3⟩ := parapetlaw14_CspFirst.mono_l k
  unfold parapetlaw14_CspFirst.f
  repeat' first
      | (with_reducible exact ih0 _ _)
      | (with_reducible exact ih1 _ _)
      | (with_reducible exact ih2 _ _ _)
      | (with_reducible exact ih3 _ _ _)
      | (with_reducible exact csp_Parse.mono _ _)
      | (with_reducible exact parapetlaw14_awake.mono _)
      | (with_reducible exact parapetlaw14_same.mono _ _ _)
      | (with_reducible exact LeO.refl _)
      | (with_reducible exact LeO.none _)
      | (with_reducible refine LeO.ite ?_ ?_)
      | (with_reducible refine LeO.bind ?_ (fun _ => ?_))
      | exact ih0 _ _
      | exact ih1 _ _
      | exact ih2 _ _ _
      | exact ih3 _ _ _
      | exact csp_Parse.mono _ _
      | exact parapetlaw14_awake.mono _
      | exact parapetlaw14_same.mono _ _ _
      | exact LeO.none _
      | refine LeO.ite ?_ ?_
      | refine LeO.bind ?_ (fun _ => ?_)
set_option maxHeartbeats 8000000 in
set_option maxRecDepth 100000 in
theorem parapetlaw14_CspFirst.calls (k : Nat) (a0 : ByteArray) (a1 : ByteArray) (r : Bool) (w : World) (h : parapetlaw14_CspFirst.f k a0 a1 = some r) :
    Calls Tryd.prog 4 #[.string a0, .string a1] w fun e w' => e = .returned (.bool r) ∧ Below w.heap.size w w' := by
  have HB := Aside0.mk (Below.refl w.heap.size w)
  have H : (if (wrap64 ((a0.size : Int) + (a1.size : Int))) > 3000 then ((parapetlaw14_awake.f k).bind fun t237 => (some t237)) else (if a0.size + 1 ≤ 9223372036854775807 then (if (a0 ++ (⟨#[59]⟩ : ByteArray)).size + a1.size ≤ 9223372036854775807 then ((csp_Parse.f k ((a0 ++ (⟨#[59]⟩ : ByteArray)) ++ a1)).bind fun t238 => ((csp_Parse.f k a0).bind fun t241 => (if (t238.length : Int) < (t241.length : Int) then (parapetlaw14_CspFirst.j0 k t238 true) else (if 0 ≤ (t241.length : Int) then (if (t241.length : Int) ≤ (t238.length : Int) then ((parapetlaw14_same.f k (t238.take ((t241.length : Int) : Int).toNat) t241).bind fun t249 => (parapetlaw14_CspFirst.j0 k t238 (!t249))) else (none)) else (none))))) else (none)) else (none))) = some r := h
  clear h
  by_cases c3 : (wrap64 ((a0.size : Int) + (a1.size : Int))) > 3000
  · rw [if_pos c3] at H
    have c3b0 : decide (3000 < (wrap64 ((a0.size : Int) + (a1.size : Int)))) = true := decide_eq_true c3
    clear c3
    replace H := Option.bind_eq_some_iff.mp H
    obtain ⟨t237, A40, H⟩ := H
    replace H : (some t237) = some r := H
    have A4 := Aside0.mk A40
    clear A40
    obtain rfl := Option.some.inj H
    go_enter Tryd.func4, Tryd.ntmps4
    go_wp2_with (first | (go_at_call 8; (with_reducible refine (parapetlaw14_awake.calls k  t237 _ A4.out).mono ?_); rintro e w5 ⟨rfl, hb⟩; have n0_ := Aside0.mk (below_step (by repeat (first | (with_reducible first | exact HB.out | apply below_alloc | apply pw_below_drewN | apply below_drew1) | exact HB.out)) hb); clear HB; have HB := n0_; clear n0_; (try clear hb); (try clear hb2); (try clear hk); (try clear hi)))
    repeat (go_quiet (first | (go_at_call 8; (with_reducible refine (parapetlaw14_awake.calls k  t237 _ A4.out).mono ?_); rintro e w5 ⟨rfl, hb⟩; have n0_ := Aside0.mk (below_step (by repeat (first | (with_reducible first | exact HB.out | apply below_alloc | apply pw_below_drewN | apply below_drew1) | exact HB.out)) hb); clear HB; have HB := n0_; clear n0_; (try clear hb); (try clear hb2); (try clear hk); (try clear hi))); try go_wp2_with (first | (go_at_call 8; (with_reducible refine (parapetlaw14_awake.calls k  t237 _ A4.out).mono ?_); rintro e w5 ⟨rfl, hb⟩; have n0_ := Aside0.mk (below_step (by repeat (first | (with_reducible first | exact HB.out | apply below_alloc | apply pw_below_drewN | apply below_drew1) | exact HB.out)) hb); clear HB; have HB := n0_; clear n0_; (try clear hb); (try clear hb2); (try clear hk); (try clear hi))))
    go_ret
    exact ⟨by first | rfl | (simp [errW_none, errW_some] <;> rfl) | (simp [*, errW_none, errW_some] <;> rfl), by repeat (first | (with_reducible first | exact HB.out | apply below_alloc | apply pw_below_drewN | apply below_drew1) | exact HB.out)⟩
  · rw [if_neg c3] at H
    have c3b0 : decide (3000 < (wrap64 ((a0.size : Int) + (a1.size : Int)))) = false := decide_eq_false c3
    clear c3
    by_cases c6 : a0.size + 1 ≤ 9223372036854775807
    · rw [if_pos c6] at H
      have c6b0 := eq_true c6
      have c6b1 : decide (a0.size + 1 ≤ 9223372036854775807) = true := decide_eq_true c6
      try have c6b2 : (9223372036854775807 < a0.size + 1) = False := eq_false (Nat.not_lt.2 c6)
      by_cases c7 : (a0 ++ (⟨#[59]⟩ : ByteArray)).size + a1.size ≤ 9223372036854775807
      · rw [if_pos c7] at H
        have c7b0 := eq_true c7
        have c7b1 : decide ((a0 ++ (⟨#[59]⟩ : ByteArray)).size + a1.size ≤ 9223372036854775807) = true := decide_eq_true c7
        try have c7b2 : (9223372036854775807 < (a0 ++ (⟨#[59]⟩ : ByteArray)).size + a1.size) = False := eq_false (Nat.not_lt.2 c7)
        (try (have c7b3 : (9223372036854775807 < a0.size + 1 + a1.size) = False := eq_false (Nat.not_lt.2 (by have h_ := c7; simp only [ByteArray.size_append] at h_; exact h_))))
        replace H := Option.bind_eq_some_iff.mp H
        obtain ⟨t238, A80, H⟩ := H
        replace H : ((csp_Parse.f k a0).bind fun t241 => (if (t238.length : Int) < (t241.length : Int) then (parapetlaw14_CspFirst.j0 k t238 true) else (if 0 ≤ (t241.length : Int) then (if (t241.length : Int) ≤ (t238.length : Int) then ((parapetlaw14_same.f k (t238.take ((t241.length : Int) : Int).toNat) t241).bind fun t249 => (parapetlaw14_CspFirst.j0 k t238 (!t249))) else (none)) else (none)))) = some r := H
        have A8 := Aside0.mk A80
        clear A80
        replace H := Option.bind_eq_some_iff.mp H
        obtain ⟨t241, A90, H⟩ := H
        replace H : (if (t238.length : Int) < (t241.length : Int) then (parapetlaw14_CspFirst.j0 k t238 true) else (if 0 ≤ (t241.length : Int) then (if (t241.length : Int) ≤ (t238.length : Int) then ((parapetlaw14_same.f k (t238.take ((t241.length : Int) : Int).toNat) t241).bind fun t249 => (parapetlaw14_CspFirst.j0 k t238 (!t249))) else (none)) else (none))) = some r := H
        have A9 := Aside0.mk A90
        clear A90
        have HC10 := Aside0.mk H
        clear H
        go_enter Tryd.func4, Tryd.ntmps4
        go_upto_region 5 with (first | (go_at_call 10; (with_reducible refine (csp_Parse.calls k ((a0 ++ (⟨#[59]⟩ : ByteArray)) ++ a1) t238 _ A8.out).mono ?_); rintro e w11 ⟨v239, rfl, ho0, hb⟩; have n0_ := Aside0.mk (Kd.N_lower (Kd.N_mono (ok' := fun k_ => True) ho0 (fun k_ hk_ => trivial)) (below_size (by repeat (first | (with_reducible first | exact HB.out | apply below_alloc | apply pw_below_drewN | apply below_drew1) | exact HB.out)))); have n1_ := Aside0.mk (below_step (by repeat (first | (with_reducible first | exact HB.out | apply below_alloc | apply pw_below_drewN | apply below_drew1) | exact HB.out)) hb); clear HB; have HO240 := n0_; have HB := n1_; clear n0_ n1_; (try clear hb); (try clear hb2); (try clear hk); (try clear hi); (try clear ho0)) | (go_at_call 10; (with_reducible refine (csp_Parse.calls k a0 t241 _ A9.out).mono ?_); rintro e w12 ⟨v242, rfl, ho0, hb⟩; have n0_ := Aside0.mk (Kd.N_elder' (by (with_reducible repeat (first | apply Kd.N_alloc | apply Kd.N_drewN | apply Kd.N_drew)); exact HO240.out) (Kd.N_base ho0) hb); have n1_ := Aside0.mk (Kd.N_lower (Kd.N_mono (ok' := fun k_ => some k_ ≠ (v239 : Value).ownBlock) ho0 (fun k_ hk_ => (Kd.fresh' (Kd.N_lt (by (with_reducible repeat (first | apply Kd.N_alloc | apply Kd.N_drewN | apply Kd.N_drew)); exact HO240.out)) k_ hk_))) (below_size (by repeat (first | (with_reducible first | exact HB.out | apply below_alloc | apply pw_below_drewN | apply below_drew1) | exact HB.out)))); have n2_ := Aside0.mk (below_step (by repeat (first | (with_reducible first | exact HB.out | apply below_alloc | apply pw_below_drewN | apply below_drew1) | exact HB.out)) hb); clear HO240; clear HB; have HO240 := n0_; have HO243 := n1_; have HB := n2_; clear n0_ n1_ n2_; (try clear hb); (try clear hb2); (try clear hk); (try clear hi); (try clear ho0)))
        repeat (go_quiet (first | (go_at_call 10; (with_reducible refine (csp_Parse.calls k ((a0 ++ (⟨#[59]⟩ : ByteArray)) ++ a1) t238 _ A8.out).mono ?_); rintro e w11 ⟨v239, rfl, ho0, hb⟩; have n0_ := Aside0.mk (Kd.N_lower (Kd.N_mono (ok' := fun k_ => True) ho0 (fun k_ hk_ => trivial)) (below_size (by repeat (first | (with_reducible first | exact HB.out | apply below_alloc | apply pw_below_drewN | apply below_drew1) | exact HB.out)))); have n1_ := Aside0.mk (below_step (by repeat (first | (with_reducible first | exact HB.out | apply below_alloc | apply pw_below_drewN | apply below_drew1) | exact HB.out)) hb); clear HB; have HO240 := n0_; have HB := n1_; clear n0_ n1_; (try clear hb); (try clear hb2); (try clear hk); (try clear hi); (try clear ho0)) | (go_at_call 10; (with_reducible refine (csp_Parse.calls k a0 t241 _ A9.out).mono ?_); rintro e w12 ⟨v242, rfl, ho0, hb⟩; have n0_ := Aside0.mk (Kd.N_elder' (by (with_reducible repeat (first | apply Kd.N_alloc | apply Kd.N_drewN | apply Kd.N_drew)); exact HO240.out) (Kd.N_base ho0) hb); have n1_ := Aside0.mk (Kd.N_lower (Kd.N_mono (ok' := fun k_ => some k_ ≠ (v239 : Value).ownBlock) ho0 (fun k_ hk_ => (Kd.fresh' (Kd.N_lt (by (with_reducible repeat (first | apply Kd.N_alloc | apply Kd.N_drewN | apply Kd.N_drew)); exact HO240.out)) k_ hk_))) (below_size (by repeat (first | (with_reducible first | exact HB.out | apply below_alloc | apply pw_below_drewN | apply below_drew1) | exact HB.out)))); have n2_ := Aside0.mk (below_step (by repeat (first | (with_reducible first | exact HB.out | apply below_alloc | apply pw_below_drewN | apply below_drew1) | exact HB.out)) hb); clear HO240; clear HB; have HO240 := n0_; have HO243 := n1_; have HB := n2_; clear n0_ n1_ n2_; (try clear hb); (try clear hb2); (try clear hk); (try clear hi); (try clear ho0))); go_upto_region 5 with (first | (go_at_call 10; (with_reducible refine (csp_Parse.calls k ((a0 ++ (⟨#[59]⟩ : ByteArray)) ++ a1) t238 _ A8.out).mono ?_); rintro e w11 ⟨v239, rfl, ho0, hb⟩; have n0_ := Aside0.mk (Kd.N_lower (Kd.N_mono (ok' := fun k_ => True) ho0 (fun k_ hk_ => trivial)) (below_size (by repeat (first | (with_reducible first | exact HB.out | apply below_alloc | apply pw_below_drewN | apply below_drew1) | exact HB.out)))); have n1_ := Aside0.mk (below_step (by repeat (first | (with_reducible first | exact HB.out | apply below_alloc | apply pw_below_drewN | apply below_drew1) | exact HB.out)) hb); clear HB; have HO240 := n0_; have HB := n1_; clear n0_ n1_; (try clear hb); (try clear hb2); (try clear hk); (try clear hi); (try clear ho0)) | (go_at_call 10; (with_reducible refine (csp_Parse.calls k a0 t241 _ A9.out).mono ?_); rintro e w12 ⟨v242, rfl, ho0, hb⟩; have n0_ := Aside0.mk (Kd.N_elder' (by (with_reducible repeat (first | apply Kd.N_alloc | apply Kd.N_drewN | apply Kd.N_drew)); exact HO240.out) (Kd.N_base ho0) hb); have n1_ := Aside0.mk (Kd.N_lower (Kd.N_mono (ok' := fun k_ => some k_ ≠ (v239 : Value).ownBlock) ho0 (fun k_ hk_ => (Kd.fresh' (Kd.N_lt (by (with_reducible repeat (first | apply Kd.N_alloc | apply Kd.N_drewN | apply Kd.N_drew)); exact HO240.out)) k_ hk_))) (below_size (by repeat (first | (with_reducible first | exact HB.out | apply below_alloc | apply pw_below_drewN | apply below_drew1) | exact HB.out)))); have n2_ := Aside0.mk (below_step (by repeat (first | (with_reducible first | exact HB.out | apply below_alloc | apply pw_below_drewN | apply below_drew1) | exact HB.out)) hb); clear HO240; clear HB; have HO240 := n0_; have HO243 := n1_; have HB := n2_; clear n0_ n1_ n2_; (try clear hb); (try clear hb2); (try clear hk); (try clear hi); (try clear ho0))))
        (try simp only [Act.put, List.setIfInBounds_toArray, List.set_cons_zero, List.set_cons_succ])
        go_cut [37] (fun v37 wc => ∃ (kq : Nat) (x37_9 : Bool), v37 = .bool x37_9 ∧ Aside0 (parapetlaw14_CspFirst.j0 kq t238 x37_9 = some r) ∧ Aside0 (kq ≤ k) ∧ Aside0 (Kd.N k29 29 wc w.heap.size (fun _ => True) v239 t238) ∧ Aside0 (Below w.heap.size w wc))
        case first =>
          have H := HC10.out
          clear HC10
          by_cases c13 : (t238.length : Int) < (t241.length : Int)
          · rw [if_pos c13] at H
            have c13b0 : decide ((t238.length : Int) < (t241.length : Int)) = true := decide_eq_true c13
            have c13b1 : decide (t238.length < t241.length) = true := decide_eq_true (Int.ofNat_lt.mp c13)
            clear c13
            (first | rw [c13b0] | (simp only [i64_w, i32_w]; rw [c13b0]) | skip)
            have H' := Aside0.mk H
            clear H
            obtain ⟨Ao14, co14, eo14⟩ := Kd.N_slice HO240.out
            subst eo14
            obtain ⟨Ao15, co15, eo15⟩ := Kd.N_slice HO243.out
            subst eo15
            go_wp2
            repeat (go_quiet (fail); try go_wp2)
            go_meet
            case rel => exact ⟨_, (true), (by first | rfl | (simp; done) | (simp [*]; done) | (simp [*] <;> (generalize ByteArray.toList _ = l_; cases l_ <;> rfl))), H', ⟨by first | omega | exact Nat.le_refl _⟩, ⟨by (with_reducible repeat (first | apply Kd.N_alloc | apply Kd.N_drewN | apply Kd.N_drew)); exact Kd.N_mono HO240.out (fun _ hk => trivial)⟩, ⟨by repeat (first | (with_reducible first | exact HB.out | apply below_alloc | apply pw_below_drewN | apply below_drew1) | exact HB.out)⟩⟩
          · rw [if_neg c13] at H
            have c13b0 : decide ((t238.length : Int) < (t241.length : Int)) = false := decide_eq_false c13
            have c13b1 : decide (t238.length < t241.length) = false := decide_eq_false (fun h => c13 (Int.ofNat_lt.mpr h))
            clear c13
            (first | rw [c13b0] | (simp only [i64_w, i32_w]; rw [c13b0]) | skip)
            by_cases c16 : 0 ≤ (t241.length : Int)
            · rw [if_pos c16] at H
              have c16b0 := eq_true c16
              have c16b1 : decide (0 ≤ (t241.length : Int)) = true := decide_eq_true c16
              clear c16
              by_cases c17 : (t241.length : Int) ≤ (t238.length : Int)
              · rw [if_pos c17] at H
                have c17b0 := eq_true c17
                have c17b1 : decide ((t241.length : Int) ≤ (t238.length : Int)) = true := decide_eq_true c17
                clear c17
                obtain ⟨y244, hy244⟩ : ∃ y_ : List (S29), y_ = (t238.take ((t241.length : Int) : Int).toNat) := ⟨_, rfl⟩
                replace H : ((parapetlaw14_same.f k y244 t241).bind fun t249 => (parapetlaw14_CspFirst.j0 k t238 (!t249))) = some r := by first | (rw [hy244]; with_reducible exact H) | (have H2_ := (Option.bind_some _ _).symm.trans H; rw [hy244]; with_reducible exact H2_) | (have H2_ := (Option.bind_some _ _).symm.trans H; with_reducible exact H2_) | with_reducible exact H | (rw [hy244]; exact H) | exact H
                have Ny244 := Aside0.mk hy244
                clear hy244
                replace H := Option.bind_eq_some_iff.mp H
                obtain ⟨t249, A180, H⟩ := H
                replace H : (parapetlaw14_CspFirst.j0 k t238 (!t249)) = some r := H
                have A18 := Aside0.mk A180
                clear A180
                have H' := Aside0.mk H
                clear H
                obtain ⟨Ao19, co19, eo19⟩ := Kd.N_slice HO240.out
                subst eo19
                obtain ⟨Ao20, co20, eo20⟩ := Kd.N_slice HO243.out
                subst eo20
                have q21 : ((t241.length : Int) : Int) ≤ ((t238.length : Int) : Int) := of_decide_eq_true (by first | (with_reducible assumption) | assumption)
                obtain ⟨i021, hi021, _, hsz21, _⟩ := info_parts info29
                have hroom21 : t238.length ≤ co19 := (Kd.N_reads' HO240.out).2.1
                have hC21 : Kd.F k29 _ _ Ao19 t238.length t238 := (Kd.V_at (base := w.heap.size) (Kd.N_V HO240.out)).2.2
                have hcut21 := cut_to (P := Tryd.prog) 24 29 .i64 Tryd.underlying24 hi021 Ao19 t238.length co19 (t241.length : Int) (of_decide_eq_true (by first | (with_reducible assumption) | assumption)) q21 hroom21
                have hr21 := Kd.F_take (m := ((t241.length : Int) : Int).toNat) hC21 (by omega)
                have hy21 : y244.length = ((t241.length : Int) : Int).toNat := (by rw [Ny244.out, List.length_take]; omega)
                rw [← Ny244.out] at hr21
                rw [← hy21] at hcut21
                have HO248 := Aside0.mk (show Kd.V k29 29 _ w.heap.size _ (.slice Ao19 y244.length co19) y244 from Kd.V_mk (by omega) hr21)
                have HC248 := Aside0.mk (show y244.length ≤ co19 from by omega)
                clear hr21 hC21 hroom21 hi021 hsz21
                have KY21 := Aside0.mk hy21
                clear hy21
                replace q21 := eq_true q21
                go_wp2_with (first | (go_at_call 9; (with_reducible refine (parapetlaw14_same.calls k _ _ y244 _ _ t241 t249 _ ?side1 ?side2 ?side3 ?side4 A18.out).mono ?_); (case side1 => repeat (first | exact (Kd.V_reads' HO248.out).2.2 | (with_reducible refine Kd.C_alloc ?_ _) | (with_reducible refine Kd.C_drewN ?_ _) | (with_reducible refine Kd.C_drew ?_))); (case side2 => exact (Kd.V_reads' HO248.out).2.1); (case side3 => repeat (first | exact (Kd.N_reads' HO243.out).2.2 | (with_reducible refine Kd.C_alloc ?_ _) | (with_reducible refine Kd.C_drewN ?_ _) | (with_reducible refine Kd.C_drew ?_))); (case side4 => exact (Kd.N_reads' HO243.out).2.1); rintro e w22 ⟨rfl, hb⟩; have n0_ := Aside0.mk (Kd.N_below (by (with_reducible repeat (first | apply Kd.N_alloc | apply Kd.N_drewN | apply Kd.N_drew)); exact HO240.out) hb); have n1_ := Aside0.mk (Kd.N_below (by (with_reducible repeat (first | apply Kd.N_alloc | apply Kd.N_drewN | apply Kd.N_drew)); exact HO243.out) hb); have n2_ := Aside0.mk (Kd.V_below (by (with_reducible repeat (first | apply Kd.V_alloc | apply Kd.V_drewN | apply Kd.V_drew)); exact HO248.out) hb); have n3_ := Aside0.mk (below_step (by repeat (first | (with_reducible first | exact HB.out | apply below_alloc | apply pw_below_drewN | apply below_drew1) | exact HB.out)) hb); clear HO240; clear HO243; clear HO248; clear HB; have HO240 := n0_; have HO243 := n1_; have HO248 := n2_; have HB := n3_; clear n0_ n1_ n2_ n3_; (try clear hb); (try clear hb2); (try clear hk); (try clear hi)))
                repeat (go_quiet (first | (go_at_call 9; (with_reducible refine (parapetlaw14_same.calls k _ _ y244 _ _ t241 t249 _ ?side1 ?side2 ?side3 ?side4 A18.out).mono ?_); (case side1 => repeat (first | exact (Kd.V_reads' HO248.out).2.2 | (with_reducible refine Kd.C_alloc ?_ _) | (with_reducible refine Kd.C_drewN ?_ _) | (with_reducible refine Kd.C_drew ?_))); (case side2 => exact (Kd.V_reads' HO248.out).2.1); (case side3 => repeat (first | exact (Kd.N_reads' HO243.out).2.2 | (with_reducible refine Kd.C_alloc ?_ _) | (with_reducible refine Kd.C_drewN ?_ _) | (with_reducible refine Kd.C_drew ?_))); (case side4 => exact (Kd.N_reads' HO243.out).2.1); rintro e w22 ⟨rfl, hb⟩; have n0_ := Aside0.mk (Kd.N_below (by (with_reducible repeat (first | apply Kd.N_alloc | apply Kd.N_drewN | apply Kd.N_drew)); exact HO240.out) hb); have n1_ := Aside0.mk (Kd.N_below (by (with_reducible repeat (first | apply Kd.N_alloc | apply Kd.N_drewN | apply Kd.N_drew)); exact HO243.out) hb); have n2_ := Aside0.mk (Kd.V_below (by (with_reducible repeat (first | apply Kd.V_alloc | apply Kd.V_drewN | apply Kd.V_drew)); exact HO248.out) hb); have n3_ := Aside0.mk (below_step (by repeat (first | (with_reducible first | exact HB.out | apply below_alloc | apply pw_below_drewN | apply below_drew1) | exact HB.out)) hb); clear HO240; clear HO243; clear HO248; clear HB; have HO240 := n0_; have HO243 := n1_; have HO248 := n2_; have HB := n3_; clear n0_ n1_ n2_ n3_; (try clear hb); (try clear hb2); (try clear hk); (try clear hi))); try go_wp2_with (first | (go_at_call 9; (with_reducible refine (parapetlaw14_same.calls k _ _ y244 _ _ t241 t249 _ ?side1 ?side2 ?side3 ?side4 A18.out).mono ?_); (case side1 => repeat (first | exact (Kd.V_reads' HO248.out).2.2 | (with_reducible refine Kd.C_alloc ?_ _) | (with_reducible refine Kd.C_drewN ?_ _) | (with_reducible refine Kd.C_drew ?_))); (case side2 => exact (Kd.V_reads' HO248.out).2.1); (case side3 => repeat (first | exact (Kd.N_reads' HO243.out).2.2 | (with_reducible refine Kd.C_alloc ?_ _) | (with_reducible refine Kd.C_drewN ?_ _) | (with_reducible refine Kd.C_drew ?_))); (case side4 => exact (Kd.N_reads' HO243.out).2.1); rintro e w22 ⟨rfl, hb⟩; have n0_ := Aside0.mk (Kd.N_below (by (with_reducible repeat (first | apply Kd.N_alloc | apply Kd.N_drewN | apply Kd.N_drew)); exact HO240.out) hb); have n1_ := Aside0.mk (Kd.N_below (by (with_reducible repeat (first | apply Kd.N_alloc | apply Kd.N_drewN | apply Kd.N_drew)); exact HO243.out) hb); have n2_ := Aside0.mk (Kd.V_below (by (with_reducible repeat (first | apply Kd.V_alloc | apply Kd.V_drewN | apply Kd.V_drew)); exact HO248.out) hb); have n3_ := Aside0.mk (below_step (by repeat (first | (with_reducible first | exact HB.out | apply below_alloc | apply pw_below_drewN | apply below_drew1) | exact HB.out)) hb); clear HO240; clear HO243; clear HO248; clear HB; have HO240 := n0_; have HO243 := n1_; have HO248 := n2_; have HB := n3_; clear n0_ n1_ n2_ n3_; (try clear hb); (try clear hb2); (try clear hk); (try clear hi))))
                go_meet
                case rel => exact ⟨_, (!t249), (by first | rfl | (simp; done) | (simp [*]; done) | (simp [*] <;> (generalize ByteArray.toList _ = l_; cases l_ <;> rfl))), H', ⟨by first | omega | exact Nat.le_refl _⟩, ⟨by (with_reducible repeat (first | apply Kd.N_alloc | apply Kd.N_drewN | apply Kd.N_drew)); exact Kd.N_mono HO240.out (fun _ hk => trivial)⟩, ⟨by repeat (first | (with_reducible first | exact HB.out | apply below_alloc | apply pw_below_drewN | apply below_drew1) | exact HB.out)⟩⟩
              · rw [if_neg c17] at H
                exact absurd H (by simp)
            · rw [if_neg c16] at H
              exact absurd H (by simp)
        case rest =>
          clear HC10
          try clear c1
          try clear p2
          try clear q2
          try clear c3
          try clear c3b0
          try clear c4
          try clear c6
          try clear c6b0
          try clear c6b1
          try clear c6b2
          try clear p6
          try clear c7
          try clear c7b0
          try clear c7b1
          try clear c7b2
          try clear c13
          try clear c13b0
          try clear c13b1
          try clear c16
          try clear c16b0
          try clear c16b1
          try clear c17
          try clear c17b0
          try clear c17b1
          try clear q21
          try clear q21
          obtain ⟨kq, x37_9, rfl, HA, HJ9, HO_5, HB⟩ := hcut
          cases kq with
          | zero => exact absurd HA.out (by simp [parapetlaw14_CspFirst.j0])
          | succ kj9 =>
            have H := HA.out
            clear HA
            simp only [parapetlaw14_CspFirst.j0] at H
            by_cases c23 : x37_9 = true
            · subst c23
              have H1 : (some false) = some r := by rw [if_pos rfl] at H; exact H
              clear H
              have H := H1
              clear H1
              obtain rfl := Option.some.inj H
              go_wp2
              repeat (go_quiet (fail); try go_wp2)
              go_ret
              exact ⟨by first | rfl | (simp [errW_none, errW_some] <;> rfl) | (simp [*, errW_none, errW_some] <;> rfl), by repeat (first | (with_reducible first | exact HB.out | apply below_alloc | apply pw_below_drewN | apply below_drew1) | exact HB.out)⟩
            · replace c23 := Bool.eq_false_iff.mpr c23
              subst c23
              have H1 : (parapetlaw14_CspFirst.l0 kj9 t238 0) = some r := by rw [if_neg (show ¬ (false = true) by decide)] at H; exact H
              clear H
              have H := H1
              clear H1
              have H' := Aside0.mk H
              clear H
              go_wp2
              repeat (go_quiet (fail); try go_wp2)
              go_loopg [7] kj9 (fun kq v7 w' => ∃ (x7_2 : Int), v7 = .int .i64 x7_2 ∧ Aside0 (parapetlaw14_CspFirst.l0 kq t238 x7_2 = some r) ∧ Aside0 (kq ≤ kj9) ∧ Aside0 (Kd.N k29 29 w' w.heap.size (fun _ => True) v239 t238) ∧ Aside0 (Below w.heap.size w w'))
              case atStart => exact ⟨(0), (by first | rfl | (simp; done) | (simp [*]; done) | (simp [*] <;> (generalize ByteArray.toList _ = l_; cases l_ <;> rfl))), H', ⟨Nat.le_refl _⟩, ⟨by (with_reducible repeat (first | apply Kd.N_alloc | apply Kd.N_drewN | apply Kd.N_drew)); exact HO_5.out⟩, ⟨by repeat (first | (with_reducible first | exact HB.out | apply below_alloc | apply pw_below_drewN | apply below_drew1) | exact HB.out)⟩⟩
              case round =>
                clear H'
                try clear c1
                try clear c2
                try clear p2
                try clear q2
                try clear c3
                try clear c3b0
                try clear c4
                try clear c6
                try clear c6b0
                try clear c6b1
                try clear c6b2
                try clear p6
                try clear c7
                try clear c7b0
                try clear c7b1
                try clear c7b2
                try clear c13
                try clear c13b0
                try clear c13b1
                try clear c16
                try clear c16b0
                try clear c16b1
                try clear c17
                try clear c17b0
                try clear c17b1
                try clear q21
                try clear c23
                try clear p2
                try clear p6
                try clear q2
                try clear q21
                obtain ⟨x7_2, rfl, HA, HK2, HO_5, HB⟩ := hrel
                cases gk with
                | zero => exact absurd HA.out (by simp [parapetlaw14_CspFirst.l0])
                | succ k2 =>
                  have H := HA.out
                  clear HA
                  simp only [parapetlaw14_CspFirst.l0] at H
                  by_cases c24 : x7_2 < (t238.length : Int)
                  · rw [if_pos c24] at H
                    have c24b0 : decide (x7_2 < (t238.length : Int)) = true := decide_eq_true c24
                    clear c24
                    have H' := Aside0.mk H
                    clear H
                    obtain ⟨Ao25, co25, eo25⟩ := Kd.N_slice HO_5.out
                    subst eo25
                    go_wp2
                    repeat (go_quiet (fail); try go_wp2)
                    go_loopg [8] k2 (fun kq v8 w' => ∃ (x8_3 : Int), v8 = .int .i64 x8_3 ∧ Aside0 (parapetlaw14_CspFirst.l1 kq t238 x7_2 x8_3 = some r) ∧ Aside0 (kq ≤ k2) ∧ Aside0 (Kd.N k29 29 w' w.heap.size (fun _ => True) (.slice Ao25 t238.length co25) t238) ∧ Aside0 (Below w.heap.size w w'))
                    case atStart => exact ⟨(0), (by first | rfl | (simp; done) | (simp [*]; done) | (simp [*] <;> (generalize ByteArray.toList _ = l_; cases l_ <;> rfl))), H', ⟨Nat.le_refl _⟩, ⟨by (with_reducible repeat (first | apply Kd.N_alloc | apply Kd.N_drewN | apply Kd.N_drew)); exact HO_5.out⟩, ⟨by repeat (first | (with_reducible first | exact HB.out | apply below_alloc | apply pw_below_drewN | apply below_drew1) | exact HB.out)⟩⟩
                    case round =>
                      clear H'
                      try clear c1
                      try clear c2
                      try clear p2
                      try clear q2
                      try clear c3
                      try clear c3b0
                      try clear c4
                      try clear c6
                      try clear c6b0
                      try clear c6b1
                      try clear c6b2
                      try clear p6
                      try clear c7
                      try clear c7b0
                      try clear c7b1
                      try clear c7b2
                      try clear c13
                      try clear c13b0
                      try clear c13b1
                      try clear c16
                      try clear c16b0
                      try clear c16b1
                      try clear c17
                      try clear c17b0
                      try clear c17b1
                      try clear q21
                      try clear c23
                      try clear c24
                      try clear c24b0
                      try clear p2
                      try clear p6
                      try clear q2
                      try clear q21
                      obtain ⟨x8_3, rfl, HA, HK3, HO_5, HB⟩ := hrel
                      cases gk with
                      | zero => exact absurd HA.out (by simp [parapetlaw14_CspFirst.l1])
                      | succ k3 =>
                        have H := HA.out
                        clear HA
                        simp only [parapetlaw14_CspFirst.l1] at H
                        by_cases c26 : 0 ≤ x7_2
                        · rw [if_pos c26] at H
                          have c26b0 : decide (0 ≤ x7_2) = true := decide_eq_true c26
                          clear c26
                          by_cases c27 : x7_2 < (t238.length : Int)
                          · rw [if_pos c27] at H
                            have c27b0 : decide (x7_2 < (t238.length : Int)) = true := decide_eq_true c27
                            clear c27
                            by_cases c28 : x8_3 < (((rd_T29 t238 x7_2).f0).size : Int)
                            · rw [if_pos c28] at H
                              have c28b0 : decide (x8_3 < (((rd_T29 t238 x7_2).f0).size : Int)) = true := decide_eq_true c28
                              clear c28
                              by_cases c29 : 0 ≤ x8_3
                              · rw [if_pos c29] at H
                                have c29b0 : decide (0 ≤ x8_3) = true := decide_eq_true c29
                                clear c29
                                by_cases c31 : (bt ((rd_T29 t238 x7_2).f0) x8_3) ≥ 65
                                · rw [if_pos c31] at H
                                  have c31b0 : decide (65 ≤ (bt ((rd_T29 t238 x7_2).f0) x8_3)) = true := decide_eq_true c31
                                  clear c31
                                  by_cases c33 : (bt ((rd_T29 t238 x7_2).f0) x8_3) ≤ 90
                                  · rw [if_pos c33] at H
                                    have c33b0 : decide ((bt ((rd_T29 t238 x7_2).f0) x8_3) ≤ 90) = true := decide_eq_true c33
                                    clear c33
                                    obtain rfl := Option.some.inj H
                                    have p251 : 0 ≤ (x7_2 : Int) := of_decide_eq_true (by first | (with_reducible assumption) | assumption)
                                    have q251 : x7_2 < (t238.length : Int) := of_decide_eq_true (by first | (with_reducible assumption) | assumption)
                                    obtain ⟨ad251, A251_1, c251_1, e251, hx251_0, hx251_1, hl251_1, hi251_1⟩ := at_T29 (Kd.N_reads' HO_5.out).2.2 x7_2 p251 q251
                                    cases e251
                                    obtain ⟨ce251, hce251, hMe251, hcc251⟩ := Kd.N_get HO_5.out z29 x7_2 p251 (by first | exact q251 | exact of_decide_eq_true (by first | (with_reducible assumption) | assumption) | (have e_ := (Kd.N_reads' HO_5.out).1; omega))
                                    obtain ⟨ua251_1, uc251_1, rfl, ul251_1, ge251_1⟩ := k29_openF hMe251
                                    have hv251_1 := hcc251 1 _ rfl
                                    rw [add_field _ _ 1 (by omega)] at hv251_1
                                    replace hv251_1 := Option.some.inj (hv251_1.symm.trans hx251_1)
                                    injection hv251_1 with hva_ hvn_ hvc_
                                    rw [hva_] at ge251_1
                                    rw [hvc_] at ul251_1
                                    have HL251_1 := Aside0.mk (show Kd.V Kd.string 9 _ w.heap.size _ _ ((rd_T29 t238 x7_2).f1) from Kd.V_mk ul251_1 ge251_1)
                                    clear hva_ hvn_ hvc_ ge251_1 ul251_1
                                    clear hcc251 hce251
                                    have HR251_1 := Aside0.mk hi251_1
                                    have HC251_1 := Aside0.mk hl251_1
                                    clear hi251_1 hl251_1
                                    replace p251 := eq_true p251
                                    replace q251 := eq_true q251
                                    have p252 : 0 ≤ (x7_2 : Int) := of_decide_eq_true (by first | (with_reducible assumption) | assumption)
                                    have q252 : x7_2 < (t238.length : Int) := of_decide_eq_true (by first | (with_reducible assumption) | assumption)
                                    obtain ⟨ad252, A252_1, c252_1, e252, hx252_0, hx252_1, hl252_1, hi252_1⟩ := at_T29 (Kd.N_reads' HO_5.out).2.2 x7_2 p252 q252
                                    obtain rfl : ad251 = ad252 := (by injection e252)
                                    obtain ⟨ce252, hce252, hMe252, hcc252⟩ := Kd.N_get HO_5.out z29 x7_2 p252 (by first | exact q252 | exact of_decide_eq_true (by first | (with_reducible assumption) | assumption) | (have e_ := (Kd.N_reads' HO_5.out).1; omega))
                                    obtain ⟨ua252_1, uc252_1, rfl, ul252_1, ge252_1⟩ := k29_openF hMe252
                                    have hv252_1 := hcc252 1 _ rfl
                                    rw [add_field _ _ 1 (by omega)] at hv252_1
                                    replace hv252_1 := Option.some.inj (hv252_1.symm.trans hx252_1)
                                    injection hv252_1 with hva_ hvn_ hvc_
                                    rw [hva_] at ge252_1
                                    rw [hvc_] at ul252_1
                                    have HL252_1 := Aside0.mk (show Kd.V Kd.string 9 _ w.heap.size _ _ ((rd_T29 t238 x7_2).f1) from Kd.V_mk ul252_1 ge252_1)
                                    clear hva_ hvn_ hvc_ ge252_1 ul252_1
                                    clear hcc252 hce252
                                    have HR252_1 := Aside0.mk hi252_1
                                    have HC252_1 := Aside0.mk hl252_1
                                    clear hi252_1 hl252_1
                                    replace p252 := eq_true p252
                                    replace q252 := eq_true q252
                                    have ea_ := Option.some.inj (hx251_1.symm.trans hx252_1)
                                    injection ea_ with ea_ en_ ec_
                                    subst ea_
                                    subst ec_
                                    clear en_
                                    have p30 : 0 ≤ (x8_3 : Int) := of_decide_eq_true (by first | (with_reducible assumption) | assumption)
                                    have q30 : x8_3 < (((rd_T29 t238 x7_2).f0).size : Int) := of_decide_eq_true (by first | (with_reducible assumption) | assumption)
                                    have hx30 := bt_at ((rd_T29 t238 x7_2).f0) x8_3
                                    replace p30 := eq_true p30
                                    replace q30 := eq_true q30
                                    have p253 : 0 ≤ (x7_2 : Int) := of_decide_eq_true (by first | (with_reducible assumption) | assumption)
                                    have q253 : x7_2 < (t238.length : Int) := of_decide_eq_true (by first | (with_reducible assumption) | assumption)
                                    obtain ⟨ad253, A253_1, c253_1, e253, hx253_0, hx253_1, hl253_1, hi253_1⟩ := at_T29 (Kd.N_reads' HO_5.out).2.2 x7_2 p253 q253
                                    obtain rfl : ad251 = ad253 := (by injection e253)
                                    obtain ⟨ce253, hce253, hMe253, hcc253⟩ := Kd.N_get HO_5.out z29 x7_2 p253 (by first | exact q253 | exact of_decide_eq_true (by first | (with_reducible assumption) | assumption) | (have e_ := (Kd.N_reads' HO_5.out).1; omega))
                                    obtain ⟨ua253_1, uc253_1, rfl, ul253_1, ge253_1⟩ := k29_openF hMe253
                                    have hv253_1 := hcc253 1 _ rfl
                                    rw [add_field _ _ 1 (by omega)] at hv253_1
                                    replace hv253_1 := Option.some.inj (hv253_1.symm.trans hx253_1)
                                    injection hv253_1 with hva_ hvn_ hvc_
                                    rw [hva_] at ge253_1
                                    rw [hvc_] at ul253_1
                                    have HL253_1 := Aside0.mk (show Kd.V Kd.string 9 _ w.heap.size _ _ ((rd_T29 t238 x7_2).f1) from Kd.V_mk ul253_1 ge253_1)
                                    clear hva_ hvn_ hvc_ ge253_1 ul253_1
                                    clear hcc253 hce253
                                    have HR253_1 := Aside0.mk hi253_1
                                    have HC253_1 := Aside0.mk hl253_1
                                    clear hi253_1 hl253_1
                                    replace p253 := eq_true p253
                                    replace q253 := eq_true q253
                                    have ea_ := Option.some.inj (hx251_1.symm.trans hx253_1)
                                    injection ea_ with ea_ en_ ec_
                                    subst ea_
                                    subst ec_
                                    clear en_
                                    have p32 : 0 ≤ (x8_3 : Int) := of_decide_eq_true (by first | (with_reducible assumption) | assumption)
                                    have q32 : x8_3 < (((rd_T29 t238 x7_2).f0).size : Int) := of_decide_eq_true (by first | (with_reducible assumption) | assumption)
                                    have hx32 := bt_at ((rd_T29 t238 x7_2).f0) x8_3
                                    replace p32 := eq_true p32
                                    replace q32 := eq_true q32
                                    go_wp2
                                    repeat (go_quiet (fail); try go_wp2)
                                    go_ret
                                    exact ⟨by first | rfl | (simp [errW_none, errW_some] <;> rfl) | (simp [*, errW_none, errW_some] <;> rfl), by repeat (first | (with_reducible first | exact HB.out | apply below_alloc | apply pw_below_drewN | apply below_drew1) | exact HB.out)⟩
                                  · rw [if_neg c33] at H
                                    have c33b0 : decide ((bt ((rd_T29 t238 x7_2).f0) x8_3) ≤ 90) = false := decide_eq_false c33
                                    clear c33
                                    by_cases c35 : (bt ((rd_T29 t238 x7_2).f0) x8_3) ≥ 128
                                    · rw [if_pos c35] at H
                                      have c35b0 : decide (128 ≤ (bt ((rd_T29 t238 x7_2).f0) x8_3)) = true := decide_eq_true c35
                                      clear c35
                                      obtain rfl := Option.some.inj H
                                      have p251 : 0 ≤ (x7_2 : Int) := of_decide_eq_true (by first | (with_reducible assumption) | assumption)
                                      have q251 : x7_2 < (t238.length : Int) := of_decide_eq_true (by first | (with_reducible assumption) | assumption)
                                      obtain ⟨ad251, A251_1, c251_1, e251, hx251_0, hx251_1, hl251_1, hi251_1⟩ := at_T29 (Kd.N_reads' HO_5.out).2.2 x7_2 p251 q251
                                      cases e251
                                      obtain ⟨ce251, hce251, hMe251, hcc251⟩ := Kd.N_get HO_5.out z29 x7_2 p251 (by first | exact q251 | exact of_decide_eq_true (by first | (with_reducible assumption) | assumption) | (have e_ := (Kd.N_reads' HO_5.out).1; omega))
                                      obtain ⟨ua251_1, uc251_1, rfl, ul251_1, ge251_1⟩ := k29_openF hMe251
                                      have hv251_1 := hcc251 1 _ rfl
                                      rw [add_field _ _ 1 (by omega)] at hv251_1
                                      replace hv251_1 := Option.some.inj (hv251_1.symm.trans hx251_1)
                                      injection hv251_1 with hva_ hvn_ hvc_
                                      rw [hva_] at ge251_1
                                      rw [hvc_] at ul251_1
                                      have HL251_1 := Aside0.mk (show Kd.V Kd.string 9 _ w.heap.size _ _ ((rd_T29 t238 x7_2).f1) from Kd.V_mk ul251_1 ge251_1)
                                      clear hva_ hvn_ hvc_ ge251_1 ul251_1
                                      clear hcc251 hce251
                                      have HR251_1 := Aside0.mk hi251_1
                                      have HC251_1 := Aside0.mk hl251_1
                                      clear hi251_1 hl251_1
                                      replace p251 := eq_true p251
                                      replace q251 := eq_true q251
                                      have p252 : 0 ≤ (x7_2 : Int) := of_decide_eq_true (by first | (with_reducible assumption) | assumption)
                                      have q252 : x7_2 < (t238.length : Int) := of_decide_eq_true (by first | (with_reducible assumption) | assumption)
                                      obtain ⟨ad252, A252_1, c252_1, e252, hx252_0, hx252_1, hl252_1, hi252_1⟩ := at_T29 (Kd.N_reads' HO_5.out).2.2 x7_2 p252 q252
                                      obtain rfl : ad251 = ad252 := (by injection e252)
                                      obtain ⟨ce252, hce252, hMe252, hcc252⟩ := Kd.N_get HO_5.out z29 x7_2 p252 (by first | exact q252 | exact of_decide_eq_true (by first | (with_reducible assumption) | assumption) | (have e_ := (Kd.N_reads' HO_5.out).1; omega))
                                      obtain ⟨ua252_1, uc252_1, rfl, ul252_1, ge252_1⟩ := k29_openF hMe252
                                      have hv252_1 := hcc252 1 _ rfl
                                      rw [add_field _ _ 1 (by omega)] at hv252_1
                                      replace hv252_1 := Option.some.inj (hv252_1.symm.trans hx252_1)
                                      injection hv252_1 with hva_ hvn_ hvc_
                                      rw [hva_] at ge252_1
                                      rw [hvc_] at ul252_1
                                      have HL252_1 := Aside0.mk (show Kd.V Kd.string 9 _ w.heap.size _ _ ((rd_T29 t238 x7_2).f1) from Kd.V_mk ul252_1 ge252_1)
                                      clear hva_ hvn_ hvc_ ge252_1 ul252_1
                                      clear hcc252 hce252
                                      have HR252_1 := Aside0.mk hi252_1
                                      have HC252_1 := Aside0.mk hl252_1
                                      clear hi252_1 hl252_1
                                      replace p252 := eq_true p252
                                      replace q252 := eq_true q252
                                      have ea_ := Option.some.inj (hx251_1.symm.trans hx252_1)
                                      injection ea_ with ea_ en_ ec_
                                      subst ea_
                                      subst ec_
                                      clear en_
                                      have p30 : 0 ≤ (x8_3 : Int) := of_decide_eq_true (by first | (with_reducible assumption) | assumption)
                                      have q30 : x8_3 < (((rd_T29 t238 x7_2).f0).size : Int) := of_decide_eq_true (by first | (with_reducible assumption) | assumption)
                                      have hx30 := bt_at ((rd_T29 t238 x7_2).f0) x8_3
                                      replace p30 := eq_true p30
                                      replace q30 := eq_true q30
                                      have p253 : 0 ≤ (x7_2 : Int) := of_decide_eq_true (by first | (with_reducible assumption) | assumption)
                                      have q253 : x7_2 < (t238.length : Int) := of_decide_eq_true (by first | (with_reducible assumption) | assumption)
                                      obtain ⟨ad253, A253_1, c253_1, e253, hx253_0, hx253_1, hl253_1, hi253_1⟩ := at_T29 (Kd.N_reads' HO_5.out).2.2 x7_2 p253 q253
                                      obtain rfl : ad251 = ad253 := (by injection e253)
                                      obtain ⟨ce253, hce253, hMe253, hcc253⟩ := Kd.N_get HO_5.out z29 x7_2 p253 (by first | exact q253 | exact of_decide_eq_true (by first | (with_reducible assumption) | assumption) | (have e_ := (Kd.N_reads' HO_5.out).1; omega))
                                      obtain ⟨ua253_1, uc253_1, rfl, ul253_1, ge253_1⟩ := k29_openF hMe253
                                      have hv253_1 := hcc253 1 _ rfl
                                      rw [add_field _ _ 1 (by omega)] at hv253_1
                                      replace hv253_1 := Option.some.inj (hv253_1.symm.trans hx253_1)
                                      injection hv253_1 with hva_ hvn_ hvc_
                                      rw [hva_] at ge253_1
                                      rw [hvc_] at ul253_1
                                      have HL253_1 := Aside0.mk (show Kd.V Kd.string 9 _ w.heap.size _ _ ((rd_T29 t238 x7_2).f1) from Kd.V_mk ul253_1 ge253_1)
                                      clear hva_ hvn_ hvc_ ge253_1 ul253_1
                                      clear hcc253 hce253
                                      have HR253_1 := Aside0.mk hi253_1
                                      have HC253_1 := Aside0.mk hl253_1
                                      clear hi253_1 hl253_1
                                      replace p253 := eq_true p253
                                      replace q253 := eq_true q253
                                      have ea_ := Option.some.inj (hx251_1.symm.trans hx253_1)
                                      injection ea_ with ea_ en_ ec_
                                      subst ea_
                                      subst ec_
                                      clear en_
                                      have p32 : 0 ≤ (x8_3 : Int) := of_decide_eq_true (by first | (with_reducible assumption) | assumption)
                                      have q32 : x8_3 < (((rd_T29 t238 x7_2).f0).size : Int) := of_decide_eq_true (by first | (with_reducible assumption) | assumption)
                                      have hx32 := bt_at ((rd_T29 t238 x7_2).f0) x8_3
                                      replace p32 := eq_true p32
                                      replace q32 := eq_true q32
                                      have p254 : 0 ≤ (x7_2 : Int) := of_decide_eq_true (by first | (with_reducible assumption) | assumption)
                                      have q254 : x7_2 < (t238.length : Int) := of_decide_eq_true (by first | (with_reducible assumption) | assumption)
                                      obtain ⟨ad254, A254_1, c254_1, e254, hx254_0, hx254_1, hl254_1, hi254_1⟩ := at_T29 (Kd.N_reads' HO_5.out).2.2 x7_2 p254 q254
                                      obtain rfl : ad251 = ad254 := (by injection e254)
                                      obtain ⟨ce254, hce254, hMe254, hcc254⟩ := Kd.N_get HO_5.out z29 x7_2 p254 (by first | exact q254 | exact of_decide_eq_true (by first | (with_reducible assumption) | assumption) | (have e_ := (Kd.N_reads' HO_5.out).1; omega))
                                      obtain ⟨ua254_1, uc254_1, rfl, ul254_1, ge254_1⟩ := k29_openF hMe254
                                      have hv254_1 := hcc254 1 _ rfl
                                      rw [add_field _ _ 1 (by omega)] at hv254_1
                                      replace hv254_1 := Option.some.inj (hv254_1.symm.trans hx254_1)
                                      injection hv254_1 with hva_ hvn_ hvc_
                                      rw [hva_] at ge254_1
                                      rw [hvc_] at ul254_1
                                      have HL254_1 := Aside0.mk (show Kd.V Kd.string 9 _ w.heap.size _ _ ((rd_T29 t238 x7_2).f1) from Kd.V_mk ul254_1 ge254_1)
                                      clear hva_ hvn_ hvc_ ge254_1 ul254_1
                                      clear hcc254 hce254
                                      have HR254_1 := Aside0.mk hi254_1
                                      have HC254_1 := Aside0.mk hl254_1
                                      clear hi254_1 hl254_1
                                      replace p254 := eq_true p254
                                      replace q254 := eq_true q254
                                      have ea_ := Option.some.inj (hx251_1.symm.trans hx254_1)
                                      injection ea_ with ea_ en_ ec_
                                      subst ea_
                                      subst ec_
                                      clear en_
                                      have p34 : 0 ≤ (x8_3 : Int) := of_decide_eq_true (by first | (with_reducible assumption) | assumption)
                                      have q34 : x8_3 < (((rd_T29 t238 x7_2).f0).size : Int) := of_decide_eq_true (by first | (with_reducible assumption) | assumption)
                                      have hx34 := bt_at ((rd_T29 t238 x7_2).f0) x8_3
                                      replace p34 := eq_true p34
                                      replace q34 := eq_true q34
                                      go_wp2
                                      repeat (go_quiet (fail); try go_wp2)
                                      go_ret
                                      exact ⟨by first | rfl | (simp [errW_none, errW_some] <;> rfl) | (simp [*, errW_none, errW_some] <;> rfl), by repeat (first | (with_reducible first | exact HB.out | apply below_alloc | apply pw_below_drewN | apply below_drew1) | exact HB.out)⟩
                                    · rw [if_neg c35] at H
                                      have c35b0 : decide (128 ≤ (bt ((rd_T29 t238 x7_2).f0) x8_3)) = false := decide_eq_false c35
                                      clear c35
                                      have H' := Aside0.mk H
                                      clear H
                                      have p251 : 0 ≤ (x7_2 : Int) := of_decide_eq_true (by first | (with_reducible assumption) | assumption)
                                      have q251 : x7_2 < (t238.length : Int) := of_decide_eq_true (by first | (with_reducible assumption) | assumption)
                                      obtain ⟨ad251, A251_1, c251_1, e251, hx251_0, hx251_1, hl251_1, hi251_1⟩ := at_T29 (Kd.N_reads' HO_5.out).2.2 x7_2 p251 q251
                                      cases e251
                                      obtain ⟨ce251, hce251, hMe251, hcc251⟩ := Kd.N_get HO_5.out z29 x7_2 p251 (by first | exact q251 | exact of_decide_eq_true (by first | (with_reducible assumption) | assumption) | (have e_ := (Kd.N_reads' HO_5.out).1; omega))
                                      obtain ⟨ua251_1, uc251_1, rfl, ul251_1, ge251_1⟩ := k29_openF hMe251
                                      have hv251_1 := hcc251 1 _ rfl
                                      rw [add_field _ _ 1 (by omega)] at hv251_1
                                      replace hv251_1 := Option.some.inj (hv251_1.symm.trans hx251_1)
                                      injection hv251_1 with hva_ hvn_ hvc_
                                      rw [hva_] at ge251_1
                                      rw [hvc_] at ul251_1
                                      have HL251_1 := Aside0.mk (show Kd.V Kd.string 9 _ w.heap.size _ _ ((rd_T29 t238 x7_2).f1) from Kd.V_mk ul251_1 ge251_1)
                                      clear hva_ hvn_ hvc_ ge251_1 ul251_1
                                      clear hcc251 hce251
                                      have HR251_1 := Aside0.mk hi251_1
                                      have HC251_1 := Aside0.mk hl251_1
                                      clear hi251_1 hl251_1
                                      replace p251 := eq_true p251
                                      replace q251 := eq_true q251
                                      have p252 : 0 ≤ (x7_2 : Int) := of_decide_eq_true (by first | (with_reducible assumption) | assumption)
                                      have q252 : x7_2 < (t238.length : Int) := of_decide_eq_true (by first | (with_reducible assumption) | assumption)
                                      obtain ⟨ad252, A252_1, c252_1, e252, hx252_0, hx252_1, hl252_1, hi252_1⟩ := at_T29 (Kd.N_reads' HO_5.out).2.2 x7_2 p252 q252
                                      obtain rfl : ad251 = ad252 := (by injection e252)
                                      obtain ⟨ce252, hce252, hMe252, hcc252⟩ := Kd.N_get HO_5.out z29 x7_2 p252 (by first | exact q252 | exact of_decide_eq_true (by first | (with_reducible assumption) | assumption) | (have e_ := (Kd.N_reads' HO_5.out).1; omega))
                                      obtain ⟨ua252_1, uc252_1, rfl, ul252_1, ge252_1⟩ := k29_openF hMe252
                                      have hv252_1 := hcc252 1 _ rfl
                                      rw [add_field _ _ 1 (by omega)] at hv252_1
                                      replace hv252_1 := Option.some.inj (hv252_1.symm.trans hx252_1)
                                      injection hv252_1 with hva_ hvn_ hvc_
                                      rw [hva_] at ge252_1
                                      rw [hvc_] at ul252_1
                                      have HL252_1 := Aside0.mk (show Kd.V Kd.string 9 _ w.heap.size _ _ ((rd_T29 t238 x7_2).f1) from Kd.V_mk ul252_1 ge252_1)
                                      clear hva_ hvn_ hvc_ ge252_1 ul252_1
                                      clear hcc252 hce252
                                      have HR252_1 := Aside0.mk hi252_1
                                      have HC252_1 := Aside0.mk hl252_1
                                      clear hi252_1 hl252_1
                                      replace p252 := eq_true p252
                                      replace q252 := eq_true q252
                                      have ea_ := Option.some.inj (hx251_1.symm.trans hx252_1)
                                      injection ea_ with ea_ en_ ec_
                                      subst ea_
                                      subst ec_
                                      clear en_
                                      have p30 : 0 ≤ (x8_3 : Int) := of_decide_eq_true (by first | (with_reducible assumption) | assumption)
                                      have q30 : x8_3 < (((rd_T29 t238 x7_2).f0).size : Int) := of_decide_eq_true (by first | (with_reducible assumption) | assumption)
                                      have hx30 := bt_at ((rd_T29 t238 x7_2).f0) x8_3
                                      replace p30 := eq_true p30
                                      replace q30 := eq_true q30
                                      have p253 : 0 ≤ (x7_2 : Int) := of_decide_eq_true (by first | (with_reducible assumption) | assumption)
                                      have q253 : x7_2 < (t238.length : Int) := of_decide_eq_true (by first | (with_reducible assumption) | assumption)
                                      obtain ⟨ad253, A253_1, c253_1, e253, hx253_0, hx253_1, hl253_1, hi253_1⟩ := at_T29 (Kd.N_reads' HO_5.out).2.2 x7_2 p253 q253
                                      obtain rfl : ad251 = ad253 := (by injection e253)
                                      obtain ⟨ce253, hce253, hMe253, hcc253⟩ := Kd.N_get HO_5.out z29 x7_2 p253 (by first | exact q253 | exact of_decide_eq_true (by first | (with_reducible assumption) | assumption) | (have e_ := (Kd.N_reads' HO_5.out).1; omega))
                                      obtain ⟨ua253_1, uc253_1, rfl, ul253_1, ge253_1⟩ := k29_openF hMe253
                                      have hv253_1 := hcc253 1 _ rfl
                                      rw [add_field _ _ 1 (by omega)] at hv253_1
                                      replace hv253_1 := Option.some.inj (hv253_1.symm.trans hx253_1)
                                      injection hv253_1 with hva_ hvn_ hvc_
                                      rw [hva_] at ge253_1
                                      rw [hvc_] at ul253_1
                                      have HL253_1 := Aside0.mk (show Kd.V Kd.string 9 _ w.heap.size _ _ ((rd_T29 t238 x7_2).f1) from Kd.V_mk ul253_1 ge253_1)
                                      clear hva_ hvn_ hvc_ ge253_1 ul253_1
                                      clear hcc253 hce253
                                      have HR253_1 := Aside0.mk hi253_1
                                      have HC253_1 := Aside0.mk hl253_1
                                      clear hi253_1 hl253_1
                                      replace p253 := eq_true p253
                                      replace q253 := eq_true q253
                                      have ea_ := Option.some.inj (hx251_1.symm.trans hx253_1)
                                      injection ea_ with ea_ en_ ec_
                                      subst ea_
                                      subst ec_
                                      clear en_
                                      have p32 : 0 ≤ (x8_3 : Int) := of_decide_eq_true (by first | (with_reducible assumption) | assumption)
                                      have q32 : x8_3 < (((rd_T29 t238 x7_2).f0).size : Int) := of_decide_eq_true (by first | (with_reducible assumption) | assumption)
                                      have hx32 := bt_at ((rd_T29 t238 x7_2).f0) x8_3
                                      replace p32 := eq_true p32
                                      replace q32 := eq_true q32
                                      have p254 : 0 ≤ (x7_2 : Int) := of_decide_eq_true (by first | (with_reducible assumption) | assumption)
                                      have q254 : x7_2 < (t238.length : Int) := of_decide_eq_true (by first | (with_reducible assumption) | assumption)
                                      obtain ⟨ad254, A254_1, c254_1, e254, hx254_0, hx254_1, hl254_1, hi254_1⟩ := at_T29 (Kd.N_reads' HO_5.out).2.2 x7_2 p254 q254
                                      obtain rfl : ad251 = ad254 := (by injection e254)
                                      obtain ⟨ce254, hce254, hMe254, hcc254⟩ := Kd.N_get HO_5.out z29 x7_2 p254 (by first | exact q254 | exact of_decide_eq_true (by first | (with_reducible assumption) | assumption) | (have e_ := (Kd.N_reads' HO_5.out).1; omega))
                                      obtain ⟨ua254_1, uc254_1, rfl, ul254_1, ge254_1⟩ := k29_openF hMe254
                                      have hv254_1 := hcc254 1 _ rfl
                                      rw [add_field _ _ 1 (by omega)] at hv254_1
                                      replace hv254_1 := Option.some.inj (hv254_1.symm.trans hx254_1)
                                      injection hv254_1 with hva_ hvn_ hvc_
                                      rw [hva_] at ge254_1
                                      rw [hvc_] at ul254_1
                                      have HL254_1 := Aside0.mk (show Kd.V Kd.string 9 _ w.heap.size _ _ ((rd_T29 t238 x7_2).f1) from Kd.V_mk ul254_1 ge254_1)
                                      clear hva_ hvn_ hvc_ ge254_1 ul254_1
                                      clear hcc254 hce254
                                      have HR254_1 := Aside0.mk hi254_1
                                      have HC254_1 := Aside0.mk hl254_1
                                      clear hi254_1 hl254_1
                                      replace p254 := eq_true p254
                                      replace q254 := eq_true q254
                                      have ea_ := Option.some.inj (hx251_1.symm.trans hx254_1)
                                      injection ea_ with ea_ en_ ec_
                                      subst ea_
                                      subst ec_
                                      clear en_
                                      have p34 : 0 ≤ (x8_3 : Int) := of_decide_eq_true (by first | (with_reducible assumption) | assumption)
                                      have q34 : x8_3 < (((rd_T29 t238 x7_2).f0).size : Int) := of_decide_eq_true (by first | (with_reducible assumption) | assumption)
                                      have hx34 := bt_at ((rd_T29 t238 x7_2).f0) x8_3
                                      replace p34 := eq_true p34
                                      replace q34 := eq_true q34
                                      go_wp2
                                      repeat (go_quiet (fail); try go_wp2)
                                      go_roundg k3
                                      case measure => have := HJ9.out; have := HK2.out; have := HK3.out; omega
                                      case rel => exact ⟨(wrap64 (x8_3 + 1)), (by first | rfl | (simp; done) | (simp [*]; done) | (simp [*] <;> (generalize ByteArray.toList _ = l_; cases l_ <;> rfl))), H', ⟨by have := HJ9.out; have := HK2.out; have := HK3.out; omega⟩, ⟨by (with_reducible repeat (first | apply Kd.N_alloc | apply Kd.N_drewN | apply Kd.N_drew)); exact HO_5.out⟩, ⟨by repeat (first | (with_reducible first | exact HB.out | apply below_alloc | apply pw_below_drewN | apply below_drew1) | exact HB.out)⟩⟩
                                · rw [if_neg c31] at H
                                  have c31b0 : decide (65 ≤ (bt ((rd_T29 t238 x7_2).f0) x8_3)) = false := decide_eq_false c31
                                  clear c31
                                  by_cases c37 : (bt ((rd_T29 t238 x7_2).f0) x8_3) ≥ 128
                                  · rw [if_pos c37] at H
                                    have c37b0 : decide (128 ≤ (bt ((rd_T29 t238 x7_2).f0) x8_3)) = true := decide_eq_true c37
                                    clear c37
                                    obtain rfl := Option.some.inj H
                                    have p251 : 0 ≤ (x7_2 : Int) := of_decide_eq_true (by first | (with_reducible assumption) | assumption)
                                    have q251 : x7_2 < (t238.length : Int) := of_decide_eq_true (by first | (with_reducible assumption) | assumption)
                                    obtain ⟨ad251, A251_1, c251_1, e251, hx251_0, hx251_1, hl251_1, hi251_1⟩ := at_T29 (Kd.N_reads' HO_5.out).2.2 x7_2 p251 q251
                                    cases e251
                                    obtain ⟨ce251, hce251, hMe251, hcc251⟩ := Kd.N_get HO_5.out z29 x7_2 p251 (by first | exact q251 | exact of_decide_eq_true (by first | (with_reducible assumption) | assumption) | (have e_ := (Kd.N_reads' HO_5.out).1; omega))
                                    obtain ⟨ua251_1, uc251_1, rfl, ul251_1, ge251_1⟩ := k29_openF hMe251
                                    have hv251_1 := hcc251 1 _ rfl
                                    rw [add_field _ _ 1 (by omega)] at hv251_1
                                    replace hv251_1 := Option.some.inj (hv251_1.symm.trans hx251_1)
                                    injection hv251_1 with hva_ hvn_ hvc_
                                    rw [hva_] at ge251_1
                                    rw [hvc_] at ul251_1
                                    have HL251_1 := Aside0.mk (show Kd.V Kd.string 9 _ w.heap.size _ _ ((rd_T29 t238 x7_2).f1) from Kd.V_mk ul251_1 ge251_1)
                                    clear hva_ hvn_ hvc_ ge251_1 ul251_1
                                    clear hcc251 hce251
                                    have HR251_1 := Aside0.mk hi251_1
                                    have HC251_1 := Aside0.mk hl251_1
                                    clear hi251_1 hl251_1
                                    replace p251 := eq_true p251
                                    replace q251 := eq_true q251
                                    have p252 : 0 ≤ (x7_2 : Int) := of_decide_eq_true (by first | (with_reducible assumption) | assumption)
                                    have q252 : x7_2 < (t238.length : Int) := of_decide_eq_true (by first | (with_reducible assumption) | assumption)
                                    obtain ⟨ad252, A252_1, c252_1, e252, hx252_0, hx252_1, hl252_1, hi252_1⟩ := at_T29 (Kd.N_reads' HO_5.out).2.2 x7_2 p252 q252
                                    obtain rfl : ad251 = ad252 := (by injection e252)
                                    obtain ⟨ce252, hce252, hMe252, hcc252⟩ := Kd.N_get HO_5.out z29 x7_2 p252 (by first | exact q252 | exact of_decide_eq_true (by first | (with_reducible assumption) | assumption) | (have e_ := (Kd.N_reads' HO_5.out).1; omega))
                                    obtain ⟨ua252_1, uc252_1, rfl, ul252_1, ge252_1⟩ := k29_openF hMe252
                                    have hv252_1 := hcc252 1 _ rfl
                                    rw [add_field _ _ 1 (by omega)] at hv252_1
                                    replace hv252_1 := Option.some.inj (hv252_1.symm.trans hx252_1)
                                    injection hv252_1 with hva_ hvn_ hvc_
                                    rw [hva_] at ge252_1
                                    rw [hvc_] at ul252_1
                                    have HL252_1 := Aside0.mk (show Kd.V Kd.string 9 _ w.heap.size _ _ ((rd_T29 t238 x7_2).f1) from Kd.V_mk ul252_1 ge252_1)
                                    clear hva_ hvn_ hvc_ ge252_1 ul252_1
                                    clear hcc252 hce252
                                    have HR252_1 := Aside0.mk hi252_1
                                    have HC252_1 := Aside0.mk hl252_1
                                    clear hi252_1 hl252_1
                                    replace p252 := eq_true p252
                                    replace q252 := eq_true q252
                                    have ea_ := Option.some.inj (hx251_1.symm.trans hx252_1)
                                    injection ea_ with ea_ en_ ec_
                                    subst ea_
                                    subst ec_
                                    clear en_
                                    have p30 : 0 ≤ (x8_3 : Int) := of_decide_eq_true (by first | (with_reducible assumption) | assumption)
                                    have q30 : x8_3 < (((rd_T29 t238 x7_2).f0).size : Int) := of_decide_eq_true (by first | (with_reducible assumption) | assumption)
                                    have hx30 := bt_at ((rd_T29 t238 x7_2).f0) x8_3
                                    replace p30 := eq_true p30
                                    replace q30 := eq_true q30
                                    have p255 : 0 ≤ (x7_2 : Int) := of_decide_eq_true (by first | (with_reducible assumption) | assumption)
                                    have q255 : x7_2 < (t238.length : Int) := of_decide_eq_true (by first | (with_reducible assumption) | assumption)
                                    obtain ⟨ad255, A255_1, c255_1, e255, hx255_0, hx255_1, hl255_1, hi255_1⟩ := at_T29 (Kd.N_reads' HO_5.out).2.2 x7_2 p255 q255
                                    obtain rfl : ad251 = ad255 := (by injection e255)
                                    obtain ⟨ce255, hce255, hMe255, hcc255⟩ := Kd.N_get HO_5.out z29 x7_2 p255 (by first | exact q255 | exact of_decide_eq_true (by first | (with_reducible assumption) | assumption) | (have e_ := (Kd.N_reads' HO_5.out).1; omega))
                                    obtain ⟨ua255_1, uc255_1, rfl, ul255_1, ge255_1⟩ := k29_openF hMe255
                                    have hv255_1 := hcc255 1 _ rfl
                                    rw [add_field _ _ 1 (by omega)] at hv255_1
                                    replace hv255_1 := Option.some.inj (hv255_1.symm.trans hx255_1)
                                    injection hv255_1 with hva_ hvn_ hvc_
                                    rw [hva_] at ge255_1
                                    rw [hvc_] at ul255_1
                                    have HL255_1 := Aside0.mk (show Kd.V Kd.string 9 _ w.heap.size _ _ ((rd_T29 t238 x7_2).f1) from Kd.V_mk ul255_1 ge255_1)
                                    clear hva_ hvn_ hvc_ ge255_1 ul255_1
                                    clear hcc255 hce255
                                    have HR255_1 := Aside0.mk hi255_1
                                    have HC255_1 := Aside0.mk hl255_1
                                    clear hi255_1 hl255_1
                                    replace p255 := eq_true p255
                                    replace q255 := eq_true q255
                                    have ea_ := Option.some.inj (hx251_1.symm.trans hx255_1)
                                    injection ea_ with ea_ en_ ec_
                                    subst ea_
                                    subst ec_
                                    clear en_
                                    have p36 : 0 ≤ (x8_3 : Int) := of_decide_eq_true (by first | (with_reducible assumption) | assumption)
                                    have q36 : x8_3 < (((rd_T29 t238 x7_2).f0).size : Int) := of_decide_eq_true (by first | (with_reducible assumption) | assumption)
                                    have hx36 := bt_at ((rd_T29 t238 x7_2).f0) x8_3
                                    replace p36 := eq_true p36
                                    replace q36 := eq_true q36
                                    go_wp2
                                    repeat (go_quiet (fail); try go_wp2)
                                    go_ret
                                    exact ⟨by first | rfl | (simp [errW_none, errW_some] <;> rfl) | (simp [*, errW_none, errW_some] <;> rfl), by repeat (first | (with_reducible first | exact HB.out | apply below_alloc | apply pw_below_drewN | apply below_drew1) | exact HB.out)⟩
                                  · rw [if_neg c37] at H
                                    have c37b0 : decide (128 ≤ (bt ((rd_T29 t238 x7_2).f0) x8_3)) = false := decide_eq_false c37
                                    clear c37
                                    have H' := Aside0.mk H
                                    clear H
                                    have p251 : 0 ≤ (x7_2 : Int) := of_decide_eq_true (by first | (with_reducible assumption) | assumption)
                                    have q251 : x7_2 < (t238.length : Int) := of_decide_eq_true (by first | (with_reducible assumption) | assumption)
                                    obtain ⟨ad251, A251_1, c251_1, e251, hx251_0, hx251_1, hl251_1, hi251_1⟩ := at_T29 (Kd.N_reads' HO_5.out).2.2 x7_2 p251 q251
                                    cases e251
                                    obtain ⟨ce251, hce251, hMe251, hcc251⟩ := Kd.N_get HO_5.out z29 x7_2 p251 (by first | exact q251 | exact of_decide_eq_true (by first | (with_reducible assumption) | assumption) | (have e_ := (Kd.N_reads' HO_5.out).1; omega))
                                    obtain ⟨ua251_1, uc251_1, rfl, ul251_1, ge251_1⟩ := k29_openF hMe251
                                    have hv251_1 := hcc251 1 _ rfl
                                    rw [add_field _ _ 1 (by omega)] at hv251_1
                                    replace hv251_1 := Option.some.inj (hv251_1.symm.trans hx251_1)
                                    injection hv251_1 with hva_ hvn_ hvc_
                                    rw [hva_] at ge251_1
                                    rw [hvc_] at ul251_1
                                    have HL251_1 := Aside0.mk (show Kd.V Kd.string 9 _ w.heap.size _ _ ((rd_T29 t238 x7_2).f1) from Kd.V_mk ul251_1 ge251_1)
                                    clear hva_ hvn_ hvc_ ge251_1 ul251_1
                                    clear hcc251 hce251
                                    have HR251_1 := Aside0.mk hi251_1
                                    have HC251_1 := Aside0.mk hl251_1
                                    clear hi251_1 hl251_1
                                    replace p251 := eq_true p251
                                    replace q251 := eq_true q251
                                    have p252 : 0 ≤ (x7_2 : Int) := of_decide_eq_true (by first | (with_reducible assumption) | assumption)
                                    have q252 : x7_2 < (t238.length : Int) := of_decide_eq_true (by first | (with_reducible assumption) | assumption)
                                    obtain ⟨ad252, A252_1, c252_1, e252, hx252_0, hx252_1, hl252_1, hi252_1⟩ := at_T29 (Kd.N_reads' HO_5.out).2.2 x7_2 p252 q252
                                    obtain rfl : ad251 = ad252 := (by injection e252)
                                    obtain ⟨ce252, hce252, hMe252, hcc252⟩ := Kd.N_get HO_5.out z29 x7_2 p252 (by first | exact q252 | exact of_decide_eq_true (by first | (with_reducible assumption) | assumption) | (have e_ := (Kd.N_reads' HO_5.out).1; omega))
                                    obtain ⟨ua252_1, uc252_1, rfl, ul252_1, ge252_1⟩ := k29_openF hMe252
                                    have hv252_1 := hcc252 1 _ rfl
                                    rw [add_field _ _ 1 (by omega)] at hv252_1
                                    replace hv252_1 := Option.some.inj (hv252_1.symm.trans hx252_1)
                                    injection hv252_1 with hva_ hvn_ hvc_
                                    rw [hva_] at ge252_1
                                    rw [hvc_] at ul252_1
                                    have HL252_1 := Aside0.mk (show Kd.V Kd.string 9 _ w.heap.size _ _ ((rd_T29 t238 x7_2).f1) from Kd.V_mk ul252_1 ge252_1)
                                    clear hva_ hvn_ hvc_ ge252_1 ul252_1
                                    clear hcc252 hce252
                                    have HR252_1 := Aside0.mk hi252_1
                                    have HC252_1 := Aside0.mk hl252_1
                                    clear hi252_1 hl252_1
                                    replace p252 := eq_true p252
                                    replace q252 := eq_true q252
                                    have ea_ := Option.some.inj (hx251_1.symm.trans hx252_1)
                                    injection ea_ with ea_ en_ ec_
                                    subst ea_
                                    subst ec_
                                    clear en_
                                    have p30 : 0 ≤ (x8_3 : Int) := of_decide_eq_true (by first | (with_reducible assumption) | assumption)
                                    have q30 : x8_3 < (((rd_T29 t238 x7_2).f0).size : Int) := of_decide_eq_true (by first | (with_reducible assumption) | assumption)
                                    have hx30 := bt_at ((rd_T29 t238 x7_2).f0) x8_3
                                    replace p30 := eq_true p30
                                    replace q30 := eq_true q30
                                    have p255 : 0 ≤ (x7_2 : Int) := of_decide_eq_true (by first | (with_reducible assumption) | assumption)
                                    have q255 : x7_2 < (t238.length : Int) := of_decide_eq_true (by first | (with_reducible assumption) | assumption)
                                    obtain ⟨ad255, A255_1, c255_1, e255, hx255_0, hx255_1, hl255_1, hi255_1⟩ := at_T29 (Kd.N_reads' HO_5.out).2.2 x7_2 p255 q255
                                    obtain rfl : ad251 = ad255 := (by injection e255)
                                    obtain ⟨ce255, hce255, hMe255, hcc255⟩ := Kd.N_get HO_5.out z29 x7_2 p255 (by first | exact q255 | exact of_decide_eq_true (by first | (with_reducible assumption) | assumption) | (have e_ := (Kd.N_reads' HO_5.out).1; omega))
                                    obtain ⟨ua255_1, uc255_1, rfl, ul255_1, ge255_1⟩ := k29_openF hMe255
                                    have hv255_1 := hcc255 1 _ rfl
                                    rw [add_field _ _ 1 (by omega)] at hv255_1
                                    replace hv255_1 := Option.some.inj (hv255_1.symm.trans hx255_1)
                                    injection hv255_1 with hva_ hvn_ hvc_
                                    rw [hva_] at ge255_1
                                    rw [hvc_] at ul255_1
                                    have HL255_1 := Aside0.mk (show Kd.V Kd.string 9 _ w.heap.size _ _ ((rd_T29 t238 x7_2).f1) from Kd.V_mk ul255_1 ge255_1)
                                    clear hva_ hvn_ hvc_ ge255_1 ul255_1
                                    clear hcc255 hce255
                                    have HR255_1 := Aside0.mk hi255_1
                                    have HC255_1 := Aside0.mk hl255_1
                                    clear hi255_1 hl255_1
                                    replace p255 := eq_true p255
                                    replace q255 := eq_true q255
                                    have ea_ := Option.some.inj (hx251_1.symm.trans hx255_1)
                                    injection ea_ with ea_ en_ ec_
                                    subst ea_
                                    subst ec_
                                    clear en_
                                    have p36 : 0 ≤ (x8_3 : Int) := of_decide_eq_true (by first | (with_reducible assumption) | assumption)
                                    have q36 : x8_3 < (((rd_T29 t238 x7_2).f0).size : Int) := of_decide_eq_true (by first | (with_reducible assumption) | assumption)
                                    have hx36 := bt_at ((rd_T29 t238 x7_2).f0) x8_3
                                    replace p36 := eq_true p36
                                    replace q36 := eq_true q36
                                    go_wp2
                                    repeat (go_quiet (fail); try go_wp2)
                                    go_roundg k3
                                    case measure => have := HJ9.out; have := HK2.out; have := HK3.out; omega
                                    case rel => exact ⟨(wrap64 (x8_3 + 1)), (by first | rfl | (simp; done) | (simp [*]; done) | (simp [*] <;> (generalize ByteArray.toList _ = l_; cases l_ <;> rfl))), H', ⟨by have := HJ9.out; have := HK2.out; have := HK3.out; omega⟩, ⟨by (with_reducible repeat (first | apply Kd.N_alloc | apply Kd.N_drewN | apply Kd.N_drew)); exact HO_5.out⟩, ⟨by repeat (first | (with_reducible first | exact HB.out | apply below_alloc | apply pw_below_drewN | apply below_drew1) | exact HB.out)⟩⟩
                              · rw [if_neg c29] at H
                                exact absurd H (by simp)
                            · rw [if_neg c28] at H
                              have c28b0 : decide (x8_3 < (((rd_T29 t238 x7_2).f0).size : Int)) = false := decide_eq_false c28
                              clear c28
                              have H' := Aside0.mk H
                              clear H
                              have p251 : 0 ≤ (x7_2 : Int) := of_decide_eq_true (by first | (with_reducible assumption) | assumption)
                              have q251 : x7_2 < (t238.length : Int) := of_decide_eq_true (by first | (with_reducible assumption) | assumption)
                              obtain ⟨ad251, A251_1, c251_1, e251, hx251_0, hx251_1, hl251_1, hi251_1⟩ := at_T29 (Kd.N_reads' HO_5.out).2.2 x7_2 p251 q251
                              cases e251
                              obtain ⟨ce251, hce251, hMe251, hcc251⟩ := Kd.N_get HO_5.out z29 x7_2 p251 (by first | exact q251 | exact of_decide_eq_true (by first | (with_reducible assumption) | assumption) | (have e_ := (Kd.N_reads' HO_5.out).1; omega))
                              obtain ⟨ua251_1, uc251_1, rfl, ul251_1, ge251_1⟩ := k29_openF hMe251
                              have hv251_1 := hcc251 1 _ rfl
                              rw [add_field _ _ 1 (by omega)] at hv251_1
                              replace hv251_1 := Option.some.inj (hv251_1.symm.trans hx251_1)
                              injection hv251_1 with hva_ hvn_ hvc_
                              rw [hva_] at ge251_1
                              rw [hvc_] at ul251_1
                              have HL251_1 := Aside0.mk (show Kd.V Kd.string 9 _ w.heap.size _ _ ((rd_T29 t238 x7_2).f1) from Kd.V_mk ul251_1 ge251_1)
                              clear hva_ hvn_ hvc_ ge251_1 ul251_1
                              clear hcc251 hce251
                              have HR251_1 := Aside0.mk hi251_1
                              have HC251_1 := Aside0.mk hl251_1
                              clear hi251_1 hl251_1
                              replace p251 := eq_true p251
                              replace q251 := eq_true q251
                              go_wp2
                              repeat (go_quiet (fail); try go_wp2)
                              go_loopg [9] k3 (fun kq v9 w' => ∃ (x9_4 : Int), v9 = .int .i64 x9_4 ∧ Aside0 (parapetlaw14_CspFirst.l2 kq t238 x7_2 x9_4 = some r) ∧ Aside0 (kq ≤ k3) ∧ Aside0 (Kd.N k29 29 w' w.heap.size (fun _ => True) (.slice (some ad251) t238.length co25) t238) ∧ Aside0 (Kd.C Kd.string w' A251_1 ((rd_T29 t238 x7_2).f1).length ((rd_T29 t238 x7_2).f1)) ∧ Aside0 (Below w.heap.size w w'))
                              case atStart => exact ⟨(0), (by first | rfl | (simp; done) | (simp [*]; done) | (simp [*] <;> (generalize ByteArray.toList _ = l_; cases l_ <;> rfl))), H', ⟨Nat.le_refl _⟩, ⟨by (with_reducible repeat (first | apply Kd.N_alloc | apply Kd.N_drewN | apply Kd.N_drew)); exact HO_5.out⟩, ⟨by repeat (first | (with_reducible exact HR251_1.out) | (with_reducible refine Kd.C_alloc ?_ _) | (with_reducible refine Kd.C_drewN ?_ _) | (with_reducible refine Kd.C_drew ?_) | exact HR251_1.out)⟩, ⟨by repeat (first | (with_reducible first | exact HB.out | apply below_alloc | apply pw_below_drewN | apply below_drew1) | exact HB.out)⟩⟩
                              case round =>
                                clear H'
                                try clear c1
                                try clear c2
                                try clear p2
                                try clear q2
                                try clear hx2
                                try clear c3
                                try clear p3
                                try clear q3
                                try clear hx3
                                try clear c4
                                try clear c6
                                try clear c6b0
                                try clear c6b1
                                try clear c6b2
                                try clear p6
                                try clear c7
                                try clear c7b0
                                try clear c7b1
                                try clear c7b2
                                try clear c13
                                try clear c13b0
                                try clear c13b1
                                try clear c16
                                try clear c16b0
                                try clear c16b1
                                try clear c17
                                try clear c17b0
                                try clear c17b1
                                try clear q21
                                try clear c23
                                try clear c24
                                try clear c24b0
                                try clear c25
                                try clear p25
                                try clear q25
                                try clear hx25
                                try clear c26
                                try clear c26b0
                                try clear c27
                                try clear c27b0
                                try clear c28
                                try clear c28b0
                                try clear c29
                                try clear c29b0
                                try clear p30
                                try clear q30
                                try clear hx30
                                try clear c31
                                try clear c31b0
                                try clear p32
                                try clear q32
                                try clear hx32
                                try clear c33
                                try clear c33b0
                                try clear p34
                                try clear q34
                                try clear hx34
                                try clear c35
                                try clear c35b0
                                try clear p36
                                try clear q36
                                try clear hx36
                                try clear c37
                                try clear c37b0
                                try clear hx251_0
                                try clear hx251_1
                                try clear hx252_0
                                try clear hx252_1
                                try clear hx253_0
                                try clear hx253_1
                                try clear hx254_0
                                try clear hx254_1
                                try clear hx255_0
                                try clear hx255_1
                                try clear p2
                                try clear p251
                                try clear p252
                                try clear p253
                                try clear p254
                                try clear p255
                                try clear p30
                                try clear p32
                                try clear p34
                                try clear p36
                                try clear p6
                                try clear q2
                                try clear q21
                                try clear q251
                                try clear q252
                                try clear q253
                                try clear q254
                                try clear q255
                                try clear q30
                                try clear q32
                                try clear q34
                                try clear q36
                                obtain ⟨x9_4, rfl, HA, HK4, HO_5, HR251_1, HB⟩ := hrel
                                cases gk with
                                | zero => exact absurd HA.out (by simp [parapetlaw14_CspFirst.l2])
                                | succ k4 =>
                                  have H := HA.out
                                  clear HA
                                  simp only [parapetlaw14_CspFirst.l2] at H
                                  by_cases c38 : x9_4 < x7_2
                                  · rw [if_pos c38] at H
                                    have c38b0 : decide (x9_4 < x7_2) = true := decide_eq_true c38
                                    clear c38
                                    by_cases c39 : 0 ≤ x9_4
                                    · rw [if_pos c39] at H
                                      have c39b0 : decide (0 ≤ x9_4) = true := decide_eq_true c39
                                      clear c39
                                      by_cases c40 : x9_4 < (t238.length : Int)
                                      · rw [if_pos c40] at H
                                        have c40b0 : decide (x9_4 < (t238.length : Int)) = true := decide_eq_true c40
                                        clear c40
                                        by_cases c41 : 0 ≤ x7_2
                                        · rw [if_pos c41] at H
                                          have c41b0 : decide (0 ≤ x7_2) = true := decide_eq_true c41
                                          clear c41
                                          by_cases c42 : x7_2 < (t238.length : Int)
                                          · rw [if_pos c42] at H
                                            have c42b0 : decide (x7_2 < (t238.length : Int)) = true := decide_eq_true c42
                                            clear c42
                                            by_cases c43 : ((rd_T29 t238 x9_4).f0).toList = ((rd_T29 t238 x7_2).f0).toList
                                            · rw [if_pos c43] at H
                                              have c43b0 : (((rd_T29 t238 x9_4).f0).toList == ((rd_T29 t238 x7_2).f0).toList) = true := beq_iff_eq.mpr c43
                                              have c43b1 : (((rd_T29 t238 x9_4).f0).toList != ((rd_T29 t238 x7_2).f0).toList) = false := bne_eq_false_iff_eq.mpr c43
                                              clear c43
                                              obtain rfl := Option.some.inj H
                                              have p256 : 0 ≤ (x9_4 : Int) := of_decide_eq_true (by first | (with_reducible assumption) | assumption)
                                              have q256 : x9_4 < (t238.length : Int) := of_decide_eq_true (by first | (with_reducible assumption) | assumption)
                                              obtain ⟨ad256, A256_1, c256_1, e256, hx256_0, hx256_1, hl256_1, hi256_1⟩ := at_T29 (Kd.N_reads' HO_5.out).2.2 x9_4 p256 q256
                                              obtain rfl : ad251 = ad256 := (by injection e256)
                                              obtain ⟨ce256, hce256, hMe256, hcc256⟩ := Kd.N_get HO_5.out z29 x9_4 p256 (by first | exact q256 | exact of_decide_eq_true (by first | (with_reducible assumption) | assumption) | (have e_ := (Kd.N_reads' HO_5.out).1; omega))
                                              obtain ⟨ua256_1, uc256_1, rfl, ul256_1, ge256_1⟩ := k29_openF hMe256
                                              have hv256_1 := hcc256 1 _ rfl
                                              rw [add_field _ _ 1 (by omega)] at hv256_1
                                              replace hv256_1 := Option.some.inj (hv256_1.symm.trans hx256_1)
                                              injection hv256_1 with hva_ hvn_ hvc_
                                              rw [hva_] at ge256_1
                                              rw [hvc_] at ul256_1
                                              have HL256_1 := Aside0.mk (show Kd.V Kd.string 9 _ w.heap.size _ _ ((rd_T29 t238 x9_4).f1) from Kd.V_mk ul256_1 ge256_1)
                                              clear hva_ hvn_ hvc_ ge256_1 ul256_1
                                              clear hcc256 hce256
                                              have HR256_1 := Aside0.mk hi256_1
                                              have HC256_1 := Aside0.mk hl256_1
                                              clear hi256_1 hl256_1
                                              replace p256 := eq_true p256
                                              replace q256 := eq_true q256
                                              have p257 : 0 ≤ (x7_2 : Int) := of_decide_eq_true (by first | (with_reducible assumption) | assumption)
                                              have q257 : x7_2 < (t238.length : Int) := of_decide_eq_true (by first | (with_reducible assumption) | assumption)
                                              obtain ⟨ad257, A257_1, c257_1, e257, hx257_0, hx257_1, hl257_1, hi257_1⟩ := at_T29 (Kd.N_reads' HO_5.out).2.2 x7_2 p257 q257
                                              obtain rfl : ad251 = ad257 := (by injection e257)
                                              obtain ⟨ce257, hce257, hMe257, hcc257⟩ := Kd.N_get HO_5.out z29 x7_2 p257 (by first | exact q257 | exact of_decide_eq_true (by first | (with_reducible assumption) | assumption) | (have e_ := (Kd.N_reads' HO_5.out).1; omega))
                                              obtain ⟨ua257_1, uc257_1, rfl, ul257_1, ge257_1⟩ := k29_openF hMe257
                                              have hv257_1 := hcc257 1 _ rfl
                                              rw [add_field _ _ 1 (by omega)] at hv257_1
                                              replace hv257_1 := Option.some.inj (hv257_1.symm.trans hx257_1)
                                              injection hv257_1 with hva_ hvn_ hvc_
                                              rw [hva_] at ge257_1
                                              rw [hvc_] at ul257_1
                                              have HL257_1 := Aside0.mk (show Kd.V Kd.string 9 _ w.heap.size _ _ ((rd_T29 t238 x7_2).f1) from Kd.V_mk ul257_1 ge257_1)
                                              clear hva_ hvn_ hvc_ ge257_1 ul257_1
                                              clear hcc257 hce257
                                              have HR257_1 := Aside0.mk hi257_1
                                              have HC257_1 := Aside0.mk hl257_1
                                              clear hi257_1 hl257_1
                                              replace p257 := eq_true p257
                                              replace q257 := eq_true q257
                                              go_wp2
                                              repeat (go_quiet (fail); try go_wp2)
                                              go_ret
                                              exact ⟨by first | rfl | (simp [errW_none, errW_some] <;> rfl) | (simp [*, errW_none, errW_some] <;> rfl), by repeat (first | (with_reducible first | exact HB.out | apply below_alloc | apply pw_below_drewN | apply below_drew1) | exact HB.out)⟩
                                            · rw [if_neg c43] at H
                                              have c43b0 : (((rd_T29 t238 x9_4).f0).toList == ((rd_T29 t238 x7_2).f0).toList) = false := beq_eq_false_iff_ne.mpr c43
                                              have c43b1 : (((rd_T29 t238 x9_4).f0).toList != ((rd_T29 t238 x7_2).f0).toList) = true := bne_iff_ne.mpr c43
                                              have H' := Aside0.mk H
                                              clear H
                                              have p256 : 0 ≤ (x9_4 : Int) := of_decide_eq_true (by first | (with_reducible assumption) | assumption)
                                              have q256 : x9_4 < (t238.length : Int) := of_decide_eq_true (by first | (with_reducible assumption) | assumption)
                                              obtain ⟨ad256, A256_1, c256_1, e256, hx256_0, hx256_1, hl256_1, hi256_1⟩ := at_T29 (Kd.N_reads' HO_5.out).2.2 x9_4 p256 q256
                                              obtain rfl : ad251 = ad256 := (by injection e256)
                                              obtain ⟨ce256, hce256, hMe256, hcc256⟩ := Kd.N_get HO_5.out z29 x9_4 p256 (by first | exact q256 | exact of_decide_eq_true (by first | (with_reducible assumption) | assumption) | (have e_ := (Kd.N_reads' HO_5.out).1; omega))
                                              obtain ⟨ua256_1, uc256_1, rfl, ul256_1, ge256_1⟩ := k29_openF hMe256
                                              have hv256_1 := hcc256 1 _ rfl
                                              rw [add_field _ _ 1 (by omega)] at hv256_1
                                              replace hv256_1 := Option.some.inj (hv256_1.symm.trans hx256_1)
                                              injection hv256_1 with hva_ hvn_ hvc_
                                              rw [hva_] at ge256_1
                                              rw [hvc_] at ul256_1
                                              have HL256_1 := Aside0.mk (show Kd.V Kd.string 9 _ w.heap.size _ _ ((rd_T29 t238 x9_4).f1) from Kd.V_mk ul256_1 ge256_1)
                                              clear hva_ hvn_ hvc_ ge256_1 ul256_1
                                              clear hcc256 hce256
                                              have HR256_1 := Aside0.mk hi256_1
                                              have HC256_1 := Aside0.mk hl256_1
                                              clear hi256_1 hl256_1
                                              replace p256 := eq_true p256
                                              replace q256 := eq_true q256
                                              have p257 : 0 ≤ (x7_2 : Int) := of_decide_eq_true (by first | (with_reducible assumption) | assumption)
                                              have q257 : x7_2 < (t238.length : Int) := of_decide_eq_true (by first | (with_reducible assumption) | assumption)
                                              obtain ⟨ad257, A257_1, c257_1, e257, hx257_0, hx257_1, hl257_1, hi257_1⟩ := at_T29 (Kd.N_reads' HO_5.out).2.2 x7_2 p257 q257
                                              obtain rfl : ad251 = ad257 := (by injection e257)
                                              obtain ⟨ce257, hce257, hMe257, hcc257⟩ := Kd.N_get HO_5.out z29 x7_2 p257 (by first | exact q257 | exact of_decide_eq_true (by first | (with_reducible assumption) | assumption) | (have e_ := (Kd.N_reads' HO_5.out).1; omega))
                                              obtain ⟨ua257_1, uc257_1, rfl, ul257_1, ge257_1⟩ := k29_openF hMe257
                                              have hv257_1 := hcc257 1 _ rfl
                                              rw [add_field _ _ 1 (by omega)] at hv257_1
                                              replace hv257_1 := Option.some.inj (hv257_1.symm.trans hx257_1)
                                              injection hv257_1 with hva_ hvn_ hvc_
                                              rw [hva_] at ge257_1
                                              rw [hvc_] at ul257_1
                                              have HL257_1 := Aside0.mk (show Kd.V Kd.string 9 _ w.heap.size _ _ ((rd_T29 t238 x7_2).f1) from Kd.V_mk ul257_1 ge257_1)
                                              clear hva_ hvn_ hvc_ ge257_1 ul257_1
                                              clear hcc257 hce257
                                              have HR257_1 := Aside0.mk hi257_1
                                              have HC257_1 := Aside0.mk hl257_1
                                              clear hi257_1 hl257_1
                                              replace p257 := eq_true p257
                                              replace q257 := eq_true q257
                                              go_wp2
                                              repeat (go_quiet (fail); try go_wp2)
                                              go_roundg k4
                                              case measure => have := HJ9.out; have := HK2.out; have := HK3.out; have := HK4.out; omega
                                              case rel => exact ⟨(wrap64 (x9_4 + 1)), (by first | rfl | (simp; done) | (simp [*]; done) | (simp [*] <;> (generalize ByteArray.toList _ = l_; cases l_ <;> rfl))), H', ⟨by have := HJ9.out; have := HK2.out; have := HK3.out; have := HK4.out; omega⟩, ⟨by (with_reducible repeat (first | apply Kd.N_alloc | apply Kd.N_drewN | apply Kd.N_drew)); exact HO_5.out⟩, ⟨by repeat (first | (with_reducible exact HR251_1.out) | (with_reducible refine Kd.C_alloc ?_ _) | (with_reducible refine Kd.C_drewN ?_ _) | (with_reducible refine Kd.C_drew ?_) | exact HR251_1.out)⟩, ⟨by repeat (first | (with_reducible first | exact HB.out | apply below_alloc | apply pw_below_drewN | apply below_drew1) | exact HB.out)⟩⟩
                                          · rw [if_neg c42] at H
                                            exact absurd H (by simp)
                                        · rw [if_neg c41] at H
                                          exact absurd H (by simp)
                                      · rw [if_neg c40] at H
                                        exact absurd H (by simp)
                                    · rw [if_neg c39] at H
                                      exact absurd H (by simp)
                                  · rw [if_neg c38] at H
                                    have c38b0 : decide (x9_4 < x7_2) = false := decide_eq_false c38
                                    clear c38
                                    have H' := Aside0.mk H
                                    clear H
                                    go_wp2
                                    repeat (go_quiet (fail); try go_wp2)
                                    go_roundg k4
                                    case measure => have := HJ9.out; have := HK2.out; have := HK3.out; have := HK4.out; omega
                                    case rel => exact ⟨(wrap64 (x7_2 + 1)), (by first | rfl | (simp; done) | (simp [*]; done) | (simp [*] <;> (generalize ByteArray.toList _ = l_; cases l_ <;> rfl))), H', ⟨by have := HJ9.out; have := HK2.out; have := HK3.out; have := HK4.out; omega⟩, ⟨by (with_reducible repeat (first | apply Kd.N_alloc | apply Kd.N_drewN | apply Kd.N_drew)); exact HO_5.out⟩, ⟨by repeat (first | (with_reducible first | exact HB.out | apply below_alloc | apply pw_below_drewN | apply below_drew1) | exact HB.out)⟩⟩
                          · rw [if_neg c27] at H
                            exact absurd H (by simp)
                        · rw [if_neg c26] at H
                          exact absurd H (by simp)
                  · rw [if_neg c24] at H
                    have c24b0 : decide (x7_2 < (t238.length : Int)) = false := decide_eq_false c24
                    clear c24
                    replace H := Option.bind_eq_some_iff.mp H
                    obtain ⟨t250, A440, H⟩ := H
                    replace H : (some t250) = some r := H
                    have A44 := Aside0.mk A440
                    clear A440
                    obtain rfl := Option.some.inj H
                    obtain ⟨Ao45, co45, eo45⟩ := Kd.N_slice HO_5.out
                    subst eo45
                    go_wp2_with (first | (go_at_call 8; (with_reducible refine (parapetlaw14_awake.calls k2  t250 _ A44.out).mono ?_); rintro e w46 ⟨rfl, hb⟩; have n0_ := Aside0.mk (Kd.N_below (by (with_reducible repeat (first | apply Kd.N_alloc | apply Kd.N_drewN | apply Kd.N_drew)); exact HO_5.out) hb); have n1_ := Aside0.mk (below_step (by repeat (first | (with_reducible first | exact HB.out | apply below_alloc | apply pw_below_drewN | apply below_drew1) | exact HB.out)) hb); clear HO_5; clear HB; have HO_5 := n0_; have HB := n1_; clear n0_ n1_; (try clear hb); (try clear hb2); (try clear hk); (try clear hi)))
                    repeat (go_quiet (first | (go_at_call 8; (with_reducible refine (parapetlaw14_awake.calls k2  t250 _ A44.out).mono ?_); rintro e w46 ⟨rfl, hb⟩; have n0_ := Aside0.mk (Kd.N_below (by (with_reducible repeat (first | apply Kd.N_alloc | apply Kd.N_drewN | apply Kd.N_drew)); exact HO_5.out) hb); have n1_ := Aside0.mk (below_step (by repeat (first | (with_reducible first | exact HB.out | apply below_alloc | apply pw_below_drewN | apply below_drew1) | exact HB.out)) hb); clear HO_5; clear HB; have HO_5 := n0_; have HB := n1_; clear n0_ n1_; (try clear hb); (try clear hb2); (try clear hk); (try clear hi))); try go_wp2_with (first | (go_at_call 8; (with_reducible refine (parapetlaw14_awake.calls k2  t250 _ A44.out).mono ?_); rintro e w46 ⟨rfl, hb⟩; have n0_ := Aside0.mk (Kd.N_below (by (with_reducible repeat (first | apply Kd.N_alloc | apply Kd.N_drewN | apply Kd.N_drew)); exact HO_5.out) hb); have n1_ := Aside0.mk (below_step (by repeat (first | (with_reducible first | exact HB.out | apply below_alloc | apply pw_below_drewN | apply below_drew1) | exact HB.out)) hb); clear HO_5; clear HB; have HO_5 := n0_; have HB := n1_; clear n0_ n1_; (try clear hb); (try clear hb2); (try clear hk); (try clear hi))))
                    go_ret
                    exact ⟨by first | rfl | (simp [errW_none, errW_some] <;> rfl) | (simp [*, errW_none, errW_some] <;> rfl), by repeat (first | (with_reducible first | exact HB.out | apply below_alloc | apply pw_below_drewN | apply below_drew1) | exact HB.out)⟩
      · rw [if_neg c7] at H
        exact absurd H (by simp)
    · rw [if_neg c6] at H
      exact absurd H (by simp)

/-- THE ONE PURE STATEMENT of parapetlaw14_CspFirst: yours. -/
def parapetlaw14_CspFirst.Pure : Prop := ∀ (a0 : ByteArray) (a1 : ByteArray), a0.size ≤ 140737488351232 → a1.size ≤ 140737488351232 → ∃ k, parapetlaw14_CspFirst.f k a0 a1 = some true
theorem parapetlaw14_CspFirst.walk (P : parapetlaw14_CspFirst.Pure) (a0 : ByteArray) (a1 : ByteArray) (w : World) (w0 : a0.size ≤ 140737488351232) (w1 : a1.size ≤ 140737488351232) :
    Calls Tryd.prog 4 #[.string a0, .string a1] w fun e w' => e = .returned (.bool true) ∧ Below w.heap.size w w' := by
  obtain ⟨k, h⟩ := P a0 a1 w0 w1
  refine (parapetlaw14_CspFirst.calls k a0 a1 true w h).mono ?_
  rintro e w' ⟨rfl, hd⟩
  exact ⟨rfl, hd⟩

end Go.Proofs.YtopejcaiabebpaaDoor.PA
