-- written by pp.py, a program of this session's, which runs the kit's print with turns of its own; Lean checks it
import Derived.Test.YtgldmliemeadpaaDoorPAx0
import Derived.Test.YtgldmliemeadpaaDoorPAx1
import Derived.Test.YtgldmliemeadpaaDoorPAx7
namespace Go.Proofs.YtgldmliemeadpaaDoor.PA
open Go.RowKit Go.Proofs.YtgldmliemeadpaaDoorW.PrintWords Go.Proofs.YtgldmliemeadpaaDoorW.PrintLast Go.Proofs.YtgldmliemeadpaaDoorW.PrintMore
attribute [local go_sem] max2_int min2_int max_two min_two max_three min_three max_four min_four   -- for this text's walks alone
set_option linter.unusedVariables false
set_option linter.unusedSimpArgs false

/-! ### parapetlaw10_HostCases: function 4 -/
mutual
def parapetlaw10_HostCases.j0 : Nat → ByteArray → Int → Bool → Option (Bool)
  | 0, _, _, _ => none
  | k + 1, x0, x1, x23 => if x23 = true then ((parapetlaw10_awake.f k).bind fun t204 => (some t204)) else ((host_Parse.f k x0).bind fun bt205 => (if bt205.2 = 0 then (if (bt205.1.size : Int) = 0 then (some false) else ((parapetalike_Round.f x1 (bt205.1.size : Int)).bind fun t208 => (if 0 ≤ t208 then (if t208 ≤ (bt205.1.size : Int) then (if (bt205.1.extract 0 (t208 : Int).toNat).size + 1 ≤ 9223372036854775807 then (if t208 < (bt205.1.size : Int) then (if 0 ≤ ((bt bt205.1 t208) / 16) then (if ((bt bt205.1 t208) / 16) < 16 then (if 0 ≤ (Go.bits .and .u8 (bt bt205.1 t208) 15) then (if (Go.bits .and .u8 (bt bt205.1 t208) 15) < 16 then ((some (([bt (⟨#[48, 49, 50, 51, 52, 53, 54, 55, 56, 57, 65, 66, 67, 68, 69, 70]⟩ : ByteArray) ((bt bt205.1 t208) / 16), bt (⟨#[48, 49, 50, 51, 52, 53, 54, 55, 56, 57, 65, 66, 67, 68, 69, 70]⟩ : ByteArray) (Go.bits .and .u8 (bt bt205.1 t208) 15)] : List Int) : List Int)).bind fun y209 => (if ((bt205.1.extract 0 (t208 : Int).toNat) ++ (⟨#[37]⟩ : ByteArray)).size + (strOfNums y209).size ≤ 9223372036854775807 then (if 0 ≤ (wrap64 (t208 + 1)) then (if (wrap64 (t208 + 1)) ≤ (bt205.1.size : Int) then (if (((bt205.1.extract 0 (t208 : Int).toNat) ++ (⟨#[37]⟩ : ByteArray)) ++ (strOfNums y209)).size + (bt205.1.extract ((wrap64 (t208 + 1)) : Int).toNat bt205.1.size).size ≤ 9223372036854775807 then (parapetlaw10_HostCases.l0 k bt205.1 ((((bt205.1.extract 0 (t208 : Int).toNat) ++ (⟨#[37]⟩ : ByteArray)) ++ (strOfNums y209)) ++ (bt205.1.extract ((wrap64 (t208 + 1)) : Int).toNat bt205.1.size)) (⟨#[]⟩ : ByteArray) 0) else (none)) else (none)) else (none)) else (none))) else (none)) else (none)) else (none)) else (none)) else (none)) else (none)) else (none)) else (none)))) else (if bt205.1.toList = ([] : List UInt8) then ((parapetlaw10_awake.f k).bind fun t207 => (some t207)) else (some false))))
def parapetlaw10_HostCases.l0 : Nat → ByteArray → ByteArray → ByteArray → Int → Option (Bool)
  | 0, _, _, _, _ => none
  | k + 1, x5, x8, x9, x10 => if x10 < (x5.size : Int) then (if 0 ≤ x10 then (if (bt x5 x10) ≥ 97 then (if (bt x5 x10) ≤ 122 then ((some (([((bt x5 x10) - 32) % 256] : List Int) : List Int)).bind fun y212 => (if x9.size + (strOfNums y212).size ≤ 9223372036854775807 then (parapetlaw10_HostCases.l0 k x5 x8 (x9 ++ (strOfNums y212)) (wrap64 (x10 + 1))) else (none))) else ((some (([bt x5 x10] : List Int) : List Int)).bind fun y215 => (if x9.size + (strOfNums y215).size ≤ 9223372036854775807 then (parapetlaw10_HostCases.l0 k x5 x8 (x9 ++ (strOfNums y215)) (wrap64 (x10 + 1))) else (none)))) else ((some (([bt x5 x10] : List Int) : List Int)).bind fun y218 => (if x9.size + (strOfNums y218).size ≤ 9223372036854775807 then (parapetlaw10_HostCases.l0 k x5 x8 (x9 ++ (strOfNums y218)) (wrap64 (x10 + 1))) else (none)))) else (none)) else ((host_Parse.f k x8).bind fun bt221 => ((host_Parse.f k x9).bind fun bt223 => (if bt221.2 = 0 then (if bt221.1.toList = x5.toList then (if bt223.2 = 0 then (if bt223.1.toList = x5.toList then ((parapetlaw10_awake.f k).bind fun t225 => (some t225)) else (some false)) else (some false)) else (some false)) else (some false))))
end
def parapetlaw10_HostCases.f (k : Nat) (a0 : ByteArray) (a1 : Int) : Option (Bool) := if (a0.size : Int) > 600 then (parapetlaw10_HostCases.j0 k a0 a1 true) else (parapetlaw10_HostCases.j0 k a0 a1 ((a0.size : Int) == 0))
theorem parapetlaw10_HostCases.mono_l : ∀ k, (∀ y0 y1 y2, LeO (parapetlaw10_HostCases.j0 k y0 y1 y2) (parapetlaw10_HostCases.j0 (k + 1) y0 y1 y2)) ∧ (∀ y0 y1 y2 y3, LeO (parapetlaw10_HostCases.l0 k y0 y1 y2 y3) (parapetlaw10_HostCases.l0 (k + 1) y0 y1 y2 y3))
  | 0 => ⟨fun _ _ _ r h => by simp [parapetlaw10_HostCases.j0] at h, fun _ _ _ _ r h => by simp [parapetlaw10_HostCases.l0] at h⟩
  | k + 1 => by
    obtain ⟨ih0, ih1⟩ := parapetlaw10_HostCases.mono_l k
    refine ⟨?_, ?_⟩
    · intro y0 y1 y2
      unfold parapetlaw10_HostCases.j0
      repeat' first
      | (with_reducible exact ih0 _ _ _)
      | (with_reducible exact ih1 _ _ _ _)
      | (with_reducible exact host_Parse.mono _ _)
      | (with_reducible exact parapetlaw10_awake.mono _)
      | (with_reducible exact LeO.refl _)
      | (with_reducible exact LeO.none _)
      | (with_reducible refine LeO.ite ?_ ?_)
      | (with_reducible refine LeO.bind ?_ (fun _ => ?_))
      | exact ih0 _ _ _
      | exact ih1 _ _ _ _
      | exact host_Parse.mono _ _
      | exact parapetlaw10_awake.mono _
      | exact LeO.none _
      | refine LeO.ite ?_ ?_
      | refine LeO.bind ?_ (fun _ => ?_)
    · intro y0 y1 y2 y3
      unfold parapetlaw10_HostCases.l0
      repeat' first
      | (with_reducible exact ih0 _ _ _)
      | (with_reducible exact ih1 _ _ _ _)
      | (with_reducible exact host_Parse.mono _ _)
      | (with_reducible exact parapetlaw10_awake.mono _)
      | (with_reducible exact LeO.refl _)
      | (with_reducible exact LeO.none _)
      | (with_reducible refine LeO.ite ?_ ?_)
      | (with_reducible refine LeO.bind ?_ (fun _ => ?_))
      | exact ih0 _ _ _
      | exact ih1 _ _ _ _
      | exact host_Parse.mono _ _
      | exact parapetlaw10_awake.mono _
      | exact LeO.none _
      | refine LeO.ite ?_ ?_
      | refine LeO.bind ?_ (fun _ => ?_)
theorem parapetlaw10_HostCases.mono : ∀ a0 a1 k, LeO (parapetlaw10_HostCases.f k a0 a1) (parapetlaw10_HostCases.f (k + 1) a0 a1) := by
  intro a0 a1 k
  obtain ⟨ih0, ih1⟩ := parapetlaw10_HostCases.mono_l k
  unfold parapetlaw10_HostCases.f
  repeat' first
      | (with_reducible exact ih0 _ _ _)
      | (with_reducible exact ih1 _ _ _ _)
      | (with_reducible exact host_Parse.mono _ _)
      | (with_reducible exact parapetlaw10_awake.mono _)
      | (with_reducible exact LeO.refl _)
      | (with_reducible exact LeO.none _)
      | (with_reducible refine LeO.ite ?_ ?_)
      | (with_reducible refine LeO.bind ?_ (fun _ => ?_))
      | exact ih0 _ _ _
      | exact ih1 _ _ _ _
      | exact host_Parse.mono _ _
      | exact parapetlaw10_awake.mono _
      | exact LeO.none _
      | refine LeO.ite ?_ ?_
      | refine LeO.bind ?_ (fun _ => ?_)
def parapetlaw10_HostCases.T10 : Bool × List (List Nat × List Nat) := (true, [([], []), ([], []), ([0, 1], [0, 1]), ([2], [2]), ([], []), ([], []), ([], []), ([5, 6], [5, 6]), ([7], [7]), ([4, 8], [4, 8]), ([], []), ([], []), ([], []), ([11, 12], [11, 12]), ([13], [13]), ([10, 14], [10, 14]), ([9, 15], [9, 15]), ([16], [16]), ([3, 17], [3, 17]), ([], []), ([], []), ([20], [20]), ([19, 21], [19, 21]), ([18, 22], [18, 22]), ([23, 0, 1, 2, 3, 4, 5, 6, 7, 8, 9, 10, 11, 12, 13, 14, 15, 16, 17, 18, 19, 20, 21, 22, 23], [23])])
def parapetlaw10_HostCases.B10 : List Nat := [0, 0, 3, 7, 0, 0, 0, 96, 224, 496, 0, 0, 0, 6144, 14336, 31744, 65520, 131056, 262143, 0, 0, 1048576, 3670016, 8388607, 16777215]
theorem parapetlaw10_HostCases.tab10 : rtab .any (opsOf Tryd.f4 10) = parapetlaw10_HostCases.T10 := by kernel_rfl
theorem parapetlaw10_HostCases.bits10 : waitsOk parapetlaw10_HostCases.T10.2 parapetlaw10_HostCases.B10 = true := by kernel_rfl
set_option maxHeartbeats 8000000 in
set_option maxRecDepth 100000 in
theorem parapetlaw10_HostCases.calls (k : Nat) (a0 : ByteArray) (a1 : Int) (r : Bool) (w : World) (h : parapetlaw10_HostCases.f k a0 a1 = some r) :
    Calls Tryd.prog 4 #[.string a0, .int .i64 a1] w fun e w' => e = .returned (.bool r) ∧ Below w.heap.size w w' := by
  have HB := Aside0.mk (Below.refl w.heap.size w)
  have H : (if (a0.size : Int) > 600 then (parapetlaw10_HostCases.j0 k a0 a1 true) else (parapetlaw10_HostCases.j0 k a0 a1 ((a0.size : Int) == 0))) = some r := h
  clear h
  have HC3 := Aside0.mk H
  clear H
  go_enter Tryd.func4, Tryd.ntmps4
  go_upto_region 1 with (fail)
  go_cut [23] (fun v23 wc => ∃ (kq : Nat) (x23_2 : Bool), v23 = .bool x23_2 ∧ Aside0 (parapetlaw10_HostCases.j0 kq a0 a1 x23_2 = some r) ∧ Aside0 (kq ≤ k) ∧ Aside0 (Below w.heap.size w wc))
  case first =>
    have H := HC3.out
    clear HC3
    by_cases c4 : (a0.size : Int) > 600
    · rw [if_pos c4] at H
      have c4b0 : decide (600 < (a0.size : Int)) = true := decide_eq_true c4
      have c4b1 : decide (600 < a0.size) = true := decide_eq_true (by omega)
      clear c4
      (first | rw [c4b0] | (simp only [i64_w, i32_w]; rw [c4b0]) | skip)
      have H' := Aside0.mk H
      clear H
      go_wp2
      go_meet
      case rel => exact ⟨_, (true), (by first | rfl | (simp; done) | (simp [*]; done) | (simp [*] <;> (generalize ByteArray.toList _ = l_; cases l_ <;> rfl))), H', ⟨by first | omega | exact Nat.le_refl _⟩, ⟨by repeat (first | (with_reducible first | exact HB.out | apply below_alloc | apply pw_below_drewN | apply below_drew1) | exact HB.out)⟩⟩
    · rw [if_neg c4] at H
      have c4b0 : decide (600 < (a0.size : Int)) = false := decide_eq_false c4
      have c4b1 : decide (600 < a0.size) = false := decide_eq_false (by omega)
      clear c4
      (first | rw [c4b0] | (simp only [i64_w, i32_w]; rw [c4b0]) | skip)
      have H' := Aside0.mk H
      clear H
      go_wp2
      go_meet
      case rel => exact ⟨_, (((a0.size : Int) == 0)), (by first | rfl | (simp; done) | (simp [*]; done) | (simp [*] <;> (generalize ByteArray.toList _ = l_; cases l_ <;> rfl))), H', ⟨by first | omega | exact Nat.le_refl _⟩, ⟨by repeat (first | (with_reducible first | exact HB.out | apply below_alloc | apply pw_below_drewN | apply below_drew1) | exact HB.out)⟩⟩
  case rest =>
    clear HC3
    try clear p2
    try clear c4
    try clear c4b0
    try clear c4b1
    obtain ⟨kq, x23_2, rfl, HA, HJ2, HB⟩ := hcut
    cases kq with
    | zero => exact absurd HA.out (by simp [parapetlaw10_HostCases.j0])
    | succ kj2 =>
      have H := HA.out
      clear HA
      simp only [parapetlaw10_HostCases.j0] at H
      by_cases c5 : x23_2 = true
      · subst c5
        have H1 : ((parapetlaw10_awake.f kj2).bind fun t204 => (some t204)) = some r := by rw [if_pos rfl] at H; exact H
        clear H
        have H := H1
        clear H1
        replace H := Option.bind_eq_some_iff.mp H
        obtain ⟨t204, A60, H⟩ := H
        replace H : (some t204) = some r := H
        have A6 := Aside0.mk A60
        clear A60
        obtain rfl := Option.some.inj H
        go_wp2_with (first | ((with_reducible refine gate_callee (f := 15) rfl ?_); refine goesL_ (some 24) rfl rfl Tryd.func15 (by kernel_rfl) rfl #[] rfl (by (try simp only [List.map_toArray, List.map_cons, List.map_nil]); first | done | rfl | (simp only [List.length_drop, List.length_take]; rfl)) ?_; (with_reducible refine (parapetlaw10_awake.calls kj2  t204 _ A6.out).mono ?_); rintro e w7 ⟨rfl, hb⟩; refine ⟨_, rfl, ?_⟩; have n0_ := Aside0.mk (below_step (by repeat (first | (with_reducible first | exact HB.out | apply below_alloc | apply pw_below_drewN | apply below_drew1) | exact HB.out)) hb); clear HB; have HB := n0_; clear n0_; (try clear hb); (try clear hb2); (try clear hk); (try clear hi)))
        go_ret
        exact ⟨by first | rfl | (simp [errW_none, errW_some] <;> rfl) | (simp [*, errW_none, errW_some] <;> rfl), by repeat (first | (with_reducible first | exact HB.out | apply below_alloc | apply pw_below_drewN | apply below_drew1) | exact HB.out)⟩
      · replace c5 := Bool.eq_false_iff.mpr c5
        subst c5
        have H1 : ((host_Parse.f kj2 a0).bind fun bt205 => (if bt205.2 = 0 then (if (bt205.1.size : Int) = 0 then (some false) else ((parapetalike_Round.f a1 (bt205.1.size : Int)).bind fun t208 => (if 0 ≤ t208 then (if t208 ≤ (bt205.1.size : Int) then (if (bt205.1.extract 0 (t208 : Int).toNat).size + 1 ≤ 9223372036854775807 then (if t208 < (bt205.1.size : Int) then (if 0 ≤ ((bt bt205.1 t208) / 16) then (if ((bt bt205.1 t208) / 16) < 16 then (if 0 ≤ (Go.bits .and .u8 (bt bt205.1 t208) 15) then (if (Go.bits .and .u8 (bt bt205.1 t208) 15) < 16 then ((some (([bt (⟨#[48, 49, 50, 51, 52, 53, 54, 55, 56, 57, 65, 66, 67, 68, 69, 70]⟩ : ByteArray) ((bt bt205.1 t208) / 16), bt (⟨#[48, 49, 50, 51, 52, 53, 54, 55, 56, 57, 65, 66, 67, 68, 69, 70]⟩ : ByteArray) (Go.bits .and .u8 (bt bt205.1 t208) 15)] : List Int) : List Int)).bind fun y209 => (if ((bt205.1.extract 0 (t208 : Int).toNat) ++ (⟨#[37]⟩ : ByteArray)).size + (strOfNums y209).size ≤ 9223372036854775807 then (if 0 ≤ (wrap64 (t208 + 1)) then (if (wrap64 (t208 + 1)) ≤ (bt205.1.size : Int) then (if (((bt205.1.extract 0 (t208 : Int).toNat) ++ (⟨#[37]⟩ : ByteArray)) ++ (strOfNums y209)).size + (bt205.1.extract ((wrap64 (t208 + 1)) : Int).toNat bt205.1.size).size ≤ 9223372036854775807 then (parapetlaw10_HostCases.l0 kj2 bt205.1 ((((bt205.1.extract 0 (t208 : Int).toNat) ++ (⟨#[37]⟩ : ByteArray)) ++ (strOfNums y209)) ++ (bt205.1.extract ((wrap64 (t208 + 1)) : Int).toNat bt205.1.size)) (⟨#[]⟩ : ByteArray) 0) else (none)) else (none)) else (none)) else (none))) else (none)) else (none)) else (none)) else (none)) else (none)) else (none)) else (none)) else (none)))) else (if bt205.1.toList = ([] : List UInt8) then ((parapetlaw10_awake.f kj2).bind fun t207 => (some t207)) else (some false)))) = some r := by rw [if_neg (show ¬ (false = true) by decide)] at H; exact H
        clear H
        have H := H1
        clear H1
        replace H := Option.bind_eq_some_iff.mp H
        obtain ⟨⟨t205, t206⟩, A80, H⟩ := H
        replace H : (if t206 = 0 then (if (t205.size : Int) = 0 then (some false) else ((parapetalike_Round.f a1 (t205.size : Int)).bind fun t208 => (if 0 ≤ t208 then (if t208 ≤ (t205.size : Int) then (if (t205.extract 0 (t208 : Int).toNat).size + 1 ≤ 9223372036854775807 then (if t208 < (t205.size : Int) then (if 0 ≤ ((bt t205 t208) / 16) then (if ((bt t205 t208) / 16) < 16 then (if 0 ≤ (Go.bits .and .u8 (bt t205 t208) 15) then (if (Go.bits .and .u8 (bt t205 t208) 15) < 16 then ((some (([bt (⟨#[48, 49, 50, 51, 52, 53, 54, 55, 56, 57, 65, 66, 67, 68, 69, 70]⟩ : ByteArray) ((bt t205 t208) / 16), bt (⟨#[48, 49, 50, 51, 52, 53, 54, 55, 56, 57, 65, 66, 67, 68, 69, 70]⟩ : ByteArray) (Go.bits .and .u8 (bt t205 t208) 15)] : List Int) : List Int)).bind fun y209 => (if ((t205.extract 0 (t208 : Int).toNat) ++ (⟨#[37]⟩ : ByteArray)).size + (strOfNums y209).size ≤ 9223372036854775807 then (if 0 ≤ (wrap64 (t208 + 1)) then (if (wrap64 (t208 + 1)) ≤ (t205.size : Int) then (if (((t205.extract 0 (t208 : Int).toNat) ++ (⟨#[37]⟩ : ByteArray)) ++ (strOfNums y209)).size + (t205.extract ((wrap64 (t208 + 1)) : Int).toNat t205.size).size ≤ 9223372036854775807 then (parapetlaw10_HostCases.l0 kj2 t205 ((((t205.extract 0 (t208 : Int).toNat) ++ (⟨#[37]⟩ : ByteArray)) ++ (strOfNums y209)) ++ (t205.extract ((wrap64 (t208 + 1)) : Int).toNat t205.size)) (⟨#[]⟩ : ByteArray) 0) else (none)) else (none)) else (none)) else (none))) else (none)) else (none)) else (none)) else (none)) else (none)) else (none)) else (none)) else (none)))) else (if t205.toList = ([] : List UInt8) then ((parapetlaw10_awake.f kj2).bind fun t207 => (some t207)) else (some false))) = some r := H
        have A8 := Aside0.mk A80
        clear A80
        by_cases c9 : t206 = 0
        · rw [if_pos c9] at H
          have c9b0 : (t206 == 0) = true := beq_iff_eq.mpr c9
          have c9b1 : (t206 != 0) = false := bne_eq_false_iff_eq.mpr c9
          clear c9
          by_cases c10 : (t205.size : Int) = 0
          · rw [if_pos c10] at H
            have c10b0 : ((t205.size : Int) == 0) = true := beq_iff_eq.mpr c10
            have c10b1 : ((t205.size : Int) != 0) = false := bne_eq_false_iff_eq.mpr c10
            clear c10
            obtain rfl := Option.some.inj H
            go_wp2_with (first | ((with_reducible refine gate_callee (f := 13) rfl ?_); refine goesL_ (some 27) rfl rfl Tryd.func13 (by kernel_rfl) rfl #[.string a0] rfl (by (try simp only [List.map_toArray, List.map_cons, List.map_nil]); first | done | rfl | (simp only [List.length_drop, List.length_take]; rfl)) ?_; (with_reducible refine (host_Parse.calls kj2 a0 t205 t206 _ A8.out).mono ?_); rintro e w11 ⟨rfl, hb⟩; refine ⟨_, rfl, ?_⟩; have n0_ := Aside0.mk (below_step (by repeat (first | (with_reducible first | exact HB.out | apply below_alloc | apply pw_below_drewN | apply below_drew1) | exact HB.out)) hb); clear HB; have HB := n0_; clear n0_; (try clear hb); (try clear hb2); (try clear hk); (try clear hi)))
            go_ret
            exact ⟨by first | rfl | (simp [errW_none, errW_some] <;> rfl) | (simp [*, errW_none, errW_some] <;> rfl), by repeat (first | (with_reducible first | exact HB.out | apply below_alloc | apply pw_below_drewN | apply below_drew1) | exact HB.out)⟩
          rw [if_neg c10] at H
          have c10b0 : ((t205.size : Int) == 0) = false := beq_eq_false_iff_ne.mpr c10
          have c10b1 : ((t205.size : Int) != 0) = true := bne_iff_ne.mpr c10
          replace H := Option.bind_eq_some_iff.mp H
          obtain ⟨t208, A120, H⟩ := H
          replace H : (if 0 ≤ t208 then (if t208 ≤ (t205.size : Int) then (if (t205.extract 0 (t208 : Int).toNat).size + 1 ≤ 9223372036854775807 then (if t208 < (t205.size : Int) then (if 0 ≤ ((bt t205 t208) / 16) then (if ((bt t205 t208) / 16) < 16 then (if 0 ≤ (Go.bits .and .u8 (bt t205 t208) 15) then (if (Go.bits .and .u8 (bt t205 t208) 15) < 16 then ((some (([bt (⟨#[48, 49, 50, 51, 52, 53, 54, 55, 56, 57, 65, 66, 67, 68, 69, 70]⟩ : ByteArray) ((bt t205 t208) / 16), bt (⟨#[48, 49, 50, 51, 52, 53, 54, 55, 56, 57, 65, 66, 67, 68, 69, 70]⟩ : ByteArray) (Go.bits .and .u8 (bt t205 t208) 15)] : List Int) : List Int)).bind fun y209 => (if ((t205.extract 0 (t208 : Int).toNat) ++ (⟨#[37]⟩ : ByteArray)).size + (strOfNums y209).size ≤ 9223372036854775807 then (if 0 ≤ (wrap64 (t208 + 1)) then (if (wrap64 (t208 + 1)) ≤ (t205.size : Int) then (if (((t205.extract 0 (t208 : Int).toNat) ++ (⟨#[37]⟩ : ByteArray)) ++ (strOfNums y209)).size + (t205.extract ((wrap64 (t208 + 1)) : Int).toNat t205.size).size ≤ 9223372036854775807 then (parapetlaw10_HostCases.l0 kj2 t205 ((((t205.extract 0 (t208 : Int).toNat) ++ (⟨#[37]⟩ : ByteArray)) ++ (strOfNums y209)) ++ (t205.extract ((wrap64 (t208 + 1)) : Int).toNat t205.size)) (⟨#[]⟩ : ByteArray) 0) else (none)) else (none)) else (none)) else (none))) else (none)) else (none)) else (none)) else (none)) else (none)) else (none)) else (none)) else (none)) = some r := H
          have A12 := Aside0.mk A120
          clear A120
          by_cases c13 : 0 ≤ t208
          rotate_left
          · rw [if_neg c13] at H
            exact absurd H (by simp)
          rw [if_pos c13] at H
          have c13b0 := eq_true c13
          have c13b1 : decide (0 ≤ t208) = true := decide_eq_true c13
          clear c13
          by_cases c14 : t208 ≤ (t205.size : Int)
          rotate_left
          · rw [if_neg c14] at H
            exact absurd H (by simp)
          rw [if_pos c14] at H
          have c14b0 := eq_true c14
          have c14b1 : decide (t208 ≤ (t205.size : Int)) = true := decide_eq_true c14
          clear c14
          by_cases c15 : (t205.extract 0 (t208 : Int).toNat).size + 1 ≤ 9223372036854775807
          rotate_left
          · rw [if_neg c15] at H
            exact absurd H (by simp)
          rw [if_pos c15] at H
          have c15b0 := eq_true c15
          have c15b1 : decide ((t205.extract 0 (t208 : Int).toNat).size + 1 ≤ 9223372036854775807) = true := decide_eq_true c15
          try have c15b2 : (9223372036854775807 < (t205.extract 0 (t208 : Int).toNat).size + 1) = False := eq_false (Nat.not_lt.2 c15)
          (try (have c15b3 : (9223372036854775807 < (t208 : Int).toNat + 1) = False := eq_false (Nat.not_lt.2 (by have h_ := c15; have h0_ := of_eq_true (show (t208 ≤ (t205.size : Int)) = True by assumption); simp only [ByteArray.size_append, ByteArray.size_extract] at h_; first | omega | (simp at h_ ⊢; omega) | ((try generalize (strOfNums _).size = z_ at h_ ⊢); have hl_ : ∀ a : Array UInt8, (⟨a⟩ : ByteArray).size = a.size := fun _ => rfl; simp only [hl_] at h_; simp at h_; omega)))))
          by_cases c16 : t208 < (t205.size : Int)
          rotate_left
          · rw [if_neg c16] at H
            exact absurd H (by simp)
          rw [if_pos c16] at H
          have c16b0 : decide (t208 < (t205.size : Int)) = true := decide_eq_true c16
          clear c16
          obtain ⟨ji18, hji18⟩ : ∃ j_ : Int, ((bt t205 t208) / 16) = j_ := ⟨_, rfl⟩
          replace H : (if 0 ≤ (ji18) then (if (ji18) < 16 then (if 0 ≤ (Go.bits .and .u8 (bt t205 t208) 15) then (if (Go.bits .and .u8 (bt t205 t208) 15) < 16 then ((some (([bt (⟨#[48, 49, 50, 51, 52, 53, 54, 55, 56, 57, 65, 66, 67, 68, 69, 70]⟩ : ByteArray) (ji18), bt (⟨#[48, 49, 50, 51, 52, 53, 54, 55, 56, 57, 65, 66, 67, 68, 69, 70]⟩ : ByteArray) (Go.bits .and .u8 (bt t205 t208) 15)] : List Int) : List Int)).bind fun y209 => (if ((t205.extract 0 (t208 : Int).toNat) ++ (⟨#[37]⟩ : ByteArray)).size + (strOfNums y209).size ≤ 9223372036854775807 then (if 0 ≤ (wrap64 (t208 + 1)) then (if (wrap64 (t208 + 1)) ≤ (t205.size : Int) then (if (((t205.extract 0 (t208 : Int).toNat) ++ (⟨#[37]⟩ : ByteArray)) ++ (strOfNums y209)).size + (t205.extract ((wrap64 (t208 + 1)) : Int).toNat t205.size).size ≤ 9223372036854775807 then (parapetlaw10_HostCases.l0 kj2 t205 ((((t205.extract 0 (t208 : Int).toNat) ++ (⟨#[37]⟩ : ByteArray)) ++ (strOfNums y209)) ++ (t205.extract ((wrap64 (t208 + 1)) : Int).toNat t205.size)) (⟨#[]⟩ : ByteArray) 0) else (none)) else (none)) else (none)) else (none))) else (none)) else (none)) else (none)) else (none)) = some r := by first | (rw [hji18] at H; exact H) | (simp only [hji18] at H ⊢; exact H)
          (try rw [hji18] at A8)
          (try rw [hji18] at A12)
          by_cases c19 : 0 ≤ (ji18)
          rotate_left
          · rw [if_neg c19] at H
            exact absurd H (by simp)
          rw [if_pos c19] at H
          have c19b0 : decide (0 ≤ (ji18)) = true := decide_eq_true c19
          clear c19
          by_cases c20 : (ji18) < 16
          rotate_left
          · rw [if_neg c20] at H
            exact absurd H (by simp)
          rw [if_pos c20] at H
          have c20b0 : decide ((ji18) < 16) = true := decide_eq_true c20
          clear c20
          by_cases c23 : 0 ≤ (Go.bits .and .u8 (bt t205 t208) 15)
          rotate_left
          · rw [if_neg c23] at H
            exact absurd H (by simp)
          rw [if_pos c23] at H
          have c23b0 : decide (0 ≤ (Go.bits .and .u8 (bt t205 t208) 15)) = true := decide_eq_true c23
          clear c23
          by_cases c24 : (Go.bits .and .u8 (bt t205 t208) 15) < 16
          rotate_left
          · rw [if_neg c24] at H
            exact absurd H (by simp)
          rw [if_pos c24] at H
          have c24b0 : decide ((Go.bits .and .u8 (bt t205 t208) 15) < 16) = true := decide_eq_true c24
          clear c24
          obtain ⟨y209, hy209⟩ : ∃ y_ : List Int, y_ = (([bt (⟨#[48, 49, 50, 51, 52, 53, 54, 55, 56, 57, 65, 66, 67, 68, 69, 70]⟩ : ByteArray) (ji18), bt (⟨#[48, 49, 50, 51, 52, 53, 54, 55, 56, 57, 65, 66, 67, 68, 69, 70]⟩ : ByteArray) (Go.bits .and .u8 (bt t205 t208) 15)] : List Int)) := ⟨_, rfl⟩
          replace H : (if ((t205.extract 0 (t208 : Int).toNat) ++ (⟨#[37]⟩ : ByteArray)).size + (strOfNums y209).size ≤ 9223372036854775807 then (if 0 ≤ (wrap64 (t208 + 1)) then (if (wrap64 (t208 + 1)) ≤ (t205.size : Int) then (if (((t205.extract 0 (t208 : Int).toNat) ++ (⟨#[37]⟩ : ByteArray)) ++ (strOfNums y209)).size + (t205.extract ((wrap64 (t208 + 1)) : Int).toNat t205.size).size ≤ 9223372036854775807 then (parapetlaw10_HostCases.l0 kj2 t205 ((((t205.extract 0 (t208 : Int).toNat) ++ (⟨#[37]⟩ : ByteArray)) ++ (strOfNums y209)) ++ (t205.extract ((wrap64 (t208 + 1)) : Int).toNat t205.size)) (⟨#[]⟩ : ByteArray) 0) else (none)) else (none)) else (none)) else (none)) = some r := by first | (rw [hy209]; with_reducible exact H) | (have H2_ := (Option.bind_some _ _).symm.trans H; rw [hy209]; with_reducible exact H2_) | (have H2_ := (Option.bind_some _ _).symm.trans H; with_reducible exact H2_) | with_reducible exact H | (rw [hy209]; exact H) | exact H
          have Ny209 := Aside0.mk hy209
          clear hy209
          by_cases c26 : ((t205.extract 0 (t208 : Int).toNat) ++ (⟨#[37]⟩ : ByteArray)).size + (strOfNums y209).size ≤ 9223372036854775807
          rotate_left
          · rw [if_neg c26] at H
            exact absurd H (by simp)
          rw [if_pos c26] at H
          have c26b0 := eq_true c26
          have c26b1 : decide (((t205.extract 0 (t208 : Int).toNat) ++ (⟨#[37]⟩ : ByteArray)).size + (strOfNums y209).size ≤ 9223372036854775807) = true := decide_eq_true c26
          try have c26b2 : (9223372036854775807 < ((t205.extract 0 (t208 : Int).toNat) ++ (⟨#[37]⟩ : ByteArray)).size + (strOfNums y209).size) = False := eq_false (Nat.not_lt.2 c26)
          (try (have c26b3 : (9223372036854775807 < (t208 : Int).toNat + 1 + (strOfNums y209).size) = False := eq_false (Nat.not_lt.2 (by have h_ := c26; have h0_ := of_eq_true (show (t208 ≤ (t205.size : Int)) = True by assumption); simp only [ByteArray.size_append, ByteArray.size_extract] at h_; first | omega | (simp at h_ ⊢; omega) | ((try generalize (strOfNums _).size = z_ at h_ ⊢); have hl_ : ∀ a : Array UInt8, (⟨a⟩ : ByteArray).size = a.size := fun _ => rfl; simp only [hl_] at h_; simp at h_; omega)))))
          obtain ⟨ji27, hji27⟩ : ∃ j_ : Int, (wrap64 (t208 + 1)) = j_ := ⟨_, rfl⟩
          replace H : (if 0 ≤ (ji27) then (if (ji27) ≤ (t205.size : Int) then (if (((t205.extract 0 (t208 : Int).toNat) ++ (⟨#[37]⟩ : ByteArray)) ++ (strOfNums y209)).size + (t205.extract ((ji27) : Int).toNat t205.size).size ≤ 9223372036854775807 then (parapetlaw10_HostCases.l0 kj2 t205 ((((t205.extract 0 (t208 : Int).toNat) ++ (⟨#[37]⟩ : ByteArray)) ++ (strOfNums y209)) ++ (t205.extract ((ji27) : Int).toNat t205.size)) (⟨#[]⟩ : ByteArray) 0) else (none)) else (none)) else (none)) = some r := by first | (rw [hji27] at H; exact H) | (simp only [hji27] at H ⊢; exact H)
          (try rw [hji27] at A8)
          (try rw [hji27] at A12)
          have hji27w : (IntKind.i64.wrap (t208 + 1)) = ji27 := (i64_w _).trans hji27
          by_cases c28 : 0 ≤ (ji27)
          rotate_left
          · rw [if_neg c28] at H
            exact absurd H (by simp)
          rw [if_pos c28] at H
          have c28b0 := eq_true c28
          have c28b1 : decide (0 ≤ (ji27)) = true := decide_eq_true c28
          clear c28
          by_cases c29 : (ji27) ≤ (t205.size : Int)
          rotate_left
          · rw [if_neg c29] at H
            exact absurd H (by simp)
          rw [if_pos c29] at H
          have c29b0 := eq_true c29
          have c29b1 : decide ((ji27) ≤ (t205.size : Int)) = true := decide_eq_true c29
          clear c29
          by_cases c30 : (((t205.extract 0 (t208 : Int).toNat) ++ (⟨#[37]⟩ : ByteArray)) ++ (strOfNums y209)).size + (t205.extract ((ji27) : Int).toNat t205.size).size ≤ 9223372036854775807
          rotate_left
          · rw [if_neg c30] at H
            exact absurd H (by simp)
          rw [if_pos c30] at H
          have c30b0 := eq_true c30
          have c30b1 : decide ((((t205.extract 0 (t208 : Int).toNat) ++ (⟨#[37]⟩ : ByteArray)) ++ (strOfNums y209)).size + (t205.extract ((ji27) : Int).toNat t205.size).size ≤ 9223372036854775807) = true := decide_eq_true c30
          try have c30b2 : (9223372036854775807 < (((t205.extract 0 (t208 : Int).toNat) ++ (⟨#[37]⟩ : ByteArray)) ++ (strOfNums y209)).size + (t205.extract ((ji27) : Int).toNat t205.size).size) = False := eq_false (Nat.not_lt.2 c30)
          (try (have c30b3 : (9223372036854775807 < (t208 : Int).toNat + 1 + (strOfNums y209).size + (t205.size - (ji27 : Int).toNat)) = False := eq_false (Nat.not_lt.2 (by have h_ := c30; have h0_ := of_eq_true (show (t208 ≤ (t205.size : Int)) = True by assumption); simp only [ByteArray.size_append, ByteArray.size_extract] at h_; first | omega | (simp at h_ ⊢; omega) | ((try generalize (strOfNums _).size = z_ at h_ ⊢); have hl_ : ∀ a : Array UInt8, (⟨a⟩ : ByteArray).size = a.size := fun _ => rfl; simp only [hl_] at h_; simp at h_; omega)))))
          have H' := Aside0.mk H
          clear H
          try go_wp2_with (first | ((with_reducible refine gate_callee (f := 13) rfl ?_); refine goesL_ (some 27) rfl rfl Tryd.func13 (by kernel_rfl) rfl #[.string a0] rfl (by (try simp only [List.map_toArray, List.map_cons, List.map_nil]); first | done | rfl | (simp only [List.length_drop, List.length_take]; rfl)) ?_; (with_reducible refine (host_Parse.calls kj2 a0 t205 t206 _ A8.out).mono ?_); rintro e w31 ⟨rfl, hb⟩; refine ⟨_, rfl, ?_⟩; have n0_ := Aside0.mk (below_step (by repeat (first | (with_reducible first | exact HB.out | apply below_alloc | apply pw_below_drewN | apply below_drew1) | exact HB.out)) hb); clear HB; have HB := n0_; clear n0_; (try clear hb); (try clear hb2); (try clear hk); (try clear hi)) | ((with_reducible refine gate_callee (f := 11) rfl ?_); refine goesL_ (some 43) rfl rfl Tryd.func11 (by kernel_rfl) rfl #[.int .i64 a1, .int .i64 (t205.size : Int)] rfl (by (try simp only [List.map_toArray, List.map_cons, List.map_nil]); first | done | rfl | (simp only [List.length_drop, List.length_take]; rfl)) ?_; (with_reducible refine (parapetalike_Round.calls a1 (t205.size : Int) t208 _ A12.out).mono ?_); rintro e w' ⟨rfl, ⟨nd, rfl⟩⟩; refine ⟨_, rfl, ?_⟩))
          (try (rw [drewN_self w31]; generalize hq_ : World.drewN w31 _ = w31; have n0_ : Aside0 (Below w.heap.size w w31) := ⟨by rw [← hq_]; exact (by repeat (first | (with_reducible first | exact HB.out | apply below_alloc | apply pw_below_drewN | apply below_drew1) | exact HB.out))⟩; clear HB hq_; have HB := n0_; clear n0_))
          have n0_ := Aside0.mk (below_drew1 HB.out)
          clear HB
          have HB := n0_
          clear n0_
          have p17 : 0 ≤ (t208 : Int) := of_decide_eq_true (by first | (with_reducible assumption) | assumption)
          have q17 : t208 < (t205.size : Int) := of_decide_eq_true (by first | (with_reducible assumption) | assumption)
          have hx17 := bt_at t205 t208
          replace p17 := eq_true p17
          replace q17 := eq_true q17
          have p21 : 0 ≤ ((ji18) : Int) := of_decide_eq_true (by first | (with_reducible assumption) | assumption)
          have q21 : (ji18) < (16 : Int) := of_decide_eq_true (by first | (with_reducible assumption) | assumption)
          have hx21 := bt_at (⟨#[48, 49, 50, 51, 52, 53, 54, 55, 56, 57, 65, 66, 67, 68, 69, 70]⟩ : ByteArray) (ji18)
          replace p21 := eq_true p21
          replace q21 := eq_true q21
          have p22 : 0 ≤ (t208 : Int) := of_decide_eq_true (by first | (with_reducible assumption) | assumption)
          have q22 : t208 < (t205.size : Int) := of_decide_eq_true (by first | (with_reducible assumption) | assumption)
          have hx22 := bt_at t205 t208
          replace p22 := eq_true p22
          replace q22 := eq_true q22
          have p25 : 0 ≤ ((Go.bits .and .u8 (bt t205 t208) 15) : Int) := of_decide_eq_true (by first | (with_reducible assumption) | assumption)
          have q25 : (Go.bits .and .u8 (bt t205 t208) 15) < (16 : Int) := of_decide_eq_true (by first | (with_reducible assumption) | assumption)
          have hx25 := bt_at (⟨#[48, 49, 50, 51, 52, 53, 54, 55, 56, 57, 65, 66, 67, 68, 69, 70]⟩ : ByteArray) (Go.bits .and .u8 (bt t205 t208) 15)
          replace p25 := eq_true p25
          replace q25 := eq_true q25
          refine start_ (n := 25) (S := fun w' => True) (ds := []) #[false, false, false, false, false, false, false, false, false, false, false, false, false, false, false, false, false, false, false, false, false, false, false, false, false] (by kernel_rfl) rfl rfl trivial (fun hHeld => ?_); refine with_tabW parapetlaw10_HostCases.tab10 parapetlaw10_HostCases.bits10 (fun HT_ HW_ => ?_)
          generalize w31.drew = w32 at HB hHeld ⊢
          refine pure_ (i := 0) (N := some 44) (v := ?_) (a' := ?_) #[true, false, false, false, false, false, false, false, false, false, false, false, false, false, false, false, false, false, false, false, false, false, false, false, false] rfl rfl (any_of HT_.out (by kernel_rfl)) (fun _ _ _ h => h) (Or.inl ⟨by rfl, ?_⟩) ?_ ?_
          rotate_left
          · intro w'
            go_simp
            with_reducible rfl
          rotate_left
          · simp only [Act.put, List.setIfInBounds_toArray, List.set_cons_zero, List.set_cons_succ, i64_w, i32_w]
            rfl
          refine pure_ (i := 1) (N := some 45) (v := ?_) (a' := ?_) #[true, true, false, false, false, false, false, false, false, false, false, false, false, false, false, false, false, false, false, false, false, false, false, false, false] rfl rfl (any_of HT_.out (by kernel_rfl)) (fun _ _ _ h => h) (Or.inl ⟨by rfl, ?_⟩) ?_ ?_
          rotate_left
          · intro w'
            go_simp
            with_reducible rfl
          rotate_left
          · simp only [Act.put, List.setIfInBounds_toArray, List.set_cons_zero, List.set_cons_succ, i64_w, i32_w]
            rfl
          refine pure_ (i := 2) (N := some 46) (v := ?_) (a' := ?_) #[true, true, true, false, false, false, false, false, false, false, false, false, false, false, false, false, false, false, false, false, false, false, false, false, false] rfl rfl (any_of HT_.out (by kernel_rfl)) (fun _ _ _ h => h) (Or.inl ⟨by rfl, ?_⟩) ?_ ?_
          rotate_left
          · intro w'
            go_simp
            with_reducible rfl
          rotate_left
          · simp only [Act.put, List.setIfInBounds_toArray, List.set_cons_zero, List.set_cons_succ, i64_w, i32_w]
            rfl
          refine pure_ (i := 3) (N := some 47) (v := ?_) (a' := ?_) #[true, true, true, true, false, false, false, false, false, false, false, false, false, false, false, false, false, false, false, false, false, false, false, false, false] rfl rfl (any_of HT_.out (by kernel_rfl)) (fun _ _ _ h => h) (Or.inl ⟨by rfl, ?_⟩) ?_ ?_
          rotate_left
          · intro w'
            go_simp
            with_reducible rfl
          rotate_left
          · simp only [Act.put, List.setIfInBounds_toArray, List.set_cons_zero, List.set_cons_succ, i64_w, i32_w]
            rfl
          refine pure_ (i := 4) (N := some 48) (v := ?_) (a' := ?_) #[true, true, true, true, true, false, false, false, false, false, false, false, false, false, false, false, false, false, false, false, false, false, false, false, false] rfl rfl (any_of HT_.out (by kernel_rfl)) (fun _ _ _ h => h) (Or.inl ⟨by rfl, ?_⟩) ?_ ?_
          rotate_left
          · intro w'
            go_simp
            with_reducible rfl
          rotate_left
          · simp only [Act.put, List.setIfInBounds_toArray, List.set_cons_zero, List.set_cons_succ, i64_w, i32_w]
            rfl
          refine pure_ (i := 5) (N := some 49) (v := ?_) (a' := ?_) #[true, true, true, true, true, true, false, false, false, false, false, false, false, false, false, false, false, false, false, false, false, false, false, false, false] rfl rfl (any_of HT_.out (by kernel_rfl)) (fun _ _ _ h => h) (Or.inl ⟨by rfl, ?_⟩) ?_ ?_
          rotate_left
          · intro w'
            go_simp
            with_reducible rfl
          rotate_left
          · simp only [Act.put, List.setIfInBounds_toArray, List.set_cons_zero, List.set_cons_succ, i64_w, i32_w]
            rfl
          refine pure_ (i := 6) (N := some 50) (v := ?_) (a' := ?_) #[true, true, true, true, true, true, true, false, false, false, false, false, false, false, false, false, false, false, false, false, false, false, false, false, false] rfl rfl (any_of HT_.out (by kernel_rfl)) (fun _ _ _ h => h) (Or.inl ⟨by rfl, ?_⟩) ?_ ?_
          rotate_left
          · intro w'
            go_simp
            with_reducible rfl
          rotate_left
          · simp only [Act.put, List.setIfInBounds_toArray, List.set_cons_zero, List.set_cons_succ, i64_w, i32_w]
            rfl
          refine pure_ (i := 10) (N := some 54) (v := ?_) (a' := ?_) #[true, true, true, true, true, true, true, false, false, false, true, false, false, false, false, false, false, false, false, false, false, false, false, false, false] rfl rfl (any_of HT_.out (by kernel_rfl)) (fun _ _ _ h => h) (Or.inl ⟨by rfl, ?_⟩) ?_ ?_
          rotate_left
          · intro w'
            go_simp
            with_reducible rfl
          rotate_left
          · simp only [Act.put, List.setIfInBounds_toArray, List.set_cons_zero, List.set_cons_succ, i64_w, i32_w]
            rfl
          refine pure_ (i := 11) (N := some 55) (v := ?_) (a' := ?_) #[true, true, true, true, true, true, true, false, false, false, true, true, false, false, false, false, false, false, false, false, false, false, false, false, false] rfl rfl (any_of HT_.out (by kernel_rfl)) (fun _ _ _ h => h) (Or.inl ⟨by rfl, ?_⟩) ?_ ?_
          rotate_left
          · intro w'
            go_simp
            with_reducible rfl
          rotate_left
          · simp only [Act.put, List.setIfInBounds_toArray, List.set_cons_zero, List.set_cons_succ, i64_w, i32_w]
            rfl
          refine pure_ (i := 12) (N := some 56) (v := ?_) (a' := ?_) #[true, true, true, true, true, true, true, false, false, false, true, true, true, false, false, false, false, false, false, false, false, false, false, false, false] rfl rfl (any_of HT_.out (by kernel_rfl)) (fun _ _ _ h => h) (Or.inl ⟨by rfl, ?_⟩) ?_ ?_
          rotate_left
          · intro w'
            go_simp
            with_reducible rfl
          rotate_left
          · simp only [Act.put, List.setIfInBounds_toArray, List.set_cons_zero, List.set_cons_succ, i64_w, i32_w]
            rfl
          refine pure_ (i := 19) (N := some 63) (v := ?_) (a' := ?_) #[true, true, true, true, true, true, true, false, false, false, true, true, true, false, false, false, false, false, false, true, false, false, false, false, false] rfl rfl (any_of HT_.out (by kernel_rfl)) (fun _ _ _ h => h) (Or.inl ⟨by rfl, ?_⟩) ?_ ?_
          rotate_left
          · intro w'
            go_simp
            with_reducible rfl
          rotate_left
          · simp only [Act.put, List.setIfInBounds_toArray, List.set_cons_zero, List.set_cons_succ, i64_w, i32_w]
            rfl
          refine pure_ (i := 20) (N := some 64) (v := ?_) (a' := ?_) #[true, true, true, true, true, true, true, false, false, false, true, true, true, false, false, false, false, false, false, true, true, false, false, false, false] rfl rfl (any_of HT_.out (by kernel_rfl)) (fun _ _ _ h => h) (Or.inl ⟨by rfl, ?_⟩) ?_ ?_
          rotate_left
          · intro w'
            go_simp
            with_reducible rfl
          rotate_left
          · simp only [Act.put, List.setIfInBounds_toArray, List.set_cons_zero, List.set_cons_succ, i64_w, i32_w]
            rfl
          refine pure_ (i := 21) (N := some 65) (v := ?_) (a' := ?_) #[true, true, true, true, true, true, true, false, false, false, true, true, true, false, false, false, false, false, false, true, true, true, false, false, false] rfl rfl (any_of HT_.out (by kernel_rfl)) (fun _ _ _ h => h) (Or.inl ⟨by rfl, ?_⟩) ?_ ?_
          rotate_left
          · intro w'
            go_simp
            with_reducible rfl
          rotate_left
          · simp only [Act.put, List.setIfInBounds_toArray, List.set_cons_zero, List.set_cons_succ, i64_w, i32_w]
            rfl
          refine pure_ (i := 22) (N := some 66) (v := ?_) (a' := ?_) #[true, true, true, true, true, true, true, false, false, false, true, true, true, false, false, false, false, false, false, true, true, true, true, false, false] rfl rfl (any_of HT_.out (by kernel_rfl)) (fun _ _ _ h => h) (Or.inl ⟨by rfl, ?_⟩) ?_ ?_
          rotate_left
          · intro w'
            go_simp
            with_reducible rfl
          rotate_left
          · simp only [Act.put, List.setIfInBounds_toArray, List.set_cons_zero, List.set_cons_succ, i64_w, i32_w]
            rfl
          refine take_ (i := 7) (N := some 51) (v := ?_) (a' := ?_) #[true, true, true, true, true, true, true, true, false, false, true, true, true, false, false, false, false, false, false, true, true, true, true, false, false] rfl rfl (take_ofW HT_.out HW_.out (by kernel_rfl)) (fun _ _ _ h => h) (Or.inl ⟨by rfl, ?_⟩) hHeld ?_ ?_
          rotate_left
          · intro w' _
            go_simp
            with_reducible rfl
          rotate_left
          · simp only [Act.put, List.setIfInBounds_toArray, List.set_cons_zero, List.set_cons_succ, i64_w, i32_w]
            rfl
          refine pure_ (i := 8) (N := some 52) (v := ?_) (a' := ?_) #[true, true, true, true, true, true, true, true, true, false, true, true, true, false, false, false, false, false, false, true, true, true, true, false, false] rfl rfl (any_of HT_.out (by kernel_rfl)) (fun _ _ _ h => h) (Or.inl ⟨by rfl, ?_⟩) ?_ ?_
          rotate_left
          · intro w'
            go_simp
            with_reducible rfl
          rotate_left
          · simp only [Act.put, List.setIfInBounds_toArray, List.set_cons_zero, List.set_cons_succ, i64_w, i32_w]
            rfl
          refine take_ (i := 9) (N := some 53) (v := ?_) (a' := ?_) #[true, true, true, true, true, true, true, true, true, true, true, true, true, false, false, false, false, false, false, true, true, true, true, false, false] rfl rfl (take_ofW HT_.out HW_.out (by kernel_rfl)) (fun _ _ _ h => h) (Or.inl ⟨by rfl, ?_⟩) hHeld ?_ ?_
          rotate_left
          · intro w' _
            go_simp
            with_reducible rfl
          rotate_left
          · simp only [Act.put, List.setIfInBounds_toArray, List.set_cons_zero, List.set_cons_succ, i64_w, i32_w]
            rfl
          refine take_ (i := 13) (N := some 57) (v := ?_) (a' := ?_) #[true, true, true, true, true, true, true, true, true, true, true, true, true, true, false, false, false, false, false, true, true, true, true, false, false] rfl rfl (take_ofW HT_.out HW_.out (by kernel_rfl)) (fun _ _ _ h => h) (Or.inl ⟨by rfl, ?_⟩) hHeld ?_ ?_
          rotate_left
          · intro w' _
            go_simp
            with_reducible rfl
          rotate_left
          · simp only [Act.put, List.setIfInBounds_toArray, List.set_cons_zero, List.set_cons_succ, i64_w, i32_w]
            rfl
          refine pure_ (i := 14) (N := some 58) (v := ?_) (a' := ?_) #[true, true, true, true, true, true, true, true, true, true, true, true, true, true, true, false, false, false, false, true, true, true, true, false, false] rfl rfl (any_of HT_.out (by kernel_rfl)) (fun _ _ _ h => h) (Or.inl ⟨by rfl, ?_⟩) ?_ ?_
          rotate_left
          · intro w'
            go_simp
            with_reducible rfl
          rotate_left
          · simp only [Act.put, List.setIfInBounds_toArray, List.set_cons_zero, List.set_cons_succ, i64_w, i32_w]
            rfl
          refine take_ (i := 15) (N := some 59) (v := ?_) (a' := ?_) #[true, true, true, true, true, true, true, true, true, true, true, true, true, true, true, true, false, false, false, true, true, true, true, false, false] rfl rfl (take_ofW HT_.out HW_.out (by kernel_rfl)) (fun _ _ _ h => h) (Or.inl ⟨by rfl, ?_⟩) hHeld ?_ ?_
          rotate_left
          · intro w' _
            go_simp
            with_reducible rfl
          rotate_left
          · simp only [Act.put, List.setIfInBounds_toArray, List.set_cons_zero, List.set_cons_succ, i64_w, i32_w]
            rfl
          refine one_ (i := 16) (N := some 60) #[true, true, true, true, true, true, true, true, true, true, true, true, true, true, true, true, true, false, false, true, true, true, true, false, false] rfl rfl (one_of HT_.out (by kernel_rfl)) (by decide) (fun K hK => ?_)
          refine Kd.R_lit_step (Kd.int .u8) _ 5 ?hg (N := 60) ?hd (xs := ([bt (⟨#[48, 49, 50, 51, 52, 53, 54, 55, 56, 57, 65, 66, 67, 68, 69, 70]⟩ : ByteArray) (ji18), bt (⟨#[48, 49, 50, 51, 52, 53, 54, 55, 56, 57, 65, 66, 67, 68, 69, 70]⟩ : ByteArray) (Go.bits .and .u8 (bt t205 t208) 15)] : List Int)) (inner := [.int .u8 (bt (⟨#[48, 49, 50, 51, 52, 53, 54, 55, 56, 57, 65, 66, 67, 68, 69, 70]⟩ : ByteArray) (ji18)), .int .u8 (bt (⟨#[48, 49, 50, 51, 52, 53, 54, 55, 56, 57, 65, 66, 67, 68, 69, 70]⟩ : ByteArray) (Go.bits .and .u8 (bt t205 t208) 15))]) (ok := fun _ => True) (okp := fun _ => True) ?hr ?hp (fun _ hk => hk) trivial (Below.refl _ _) (Nat.le_refl _) (by simp) ?_; (case hd => rfl); (case hg => rfl); (case hr => first | (go_simp; done) | (go_simp; rfl)); (case hp => exact (Reps.one (show Kd.M (Kd.int .u8) _ _ _ (bt (⟨#[48, 49, 50, 51, 52, 53, 54, 55, 56, 57, 65, 66, 67, 68, 69, 70]⟩ : ByteArray) (ji18)) [.int .u8 (bt (⟨#[48, 49, 50, 51, 52, 53, 54, 55, 56, 57, 65, 66, 67, 68, 69, 70]⟩ : ByteArray) (ji18))] from rfl) (Reps.one (show Kd.M (Kd.int .u8) _ _ _ (bt (⟨#[48, 49, 50, 51, 52, 53, 54, 55, 56, 57, 65, 66, 67, 68, 69, 70]⟩ : ByteArray) (Go.bits .and .u8 (bt t205 t208) 15)) [.int .u8 (bt (⟨#[48, 49, 50, 51, 52, 53, 54, 55, 56, 57, 65, 66, 67, 68, 69, 70]⟩ : ByteArray) (Go.bits .and .u8 (bt t205 t208) 15))] from rfl) (Reps.none _ _))))
          intro v210 w33 ho34 hb hg_ hnew_
          clear hg_ hnew_
          (first | rw [← Ny209.out] at ho34 | (simp only [Int.reduceToNat] at ho34; rw [← Ny209.out] at ho34))
          have n0_ := Aside0.mk (Kd.R_lower ho34 (below_size (by repeat (first | (with_reducible first | exact HB.out | apply below_alloc | apply pw_below_drewN | apply below_drew1) | exact HB.out))))
          have n1_ := Aside0.mk (below_step (by repeat (first | (with_reducible first | exact HB.out | apply below_alloc | apply pw_below_drewN | apply below_drew1) | exact HB.out)) hb)
          clear HB
          have HO211 := n0_
          have HB := n1_
          clear n0_ n1_
          clear hb ho34
          refine hK.out _ _ trivial (fun hHeld => ?_)
          clear hK K
          refine norm_ (a' := ?_) ?_ ?_
          rotate_left
          · show Act.put _ (some 60) _ = _
            simp only [Act.put, List.setIfInBounds_toArray, List.set_cons_zero, List.set_cons_succ, i64_w, i32_w]
            rfl
          refine one_ (i := 17) (N := some 61) #[true, true, true, true, true, true, true, true, true, true, true, true, true, true, true, true, true, true, false, true, true, true, true, false, false] rfl rfl (one_of HT_.out (by kernel_rfl)) (by decide) (fun K hK => ?_)
          have hcv35 := own_string (P := Tryd.prog) Tryd.underlying23 Tryd.underlying5 Tryd.underlying9 (Kd.own_of_R HO211.out)
          refine value_ (w1 := ?_) (v := ?_) (by rfl) rfl ?_ ?_
          rotate_left 2
          · go_simp
            constructor
            · rfl
            · rfl
          clear hcv35
          refine hK.out _ _ trivial (fun hHeld => ?_)
          clear hK K
          refine norm_ (a' := ?_) ?_ ?_
          rotate_left
          · show Act.put _ (some 61) _ = _
            simp only [Act.put, List.setIfInBounds_toArray, List.set_cons_zero, List.set_cons_succ, i64_w, i32_w]
            rfl
          refine pure_ (i := 18) (N := some 62) (v := ?_) (a' := ?_) #[true, true, true, true, true, true, true, true, true, true, true, true, true, true, true, true, true, true, true, true, true, true, true, false, false] rfl rfl (any_of HT_.out (by kernel_rfl)) (fun _ _ _ h => h) (Or.inl ⟨by rfl, ?_⟩) ?_ ?_
          rotate_left
          · intro w'
            go_simp
            with_reducible rfl
          rotate_left
          · simp only [Act.put, List.setIfInBounds_toArray, List.set_cons_zero, List.set_cons_succ, i64_w, i32_w]
            rfl
          refine pure_ (i := 23) (N := some 67) (v := ?_) (a' := ?_) #[true, true, true, true, true, true, true, true, true, true, true, true, true, true, true, true, true, true, true, true, true, true, true, true, false] rfl rfl (any_of HT_.out (by kernel_rfl)) (fun _ _ _ h => h) (Or.inl ⟨by rfl, ?_⟩) ?_ ?_
          rotate_left
          · intro w'
            go_simp
            with_reducible rfl
          rotate_left
          · simp only [Act.put, List.setIfInBounds_toArray, List.set_cons_zero, List.set_cons_succ, i64_w, i32_w]
            rfl
          refine pure_ (i := 24) (N := some 8) (v := ?_) (a' := ?_) #[true, true, true, true, true, true, true, true, true, true, true, true, true, true, true, true, true, true, true, true, true, true, true, true, true] rfl rfl (any_of HT_.out (by kernel_rfl)) (fun _ _ _ h => h) (Or.inl ⟨by rfl, ?_⟩) ?_ ?_
          rotate_left
          · intro w'
            go_simp
            with_reducible rfl
          rotate_left
          · simp only [Act.put, List.setIfInBounds_toArray, List.set_cons_zero, List.set_cons_succ, i64_w, i32_w]
            rfl
          refine done_ (done_of HT_.out (by kernel_rfl)) ?_
          try go_wp2
          go_loopg [9, 10] kj2 (fun kq v9 v10 w' => ∃ (x9_2 : ByteArray) (x10_2 : Int), v9 = .string x9_2 ∧ v10 = .int .i64 x10_2 ∧ Aside0 (parapetlaw10_HostCases.l0 kq t205 ((((t205.extract 0 (t208 : Int).toNat) ++ (⟨#[37]⟩ : ByteArray)) ++ (strOfNums y209)) ++ (t205.extract ((ji27) : Int).toNat t205.size)) x9_2 x10_2 = some r) ∧ Aside0 (kq ≤ kj2) ∧ Aside0 (Below w.heap.size w w'))
          case atStart => exact ⟨((⟨#[]⟩ : ByteArray)), (0), (by first | rfl | (simp; done) | (simp [*]; done) | (simp [*] <;> (generalize ByteArray.toList _ = l_; cases l_ <;> rfl))), (by first | rfl | (simp; done) | (simp [*]; done) | (simp [*] <;> (generalize ByteArray.toList _ = l_; cases l_ <;> rfl))), H', ⟨Nat.le_refl _⟩, ⟨by repeat (first | (with_reducible first | exact HB.out | apply below_alloc | apply pw_below_drewN | apply below_drew1) | exact HB.out)⟩⟩
          case round =>
            clear H'
            try clear c1
            try clear p1
            try clear q1
            try clear hx1
            try clear c2
            try clear p2
            try clear q2
            try clear hx2
            try clear c3
            try clear hcv3
            try clear c4
            try clear c4b0
            try clear c4b1
            try clear c5
            try clear p6
            try clear c9
            try clear c9b0
            try clear c9b1
            try clear c10
            try clear c10b0
            try clear c10b1
            try clear c11
            try clear c13
            try clear c13b0
            try clear c13b1
            try clear c14
            try clear c14b0
            try clear c14b1
            try clear c15
            try clear c15b0
            try clear c15b1
            try clear c15b2
            try clear c16
            try clear c16b0
            try clear p17
            try clear q17
            try clear hx17
            try clear c19
            try clear c19b0
            try clear c20
            try clear c20b0
            try clear p21
            try clear q21
            try clear hx21
            try clear p22
            try clear q22
            try clear hx22
            try clear c23
            try clear c23b0
            try clear c24
            try clear c24b0
            try clear p25
            try clear q25
            try clear hx25
            try clear c26
            try clear c26b0
            try clear c26b1
            try clear c26b2
            try clear c28
            try clear c28b0
            try clear c28b1
            try clear c29
            try clear c29b0
            try clear c29b1
            try clear c30
            try clear c30b0
            try clear c30b1
            try clear c30b2
            try clear hcv35
            try clear p17
            try clear p2
            try clear p21
            try clear p22
            try clear p25
            try clear q17
            try clear q21
            try clear q22
            try clear q25
            obtain ⟨x9_2, x10_2, rfl, rfl, HA, HK2, HB⟩ := hrel
            cases gk with
            | zero => exact absurd HA.out (by simp [parapetlaw10_HostCases.l0])
            | succ k2 =>
              have H := HA.out
              clear HA
              simp only [parapetlaw10_HostCases.l0] at H
              by_cases c36 : x10_2 < (t205.size : Int)
              · rw [if_pos c36] at H
                have c36b0 : decide (x10_2 < (t205.size : Int)) = true := decide_eq_true c36
                clear c36
                by_cases c37 : 0 ≤ x10_2
                rotate_left
                · rw [if_neg c37] at H
                  exact absurd H (by simp)
                rw [if_pos c37] at H
                have c37b0 : decide (0 ≤ x10_2) = true := decide_eq_true c37
                clear c37
                by_cases c39 : (bt t205 x10_2) ≥ 97
                · rw [if_pos c39] at H
                  have c39b0 : decide (97 ≤ (bt t205 x10_2)) = true := decide_eq_true c39
                  clear c39
                  by_cases c40 : (bt t205 x10_2) ≤ 122
                  · rw [if_pos c40] at H
                    have c40b0 : decide ((bt t205 x10_2) ≤ 122) = true := decide_eq_true c40
                    clear c40
                    obtain ⟨y212, hy212⟩ : ∃ y_ : List Int, y_ = (([((bt t205 x10_2) - 32) % 256] : List Int)) := ⟨_, rfl⟩
                    replace H : (if x9_2.size + (strOfNums y212).size ≤ 9223372036854775807 then (parapetlaw10_HostCases.l0 k2 t205 ((((t205.extract 0 (t208 : Int).toNat) ++ (⟨#[37]⟩ : ByteArray)) ++ (strOfNums y209)) ++ (t205.extract ((ji27) : Int).toNat t205.size)) (x9_2 ++ (strOfNums y212)) (wrap64 (x10_2 + 1))) else (none)) = some r := by first | (rw [hy212]; with_reducible exact H) | (have H2_ := (Option.bind_some _ _).symm.trans H; rw [hy212]; with_reducible exact H2_) | (have H2_ := (Option.bind_some _ _).symm.trans H; with_reducible exact H2_) | with_reducible exact H | (rw [hy212]; exact H) | exact H
                    have Ny212 := Aside0.mk hy212
                    clear hy212
                    by_cases c41 : x9_2.size + (strOfNums y212).size ≤ 9223372036854775807
                    rotate_left
                    · rw [if_neg c41] at H
                      exact absurd H (by simp)
                    rw [if_pos c41] at H
                    have c41b0 := eq_true c41
                    have c41b1 : decide (x9_2.size + (strOfNums y212).size ≤ 9223372036854775807) = true := decide_eq_true c41
                    try have c41b2 : (9223372036854775807 < x9_2.size + (strOfNums y212).size) = False := eq_false (Nat.not_lt.2 c41)
                    have H' := Aside0.mk H
                    clear H
                    have p38 : 0 ≤ (x10_2 : Int) := of_decide_eq_true (by first | (with_reducible assumption) | assumption)
                    have q38 : x10_2 < (t205.size : Int) := of_decide_eq_true (by first | (with_reducible assumption) | assumption)
                    have hx38 := bt_at t205 x10_2
                    replace p38 := eq_true p38
                    replace q38 := eq_true q38
                    go_wp2_with (first | ((with_reducible refine gate_dst (N := 87) rfl ?_); (try (refine gate_guard (by rfl) ?_; dsimp only)); refine Kd.R_lit (Kd.int .u8) _ 5 ?hg (N := 87) ?hd (xs := ([((bt t205 x10_2) - 32) % 256] : List Int)) (inner := [.int .u8 (((bt t205 x10_2) - 32) % 256)]) (ok := fun _ => True) (okp := fun _ => True) ?hr ?hp (fun _ hk => hk) trivial (Below.refl _ _) (Nat.le_refl _) (by simp) ?_; (case hd => rfl); (case hg => rfl); (case hr => first | (go_simp; done) | (go_simp; rfl)); (case hp => exact (Reps.one (show Kd.M (Kd.int .u8) _ _ _ (((bt t205 x10_2) - 32) % 256) [.int .u8 (((bt t205 x10_2) - 32) % 256)] from rfl) (Reps.none _ _))); intro v213 w42 ho43 hb hg_ hnew_; clear hg_ hnew_; (first | rw [← Ny212.out] at ho43 | (simp only [Int.reduceToNat] at ho43; rw [← Ny212.out] at ho43)); have n0_ := Aside0.mk (Kd.R_lower ho43 (below_size (by repeat (first | (with_reducible first | exact HB.out | apply below_alloc | apply pw_below_drewN | apply below_drew1) | exact HB.out)))); have n1_ := Aside0.mk (below_step (by repeat (first | (with_reducible first | exact HB.out | apply below_alloc | apply pw_below_drewN | apply below_drew1) | exact HB.out)) hb); clear HB; have HO214 := n0_; have HB := n1_; clear n0_ n1_; clear hb ho43; have hcv44 := own_string (P := Tryd.prog) Tryd.underlying23 Tryd.underlying5 Tryd.underlying9 (Kd.own_of_R HO214.out)))
                    go_roundg k2
                    case measure => have := HJ2.out; have := HK2.out; omega
                    case rel => exact ⟨(x9_2 ++ (strOfNums y212)), (wrap64 (x10_2 + 1)), (by first | rfl | (simp; done) | (simp [*]; done) | (simp [*] <;> (generalize ByteArray.toList _ = l_; cases l_ <;> rfl))), (by first | rfl | (simp; done) | (simp [*]; done) | (simp [*] <;> (generalize ByteArray.toList _ = l_; cases l_ <;> rfl))), H', ⟨by have := HJ2.out; have := HK2.out; omega⟩, ⟨by repeat (first | (with_reducible first | exact HB.out | apply below_alloc | apply pw_below_drewN | apply below_drew1) | exact HB.out)⟩⟩
                  · rw [if_neg c40] at H
                    have c40b0 : decide ((bt t205 x10_2) ≤ 122) = false := decide_eq_false c40
                    clear c40
                    obtain ⟨y215, hy215⟩ : ∃ y_ : List Int, y_ = (([bt t205 x10_2] : List Int)) := ⟨_, rfl⟩
                    replace H : (if x9_2.size + (strOfNums y215).size ≤ 9223372036854775807 then (parapetlaw10_HostCases.l0 k2 t205 ((((t205.extract 0 (t208 : Int).toNat) ++ (⟨#[37]⟩ : ByteArray)) ++ (strOfNums y209)) ++ (t205.extract ((ji27) : Int).toNat t205.size)) (x9_2 ++ (strOfNums y215)) (wrap64 (x10_2 + 1))) else (none)) = some r := by first | (rw [hy215]; with_reducible exact H) | (have H2_ := (Option.bind_some _ _).symm.trans H; rw [hy215]; with_reducible exact H2_) | (have H2_ := (Option.bind_some _ _).symm.trans H; with_reducible exact H2_) | with_reducible exact H | (rw [hy215]; exact H) | exact H
                    have Ny215 := Aside0.mk hy215
                    clear hy215
                    by_cases c45 : x9_2.size + (strOfNums y215).size ≤ 9223372036854775807
                    rotate_left
                    · rw [if_neg c45] at H
                      exact absurd H (by simp)
                    rw [if_pos c45] at H
                    have c45b0 := eq_true c45
                    have c45b1 : decide (x9_2.size + (strOfNums y215).size ≤ 9223372036854775807) = true := decide_eq_true c45
                    try have c45b2 : (9223372036854775807 < x9_2.size + (strOfNums y215).size) = False := eq_false (Nat.not_lt.2 c45)
                    have H' := Aside0.mk H
                    clear H
                    have p38 : 0 ≤ (x10_2 : Int) := of_decide_eq_true (by first | (with_reducible assumption) | assumption)
                    have q38 : x10_2 < (t205.size : Int) := of_decide_eq_true (by first | (with_reducible assumption) | assumption)
                    have hx38 := bt_at t205 x10_2
                    replace p38 := eq_true p38
                    replace q38 := eq_true q38
                    go_wp2_with (first | ((with_reducible refine gate_dst (N := 87) rfl ?_); (try (refine gate_guard (by rfl) ?_; dsimp only)); refine Kd.R_lit (Kd.int .u8) _ 5 ?hg (N := 87) ?hd (xs := ([bt t205 x10_2] : List Int)) (inner := [.int .u8 (bt t205 x10_2)]) (ok := fun _ => True) (okp := fun _ => True) ?hr ?hp (fun _ hk => hk) trivial (Below.refl _ _) (Nat.le_refl _) (by simp) ?_; (case hd => rfl); (case hg => rfl); (case hr => first | (go_simp; done) | (go_simp; rfl)); (case hp => exact (Reps.one (show Kd.M (Kd.int .u8) _ _ _ (bt t205 x10_2) [.int .u8 (bt t205 x10_2)] from rfl) (Reps.none _ _))); intro v216 w46 ho47 hb hg_ hnew_; clear hg_ hnew_; (first | rw [← Ny215.out] at ho47 | (simp only [Int.reduceToNat] at ho47; rw [← Ny215.out] at ho47)); have n0_ := Aside0.mk (Kd.R_lower ho47 (below_size (by repeat (first | (with_reducible first | exact HB.out | apply below_alloc | apply pw_below_drewN | apply below_drew1) | exact HB.out)))); have n1_ := Aside0.mk (below_step (by repeat (first | (with_reducible first | exact HB.out | apply below_alloc | apply pw_below_drewN | apply below_drew1) | exact HB.out)) hb); clear HB; have HO217 := n0_; have HB := n1_; clear n0_ n1_; clear hb ho47; have hcv48 := own_string (P := Tryd.prog) Tryd.underlying23 Tryd.underlying5 Tryd.underlying9 (Kd.own_of_R HO217.out)))
                    go_roundg k2
                    case measure => have := HJ2.out; have := HK2.out; omega
                    case rel => exact ⟨(x9_2 ++ (strOfNums y215)), (wrap64 (x10_2 + 1)), (by first | rfl | (simp; done) | (simp [*]; done) | (simp [*] <;> (generalize ByteArray.toList _ = l_; cases l_ <;> rfl))), (by first | rfl | (simp; done) | (simp [*]; done) | (simp [*] <;> (generalize ByteArray.toList _ = l_; cases l_ <;> rfl))), H', ⟨by have := HJ2.out; have := HK2.out; omega⟩, ⟨by repeat (first | (with_reducible first | exact HB.out | apply below_alloc | apply pw_below_drewN | apply below_drew1) | exact HB.out)⟩⟩
                · rw [if_neg c39] at H
                  have c39b0 : decide (97 ≤ (bt t205 x10_2)) = false := decide_eq_false c39
                  clear c39
                  obtain ⟨y218, hy218⟩ : ∃ y_ : List Int, y_ = (([bt t205 x10_2] : List Int)) := ⟨_, rfl⟩
                  replace H : (if x9_2.size + (strOfNums y218).size ≤ 9223372036854775807 then (parapetlaw10_HostCases.l0 k2 t205 ((((t205.extract 0 (t208 : Int).toNat) ++ (⟨#[37]⟩ : ByteArray)) ++ (strOfNums y209)) ++ (t205.extract ((ji27) : Int).toNat t205.size)) (x9_2 ++ (strOfNums y218)) (wrap64 (x10_2 + 1))) else (none)) = some r := by first | (rw [hy218]; with_reducible exact H) | (have H2_ := (Option.bind_some _ _).symm.trans H; rw [hy218]; with_reducible exact H2_) | (have H2_ := (Option.bind_some _ _).symm.trans H; with_reducible exact H2_) | with_reducible exact H | (rw [hy218]; exact H) | exact H
                  have Ny218 := Aside0.mk hy218
                  clear hy218
                  by_cases c49 : x9_2.size + (strOfNums y218).size ≤ 9223372036854775807
                  rotate_left
                  · rw [if_neg c49] at H
                    exact absurd H (by simp)
                  rw [if_pos c49] at H
                  have c49b0 := eq_true c49
                  have c49b1 : decide (x9_2.size + (strOfNums y218).size ≤ 9223372036854775807) = true := decide_eq_true c49
                  try have c49b2 : (9223372036854775807 < x9_2.size + (strOfNums y218).size) = False := eq_false (Nat.not_lt.2 c49)
                  have H' := Aside0.mk H
                  clear H
                  have p38 : 0 ≤ (x10_2 : Int) := of_decide_eq_true (by first | (with_reducible assumption) | assumption)
                  have q38 : x10_2 < (t205.size : Int) := of_decide_eq_true (by first | (with_reducible assumption) | assumption)
                  have hx38 := bt_at t205 x10_2
                  replace p38 := eq_true p38
                  replace q38 := eq_true q38
                  go_wp2_with (first | ((with_reducible refine gate_dst (N := 87) rfl ?_); (try (refine gate_guard (by rfl) ?_; dsimp only)); refine Kd.R_lit (Kd.int .u8) _ 5 ?hg (N := 87) ?hd (xs := ([bt t205 x10_2] : List Int)) (inner := [.int .u8 (bt t205 x10_2)]) (ok := fun _ => True) (okp := fun _ => True) ?hr ?hp (fun _ hk => hk) trivial (Below.refl _ _) (Nat.le_refl _) (by simp) ?_; (case hd => rfl); (case hg => rfl); (case hr => first | (go_simp; done) | (go_simp; rfl)); (case hp => exact (Reps.one (show Kd.M (Kd.int .u8) _ _ _ (bt t205 x10_2) [.int .u8 (bt t205 x10_2)] from rfl) (Reps.none _ _))); intro v219 w50 ho51 hb hg_ hnew_; clear hg_ hnew_; (first | rw [← Ny218.out] at ho51 | (simp only [Int.reduceToNat] at ho51; rw [← Ny218.out] at ho51)); have n0_ := Aside0.mk (Kd.R_lower ho51 (below_size (by repeat (first | (with_reducible first | exact HB.out | apply below_alloc | apply pw_below_drewN | apply below_drew1) | exact HB.out)))); have n1_ := Aside0.mk (below_step (by repeat (first | (with_reducible first | exact HB.out | apply below_alloc | apply pw_below_drewN | apply below_drew1) | exact HB.out)) hb); clear HB; have HO220 := n0_; have HB := n1_; clear n0_ n1_; clear hb ho51; have hcv52 := own_string (P := Tryd.prog) Tryd.underlying23 Tryd.underlying5 Tryd.underlying9 (Kd.own_of_R HO220.out)))
                  go_roundg k2
                  case measure => have := HJ2.out; have := HK2.out; omega
                  case rel => exact ⟨(x9_2 ++ (strOfNums y218)), (wrap64 (x10_2 + 1)), (by first | rfl | (simp; done) | (simp [*]; done) | (simp [*] <;> (generalize ByteArray.toList _ = l_; cases l_ <;> rfl))), (by first | rfl | (simp; done) | (simp [*]; done) | (simp [*] <;> (generalize ByteArray.toList _ = l_; cases l_ <;> rfl))), H', ⟨by have := HJ2.out; have := HK2.out; omega⟩, ⟨by repeat (first | (with_reducible first | exact HB.out | apply below_alloc | apply pw_below_drewN | apply below_drew1) | exact HB.out)⟩⟩
              · rw [if_neg c36] at H
                have c36b0 : decide (x10_2 < (t205.size : Int)) = false := decide_eq_false c36
                clear c36
                replace H := Option.bind_eq_some_iff.mp H
                obtain ⟨⟨t221, t222⟩, A530, H⟩ := H
                replace H : ((host_Parse.f k2 x9_2).bind fun bt223 => (if t222 = 0 then (if t221.toList = t205.toList then (if bt223.2 = 0 then (if bt223.1.toList = t205.toList then ((parapetlaw10_awake.f k2).bind fun t225 => (some t225)) else (some false)) else (some false)) else (some false)) else (some false))) = some r := H
                have A53 := Aside0.mk A530
                clear A530
                replace H := Option.bind_eq_some_iff.mp H
                obtain ⟨⟨t223, t224⟩, A540, H⟩ := H
                replace H : (if t222 = 0 then (if t221.toList = t205.toList then (if t224 = 0 then (if t223.toList = t205.toList then ((parapetlaw10_awake.f k2).bind fun t225 => (some t225)) else (some false)) else (some false)) else (some false)) else (some false)) = some r := H
                have A54 := Aside0.mk A540
                clear A540
                by_cases c55 : t222 = 0
                rotate_left
                · rw [if_neg c55] at H
                  have c55b0 : (t222 == 0) = false := beq_eq_false_iff_ne.mpr c55
                  have c55b1 : (t222 != 0) = true := bne_iff_ne.mpr c55
                  obtain rfl := Option.some.inj H
                  go_wp2_with (first | ((with_reducible refine gate_callee (f := 13) rfl ?_); refine goesL_ (some 92) rfl rfl Tryd.func13 (by kernel_rfl) rfl #[.string ((((t205.extract 0 (t208 : Int).toNat) ++ (⟨#[37]⟩ : ByteArray)) ++ (strOfNums y209)) ++ (t205.extract ((ji27) : Int).toNat t205.size))] rfl (by (try simp only [List.map_toArray, List.map_cons, List.map_nil]); first | done | (simp only [hji27]; rfl) | rfl | (simp only [List.length_drop, List.length_take]; rfl)) ?_; (with_reducible refine (host_Parse.calls k2 ((((t205.extract 0 (t208 : Int).toNat) ++ (⟨#[37]⟩ : ByteArray)) ++ (strOfNums y209)) ++ (t205.extract ((ji27) : Int).toNat t205.size)) t221 t222 _ A53.out).mono ?_); rintro e w69 ⟨rfl, hb⟩; refine ⟨_, rfl, ?_⟩; have n0_ := Aside0.mk (below_step (by repeat (first | (with_reducible first | exact HB.out | apply below_alloc | apply pw_below_drewN | apply below_drew1) | exact HB.out)) hb); clear HB; have HB := n0_; clear n0_; (try clear hb); (try clear hb2); (try clear hk); (try clear hi)) | ((with_reducible refine gate_callee (f := 13) rfl ?_); refine goesL_ (some 97) rfl rfl Tryd.func13 (by kernel_rfl) rfl #[.string x9_2] rfl (by (try simp only [List.map_toArray, List.map_cons, List.map_nil]); first | done | rfl | (simp only [List.length_drop, List.length_take]; rfl)) ?_; (with_reducible refine (host_Parse.calls k2 x9_2 t223 t224 _ A54.out).mono ?_); rintro e w70 ⟨rfl, hb⟩; refine ⟨_, rfl, ?_⟩; have n0_ := Aside0.mk (below_step (by repeat (first | (with_reducible first | exact HB.out | apply below_alloc | apply pw_below_drewN | apply below_drew1) | exact HB.out)) hb); clear HB; have HB := n0_; clear n0_; (try clear hb); (try clear hb2); (try clear hk); (try clear hi)))
                  go_ret
                  exact ⟨by first | rfl | (simp [errW_none, errW_some] <;> rfl) | (simp only [← hji18, ← hji27]; first | rfl | (simp [errW_none, errW_some] <;> rfl)) | (simp [*, errW_none, errW_some] <;> rfl), by repeat (first | (with_reducible first | exact HB.out | apply below_alloc | apply pw_below_drewN | apply below_drew1) | exact HB.out)⟩
                rw [if_pos c55] at H
                have c55b0 : (t222 == 0) = true := beq_iff_eq.mpr c55
                have c55b1 : (t222 != 0) = false := bne_eq_false_iff_eq.mpr c55
                clear c55
                by_cases c56 : t221.toList = t205.toList
                rotate_left
                · rw [if_neg c56] at H
                  have c56b0 : (t221.toList == t205.toList) = false := beq_eq_false_iff_ne.mpr c56
                  have c56b1 : (t221.toList != t205.toList) = true := bne_iff_ne.mpr c56
                  obtain rfl := Option.some.inj H
                  go_wp2_with (first | ((with_reducible refine gate_callee (f := 13) rfl ?_); refine goesL_ (some 92) rfl rfl Tryd.func13 (by kernel_rfl) rfl #[.string ((((t205.extract 0 (t208 : Int).toNat) ++ (⟨#[37]⟩ : ByteArray)) ++ (strOfNums y209)) ++ (t205.extract ((ji27) : Int).toNat t205.size))] rfl (by (try simp only [List.map_toArray, List.map_cons, List.map_nil]); first | done | (simp only [hji27]; rfl) | rfl | (simp only [List.length_drop, List.length_take]; rfl)) ?_; (with_reducible refine (host_Parse.calls k2 ((((t205.extract 0 (t208 : Int).toNat) ++ (⟨#[37]⟩ : ByteArray)) ++ (strOfNums y209)) ++ (t205.extract ((ji27) : Int).toNat t205.size)) t221 t222 _ A53.out).mono ?_); rintro e w67 ⟨rfl, hb⟩; refine ⟨_, rfl, ?_⟩; have n0_ := Aside0.mk (below_step (by repeat (first | (with_reducible first | exact HB.out | apply below_alloc | apply pw_below_drewN | apply below_drew1) | exact HB.out)) hb); clear HB; have HB := n0_; clear n0_; (try clear hb); (try clear hb2); (try clear hk); (try clear hi)) | ((with_reducible refine gate_callee (f := 13) rfl ?_); refine goesL_ (some 97) rfl rfl Tryd.func13 (by kernel_rfl) rfl #[.string x9_2] rfl (by (try simp only [List.map_toArray, List.map_cons, List.map_nil]); first | done | rfl | (simp only [List.length_drop, List.length_take]; rfl)) ?_; (with_reducible refine (host_Parse.calls k2 x9_2 t223 t224 _ A54.out).mono ?_); rintro e w68 ⟨rfl, hb⟩; refine ⟨_, rfl, ?_⟩; have n0_ := Aside0.mk (below_step (by repeat (first | (with_reducible first | exact HB.out | apply below_alloc | apply pw_below_drewN | apply below_drew1) | exact HB.out)) hb); clear HB; have HB := n0_; clear n0_; (try clear hb); (try clear hb2); (try clear hk); (try clear hi)))
                  go_ret
                  exact ⟨by first | rfl | (simp [errW_none, errW_some] <;> rfl) | (simp only [← hji18, ← hji27]; first | rfl | (simp [errW_none, errW_some] <;> rfl)) | (simp [*, errW_none, errW_some] <;> rfl), by repeat (first | (with_reducible first | exact HB.out | apply below_alloc | apply pw_below_drewN | apply below_drew1) | exact HB.out)⟩
                rw [if_pos c56] at H
                have c56b0 : (t221.toList == t205.toList) = true := beq_iff_eq.mpr c56
                have c56b1 : (t221.toList != t205.toList) = false := bne_eq_false_iff_eq.mpr c56
                clear c56
                by_cases c57 : t224 = 0
                rotate_left
                · rw [if_neg c57] at H
                  have c57b0 : (t224 == 0) = false := beq_eq_false_iff_ne.mpr c57
                  have c57b1 : (t224 != 0) = true := bne_iff_ne.mpr c57
                  obtain rfl := Option.some.inj H
                  go_wp2_with (first | ((with_reducible refine gate_callee (f := 13) rfl ?_); refine goesL_ (some 92) rfl rfl Tryd.func13 (by kernel_rfl) rfl #[.string ((((t205.extract 0 (t208 : Int).toNat) ++ (⟨#[37]⟩ : ByteArray)) ++ (strOfNums y209)) ++ (t205.extract ((ji27) : Int).toNat t205.size))] rfl (by (try simp only [List.map_toArray, List.map_cons, List.map_nil]); first | done | (simp only [hji27]; rfl) | rfl | (simp only [List.length_drop, List.length_take]; rfl)) ?_; (with_reducible refine (host_Parse.calls k2 ((((t205.extract 0 (t208 : Int).toNat) ++ (⟨#[37]⟩ : ByteArray)) ++ (strOfNums y209)) ++ (t205.extract ((ji27) : Int).toNat t205.size)) t221 t222 _ A53.out).mono ?_); rintro e w65 ⟨rfl, hb⟩; refine ⟨_, rfl, ?_⟩; have n0_ := Aside0.mk (below_step (by repeat (first | (with_reducible first | exact HB.out | apply below_alloc | apply pw_below_drewN | apply below_drew1) | exact HB.out)) hb); clear HB; have HB := n0_; clear n0_; (try clear hb); (try clear hb2); (try clear hk); (try clear hi)) | ((with_reducible refine gate_callee (f := 13) rfl ?_); refine goesL_ (some 97) rfl rfl Tryd.func13 (by kernel_rfl) rfl #[.string x9_2] rfl (by (try simp only [List.map_toArray, List.map_cons, List.map_nil]); first | done | rfl | (simp only [List.length_drop, List.length_take]; rfl)) ?_; (with_reducible refine (host_Parse.calls k2 x9_2 t223 t224 _ A54.out).mono ?_); rintro e w66 ⟨rfl, hb⟩; refine ⟨_, rfl, ?_⟩; have n0_ := Aside0.mk (below_step (by repeat (first | (with_reducible first | exact HB.out | apply below_alloc | apply pw_below_drewN | apply below_drew1) | exact HB.out)) hb); clear HB; have HB := n0_; clear n0_; (try clear hb); (try clear hb2); (try clear hk); (try clear hi)))
                  go_ret
                  exact ⟨by first | rfl | (simp [errW_none, errW_some] <;> rfl) | (simp only [← hji18, ← hji27]; first | rfl | (simp [errW_none, errW_some] <;> rfl)) | (simp [*, errW_none, errW_some] <;> rfl), by repeat (first | (with_reducible first | exact HB.out | apply below_alloc | apply pw_below_drewN | apply below_drew1) | exact HB.out)⟩
                rw [if_pos c57] at H
                have c57b0 : (t224 == 0) = true := beq_iff_eq.mpr c57
                have c57b1 : (t224 != 0) = false := bne_eq_false_iff_eq.mpr c57
                clear c57
                by_cases c58 : t223.toList = t205.toList
                rotate_left
                · rw [if_neg c58] at H
                  have c58b0 : (t223.toList == t205.toList) = false := beq_eq_false_iff_ne.mpr c58
                  have c58b1 : (t223.toList != t205.toList) = true := bne_iff_ne.mpr c58
                  obtain rfl := Option.some.inj H
                  go_wp2_with (first | ((with_reducible refine gate_callee (f := 13) rfl ?_); refine goesL_ (some 92) rfl rfl Tryd.func13 (by kernel_rfl) rfl #[.string ((((t205.extract 0 (t208 : Int).toNat) ++ (⟨#[37]⟩ : ByteArray)) ++ (strOfNums y209)) ++ (t205.extract ((ji27) : Int).toNat t205.size))] rfl (by (try simp only [List.map_toArray, List.map_cons, List.map_nil]); first | done | (simp only [hji27]; rfl) | rfl | (simp only [List.length_drop, List.length_take]; rfl)) ?_; (with_reducible refine (host_Parse.calls k2 ((((t205.extract 0 (t208 : Int).toNat) ++ (⟨#[37]⟩ : ByteArray)) ++ (strOfNums y209)) ++ (t205.extract ((ji27) : Int).toNat t205.size)) t221 t222 _ A53.out).mono ?_); rintro e w63 ⟨rfl, hb⟩; refine ⟨_, rfl, ?_⟩; have n0_ := Aside0.mk (below_step (by repeat (first | (with_reducible first | exact HB.out | apply below_alloc | apply pw_below_drewN | apply below_drew1) | exact HB.out)) hb); clear HB; have HB := n0_; clear n0_; (try clear hb); (try clear hb2); (try clear hk); (try clear hi)) | ((with_reducible refine gate_callee (f := 13) rfl ?_); refine goesL_ (some 97) rfl rfl Tryd.func13 (by kernel_rfl) rfl #[.string x9_2] rfl (by (try simp only [List.map_toArray, List.map_cons, List.map_nil]); first | done | rfl | (simp only [List.length_drop, List.length_take]; rfl)) ?_; (with_reducible refine (host_Parse.calls k2 x9_2 t223 t224 _ A54.out).mono ?_); rintro e w64 ⟨rfl, hb⟩; refine ⟨_, rfl, ?_⟩; have n0_ := Aside0.mk (below_step (by repeat (first | (with_reducible first | exact HB.out | apply below_alloc | apply pw_below_drewN | apply below_drew1) | exact HB.out)) hb); clear HB; have HB := n0_; clear n0_; (try clear hb); (try clear hb2); (try clear hk); (try clear hi)))
                  go_ret
                  exact ⟨by first | rfl | (simp [errW_none, errW_some] <;> rfl) | (simp only [← hji18, ← hji27]; first | rfl | (simp [errW_none, errW_some] <;> rfl)) | (simp [*, errW_none, errW_some] <;> rfl), by repeat (first | (with_reducible first | exact HB.out | apply below_alloc | apply pw_below_drewN | apply below_drew1) | exact HB.out)⟩
                rw [if_pos c58] at H
                have c58b0 : (t223.toList == t205.toList) = true := beq_iff_eq.mpr c58
                have c58b1 : (t223.toList != t205.toList) = false := bne_eq_false_iff_eq.mpr c58
                clear c58
                replace H := Option.bind_eq_some_iff.mp H
                obtain ⟨t225, A590, H⟩ := H
                replace H : (some t225) = some r := H
                have A59 := Aside0.mk A590
                clear A590
                obtain rfl := Option.some.inj H
                go_wp2_with (first | ((with_reducible refine gate_callee (f := 13) rfl ?_); refine goesL_ (some 92) rfl rfl Tryd.func13 (by kernel_rfl) rfl #[.string ((((t205.extract 0 (t208 : Int).toNat) ++ (⟨#[37]⟩ : ByteArray)) ++ (strOfNums y209)) ++ (t205.extract ((ji27) : Int).toNat t205.size))] rfl (by (try simp only [List.map_toArray, List.map_cons, List.map_nil]); first | done | (simp only [hji27]; rfl) | rfl | (simp only [List.length_drop, List.length_take]; rfl)) ?_; (with_reducible refine (host_Parse.calls k2 ((((t205.extract 0 (t208 : Int).toNat) ++ (⟨#[37]⟩ : ByteArray)) ++ (strOfNums y209)) ++ (t205.extract ((ji27) : Int).toNat t205.size)) t221 t222 _ A53.out).mono ?_); rintro e w60 ⟨rfl, hb⟩; refine ⟨_, rfl, ?_⟩; have n0_ := Aside0.mk (below_step (by repeat (first | (with_reducible first | exact HB.out | apply below_alloc | apply pw_below_drewN | apply below_drew1) | exact HB.out)) hb); clear HB; have HB := n0_; clear n0_; (try clear hb); (try clear hb2); (try clear hk); (try clear hi)) | ((with_reducible refine gate_callee (f := 13) rfl ?_); refine goesL_ (some 97) rfl rfl Tryd.func13 (by kernel_rfl) rfl #[.string x9_2] rfl (by (try simp only [List.map_toArray, List.map_cons, List.map_nil]); first | done | rfl | (simp only [List.length_drop, List.length_take]; rfl)) ?_; (with_reducible refine (host_Parse.calls k2 x9_2 t223 t224 _ A54.out).mono ?_); rintro e w61 ⟨rfl, hb⟩; refine ⟨_, rfl, ?_⟩; have n0_ := Aside0.mk (below_step (by repeat (first | (with_reducible first | exact HB.out | apply below_alloc | apply pw_below_drewN | apply below_drew1) | exact HB.out)) hb); clear HB; have HB := n0_; clear n0_; (try clear hb); (try clear hb2); (try clear hk); (try clear hi)) | (go_at_call 15; (with_reducible refine (parapetlaw10_awake.calls k2  t225 _ A59.out).mono ?_); rintro e w62 ⟨rfl, hb⟩; have n0_ := Aside0.mk (below_step (by repeat (first | (with_reducible first | exact HB.out | apply below_alloc | apply pw_below_drewN | apply below_drew1) | exact HB.out)) hb); clear HB; have HB := n0_; clear n0_; (try clear hb); (try clear hb2); (try clear hk); (try clear hi)))
                go_ret
                exact ⟨by first | rfl | (simp [errW_none, errW_some] <;> rfl) | (simp only [← hji18, ← hji27]; first | rfl | (simp [errW_none, errW_some] <;> rfl)) | (simp [*, errW_none, errW_some] <;> rfl), by repeat (first | (with_reducible first | exact HB.out | apply below_alloc | apply pw_below_drewN | apply below_drew1) | exact HB.out)⟩
        · rw [if_neg c9] at H
          have c9b0 : (t206 == 0) = false := beq_eq_false_iff_ne.mpr c9
          have c9b1 : (t206 != 0) = true := bne_iff_ne.mpr c9
          by_cases c71 : t205.toList = ([] : List UInt8)
          rotate_left
          · rw [if_neg c71] at H
            have c71b0 : (t205.toList == ([] : List UInt8)) = false := beq_eq_false_iff_ne.mpr c71
            have c71b1 : (t205.toList != ([] : List UInt8)) = true := bne_iff_ne.mpr c71
            obtain rfl := Option.some.inj H
            go_wp2_with (first | ((with_reducible refine gate_callee (f := 13) rfl ?_); refine goesL_ (some 27) rfl rfl Tryd.func13 (by kernel_rfl) rfl #[.string a0] rfl (by (try simp only [List.map_toArray, List.map_cons, List.map_nil]); first | done | rfl | (simp only [List.length_drop, List.length_take]; rfl)) ?_; (with_reducible refine (host_Parse.calls kj2 a0 t205 t206 _ A8.out).mono ?_); rintro e w75 ⟨rfl, hb⟩; refine ⟨_, rfl, ?_⟩; have n0_ := Aside0.mk (below_step (by repeat (first | (with_reducible first | exact HB.out | apply below_alloc | apply pw_below_drewN | apply below_drew1) | exact HB.out)) hb); clear HB; have HB := n0_; clear n0_; (try clear hb); (try clear hb2); (try clear hk); (try clear hi)))
            go_ret
            exact ⟨by first | rfl | (simp [errW_none, errW_some] <;> rfl) | (simp [*, errW_none, errW_some] <;> rfl), by repeat (first | (with_reducible first | exact HB.out | apply below_alloc | apply pw_below_drewN | apply below_drew1) | exact HB.out)⟩
          rw [if_pos c71] at H
          have c71b0 : (t205.toList == ([] : List UInt8)) = true := beq_iff_eq.mpr c71
          have c71b1 : (t205.toList != ([] : List UInt8)) = false := bne_eq_false_iff_eq.mpr c71
          clear c71
          replace H := Option.bind_eq_some_iff.mp H
          obtain ⟨t207, A720, H⟩ := H
          replace H : (some t207) = some r := H
          have A72 := Aside0.mk A720
          clear A720
          obtain rfl := Option.some.inj H
          go_wp2_with (first | ((with_reducible refine gate_callee (f := 13) rfl ?_); refine goesL_ (some 27) rfl rfl Tryd.func13 (by kernel_rfl) rfl #[.string a0] rfl (by (try simp only [List.map_toArray, List.map_cons, List.map_nil]); first | done | rfl | (simp only [List.length_drop, List.length_take]; rfl)) ?_; (with_reducible refine (host_Parse.calls kj2 a0 t205 t206 _ A8.out).mono ?_); rintro e w73 ⟨rfl, hb⟩; refine ⟨_, rfl, ?_⟩; have n0_ := Aside0.mk (below_step (by repeat (first | (with_reducible first | exact HB.out | apply below_alloc | apply pw_below_drewN | apply below_drew1) | exact HB.out)) hb); clear HB; have HB := n0_; clear n0_; (try clear hb); (try clear hb2); (try clear hk); (try clear hi)) | (go_at_call 15; (with_reducible refine (parapetlaw10_awake.calls kj2  t207 _ A72.out).mono ?_); rintro e w74 ⟨rfl, hb⟩; have n0_ := Aside0.mk (below_step (by repeat (first | (with_reducible first | exact HB.out | apply below_alloc | apply pw_below_drewN | apply below_drew1) | exact HB.out)) hb); clear HB; have HB := n0_; clear n0_; (try clear hb); (try clear hb2); (try clear hk); (try clear hi)))
          go_ret
          exact ⟨by first | rfl | (simp [errW_none, errW_some] <;> rfl) | (simp [*, errW_none, errW_some] <;> rfl), by repeat (first | (with_reducible first | exact HB.out | apply below_alloc | apply pw_below_drewN | apply below_drew1) | exact HB.out)⟩

/-- THE ONE PURE STATEMENT of parapetlaw10_HostCases: yours. -/
def parapetlaw10_HostCases.Pure : Prop := ∀ (a0 : ByteArray) (a1 : Int), a0.size ≤ 140737488351232 → (Lit.int .i64 a1).wf = true → ∃ k, parapetlaw10_HostCases.f k a0 a1 = some true
theorem parapetlaw10_HostCases.walk (P : parapetlaw10_HostCases.Pure) (a0 : ByteArray) (a1 : Int) (w : World) (w0 : a0.size ≤ 140737488351232) (w1 : (Lit.int .i64 a1).wf = true) :
    Calls Tryd.prog 4 #[.string a0, .int .i64 a1] w fun e w' => e = .returned (.bool true) ∧ Below w.heap.size w w' := by
  obtain ⟨k, h⟩ := P a0 a1 w0 w1
  refine (parapetlaw10_HostCases.calls k a0 a1 true w h).mono ?_
  rintro e w' ⟨rfl, hd⟩
  exact ⟨rfl, hd⟩

end Go.Proofs.YtgldmliemeadpaaDoor.PA
