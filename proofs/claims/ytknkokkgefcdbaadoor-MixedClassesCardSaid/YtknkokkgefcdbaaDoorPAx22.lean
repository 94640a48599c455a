-- half
-- written by pp.py, a program of this session's, which runs the kit's print with turns of its own; Lean checks it
import Derived.Test.YtknkokkgefcdbaaDoorBP
import Derived.Test.YtknkokkgefcdbaaDoorPAx0
import Derived.Test.YtknkokkgefcdbaaDoorPAx2
import Derived.Test.YtknkokkgefcdbaaDoorPAx6
import Derived.Test.YtknkokkgefcdbaaDoorPAx10
import Derived.Test.YtknkokkgefcdbaaDoorPAx11
namespace Go.Proofs.YtknkokkgefcdbaaDoor.PA
open Go.RowKit Go.Proofs.YtknkokkgefcdbaaDoorW.PrintWords Go.Proofs.YtknkokkgefcdbaaDoorW.PrintLast Go.Proofs.YtknkokkgefcdbaaDoorW.PrintMore
attribute [local go_sem] max2_int min2_int max_two min_two max_three min_three max_four min_four   -- for this text's walks alone
set_option maxHeartbeats 8000000
set_option maxRecDepth 100000
set_option linter.unusedVariables false
set_option linter.unusedSimpArgs false

attribute [local go_sem high] eqA29
/-! ### parapetref9_IsAddress: function 12 -/
def parapetref9_IsAddress.f (k : Nat) (a0 : ByteArray) : Option (Int × Bool) := (parapetref9_Number.f k a0).bind fun bt348 => (if bt348.2 = true then ((parapetref9_Address.f k bt348.1).bind fun t350 => (if t350.toList = a0.toList then (some (bt348.1, true)) else (some (0, false)))) else (some (0, false)))
theorem parapetref9_IsAddress.mono : ∀ a0 k, LeO (parapetref9_IsAddress.f k a0) (parapetref9_IsAddress.f (k + 1) a0) := by
 intro a0 k
 unfold parapetref9_IsAddress.f
 repeat' first
   | (with_reducible exact parapetref9_Address.mono _ _)
   | (with_reducible exact parapetref9_Number.mono _ _)
   | (with_reducible exact LeO.refl _)
   | (with_reducible exact LeO.none _)
   | (with_reducible refine LeO.ite ?_ ?_)
   | (with_reducible refine LeO.bind ?_ (fun _ => ?_))
   | exact parapetref9_Address.mono _ _
   | exact parapetref9_Number.mono _ _
   | exact LeO.none _
   | refine LeO.ite ?_ ?_
   | refine LeO.bind ?_ (fun _ => ?_)
theorem parapetref9_IsAddress.calls (k : Nat) (a0 : ByteArray) (r1 : Int) (r2 : Bool) (w : World) (h : parapetref9_IsAddress.f k a0 = some (r1, r2)) :
  Calls Tryd.prog 12 #[.string a0] w fun e w' => e = .returned (.tuple #[.int .u32 r1, .bool r2]) ∧ Below w.heap.size w w' := by
 have HB := Aside0.mk (Below.refl w.heap.size w)
 have H : ((parapetref9_Number.f k a0).bind fun bt348 => (if bt348.2 = true then ((parapetref9_Address.f k bt348.1).bind fun t350 => (if t350.toList = a0.toList then (some (bt348.1, true)) else (some (0, false)))) else (some (0, false)))) = some (r1, r2) := h
 clear h
 replace H := Option.bind_eq_some_iff.mp H
 obtain ⟨⟨t348, t349⟩, A20, H⟩ := H
 replace H : (if t349 = true then ((parapetref9_Address.f k t348).bind fun t350 => (if t350.toList = a0.toList then (some (t348, true)) else (some (0, false)))) else (some (0, false))) = some (r1, r2) := H
 have A2 := Aside0.mk A20
 clear A20
 by_cases c3 : t349 = true
 ·subst c3
  have H1 : ((parapetref9_Address.f k t348).bind fun t350 => (if t350.toList = a0.toList then (some (t348, true)) else (some (0, false)))) = some (r1, r2) := by rw [if_pos rfl] at H; exact H
  clear H
  have H := H1
  clear H1
  replace H := Option.bind_eq_some_iff.mp H
  obtain ⟨t350, A40, H⟩ := H
  replace H : (if t350.toList = a0.toList then (some (t348, true)) else (some (0, false))) = some (r1, r2) := H
  have A4 := Aside0.mk A40
  clear A40
  by_cases c5 : t350.toList = a0.toList
  ·rw [if_pos c5] at H
   have c5b0 : (t350.toList == a0.toList) = true := beq_iff_eq.mpr c5
   have c5b1 : (t350.toList != a0.toList) = false := bne_eq_false_iff_eq.mpr c5
   clear c5
   simp only [Option.some.injEq, Prod.mk.injEq] at H
   obtain ⟨rfl, rfl⟩ := H
   go_enter Tryd.func12, Tryd.ntmps12
   go_wp2_with (first | ((with_reducible refine gate_callee (f := 24) rfl ?_); refine goesL_ (some 8) rfl rfl Tryd.func24 (by kernel_rfl) rfl #[.string a0] rfl GAK ?_; (with_reducible refine (parapetref9_Number.calls k a0 t348 true _ A2.out).mono ?_); rintro e w6 ⟨rfl, hb⟩; refine ⟨_, rfl, ?_⟩; have n0_ := Aside0.mk (below_step BWK hb); clear HB; have HB := n0_; clear n0_; (try clear hb); (try clear hb2); (try clear hk); (try clear hi)) | (go_at_call 25; (with_reducible refine (parapetref9_Address.calls k t348 t350 _ A4.out).mono ?_); rintro e w7 ⟨rfl, hb⟩; have n0_ := Aside0.mk (below_step BWK hb); clear HB; have HB := n0_; clear n0_; (try clear hb); (try clear hb2); (try clear hk); (try clear hi)))
   go_ret2
   exact ⟨ERK, BWK⟩
  ·rw [if_neg c5] at H
   have c5b0 : (t350.toList == a0.toList) = false := beq_eq_false_iff_ne.mpr c5
   have c5b1 : (t350.toList != a0.toList) = true := bne_iff_ne.mpr c5
   simp only [Option.some.injEq, Prod.mk.injEq] at H
   obtain ⟨rfl, rfl⟩ := H
   go_enter Tryd.func12, Tryd.ntmps12
   go_wp2_with (first | ((with_reducible refine gate_callee (f := 24) rfl ?_); refine goesL_ (some 8) rfl rfl Tryd.func24 (by kernel_rfl) rfl #[.string a0] rfl GAK ?_; (with_reducible refine (parapetref9_Number.calls k a0 t348 true _ A2.out).mono ?_); rintro e w8 ⟨rfl, hb⟩; refine ⟨_, rfl, ?_⟩; have n0_ := Aside0.mk (below_step BWK hb); clear HB; have HB := n0_; clear n0_; (try clear hb); (try clear hb2); (try clear hk); (try clear hi)) | (go_at_call 25; (with_reducible refine (parapetref9_Address.calls k t348 t350 _ A4.out).mono ?_); rintro e w9 ⟨rfl, hb⟩; have n0_ := Aside0.mk (below_step BWK hb); clear HB; have HB := n0_; clear n0_; (try clear hb); (try clear hb2); (try clear hk); (try clear hi)))
   go_ret2
   exact ⟨ERK, BWK⟩
 ·replace c3 := Bool.eq_false_iff.mpr c3
  subst c3
  have H1 : (some (0, false)) = some (r1, r2) := by rw [if_neg (show ¬ (false = true) by decide)] at H; exact H
  clear H
  have H := H1
  clear H1
  simp only [Option.some.injEq, Prod.mk.injEq] at H
  obtain ⟨rfl, rfl⟩ := H
  go_enter Tryd.func12, Tryd.ntmps12
  go_wp2_with (first | ((with_reducible refine gate_callee (f := 24) rfl ?_); refine goesL_ (some 8) rfl rfl Tryd.func24 (by kernel_rfl) rfl #[.string a0] rfl GAK ?_; (with_reducible refine (parapetref9_Number.calls k a0 t348 false _ A2.out).mono ?_); rintro e w10 ⟨rfl, hb⟩; refine ⟨_, rfl, ?_⟩; have n0_ := Aside0.mk (below_step BWK hb); clear HB; have HB := n0_; clear n0_; (try clear hb); (try clear hb2); (try clear hk); (try clear hi)))
  go_ret2
  exact ⟨ERK, BWK⟩

/-! ### parapetref9_ends: function 42 -/
def parapetref9_ends.f (a0 : ByteArray) (a1 : ByteArray) : Option (Bool) := if (a0.size : Int) ≥ (a1.size : Int) then (if 0 ≤ (wrap64 ((a0.size : Int) - (a1.size : Int))) then (if (wrap64 ((a0.size : Int) - (a1.size : Int))) ≤ (a0.size : Int) then (some ((a0.extract ((wrap64 ((a0.size : Int) - (a1.size : Int))) : Int).toNat a0.size).toList == a1.toList)) else (none)) else (none)) else (some false)
theorem parapetref9_ends.calls (a0 : ByteArray) (a1 : ByteArray) (r : Bool) (w : World) (h : parapetref9_ends.f a0 a1 = some r) :
  Calls Tryd.prog 42 #[.string a0, .string a1] w fun e w' => e = .returned (.bool r) ∧ Drawn0 w w' := by
 have H : (if (a0.size : Int) ≥ (a1.size : Int) then (if 0 ≤ (wrap64 ((a0.size : Int) - (a1.size : Int))) then (if (wrap64 ((a0.size : Int) - (a1.size : Int))) ≤ (a0.size : Int) then (some ((a0.extract ((wrap64 ((a0.size : Int) - (a1.size : Int))) : Int).toNat a0.size).toList == a1.toList)) else (none)) else (none)) else (some false)) = some r := h
 clear h
 by_cases c3 : (a0.size : Int) ≥ (a1.size : Int)
 ·rw [if_pos c3] at H
  have c3b0 := decide_eq_true c3
  have c3b1 : decide (a1.size ≤ a0.size) = true := decide_eq_true (Int.ofNat_le.mp c3)
  clear c3
  obtain ⟨ji4, hji4⟩ : ∃ j_ : Int, (wrap64 ((a0.size : Int) - (a1.size : Int))) = j_ := ⟨_, rfl⟩
  replace H : (if 0 ≤ (ji4) then (if (ji4) ≤ (a0.size : Int) then (some ((a0.extract ((ji4) : Int).toNat a0.size).toList == a1.toList)) else (none)) else (none)) = some r := by first | (rw [hji4] at H; exact H) | (simp only [hji4] at H ⊢; exact H)
  have hji4w : (IntKind.i64.wrap ((a0.size : Int) - (a1.size : Int))) = ji4 := (i64_w _).trans hji4
  by_cases c5 : 0 ≤ (ji4)
  ·rw [if_pos c5] at H
   have c5b0 := eq_true c5
   have c5b1 := decide_eq_true c5
   clear c5
   by_cases c6 : (ji4) ≤ (a0.size : Int)
   ·rw [if_pos c6] at H
    have c6b0 := eq_true c6
    have c6b1 := decide_eq_true c6
    clear c6
    obtain rfl := Option.some.inj H
    go_enter Tryd.func42, Tryd.ntmps42
    go_wp2
    go_ret
    exact ⟨by first | rfl | (simp; done) | (simp only [← hji4] <;> (first | rfl | simp)) | (simp [*]; done) | (simp [*] <;> (generalize ByteArray.toList _ = l_; cases l_ <;> rfl)), DRK⟩
   ·rw [if_neg c6] at H
    exact absurd H (by simp)
  ·rw [if_neg c5] at H
   exact absurd H (by simp)
 ·rw [if_neg c3] at H
  have c3b0 := decide_eq_false c3
  have c3b1 : decide (a1.size ≤ a0.size) = false := decide_eq_false (fun h => c3 (Int.ofNat_le.mpr h))
  clear c3
  obtain rfl := Option.some.inj H
  go_enter Tryd.func42, Tryd.ntmps42
  go_wp2
  go_ret
  exact ⟨RFK, DRK⟩

/-! ### parapetref9_Trusted: function 22 -/
def parapetref9_Trusted.f (k : Nat) (a0_0 : ByteArray) (a0_1 : ByteArray) (a0_2 : Int) : Option (Bool) := if (a0_0.toList == ([] : List UInt8) && (a0_1.toList == ([] : List UInt8) && (a0_2 == 0))) = true then (some false) else ((parapetref9_IsAddress.f k a0_1).bind fun bt352 => (if a0_0.toList = ([104, 116, 116, 112, 115] : List UInt8) then (some true) else (if a0_0.toList = ([119, 115, 115] : List UInt8) then (some true) else (if bt352.2 = true then (if (bt352.1 / 16777216) = 127 then (some true) else (if a0_1.toList = ([108, 111, 99, 97, 108, 104, 111, 115, 116] : List UInt8) then (some true) else ((parapetref9_ends.f a0_1 (⟨#[46, 108, 111, 99, 97, 108, 104, 111, 115, 116]⟩ : ByteArray)).bind fun t354 => (some t354)))) else (if a0_1.toList = ([108, 111, 99, 97, 108, 104, 111, 115, 116] : List UInt8) then (some true) else ((parapetref9_ends.f a0_1 (⟨#[46, 108, 111, 99, 97, 108, 104, 111, 115, 116]⟩ : ByteArray)).bind fun t355 => (some t355)))))))
theorem parapetref9_Trusted.mono : ∀ a0 a1 a2 k, LeO (parapetref9_Trusted.f k a0 a1 a2) (parapetref9_Trusted.f (k + 1) a0 a1 a2) := by
 intro a0 a1 a2 k
 unfold parapetref9_Trusted.f
 repeat' first
   | (with_reducible exact parapetref9_IsAddress.mono _ _)
   | (with_reducible exact LeO.refl _)
   | (with_reducible exact LeO.none _)
   | (with_reducible refine LeO.ite ?_ ?_)
   | (with_reducible refine LeO.bind ?_ (fun _ => ?_))
   | exact parapetref9_IsAddress.mono _ _
   | exact LeO.none _
   | refine LeO.ite ?_ ?_
   | refine LeO.bind ?_ (fun _ => ?_)
theorem parapetref9_Trusted.calls (k : Nat) (a0_0 : ByteArray) (a0_1 : ByteArray) (a0_2 : Int) (r : Bool) (w : World) (h : parapetref9_Trusted.f k a0_0 a0_1 a0_2 = some r) :
  Calls Tryd.prog 22 #[.agg #[.string a0_0, .string a0_1, .int .i64 a0_2]] w fun e w' => e = .returned (.bool r) ∧ Below w.heap.size w w' := by
 have hu29 := Tryd.underlying29
 have HB := Aside0.mk (Below.refl w.heap.size w)
 have H : (if (a0_0.toList == ([] : List UInt8) && (a0_1.toList == ([] : List UInt8) && (a0_2 == 0))) = true then (some false) else ((parapetref9_IsAddress.f k a0_1).bind fun bt352 => (if a0_0.toList = ([104, 116, 116, 112, 115] : List UInt8) then (some true) else (if a0_0.toList = ([119, 115, 115] : List UInt8) then (some true) else (if bt352.2 = true then (if (bt352.1 / 16777216) = 127 then (some true) else (if a0_1.toList = ([108, 111, 99, 97, 108, 104, 111, 115, 116] : List UInt8) then (some true) else ((parapetref9_ends.f a0_1 (⟨#[46, 108, 111, 99, 97, 108, 104, 111, 115, 116]⟩ : ByteArray)).bind fun t354 => (some t354)))) else (if a0_1.toList = ([108, 111, 99, 97, 108, 104, 111, 115, 116] : List UInt8) then (some true) else ((parapetref9_ends.f a0_1 (⟨#[46, 108, 111, 99, 97, 108, 104, 111, 115, 116]⟩ : ByteArray)).bind fun t355 => (some t355)))))))) = some r := h
 clear h
 by_cases c2 : (a0_0.toList == ([] : List UInt8) && (a0_1.toList == ([] : List UInt8) && (a0_2 == 0))) = true
 ·rw [if_pos c2] at H
  have c2b0 : (a0_0.toList == ([] : List UInt8) && (a0_1.toList == ([] : List UInt8) && (a0_2 == 0))) = true := c2
  (try (have c2b7 : (a0_0.toList.isEmpty && (a0_1.toList.isEmpty && (a0_2 == 0))) = true := by first | simpa using c2 | (simp at c2 ⊢; exact c2) | (simp at c2 ⊢; omega)))
  (try (have c2b1 : decide (a0_0.toList = ([] : List UInt8) && (a0_1.toList == ([] : List UInt8) && (a0_2 == 0))) = true := by simpa using c2))
  (try (have c2b2 : (a0_0.toList == ([] : List UInt8) && (a0_1.toList == ([] : List UInt8) && (a0_2 == 0))) = true := by simpa using c2))
  clear c2
  obtain rfl := Option.some.inj H
  go_enter Tryd.func22, Tryd.ntmps22
  go_wp2_with (first | ((with_reducible refine gate_dst (N := 1) rfl ?_); refine box_event ?hg (N := 1) ?hd (cs := #[.string a0_0, .string a0_1, .int .i64 a0_2]) (t := 29) ?hr ?_; (case hd => rfl); (case hg => rfl); (case hr => first | (go_simp; done) | (go_simp; rfl)); intro gb351 hg w3 hbox hb; have n0_ := Aside0.mk (below_step BWK hb); have n1_ := Aside0.mk (hbox); have n2_ := Aside0.mk ((by rw [hg]; exact (below_size BWK) : w.heap.size ≤ gb351)); have n3_ := Aside0.mk ((by rw [hg]; exact (below_size BWK) : w.heap.size ≤ gb351)); clear HB; have HB := n0_; have BK351 := n1_; have GW351 := n2_; have GE351 := n3_; clear n0_ n1_ n2_ n3_; clear hb hbox hg; have hcz4_0 := bc0 BK351.out; have hcz4_1 := bc1 BK351.out; have hcz4_2 := bc2 BK351.out; have hfz4_0 := blk_frozen BK351.out 0; have hfz4_1 := blk_frozen BK351.out 1; have hfz4_2 := blk_frozen BK351.out 2))
  go_ret
  exact ⟨ERK, BWK⟩
 ·rw [if_neg c2] at H
  have c2b0 : (a0_0.toList == ([] : List UInt8) && (a0_1.toList == ([] : List UInt8) && (a0_2 == 0))) = false := by simpa using c2
  (try (have c2b7 : (a0_0.toList.isEmpty && (a0_1.toList.isEmpty && (a0_2 == 0))) = false := by first | simpa using c2 | (simp at c2 ⊢; exact c2) | (simp at c2 ⊢; omega)))
  (try (have c2b1 : decide (a0_0.toList = ([] : List UInt8) && (a0_1.toList == ([] : List UInt8) && (a0_2 == 0))) = false := by simpa using c2))
  (try (have c2b2 : (a0_0.toList == ([] : List UInt8) && (a0_1.toList == ([] : List UInt8) && (a0_2 == 0))) = false := by simpa using c2))
  (try (have c2b3 : ¬ (a0_0.toList = ([] : List UInt8) && (a0_1.toList == ([] : List UInt8) && (a0_2 == 0))) := by simpa using c2))
  clear c2
  replace H := Option.bind_eq_some_iff.mp H
  obtain ⟨⟨t352, t353⟩, A50, H⟩ := H
  (try dsimp only at H)
  have A5 := Aside0.mk A50
  clear A50
  by_cases c6 : a0_0.toList = ([104, 116, 116, 112, 115] : List UInt8)
  ·rw [if_pos c6] at H
   have c6b0 : (a0_0.toList == ([104, 116, 116, 112, 115] : List UInt8)) = true := beq_iff_eq.mpr c6
   have c6b1 : (a0_0.toList != ([104, 116, 116, 112, 115] : List UInt8)) = false := bne_eq_false_iff_eq.mpr c6
   clear c6
   obtain rfl := Option.some.inj H
   go_enter Tryd.func22, Tryd.ntmps22
   go_wp2_with (first | ((with_reducible refine gate_dst (N := 1) rfl ?_); refine box_event ?hg (N := 1) ?hd (cs := #[.string a0_0, .string a0_1, .int .i64 a0_2]) (t := 29) ?hr ?_; (case hd => rfl); (case hg => rfl); (case hr => first | (go_simp; done) | (go_simp; rfl)); intro gb351 hg w7 hbox hb; have n0_ := Aside0.mk (below_step BWK hb); have n1_ := Aside0.mk (hbox); have n2_ := Aside0.mk ((by rw [hg]; exact (below_size BWK) : w.heap.size ≤ gb351)); have n3_ := Aside0.mk ((by rw [hg]; exact (below_size BWK) : w.heap.size ≤ gb351)); clear HB; have HB := n0_; have BK351 := n1_; have GW351 := n2_; have GE351 := n3_; clear n0_ n1_ n2_ n3_; clear hb hbox hg; have hcz8_0 := bc0 BK351.out; have hcz8_1 := bc1 BK351.out; have hcz8_2 := bc2 BK351.out; have hfz8_0 := blk_frozen BK351.out 0; have hfz8_1 := blk_frozen BK351.out 1; have hfz8_2 := blk_frozen BK351.out 2) | ((with_reducible refine gate_callee (f := 12) rfl ?_); refine goesL_ (some 11) rfl rfl Tryd.func12 (by kernel_rfl) rfl #[.string a0_1] rfl GAK ?_; (with_reducible refine (parapetref9_IsAddress.calls k a0_1 t352 t353 _ A5.out).mono ?_); rintro e w9 ⟨rfl, hb⟩; refine ⟨_, rfl, ?_⟩; have n0_ := Aside0.mk (blk_below (g := gb351) (o := .cells #[.string a0_0, .string a0_1, .int .i64 a0_2] 29 (0, 0)) BLK hb); have n1_ := Aside0.mk (below_step BWK hb); clear BK351; clear HB; have BK351 := n0_; have HB := n1_; clear n0_ n1_; (try clear hb); (try clear hb2); (try clear hk); (try clear hi); have hcz10_0 := bc0 BK351.out; have hcz10_1 := bc1 BK351.out; have hcz10_2 := bc2 BK351.out; have hfz10_0 := blk_frozen BK351.out 0; have hfz10_1 := blk_frozen BK351.out 1; have hfz10_2 := blk_frozen BK351.out 2))
   go_ret
   exact ⟨ERK, BWK⟩
  ·rw [if_neg c6] at H
   have c6b0 : (a0_0.toList == ([104, 116, 116, 112, 115] : List UInt8)) = false := beq_eq_false_iff_ne.mpr c6
   have c6b1 : (a0_0.toList != ([104, 116, 116, 112, 115] : List UInt8)) = true := bne_iff_ne.mpr c6
   by_cases c11 : a0_0.toList = ([119, 115, 115] : List UInt8)
   ·rw [if_pos c11] at H
    have c11b0 : (a0_0.toList == ([119, 115, 115] : List UInt8)) = true := beq_iff_eq.mpr c11
    have c11b1 : (a0_0.toList != ([119, 115, 115] : List UInt8)) = false := bne_eq_false_iff_eq.mpr c11
    clear c11
    obtain rfl := Option.some.inj H
    go_enter Tryd.func22, Tryd.ntmps22
    go_wp2_with (first | ((with_reducible refine gate_dst (N := 1) rfl ?_); refine box_event ?hg (N := 1) ?hd (cs := #[.string a0_0, .string a0_1, .int .i64 a0_2]) (t := 29) ?hr ?_; (case hd => rfl); (case hg => rfl); (case hr => first | (go_simp; done) | (go_simp; rfl)); intro gb351 hg w12 hbox hb; have n0_ := Aside0.mk (below_step BWK hb); have n1_ := Aside0.mk (hbox); have n2_ := Aside0.mk ((by rw [hg]; exact (below_size BWK) : w.heap.size ≤ gb351)); have n3_ := Aside0.mk ((by rw [hg]; exact (below_size BWK) : w.heap.size ≤ gb351)); clear HB; have HB := n0_; have BK351 := n1_; have GW351 := n2_; have GE351 := n3_; clear n0_ n1_ n2_ n3_; clear hb hbox hg; have hcz13_0 := bc0 BK351.out; have hcz13_1 := bc1 BK351.out; have hcz13_2 := bc2 BK351.out; have hfz13_0 := blk_frozen BK351.out 0; have hfz13_1 := blk_frozen BK351.out 1; have hfz13_2 := blk_frozen BK351.out 2) | ((with_reducible refine gate_callee (f := 12) rfl ?_); refine goesL_ (some 11) rfl rfl Tryd.func12 (by kernel_rfl) rfl #[.string a0_1] rfl GAK ?_; (with_reducible refine (parapetref9_IsAddress.calls k a0_1 t352 t353 _ A5.out).mono ?_); rintro e w14 ⟨rfl, hb⟩; refine ⟨_, rfl, ?_⟩; have n0_ := Aside0.mk (blk_below (g := gb351) (o := .cells #[.string a0_0, .string a0_1, .int .i64 a0_2] 29 (0, 0)) BLK hb); have n1_ := Aside0.mk (below_step BWK hb); clear BK351; clear HB; have BK351 := n0_; have HB := n1_; clear n0_ n1_; (try clear hb); (try clear hb2); (try clear hk); (try clear hi); have hcz15_0 := bc0 BK351.out; have hcz15_1 := bc1 BK351.out; have hcz15_2 := bc2 BK351.out; have hfz15_0 := blk_frozen BK351.out 0; have hfz15_1 := blk_frozen BK351.out 1; have hfz15_2 := blk_frozen BK351.out 2))
    go_ret
    exact ⟨ERK, BWK⟩
   ·rw [if_neg c11] at H
    have c11b0 : (a0_0.toList == ([119, 115, 115] : List UInt8)) = false := beq_eq_false_iff_ne.mpr c11
    have c11b1 : (a0_0.toList != ([119, 115, 115] : List UInt8)) = true := bne_iff_ne.mpr c11
    by_cases c16 : t353 = true
    ·subst c16
     have H1 := H; rw [if_pos rfl] at H1
     clear H
     have H := H1
     clear H1
     by_cases c17 : (t352 / 16777216) = 127
     ·rw [if_pos c17] at H
      have c17b0 : ((t352 / 16777216) == 127) = true := beq_iff_eq.mpr c17
      have c17b1 : ((t352 / 16777216) != 127) = false := bne_eq_false_iff_eq.mpr c17
      clear c17
      obtain rfl := Option.some.inj H
      go_enter Tryd.func22, Tryd.ntmps22
      go_wp2_with (first | ((with_reducible refine gate_dst (N := 1) rfl ?_); refine box_event ?hg (N := 1) ?hd (cs := #[.string a0_0, .string a0_1, .int .i64 a0_2]) (t := 29) ?hr ?_; (case hd => rfl); (case hg => rfl); (case hr => first | (go_simp; done) | (go_simp; rfl)); intro gb351 hg w18 hbox hb; have n0_ := Aside0.mk (below_step BWK hb); have n1_ := Aside0.mk (hbox); have n2_ := Aside0.mk ((by rw [hg]; exact (below_size BWK) : w.heap.size ≤ gb351)); have n3_ := Aside0.mk ((by rw [hg]; exact (below_size BWK) : w.heap.size ≤ gb351)); clear HB; have HB := n0_; have BK351 := n1_; have GW351 := n2_; have GE351 := n3_; clear n0_ n1_ n2_ n3_; clear hb hbox hg; have hcz19_0 := bc0 BK351.out; have hcz19_1 := bc1 BK351.out; have hcz19_2 := bc2 BK351.out; have hfz19_0 := blk_frozen BK351.out 0; have hfz19_1 := blk_frozen BK351.out 1; have hfz19_2 := blk_frozen BK351.out 2) | ((with_reducible refine gate_callee (f := 12) rfl ?_); refine goesL_ (some 11) rfl rfl Tryd.func12 (by kernel_rfl) rfl #[.string a0_1] rfl GAK ?_; (with_reducible refine (parapetref9_IsAddress.calls k a0_1 t352 true _ A5.out).mono ?_); rintro e w20 ⟨rfl, hb⟩; refine ⟨_, rfl, ?_⟩; have n0_ := Aside0.mk (blk_below (g := gb351) (o := .cells #[.string a0_0, .string a0_1, .int .i64 a0_2] 29 (0, 0)) BLK hb); have n1_ := Aside0.mk (below_step BWK hb); clear BK351; clear HB; have BK351 := n0_; have HB := n1_; clear n0_ n1_; (try clear hb); (try clear hb2); (try clear hk); (try clear hi); have hcz21_0 := bc0 BK351.out; have hcz21_1 := bc1 BK351.out; have hcz21_2 := bc2 BK351.out; have hfz21_0 := blk_frozen BK351.out 0; have hfz21_1 := blk_frozen BK351.out 1; have hfz21_2 := blk_frozen BK351.out 2))
      go_ret
      exact ⟨ERK, BWK⟩
     ·rw [if_neg c17] at H
      have c17b0 : ((t352 / 16777216) == 127) = false := beq_eq_false_iff_ne.mpr c17
      have c17b1 : ((t352 / 16777216) != 127) = true := bne_iff_ne.mpr c17
      by_cases c22 : a0_1.toList = ([108, 111, 99, 97, 108, 104, 111, 115, 116] : List UInt8)
      ·rw [if_pos c22] at H
       have c22b0 : (a0_1.toList == ([108, 111, 99, 97, 108, 104, 111, 115, 116] : List UInt8)) = true := beq_iff_eq.mpr c22
       have c22b1 : (a0_1.toList != ([108, 111, 99, 97, 108, 104, 111, 115, 116] : List UInt8)) = false := bne_eq_false_iff_eq.mpr c22
       clear c22
       obtain rfl := Option.some.inj H
       go_enter Tryd.func22, Tryd.ntmps22
       go_wp2_with (first | ((with_reducible refine gate_dst (N := 1) rfl ?_); refine box_event ?hg (N := 1) ?hd (cs := #[.string a0_0, .string a0_1, .int .i64 a0_2]) (t := 29) ?hr ?_; (case hd => rfl); (case hg => rfl); (case hr => first | (go_simp; done) | (go_simp; rfl)); intro gb351 hg w23 hbox hb; have n0_ := Aside0.mk (below_step BWK hb); have n1_ := Aside0.mk (hbox); have n2_ := Aside0.mk ((by rw [hg]; exact (below_size BWK) : w.heap.size ≤ gb351)); have n3_ := Aside0.mk ((by rw [hg]; exact (below_size BWK) : w.heap.size ≤ gb351)); clear HB; have HB := n0_; have BK351 := n1_; have GW351 := n2_; have GE351 := n3_; clear n0_ n1_ n2_ n3_; clear hb hbox hg; have hcz24_0 := bc0 BK351.out; have hcz24_1 := bc1 BK351.out; have hcz24_2 := bc2 BK351.out; have hfz24_0 := blk_frozen BK351.out 0; have hfz24_1 := blk_frozen BK351.out 1; have hfz24_2 := blk_frozen BK351.out 2) | ((with_reducible refine gate_callee (f := 12) rfl ?_); refine goesL_ (some 11) rfl rfl Tryd.func12 (by kernel_rfl) rfl #[.string a0_1] rfl GAK ?_; (with_reducible refine (parapetref9_IsAddress.calls k a0_1 t352 true _ A5.out).mono ?_); rintro e w25 ⟨rfl, hb⟩; refine ⟨_, rfl, ?_⟩; have n0_ := Aside0.mk (blk_below (g := gb351) (o := .cells #[.string a0_0, .string a0_1, .int .i64 a0_2] 29 (0, 0)) BLK hb); have n1_ := Aside0.mk (below_step BWK hb); clear BK351; clear HB; have BK351 := n0_; have HB := n1_; clear n0_ n1_; (try clear hb); (try clear hb2); (try clear hk); (try clear hi); have hcz26_0 := bc0 BK351.out; have hcz26_1 := bc1 BK351.out; have hcz26_2 := bc2 BK351.out; have hfz26_0 := blk_frozen BK351.out 0; have hfz26_1 := blk_frozen BK351.out 1; have hfz26_2 := blk_frozen BK351.out 2))
       go_ret
       exact ⟨ERK, BWK⟩
      ·rw [if_neg c22] at H
       have c22b0 : (a0_1.toList == ([108, 111, 99, 97, 108, 104, 111, 115, 116] : List UInt8)) = false := beq_eq_false_iff_ne.mpr c22
       have c22b1 : (a0_1.toList != ([108, 111, 99, 97, 108, 104, 111, 115, 116] : List UInt8)) = true := bne_iff_ne.mpr c22
       replace H := Option.bind_eq_some_iff.mp H
       obtain ⟨t354, A270, H⟩ := H
       (try dsimp only at H)
       have A27 := Aside0.mk A270
       clear A270
       obtain rfl := Option.some.inj H
       go_enter Tryd.func22, Tryd.ntmps22
       go_wp2_with (first | ((with_reducible refine gate_dst (N := 1) rfl ?_); refine box_event ?hg (N := 1) ?hd (cs := #[.string a0_0, .string a0_1, .int .i64 a0_2]) (t := 29) ?hr ?_; (case hd => rfl); (case hg => rfl); (case hr => first | (go_simp; done) | (go_simp; rfl)); intro gb351 hg w28 hbox hb; have n0_ := Aside0.mk (below_step BWK hb); have n1_ := Aside0.mk (hbox); have n2_ := Aside0.mk ((by rw [hg]; exact (below_size BWK) : w.heap.size ≤ gb351)); have n3_ := Aside0.mk ((by rw [hg]; exact (below_size BWK) : w.heap.size ≤ gb351)); clear HB; have HB := n0_; have BK351 := n1_; have GW351 := n2_; have GE351 := n3_; clear n0_ n1_ n2_ n3_; clear hb hbox hg; have hcz29_0 := bc0 BK351.out; have hcz29_1 := bc1 BK351.out; have hcz29_2 := bc2 BK351.out; have hfz29_0 := blk_frozen BK351.out 0; have hfz29_1 := blk_frozen BK351.out 1; have hfz29_2 := blk_frozen BK351.out 2) | ((with_reducible refine gate_callee (f := 12) rfl ?_); refine goesL_ (some 11) rfl rfl Tryd.func12 (by kernel_rfl) rfl #[.string a0_1] rfl GAK ?_; (with_reducible refine (parapetref9_IsAddress.calls k a0_1 t352 true _ A5.out).mono ?_); rintro e w30 ⟨rfl, hb⟩; refine ⟨_, rfl, ?_⟩; have n0_ := Aside0.mk (blk_below (g := gb351) (o := .cells #[.string a0_0, .string a0_1, .int .i64 a0_2] 29 (0, 0)) BLK hb); have n1_ := Aside0.mk (below_step BWK hb); clear BK351; clear HB; have BK351 := n0_; have HB := n1_; clear n0_ n1_; (try clear hb); (try clear hb2); (try clear hk); (try clear hi); have hcz31_0 := bc0 BK351.out; have hcz31_1 := bc1 BK351.out; have hcz31_2 := bc2 BK351.out; have hfz31_0 := blk_frozen BK351.out 0; have hfz31_1 := blk_frozen BK351.out 1; have hfz31_2 := blk_frozen BK351.out 2) | (go_at_call 42; (with_reducible refine (parapetref9_ends.calls a0_1 (⟨#[46, 108, 111, 99, 97, 108, 104, 111, 115, 116]⟩ : ByteArray) t354 _ A27.out).mono ?_); rintro e w' ⟨rfl, ⟨nd, rfl⟩⟩))
       go_ret
       exact ⟨ERK, BWK⟩
    ·replace c16 := Bool.eq_false_iff.mpr c16
     subst c16
     have H1 := H; rw [if_neg (show ¬ (false = true) by decide)] at H1
     clear H
     have H := H1
     clear H1
     by_cases c32 : a0_1.toList = ([108, 111, 99, 97, 108, 104, 111, 115, 116] : List UInt8)
     ·rw [if_pos c32] at H
      have c32b0 : (a0_1.toList == ([108, 111, 99, 97, 108, 104, 111, 115, 116] : List UInt8)) = true := beq_iff_eq.mpr c32
      have c32b1 : (a0_1.toList != ([108, 111, 99, 97, 108, 104, 111, 115, 116] : List UInt8)) = false := bne_eq_false_iff_eq.mpr c32
      clear c32
      obtain rfl := Option.some.inj H
      go_enter Tryd.func22, Tryd.ntmps22
      go_wp2_with (first | ((with_reducible refine gate_dst (N := 1) rfl ?_); refine box_event ?hg (N := 1) ?hd (cs := #[.string a0_0, .string a0_1, .int .i64 a0_2]) (t := 29) ?hr ?_; (case hd => rfl); (case hg => rfl); (case hr => first | (go_simp; done) | (go_simp; rfl)); intro gb351 hg w33 hbox hb; have n0_ := Aside0.mk (below_step BWK hb); have n1_ := Aside0.mk (hbox); have n2_ := Aside0.mk ((by rw [hg]; exact (below_size BWK) : w.heap.size ≤ gb351)); have n3_ := Aside0.mk ((by rw [hg]; exact (below_size BWK) : w.heap.size ≤ gb351)); clear HB; have HB := n0_; have BK351 := n1_; have GW351 := n2_; have GE351 := n3_; clear n0_ n1_ n2_ n3_; clear hb hbox hg; have hcz34_0 := bc0 BK351.out; have hcz34_1 := bc1 BK351.out; have hcz34_2 := bc2 BK351.out; have hfz34_0 := blk_frozen BK351.out 0; have hfz34_1 := blk_frozen BK351.out 1; have hfz34_2 := blk_frozen BK351.out 2) | ((with_reducible refine gate_callee (f := 12) rfl ?_); refine goesL_ (some 11) rfl rfl Tryd.func12 (by kernel_rfl) rfl #[.string a0_1] rfl GAK ?_; (with_reducible refine (parapetref9_IsAddress.calls k a0_1 t352 false _ A5.out).mono ?_); rintro e w35 ⟨rfl, hb⟩; refine ⟨_, rfl, ?_⟩; have n0_ := Aside0.mk (blk_below (g := gb351) (o := .cells #[.string a0_0, .string a0_1, .int .i64 a0_2] 29 (0, 0)) BLK hb); have n1_ := Aside0.mk (below_step BWK hb); clear BK351; clear HB; have BK351 := n0_; have HB := n1_; clear n0_ n1_; (try clear hb); (try clear hb2); (try clear hk); (try clear hi); have hcz36_0 := bc0 BK351.out; have hcz36_1 := bc1 BK351.out; have hcz36_2 := bc2 BK351.out; have hfz36_0 := blk_frozen BK351.out 0; have hfz36_1 := blk_frozen BK351.out 1; have hfz36_2 := blk_frozen BK351.out 2))
      go_ret
      exact ⟨ERK, BWK⟩
     ·rw [if_neg c32] at H
      have c32b0 : (a0_1.toList == ([108, 111, 99, 97, 108, 104, 111, 115, 116] : List UInt8)) = false := beq_eq_false_iff_ne.mpr c32
      have c32b1 : (a0_1.toList != ([108, 111, 99, 97, 108, 104, 111, 115, 116] : List UInt8)) = true := bne_iff_ne.mpr c32
      replace H := Option.bind_eq_some_iff.mp H
      obtain ⟨t355, A370, H⟩ := H
      (try dsimp only at H)
      have A37 := Aside0.mk A370
      clear A370
      obtain rfl := Option.some.inj H
      go_enter Tryd.func22, Tryd.ntmps22
      go_wp2_with (first | ((with_reducible refine gate_dst (N := 1) rfl ?_); refine box_event ?hg (N := 1) ?hd (cs := #[.string a0_0, .string a0_1, .int .i64 a0_2]) (t := 29) ?hr ?_; (case hd => rfl); (case hg => rfl); (case hr => first | (go_simp; done) | (go_simp; rfl)); intro gb351 hg w38 hbox hb; have n0_ := Aside0.mk (below_step BWK hb); have n1_ := Aside0.mk (hbox); have n2_ := Aside0.mk ((by rw [hg]; exact (below_size BWK) : w.heap.size ≤ gb351)); have n3_ := Aside0.mk ((by rw [hg]; exact (below_size BWK) : w.heap.size ≤ gb351)); clear HB; have HB := n0_; have BK351 := n1_; have GW351 := n2_; have GE351 := n3_; clear n0_ n1_ n2_ n3_; clear hb hbox hg; have hcz39_0 := bc0 BK351.out; have hcz39_1 := bc1 BK351.out; have hcz39_2 := bc2 BK351.out; have hfz39_0 := blk_frozen BK351.out 0; have hfz39_1 := blk_frozen BK351.out 1; have hfz39_2 := blk_frozen BK351.out 2) | ((with_reducible refine gate_callee (f := 12) rfl ?_); refine goesL_ (some 11) rfl rfl Tryd.func12 (by kernel_rfl) rfl #[.string a0_1] rfl GAK ?_; (with_reducible refine (parapetref9_IsAddress.calls k a0_1 t352 false _ A5.out).mono ?_); rintro e w40 ⟨rfl, hb⟩; refine ⟨_, rfl, ?_⟩; have n0_ := Aside0.mk (blk_below (g := gb351) (o := .cells #[.string a0_0, .string a0_1, .int .i64 a0_2] 29 (0, 0)) BLK hb); have n1_ := Aside0.mk (below_step BWK hb); clear BK351; clear HB; have BK351 := n0_; have HB := n1_; clear n0_ n1_; (try clear hb); (try clear hb2); (try clear hk); (try clear hi); have hcz41_0 := bc0 BK351.out; have hcz41_1 := bc1 BK351.out; have hcz41_2 := bc2 BK351.out; have hfz41_0 := blk_frozen BK351.out 0; have hfz41_1 := blk_frozen BK351.out 1; have hfz41_2 := blk_frozen BK351.out 2) | (go_at_call 42; (with_reducible refine (parapetref9_ends.calls a0_1 (⟨#[46, 108, 111, 99, 97, 108, 104, 111, 115, 116]⟩ : ByteArray) t355 _ A37.out).mono ?_); rintro e w' ⟨rfl, ⟨nd, rfl⟩⟩))
      go_ret
      exact ⟨ERK, BWK⟩

/-! ### parapetref9_Port: function 43 -/
def parapetref9_Port.f (k : Nat) (a0_0 : ByteArray) (a0_1 : ByteArray) (a0_2 : ByteArray) (a0_3 : ByteArray) (a0_4 : Int) (a0_5 : ByteArray) (a0_6 : Bool) (a0_7 : ByteArray) (a0_8 : Bool) (a0_9 : ByteArray) : Option (Int) := if a0_4 = (-1) then ((parapetref9_Default.f k a0_0).bind fun bt357 => (some bt357.1)) else (some a0_4)
theorem parapetref9_Port.mono : ∀ a0 a1 a2 a3 a4 a5 a6 a7 a8 a9 k, LeO (parapetref9_Port.f k a0 a1 a2 a3 a4 a5 a6 a7 a8 a9) (parapetref9_Port.f (k + 1) a0 a1 a2 a3 a4 a5 a6 a7 a8 a9) := by
 intro a0 a1 a2 a3 a4 a5 a6 a7 a8 a9 k
 unfold parapetref9_Port.f
 repeat' first
   | (with_reducible exact parapetref9_Default.mono _ _)
   | (with_reducible exact LeO.refl _)
   | (with_reducible exact LeO.none _)
   | (with_reducible refine LeO.ite ?_ ?_)
   | (with_reducible refine LeO.bind ?_ (fun _ => ?_))
   | exact parapetref9_Default.mono _ _
   | exact LeO.none _
   | refine LeO.ite ?_ ?_
   | refine LeO.bind ?_ (fun _ => ?_)
theorem parapetref9_Port.calls (k : Nat) (a0_0 : ByteArray) (a0_1 : ByteArray) (a0_2 : ByteArray) (a0_3 : ByteArray) (a0_4 : Int) (a0_5 : ByteArray) (a0_6 : Bool) (a0_7 : ByteArray) (a0_8 : Bool) (a0_9 : ByteArray) (r : Int) (w : World) (h : parapetref9_Port.f k a0_0 a0_1 a0_2 a0_3 a0_4 a0_5 a0_6 a0_7 a0_8 a0_9 = some r) :
  Calls Tryd.prog 43 #[.agg #[.string a0_0, .string a0_1, .string a0_2, .string a0_3, .int .i64 a0_4, .string a0_5, .bool a0_6, .string a0_7, .bool a0_8, .string a0_9]] w fun e w' => e = .returned (.int .i64 r) ∧ Below w.heap.size w w' := by
 have hu23 := Tryd.underlying23
 have HB := Aside0.mk (Below.refl w.heap.size w)
 have H : (if a0_4 = (-1) then ((parapetref9_Default.f k a0_0).bind fun bt357 => (some bt357.1)) else (some a0_4)) = some r := h
 clear h
 by_cases c2 : a0_4 = (-1)
 ·rw [if_pos c2] at H
  have c2b0 : (a0_4 == (-1)) = true := beq_iff_eq.mpr c2
  have c2b1 : (a0_4 != (-1)) = false := bne_eq_false_iff_eq.mpr c2
  clear c2
  replace H := Option.bind_eq_some_iff.mp H
  obtain ⟨⟨t357, t358⟩, A30, H⟩ := H
  (try dsimp only at H)
  have A3 := Aside0.mk A30
  clear A30
  obtain rfl := Option.some.inj H
  go_enter Tryd.func43, Tryd.ntmps43
  go_wp2_with (first | ((with_reducible refine gate_dst (N := 1) rfl ?_); refine box_event ?hg (N := 1) ?hd (cs := #[.string a0_0, .string a0_1, .string a0_2, .string a0_3, .int .i64 a0_4, .string a0_5, .bool a0_6, .string a0_7, .bool a0_8, .string a0_9]) (t := 23) ?hr ?_; (case hd => rfl); (case hg => rfl); (case hr => first | (go_simp; done) | (go_simp; rfl)); intro gb356 hg w4 hbox hb; have n0_ := Aside0.mk (below_step BWK hb); have n1_ := Aside0.mk (hbox); have n2_ := Aside0.mk ((by rw [hg]; exact (below_size BWK) : w.heap.size ≤ gb356)); have n3_ := Aside0.mk ((by rw [hg]; exact (below_size BWK) : w.heap.size ≤ gb356)); clear HB; have HB := n0_; have BK356 := n1_; have GW356 := n2_; have GE356 := n3_; clear n0_ n1_ n2_ n3_; clear hb hbox hg; have hcz5_0 := bc0 BK356.out; have hcz5_1 := bc1 BK356.out; have hcz5_2 := bc2 BK356.out; have hcz5_3 := bc3 BK356.out; have hcz5_4 := bc4 BK356.out; have hcz5_5 := bc5 BK356.out; have hcz5_6 := bc6 BK356.out; have hcz5_7 := bc7 BK356.out; have hcz5_8 := bc8 BK356.out; have hcz5_9 := bc9 BK356.out; have hfz5_0 := blk_frozen BK356.out 0; have hfz5_1 := blk_frozen BK356.out 1; have hfz5_2 := blk_frozen BK356.out 2; have hfz5_3 := blk_frozen BK356.out 3; have hfz5_4 := blk_frozen BK356.out 4; have hfz5_5 := blk_frozen BK356.out 5; have hfz5_6 := blk_frozen BK356.out 6; have hfz5_7 := blk_frozen BK356.out 7; have hfz5_8 := blk_frozen BK356.out 8; have hfz5_9 := blk_frozen BK356.out 9) | ((with_reducible refine gate_callee (f := 32) rfl ?_); refine goesL_ (some 13) rfl rfl Tryd.func32 (by kernel_rfl) rfl #[.string a0_0] rfl GAK ?_; (with_reducible refine (parapetref9_Default.calls k a0_0 t357 t358 _ A3.out).mono ?_); rintro e w' ⟨rfl, ⟨nd, rfl⟩⟩; refine ⟨_, rfl, ?_⟩))
  go_ret
  exact ⟨ERK, BWK⟩
 ·rw [if_neg c2] at H
  have c2b0 : (a0_4 == (-1)) = false := beq_eq_false_iff_ne.mpr c2
  have c2b1 : (a0_4 != (-1)) = true := bne_iff_ne.mpr c2
  obtain rfl := Option.some.inj H
  go_enter Tryd.func43, Tryd.ntmps43
  go_wp2_with (first | ((with_reducible refine gate_dst (N := 1) rfl ?_); refine box_event ?hg (N := 1) ?hd (cs := #[.string a0_0, .string a0_1, .string a0_2, .string a0_3, .int .i64 a0_4, .string a0_5, .bool a0_6, .string a0_7, .bool a0_8, .string a0_9]) (t := 23) ?hr ?_; (case hd => rfl); (case hg => rfl); (case hr => first | (go_simp; done) | (go_simp; rfl)); intro gb356 hg w6 hbox hb; have n0_ := Aside0.mk (below_step BWK hb); have n1_ := Aside0.mk (hbox); have n2_ := Aside0.mk ((by rw [hg]; exact (below_size BWK) : w.heap.size ≤ gb356)); have n3_ := Aside0.mk ((by rw [hg]; exact (below_size BWK) : w.heap.size ≤ gb356)); clear HB; have HB := n0_; have BK356 := n1_; have GW356 := n2_; have GE356 := n3_; clear n0_ n1_ n2_ n3_; clear hb hbox hg; have hcz7_0 := bc0 BK356.out; have hcz7_1 := bc1 BK356.out; have hcz7_2 := bc2 BK356.out; have hcz7_3 := bc3 BK356.out; have hcz7_4 := bc4 BK356.out; have hcz7_5 := bc5 BK356.out; have hcz7_6 := bc6 BK356.out; have hcz7_7 := bc7 BK356.out; have hcz7_8 := bc8 BK356.out; have hcz7_9 := bc9 BK356.out; have hfz7_0 := blk_frozen BK356.out 0; have hfz7_1 := blk_frozen BK356.out 1; have hfz7_2 := blk_frozen BK356.out 2; have hfz7_3 := blk_frozen BK356.out 3; have hfz7_4 := blk_frozen BK356.out 4; have hfz7_5 := blk_frozen BK356.out 5; have hfz7_6 := blk_frozen BK356.out 6; have hfz7_7 := blk_frozen BK356.out 7; have hfz7_8 := blk_frozen BK356.out 8; have hfz7_9 := blk_frozen BK356.out 9))
  go_ret
  exact ⟨ERK, BWK⟩

/-! ### parapetref9_Of: function 23 -/
def parapetref9_Of.f (k : Nat) (a0_0 : ByteArray) (a0_1 : ByteArray) (a0_2 : ByteArray) (a0_3 : ByteArray) (a0_4 : Int) (a0_5 : ByteArray) (a0_6 : Bool) (a0_7 : ByteArray) (a0_8 : Bool) (a0_9 : ByteArray) : Option (ByteArray × ByteArray × Int) := (parapetref9_Port.f k a0_0 a0_1 a0_2 a0_3 a0_4 a0_5 a0_6 a0_7 a0_8 a0_9).bind fun t361 => (some (a0_0, a0_3, t361))
theorem parapetref9_Of.mono : ∀ a0 a1 a2 a3 a4 a5 a6 a7 a8 a9 k, LeO (parapetref9_Of.f k a0 a1 a2 a3 a4 a5 a6 a7 a8 a9) (parapetref9_Of.f (k + 1) a0 a1 a2 a3 a4 a5 a6 a7 a8 a9) := by
 intro a0 a1 a2 a3 a4 a5 a6 a7 a8 a9 k
 unfold parapetref9_Of.f
 repeat' first
   | (with_reducible exact parapetref9_Port.mono _ _ _ _ _ _ _ _ _ _ _)
   | (with_reducible exact LeO.refl _)
   | (with_reducible exact LeO.none _)
   | (with_reducible refine LeO.ite ?_ ?_)
   | (with_reducible refine LeO.bind ?_ (fun _ => ?_))
   | exact parapetref9_Port.mono _ _ _ _ _ _ _ _ _ _ _
   | exact LeO.none _
   | refine LeO.ite ?_ ?_
   | refine LeO.bind ?_ (fun _ => ?_)
def parapetref9_Of.T1 : Bool × List (List Nat × List Nat) := (true, [([], []), ([0], [0]), ([], []), ([2], [2]), ([], []), ([4], [4]), ([1, 3, 5], [1, 3, 5]), ([6, 5, 0, 1, 2, 3, 4, 5, 6], [6])])
def parapetref9_Of.B1 : List Nat := [0, 1, 0, 4, 0, 16, 63, 127]
theorem parapetref9_Of.tab1 : rtab .any (opsOf Tryd.f23 1) = parapetref9_Of.T1 := by kernel_rfl
theorem parapetref9_Of.bits1 : waitsOk parapetref9_Of.T1.2 parapetref9_Of.B1 = true := by kernel_rfl
theorem parapetref9_Of.calls (k : Nat) (a0_0 : ByteArray) (a0_1 : ByteArray) (a0_2 : ByteArray) (a0_3 : ByteArray) (a0_4 : Int) (a0_5 : ByteArray) (a0_6 : Bool) (a0_7 : ByteArray) (a0_8 : Bool) (a0_9 : ByteArray) (r1 : ByteArray) (r2 : ByteArray) (r3 : Int) (w : World) (h : parapetref9_Of.f k a0_0 a0_1 a0_2 a0_3 a0_4 a0_5 a0_6 a0_7 a0_8 a0_9 = some (r1, r2, r3)) :
  Calls Tryd.prog 23 #[.agg #[.string a0_0, .string a0_1, .string a0_2, .string a0_3, .int .i64 a0_4, .string a0_5, .bool a0_6, .string a0_7, .bool a0_8, .string a0_9]] w fun e w' => e = .returned (.agg #[.string r1, .string r2, .int .i64 r3]) ∧ Below w.heap.size w w' := by
 have hu23 := Tryd.underlying23
 have hu29 := Tryd.underlying29
 have HB := Aside0.mk (Below.refl w.heap.size w)
 have H : ((parapetref9_Port.f k a0_0 a0_1 a0_2 a0_3 a0_4 a0_5 a0_6 a0_7 a0_8 a0_9).bind fun t361 => (some (a0_0, a0_3, t361))) = some (r1, r2, r3) := h
 clear h
 replace H := Option.bind_eq_some_iff.mp H
 obtain ⟨t361, A20, H⟩ := H
 replace H : (some (a0_0, a0_3, t361)) = some (r1, r2, r3) := H
 have A2 := Aside0.mk A20
 clear A20
 simp only [Option.some.injEq, Prod.mk.injEq] at H
 obtain ⟨rfl, rfl, rfl⟩ := H
 go_enter Tryd.func23, Tryd.ntmps23
 try go_wp2_with (first | ((with_reducible refine gate_dst (N := 1) rfl ?_); refine box_event ?hg (N := 1) ?hd (cs := #[.string a0_0, .string a0_1, .string a0_2, .string a0_3, .int .i64 a0_4, .string a0_5, .bool a0_6, .string a0_7, .bool a0_8, .string a0_9]) (t := 23) ?hr ?_; (case hd => rfl); (case hg => rfl); (case hr => first | (go_simp; done) | (go_simp; rfl)); intro gb359 hg w3 hbox hb; have n0_ := Aside0.mk (below_step BWK hb); have n1_ := Aside0.mk (hbox); have n2_ := Aside0.mk ((by rw [hg]; exact (below_size BWK) : w.heap.size ≤ gb359)); have n3_ := Aside0.mk ((by rw [hg]; exact (below_size BWK) : w.heap.size ≤ gb359)); clear HB; have HB := n0_; have BK359 := n1_; have GW359 := n2_; have GE359 := n3_; clear n0_ n1_ n2_ n3_; clear hb hbox hg) | ((with_reducible refine gate_dst (N := 2) rfl ?_); refine box_event ?hg (N := 2) ?hd (cs := #[.string (⟨#[]⟩ : ByteArray), .string (⟨#[]⟩ : ByteArray), .int .i64 0]) (t := 29) ?hr ?_; (case hd => rfl); (case hg => rfl); (case hr => first | (go_simp; done) | (go_simp; rfl)); intro gb360 hg w4 hbox hb; have n0_ := Aside0.mk (blk_below (g := gb359) (o := .cells #[.string a0_0, .string a0_1, .string a0_2, .string a0_3, .int .i64 a0_4, .string a0_5, .bool a0_6, .string a0_7, .bool a0_8, .string a0_9] 23 (0, 0)) BLK hb); have n1_ := Aside0.mk (below_step BWK hb); have n2_ := Aside0.mk (hbox); have n3_ := Aside0.mk ((by rw [hg]; exact (below_size BWK) : w.heap.size ≤ gb360)); have n4_ := Aside0.mk ((by rw [hg]; exact (below_size BWK) : w.heap.size ≤ gb360)); have n5_ := Aside0.mk ((by rw [hg]; exact Nat.ne_of_lt (blk_lt (g := gb359) (o := .cells #[.string a0_0, .string a0_1, .string a0_2, .string a0_3, .int .i64 a0_4, .string a0_5, .bool a0_6, .string a0_7, .bool a0_8, .string a0_9] 23 (0, 0)) BLK) : gb359 ≠ gb360)); have n6_ := Aside0.mk ((by rw [hg]; exact Nat.ne_of_gt (blk_lt (g := gb359) (o := .cells #[.string a0_0, .string a0_1, .string a0_2, .string a0_3, .int .i64 a0_4, .string a0_5, .bool a0_6, .string a0_7, .bool a0_8, .string a0_9] 23 (0, 0)) BLK) : gb360 ≠ gb359)); clear BK359; clear HB; have BK359 := n0_; have HB := n1_; have BK360 := n2_; have GW360 := n3_; have GE360 := n4_; have NB359_360 := n5_; have NB360_359 := n6_; clear n0_ n1_ n2_ n3_ n4_ n5_ n6_; clear hb hbox hg))
 have n0_ := Aside0.mk (blk_drew BK359.out)
 have n1_ := Aside0.mk (blk_drew BK360.out)
 have n2_ := Aside0.mk (below_drew1 HB.out)
 clear BK359
 clear BK360
 clear HB
 have BK359 := n0_
 have BK360 := n1_
 have HB := n2_
 clear n0_ n1_ n2_
 refine start_ (n := 8) (S := fun w' => w'.cell? ⟨gb359, 0, none⟩ = some (.string a0_0) ∧ w'.cell? ⟨gb359, 1, none⟩ = some (.string a0_1) ∧ w'.cell? ⟨gb359, 2, none⟩ = some (.string a0_2) ∧ w'.cell? ⟨gb359, 3, none⟩ = some (.string a0_3) ∧ w'.cell? ⟨gb359, 4, none⟩ = some (.int .i64 a0_4) ∧ w'.cell? ⟨gb359, 5, none⟩ = some (.string a0_5) ∧ w'.cell? ⟨gb359, 6, none⟩ = some (.bool a0_6) ∧ w'.cell? ⟨gb359, 7, none⟩ = some (.string a0_7) ∧ w'.cell? ⟨gb359, 8, none⟩ = some (.bool a0_8) ∧ w'.cell? ⟨gb359, 9, none⟩ = some (.string a0_9)) (ds := []) #[false, false, false, false, false, false, false, false] (by kernel_rfl) rfl rfl ⟨(blk_cell BK359.out 0).trans rfl, (blk_cell BK359.out 1).trans rfl, (blk_cell BK359.out 2).trans rfl, (blk_cell BK359.out 3).trans rfl, (blk_cell BK359.out 4).trans rfl, (blk_cell BK359.out 5).trans rfl, (blk_cell BK359.out 6).trans rfl, (blk_cell BK359.out 7).trans rfl, (blk_cell BK359.out 8).trans rfl, (blk_cell BK359.out 9).trans rfl⟩ (fun hHeld => ?_); refine with_tabW parapetref9_Of.tab1 parapetref9_Of.bits1 (fun HT_ HW_ => ?_)
 generalize w4.drew = w5 at BK359 BK360 HB hHeld ⊢
 refine pure_ (i := 0) (N := some 3) (v := ?_) (a' := ?_) #[true, false, false, false, false, false, false, false] rfl rfl (any_of HT_.out (by kernel_rfl)) (fun _ _ _ h => h) (Or.inl ⟨by rfl, ?_⟩) ?_ ?_
 rotate_left
 ·intro w'
  go_simp
  with_reducible rfl
 rotate_left
 ·simp only [Act.put, List.setIfInBounds_toArray, List.set_cons_zero, List.set_cons_succ, i64_w, i32_w]
  rfl
 refine pure_ (i := 2) (N := some 5) (v := ?_) (a' := ?_) #[true, false, true, false, false, false, false, false] rfl rfl (any_of HT_.out (by kernel_rfl)) (fun _ _ _ h => h) (Or.inl ⟨by rfl, ?_⟩) ?_ ?_
 rotate_left
 ·intro w'
  go_simp
  with_reducible rfl
 rotate_left
 ·simp only [Act.put, List.setIfInBounds_toArray, List.set_cons_zero, List.set_cons_succ, i64_w, i32_w]
  rfl
 refine take_ (i := 1) (N := some 4) (v := ?_) (a' := ?_) #[true, true, true, false, false, false, false, false] rfl rfl (take_ofW HT_.out HW_.out (by kernel_rfl)) (fun _ _ _ h => h) (Or.inl ⟨by rfl, ?_⟩) hHeld ?_ ?_
 rotate_left
 ·rintro w' ⟨s0, s1, s2, s3, s4, s5, s6, s7, s8, s9⟩
  go_simp
  with_reducible rfl
 rotate_left
 ·simp only [Act.put, List.setIfInBounds_toArray, List.set_cons_zero, List.set_cons_succ, i64_w, i32_w]
  rfl
 refine take_ (i := 3) (N := some 6) (v := ?_) (a' := ?_) #[true, true, true, true, false, false, false, false] rfl rfl (take_ofW HT_.out HW_.out (by kernel_rfl)) (fun _ _ _ h => h) (Or.inl ⟨by rfl, ?_⟩) hHeld ?_ ?_
 rotate_left
 ·rintro w' ⟨s0, s1, s2, s3, s4, s5, s6, s7, s8, s9⟩
  go_simp
  with_reducible rfl
 rotate_left
 ·simp only [Act.put, List.setIfInBounds_toArray, List.set_cons_zero, List.set_cons_succ, i64_w, i32_w]
  rfl
 refine take_ (i := 4) (N := some 7) (v := ?_) (a' := ?_) #[true, true, true, true, true, false, false, false] rfl rfl (take_ofW HT_.out HW_.out (by kernel_rfl)) (fun _ _ _ h => h) (Or.inl ⟨by rfl, ?_⟩) hHeld ?_ ?_
 rotate_left
 ·rintro w' ⟨s0, s1, s2, s3, s4, s5, s6, s7, s8, s9⟩
  go_simp
  with_reducible rfl
 rotate_left
 ·simp only [Act.put, List.setIfInBounds_toArray, List.set_cons_zero, List.set_cons_succ, i64_w, i32_w]
  rfl
 refine one_ (i := 5) (N := some 8) #[true, true, true, true, true, true, false, false] rfl rfl (one_of HT_.out (by kernel_rfl)) (by decide) (fun K hK => ?_)
 refine goes_ Tryd.func43 (by kernel_rfl) rfl #[.agg #[.string a0_0, .string a0_1, .string a0_2, .string a0_3, .int .i64 a0_4, .string a0_5, .bool a0_6, .string a0_7, .bool a0_8, .string a0_9]] (by rfl) rfl rfl GAK ?_
 with_reducible refine (parapetref9_Port.calls k a0_0 a0_1 a0_2 a0_3 a0_4 a0_5 a0_6 a0_7 a0_8 a0_9 t361 _ A2.out).mono ?_
 rintro e w6 ⟨rfl, hb⟩
 refine ⟨_, rfl, ?_⟩
 have n0_ := Aside0.mk (blk_below (g := gb359) (o := .cells #[.string a0_0, .string a0_1, .string a0_2, .string a0_3, .int .i64 a0_4, .string a0_5, .bool a0_6, .string a0_7, .bool a0_8, .string a0_9] 23 (0, 0)) BLK hb)
 have n1_ := Aside0.mk (blk_below (g := gb360) (o := .cells #[.string (⟨#[]⟩ : ByteArray), .string (⟨#[]⟩ : ByteArray), .int .i64 0] 29 (0, 0)) BLK hb)
 have n2_ := Aside0.mk (below_step BWK hb)
 clear BK359
 clear BK360
 clear HB
 have BK359 := n0_
 have BK360 := n1_
 have HB := n2_
 clear n0_ n1_ n2_
 (try clear hb)
 (try clear hb2)
 (try clear hk)
 (try clear hi)
 refine hK.out _ _ ⟨(blk_cell BK359.out 0).trans rfl, (blk_cell BK359.out 1).trans rfl, (blk_cell BK359.out 2).trans rfl, (blk_cell BK359.out 3).trans rfl, (blk_cell BK359.out 4).trans rfl, (blk_cell BK359.out 5).trans rfl, (blk_cell BK359.out 6).trans rfl, (blk_cell BK359.out 7).trans rfl, (blk_cell BK359.out 8).trans rfl, (blk_cell BK359.out 9).trans rfl⟩ (fun hHeld => ?_)
 clear hK K
 refine norm_ (a' := ?_) ?_ ?_
 rotate_left
 ·show Act.put _ (some 8) _ = _
  simp only [Act.put, List.setIfInBounds_toArray, List.set_cons_zero, List.set_cons_succ, i64_w, i32_w]
  rfl
 refine pure_ (i := 6) (N := some 9) (v := ?_) (a' := ?_) #[true, true, true, true, true, true, true, false] rfl rfl (any_of HT_.out (by kernel_rfl)) (fun _ _ _ h => h) (Or.inl ⟨by rfl, ?_⟩) ?_ ?_
 rotate_left
 ·intro w'
  go_simp
  with_reducible rfl
 rotate_left
 ·simp only [Act.put, List.setIfInBounds_toArray, List.set_cons_zero, List.set_cons_succ, i64_w, i32_w]
  rfl
 refine one_ (i := 7) (N := none) #[true, true, true, true, true, true, true, true] rfl rfl (one_of HT_.out (by kernel_rfl)) (by decide) (fun K hK => ?_)
 have hs7 : w6.cell? ⟨gb360, 0, none⟩ = some (.string (⟨#[]⟩ : ByteArray)) := (blk_cell BK360.out 0).trans rfl
 have hfs7 := blk_frozen BK360.out 0
 have hns7_0 := NB359_360.out
 have hms7_0 := NB360_359.out
 have hs8 : w6.cell? ⟨gb360, 1, none⟩ = some (.string (⟨#[]⟩ : ByteArray)) := (blk_cell BK360.out 1).trans rfl
 have hfs8 := blk_frozen BK360.out 1
 have hns8_0 := NB359_360.out
 have hms8_0 := NB360_359.out
 have hs9 : w6.cell? ⟨gb360, 2, none⟩ = some (.int .i64 0) := (blk_cell BK360.out 2).trans rfl
 have hfs9 := blk_frozen BK360.out 2
 have hns9_0 := NB359_360.out
 have hms9_0 := NB360_359.out
 refine skip_ (w1 := ?_) (by rfl) rfl ?_ ?_
 rotate_left
 ·go_simp
  rfl
 refine hK.out _ _ ⟨((cell_far (p := ⟨gb360, _, none⟩) NB359_360.out _).trans (((cell_far (p := ⟨gb360, _, none⟩) NB359_360.out _).trans (((cell_far (p := ⟨gb360, _, none⟩) NB359_360.out _).trans (hHeld.1)))))), ((cell_far (p := ⟨gb360, _, none⟩) NB359_360.out _).trans (((cell_far (p := ⟨gb360, _, none⟩) NB359_360.out _).trans (((cell_far (p := ⟨gb360, _, none⟩) NB359_360.out _).trans (hHeld.2.1)))))), ((cell_far (p := ⟨gb360, _, none⟩) NB359_360.out _).trans (((cell_far (p := ⟨gb360, _, none⟩) NB359_360.out _).trans (((cell_far (p := ⟨gb360, _, none⟩) NB359_360.out _).trans (hHeld.2.2.1)))))), ((cell_far (p := ⟨gb360, _, none⟩) NB359_360.out _).trans (((cell_far (p := ⟨gb360, _, none⟩) NB359_360.out _).trans (((cell_far (p := ⟨gb360, _, none⟩) NB359_360.out _).trans (hHeld.2.2.2.1)))))), ((cell_far (p := ⟨gb360, _, none⟩) NB359_360.out _).trans (((cell_far (p := ⟨gb360, _, none⟩) NB359_360.out _).trans (((cell_far (p := ⟨gb360, _, none⟩) NB359_360.out _).trans (hHeld.2.2.2.2.1)))))), ((cell_far (p := ⟨gb360, _, none⟩) NB359_360.out _).trans (((cell_far (p := ⟨gb360, _, none⟩) NB359_360.out _).trans (((cell_far (p := ⟨gb360, _, none⟩) NB359_360.out _).trans (hHeld.2.2.2.2.2.1)))))), ((cell_far (p := ⟨gb360, _, none⟩) NB359_360.out _).trans (((cell_far (p := ⟨gb360, _, none⟩) NB359_360.out _).trans (((cell_far (p := ⟨gb360, _, none⟩) NB359_360.out _).trans (hHeld.2.2.2.2.2.2.1)))))), ((cell_far (p := ⟨gb360, _, none⟩) NB359_360.out _).trans (((cell_far (p := ⟨gb360, _, none⟩) NB359_360.out _).trans (((cell_far (p := ⟨gb360, _, none⟩) NB359_360.out _).trans (hHeld.2.2.2.2.2.2.2.1)))))), ((cell_far (p := ⟨gb360, _, none⟩) NB359_360.out _).trans (((cell_far (p := ⟨gb360, _, none⟩) NB359_360.out _).trans (((cell_far (p := ⟨gb360, _, none⟩) NB359_360.out _).trans (hHeld.2.2.2.2.2.2.2.2.1)))))), ((cell_far (p := ⟨gb360, _, none⟩) NB359_360.out _).trans (((cell_far (p := ⟨gb360, _, none⟩) NB359_360.out _).trans (((cell_far (p := ⟨gb360, _, none⟩) NB359_360.out _).trans (hHeld.2.2.2.2.2.2.2.2.2))))))⟩ (fun hHeld => ?_)
 clear hK K
 refine done_ (done_of HT_.out (by kernel_rfl)) ?_
 try go_wp2
 refine bodyPost_ret (results_cell_row rfl _ _ gb360 29 #[.string a0_0, .string a0_3, .int .i64 t361] (0, 0) _ rfl BLK Tryd.underlying29 rfl (by kernel_rfl)) rfl ?_
 exact ⟨ERK, BWK⟩

/-! ### parapetref9_Secure: function 11 -/
def parapetref9_Secure.f (k : Nat) (a0_0 : ByteArray) (a0_1 : ByteArray) (a0_2 : ByteArray) (a0_3 : ByteArray) (a0_4 : Int) (a0_5 : ByteArray) (a0_6 : Bool) (a0_7 : ByteArray) (a0_8 : Bool) (a0_9 : ByteArray) : Option (Bool) := (parapetref9_Of.f k a0_0 a0_1 a0_2 a0_3 a0_4 a0_5 a0_6 a0_7 a0_8 a0_9).bind fun bt363 => ((parapetref9_Trusted.f k bt363.1 bt363.2.1 bt363.2.2).bind fun t366 => (some t366))
theorem parapetref9_Secure.mono : ∀ a0 a1 a2 a3 a4 a5 a6 a7 a8 a9 k, LeO (parapetref9_Secure.f k a0 a1 a2 a3 a4 a5 a6 a7 a8 a9) (parapetref9_Secure.f (k + 1) a0 a1 a2 a3 a4 a5 a6 a7 a8 a9) := by
 intro a0 a1 a2 a3 a4 a5 a6 a7 a8 a9 k
 unfold parapetref9_Secure.f
 repeat' first
   | (with_reducible exact parapetref9_Of.mono _ _ _ _ _ _ _ _ _ _ _)
   | (with_reducible exact parapetref9_Trusted.mono _ _ _ _)
   | (with_reducible exact LeO.refl _)
   | (with_reducible exact LeO.none _)
   | (with_reducible refine LeO.ite ?_ ?_)
   | (with_reducible refine LeO.bind ?_ (fun _ => ?_))
   | exact parapetref9_Of.mono _ _ _ _ _ _ _ _ _ _ _
   | exact parapetref9_Trusted.mono _ _ _ _
   | exact LeO.none _
   | refine LeO.ite ?_ ?_
   | refine LeO.bind ?_ (fun _ => ?_)
theorem parapetref9_Secure.calls (k : Nat) (a0_0 : ByteArray) (a0_1 : ByteArray) (a0_2 : ByteArray) (a0_3 : ByteArray) (a0_4 : Int) (a0_5 : ByteArray) (a0_6 : Bool) (a0_7 : ByteArray) (a0_8 : Bool) (a0_9 : ByteArray) (r : Bool) (w : World) (h : parapetref9_Secure.f k a0_0 a0_1 a0_2 a0_3 a0_4 a0_5 a0_6 a0_7 a0_8 a0_9 = some r) :
  Calls Tryd.prog 11 #[.agg #[.string a0_0, .string a0_1, .string a0_2, .string a0_3, .int .i64 a0_4, .string a0_5, .bool a0_6, .string a0_7, .bool a0_8, .string a0_9]] w fun e w' => e = .returned (.bool r) ∧ Below w.heap.size w w' := by
 have hu23 := Tryd.underlying23
 have HB := Aside0.mk (Below.refl w.heap.size w)
 have H : ((parapetref9_Of.f k a0_0 a0_1 a0_2 a0_3 a0_4 a0_5 a0_6 a0_7 a0_8 a0_9).bind fun bt363 => ((parapetref9_Trusted.f k bt363.1 bt363.2.1 bt363.2.2).bind fun t366 => (some t366))) = some r := h
 clear h
 replace H := Option.bind_eq_some_iff.mp H
 obtain ⟨⟨t363, t364, t365⟩, A20, H⟩ := H
 (try dsimp only at H)
 have A2 := Aside0.mk A20
 clear A20
 replace H := Option.bind_eq_some_iff.mp H
 obtain ⟨t366, A30, H⟩ := H
 (try dsimp only at H)
 have A3 := Aside0.mk A30
 clear A30
 obtain rfl := Option.some.inj H
 go_enter Tryd.func11, Tryd.ntmps11
 go_wp2_with (first | ((with_reducible refine gate_dst (N := 1) rfl ?_); refine box_event ?hg (N := 1) ?hd (cs := #[.string a0_0, .string a0_1, .string a0_2, .string a0_3, .int .i64 a0_4, .string a0_5, .bool a0_6, .string a0_7, .bool a0_8, .string a0_9]) (t := 23) ?hr ?_; (case hd => rfl); (case hg => rfl); (case hr => first | (go_simp; done) | (go_simp; rfl)); intro gb362 hg w4 hbox hb; have n0_ := Aside0.mk (below_step BWK hb); have n1_ := Aside0.mk (hbox); have n2_ := Aside0.mk ((by rw [hg]; exact (below_size BWK) : w.heap.size ≤ gb362)); have n3_ := Aside0.mk ((by rw [hg]; exact (below_size BWK) : w.heap.size ≤ gb362)); clear HB; have HB := n0_; have BK362 := n1_; have GW362 := n2_; have GE362 := n3_; clear n0_ n1_ n2_ n3_; clear hb hbox hg; have hcz5_0 := bc0 BK362.out; have hcz5_1 := bc1 BK362.out; have hcz5_2 := bc2 BK362.out; have hcz5_3 := bc3 BK362.out; have hcz5_4 := bc4 BK362.out; have hcz5_5 := bc5 BK362.out; have hcz5_6 := bc6 BK362.out; have hcz5_7 := bc7 BK362.out; have hcz5_8 := bc8 BK362.out; have hcz5_9 := bc9 BK362.out; have hfz5_0 := blk_frozen BK362.out 0; have hfz5_1 := blk_frozen BK362.out 1; have hfz5_2 := blk_frozen BK362.out 2; have hfz5_3 := blk_frozen BK362.out 3; have hfz5_4 := blk_frozen BK362.out 4; have hfz5_5 := blk_frozen BK362.out 5; have hfz5_6 := blk_frozen BK362.out 6; have hfz5_7 := blk_frozen BK362.out 7; have hfz5_8 := blk_frozen BK362.out 8; have hfz5_9 := blk_frozen BK362.out 9) | ((with_reducible refine gate_callee (f := 23) rfl ?_); refine goesL_ (some 4) rfl rfl Tryd.func23 (by kernel_rfl) rfl #[.agg #[.string a0_0, .string a0_1, .string a0_2, .string a0_3, .int .i64 a0_4, .string a0_5, .bool a0_6, .string a0_7, .bool a0_8, .string a0_9]] rfl GAK ?_; (with_reducible refine (parapetref9_Of.calls k a0_0 a0_1 a0_2 a0_3 a0_4 a0_5 a0_6 a0_7 a0_8 a0_9 t363 t364 t365 _ A2.out).mono ?_); rintro e w6 ⟨rfl, hb⟩; refine ⟨_, rfl, ?_⟩; have n0_ := Aside0.mk (blk_below (g := gb362) (o := .cells #[.string a0_0, .string a0_1, .string a0_2, .string a0_3, .int .i64 a0_4, .string a0_5, .bool a0_6, .string a0_7, .bool a0_8, .string a0_9] 23 (0, 0)) BLK hb); have n1_ := Aside0.mk (below_step BWK hb); clear BK362; clear HB; have BK362 := n0_; have HB := n1_; clear n0_ n1_; (try clear hb); (try clear hb2); (try clear hk); (try clear hi)) | ((with_reducible refine gate_callee (f := 22) rfl ?_); refine goesL_ (some 5) rfl rfl Tryd.func22 (by kernel_rfl) rfl #[.agg #[.string t363, .string t364, .int .i64 t365]] rfl GAK ?_; (with_reducible refine (parapetref9_Trusted.calls k t363 t364 t365 t366 _ A3.out).mono ?_); rintro e w7 ⟨rfl, hb⟩; refine ⟨_, rfl, ?_⟩; have n0_ := Aside0.mk (blk_below (g := gb362) (o := .cells #[.string a0_0, .string a0_1, .string a0_2, .string a0_3, .int .i64 a0_4, .string a0_5, .bool a0_6, .string a0_7, .bool a0_8, .string a0_9] 23 (0, 0)) BLK hb); have n1_ := Aside0.mk (below_step BWK hb); clear BK362; clear HB; have BK362 := n0_; have HB := n1_; clear n0_ n1_; (try clear hb); (try clear hb2); (try clear hk); (try clear hi)))
 go_ret
 exact ⟨ERK, BWK⟩

/-! ### parapetref1_In: function 26 -/
def parapetref1_In.l0 : Nat → ByteArray → List ByteArray → Int → Option (Bool)
 | 0, _, _, _ => none
 | k + 1, x0, x1, x5 => if x5 < (x1.length : Int) then (if 0 ≤ x5 then (if (rdOf ByteArray.empty x1 x5).toList = x0.toList then (some true) else (parapetref1_In.l0 k x0 x1 (wrap64 (x5 + 1)))) else (none)) else (some false)
def parapetref1_In.f (k : Nat) (a0 : ByteArray) (l1 : List ByteArray) : Option (Bool) := parapetref1_In.l0 k a0 l1 0
theorem parapetref1_In.mono_l : ∀ k, (∀ y0 y1 y2, LeO (parapetref1_In.l0 k y0 y1 y2) (parapetref1_In.l0 (k + 1) y0 y1 y2))
 | 0 => fun _ _ _ r h => by simp [parapetref1_In.l0] at h
 | k + 1 => by
  have ih0 := parapetref1_In.mono_l k
  ·intro y0 y1 y2
   unfold parapetref1_In.l0
   repeat' first
   | (with_reducible exact ih0 _ _ _)
   | (with_reducible exact LeO.refl _)
   | (with_reducible exact LeO.none _)
   | (with_reducible refine LeO.ite ?_ ?_)
   | (with_reducible refine LeO.bind ?_ (fun _ => ?_))
   | exact ih0 _ _ _
   | exact LeO.none _
   | refine LeO.ite ?_ ?_
   | refine LeO.bind ?_ (fun _ => ?_)
theorem parapetref1_In.mono : ∀ a0 a1 k, LeO (parapetref1_In.f k a0 a1) (parapetref1_In.f (k + 1) a0 a1) := by
 intro a0 a1 k
 have ih0 := parapetref1_In.mono_l k
 unfold parapetref1_In.f
 repeat' first
   | (with_reducible exact ih0 _ _ _)
   | (with_reducible exact LeO.refl _)
   | (with_reducible exact LeO.none _)
   | (with_reducible refine LeO.ite ?_ ?_)
   | (with_reducible refine LeO.bind ?_ (fun _ => ?_))
   | exact ih0 _ _ _
   | exact LeO.none _
   | refine LeO.ite ?_ ?_
   | refine LeO.bind ?_ (fun _ => ?_)
theorem parapetref1_In.calls (k : Nat) (a0 : ByteArray) (A1 : Option Addr) (c1 : Nat) (l1 : List ByteArray) (r : Bool) (w : World) (hr1 : Kd.C Kd.string w A1 l1.length l1) (hc1 : l1.length ≤ c1) (h : parapetref1_In.f k a0 l1 = some r) :
  Calls Tryd.prog 26 #[.string a0, .slice A1 l1.length c1] w fun e w' => e = .returned (.bool r) ∧ Drawn0 w w' := by
 have HR1 := Aside0.mk hr1
 have HC1 := Aside0.mk hc1
 clear hr1 hc1
 have H : (parapetref1_In.l0 k a0 l1 0) = some r := h
 clear h
 have H' := Aside0.mk H
 clear H
 go_enter Tryd.func26, Tryd.ntmps26
 go_wp2
 go_loopg [5] k (fun kq v5 w' => ∃ (x5_1 : Int), v5 = .int .i64 x5_1 ∧ Aside0 (parapetref1_In.l0 kq a0 l1 x5_1 = some r) ∧ Aside0 (kq ≤ k) ∧ Drawn0 w w')
 case atStart => exact ⟨(0), RFK, H', ⟨Nat.le_refl _⟩, DRK⟩
 case round =>
  clear H'
  try clear c1
  try clear c2
  try clear p2
  obtain ⟨x5_1, rfl, HA, HK1, ⟨m1, rfl⟩⟩ := hrel
  cases gk with
  | zero => exact absurd HA.out (by simp [parapetref1_In.l0])
  | succ k1 =>
   have H := HA.out
   clear HA
   simp only [parapetref1_In.l0] at H
   by_cases c3 : x5_1 < (l1.length : Int)
   ·rw [if_pos c3] at H
    have c3b0 := decide_eq_true c3
    clear c3
    by_cases c4 : 0 ≤ x5_1
    ·rw [if_pos c4] at H
     have c4b0 := decide_eq_true c4
     clear c4
     by_cases c5 : (rdOf ByteArray.empty l1 x5_1).toList = a0.toList
     ·rw [if_pos c5] at H
      have c5b0 : ((rdOf ByteArray.empty l1 x5_1).toList == a0.toList) = true := beq_iff_eq.mpr c5
      have c5b1 : ((rdOf ByteArray.empty l1 x5_1).toList != a0.toList) = false := bne_eq_false_iff_eq.mpr c5
      clear c5
      obtain rfl := Option.some.inj H
      have p367 : 0 ≤ (x5_1 : Int) := odA
      have q367 : x5_1 < (l1.length : Int) := odA
      obtain ⟨ad367, e367, hx367_0⟩ := Kd.at_string HR1.out x5_1 p367 q367
      cases e367
      replace p367 := eq_true p367
      replace q367 := eq_true q367
      go_wp2
      go_ret
      exact ⟨RFK, DRK⟩
     ·rw [if_neg c5] at H
      have c5b0 : ((rdOf ByteArray.empty l1 x5_1).toList == a0.toList) = false := beq_eq_false_iff_ne.mpr c5
      have c5b1 : ((rdOf ByteArray.empty l1 x5_1).toList != a0.toList) = true := bne_iff_ne.mpr c5
      have H' := Aside0.mk H
      clear H
      have p367 : 0 ≤ (x5_1 : Int) := odA
      have q367 : x5_1 < (l1.length : Int) := odA
      obtain ⟨ad367, e367, hx367_0⟩ := Kd.at_string HR1.out x5_1 p367 q367
      cases e367
      replace p367 := eq_true p367
      replace q367 := eq_true q367
      go_wp2
      go_roundg k1
      case measure => have := HK1.out; omega
      case rel => exact ⟨(wrap64 (x5_1 + 1)), RFK, H', ⟨by have := HK1.out; omega⟩, DRK⟩
    ·rw [if_neg c4] at H
     exact absurd H (by simp)
   ·rw [if_neg c3] at H
    have c3b0 := decide_eq_false c3
    clear c3
    obtain rfl := Option.some.inj H
    go_wp2
    go_ret
    exact ⟨RFK, DRK⟩

end Go.Proofs.YtknkokkgefcdbaaDoor.PA
