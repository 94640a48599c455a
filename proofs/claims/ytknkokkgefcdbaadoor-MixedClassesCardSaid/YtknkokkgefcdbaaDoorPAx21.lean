-- half
-- written by pp.py, a program of this session's, which runs the kit's print with turns of its own; Lean checks it
import Derived.Test.YtknkokkgefcdbaaDoorBP
import Derived.Test.YtknkokkgefcdbaaDoorPAx0
import Derived.Test.YtknkokkgefcdbaaDoorPAx15
import Derived.Test.YtknkokkgefcdbaaDoorPAx19
import Derived.Test.YtknkokkgefcdbaaDoorPAx20
namespace Go.Proofs.YtknkokkgefcdbaaDoor.PA
open Go.RowKit Go.Proofs.YtknkokkgefcdbaaDoorW.PrintWords Go.Proofs.YtknkokkgefcdbaaDoorW.PrintLast Go.Proofs.YtknkokkgefcdbaaDoorW.PrintMore
attribute [local go_sem] max2_int min2_int max_two min_two max_three min_three max_four min_four   -- for this text's walks alone
set_option maxHeartbeats 8000000
set_option maxRecDepth 100000
set_option linter.unusedVariables false
set_option linter.unusedSimpArgs false

/-! ### origin_Of: function 41 -/
def origin_Of.f (k : Nat) (a0_0 : ByteArray) (a0_1 : ByteArray) (a0_2 : ByteArray) (a0_3 : ByteArray) (a0_4 : Int) (a0_5 : ByteArray) (a0_6 : Bool) (a0_7 : ByteArray) (a0_8 : Bool) (a0_9 : ByteArray) : Option (ByteArray × ByteArray × Int) := (url_Port.f k a0_0 a0_1 a0_2 a0_3 a0_4 a0_5 a0_6 a0_7 a0_8 a0_9).bind fun t300 => (some (a0_0, a0_3, t300))
theorem origin_Of.mono : ∀ a0 a1 a2 a3 a4 a5 a6 a7 a8 a9 k, LeO (origin_Of.f k a0 a1 a2 a3 a4 a5 a6 a7 a8 a9) (origin_Of.f (k + 1) a0 a1 a2 a3 a4 a5 a6 a7 a8 a9) := by
 intro a0 a1 a2 a3 a4 a5 a6 a7 a8 a9 k
 unfold origin_Of.f
 repeat' first
   | (with_reducible exact url_Port.mono _ _ _ _ _ _ _ _ _ _ _)
   | (with_reducible exact LeO.refl _)
   | (with_reducible exact LeO.none _)
   | (with_reducible refine LeO.ite ?_ ?_)
   | (with_reducible refine LeO.bind ?_ (fun _ => ?_))
   | exact url_Port.mono _ _ _ _ _ _ _ _ _ _ _
   | exact LeO.none _
   | refine LeO.ite ?_ ?_
   | refine LeO.bind ?_ (fun _ => ?_)
def origin_Of.T1 : Bool × List (List Nat × List Nat) := (true, [([], []), ([0], [0]), ([], []), ([2], [2]), ([], []), ([4], [4]), ([1, 3, 5], [1, 3, 5]), ([6, 5, 0, 1, 2, 3, 4, 5, 6], [6])])
def origin_Of.B1 : List Nat := [0, 1, 0, 4, 0, 16, 63, 127]
theorem origin_Of.tab1 : rtab .any (opsOf Tryd.f41 1) = origin_Of.T1 := by kernel_rfl
theorem origin_Of.bits1 : waitsOk origin_Of.T1.2 origin_Of.B1 = true := by kernel_rfl
theorem origin_Of.calls (k : Nat) (a0_0 : ByteArray) (a0_1 : ByteArray) (a0_2 : ByteArray) (a0_3 : ByteArray) (a0_4 : Int) (a0_5 : ByteArray) (a0_6 : Bool) (a0_7 : ByteArray) (a0_8 : Bool) (a0_9 : ByteArray) (r1 : ByteArray) (r2 : ByteArray) (r3 : Int) (w : World) (h : origin_Of.f k a0_0 a0_1 a0_2 a0_3 a0_4 a0_5 a0_6 a0_7 a0_8 a0_9 = some (r1, r2, r3)) :
  Calls Tryd.prog 41 #[.agg #[.string a0_0, .string a0_1, .string a0_2, .string a0_3, .int .i64 a0_4, .string a0_5, .bool a0_6, .string a0_7, .bool a0_8, .string a0_9]] w fun e w' => e = .returned (.agg #[.string r1, .string r2, .int .i64 r3]) ∧ Below w.heap.size w w' := by
 have hu23 := Tryd.underlying23
 have hu29 := Tryd.underlying29
 have HB := Aside0.mk (Below.refl w.heap.size w)
 have H : ((url_Port.f k a0_0 a0_1 a0_2 a0_3 a0_4 a0_5 a0_6 a0_7 a0_8 a0_9).bind fun t300 => (some (a0_0, a0_3, t300))) = some (r1, r2, r3) := h
 clear h
 replace H := Option.bind_eq_some_iff.mp H
 obtain ⟨t300, A20, H⟩ := H
 replace H : (some (a0_0, a0_3, t300)) = some (r1, r2, r3) := H
 have A2 := Aside0.mk A20
 clear A20
 simp only [Option.some.injEq, Prod.mk.injEq] at H
 obtain ⟨rfl, rfl, rfl⟩ := H
 go_enter Tryd.func41, Tryd.ntmps41
 try go_wp2_with (first | ((with_reducible refine gate_dst (N := 1) rfl ?_); refine box_event ?hg (N := 1) ?hd (cs := #[.string a0_0, .string a0_1, .string a0_2, .string a0_3, .int .i64 a0_4, .string a0_5, .bool a0_6, .string a0_7, .bool a0_8, .string a0_9]) (t := 23) ?hr ?_; (case hd => rfl); (case hg => rfl); (case hr => first | (go_simp; done) | (go_simp; rfl)); intro gb298 hg w3 hbox hb; have n0_ := Aside0.mk (below_step BWK hb); have n1_ := Aside0.mk (hbox); have n2_ := Aside0.mk ((by rw [hg]; exact (below_size BWK) : w.heap.size ≤ gb298)); have n3_ := Aside0.mk ((by rw [hg]; exact (below_size BWK) : w.heap.size ≤ gb298)); clear HB; have HB := n0_; have BK298 := n1_; have GW298 := n2_; have GE298 := n3_; clear n0_ n1_ n2_ n3_; clear hb hbox hg) | ((with_reducible refine gate_dst (N := 2) rfl ?_); refine box_event ?hg (N := 2) ?hd (cs := #[.string (⟨#[]⟩ : ByteArray), .string (⟨#[]⟩ : ByteArray), .int .i64 0]) (t := 29) ?hr ?_; (case hd => rfl); (case hg => rfl); (case hr => first | (go_simp; done) | (go_simp; rfl)); intro gb299 hg w4 hbox hb; have n0_ := Aside0.mk (blk_below (g := gb298) (o := .cells #[.string a0_0, .string a0_1, .string a0_2, .string a0_3, .int .i64 a0_4, .string a0_5, .bool a0_6, .string a0_7, .bool a0_8, .string a0_9] 23 (0, 0)) BLK hb); have n1_ := Aside0.mk (below_step BWK hb); have n2_ := Aside0.mk (hbox); have n3_ := Aside0.mk ((by rw [hg]; exact (below_size BWK) : w.heap.size ≤ gb299)); have n4_ := Aside0.mk ((by rw [hg]; exact (below_size BWK) : w.heap.size ≤ gb299)); have n5_ := Aside0.mk ((by rw [hg]; exact Nat.ne_of_lt (blk_lt (g := gb298) (o := .cells #[.string a0_0, .string a0_1, .string a0_2, .string a0_3, .int .i64 a0_4, .string a0_5, .bool a0_6, .string a0_7, .bool a0_8, .string a0_9] 23 (0, 0)) BLK) : gb298 ≠ gb299)); have n6_ := Aside0.mk ((by rw [hg]; exact Nat.ne_of_gt (blk_lt (g := gb298) (o := .cells #[.string a0_0, .string a0_1, .string a0_2, .string a0_3, .int .i64 a0_4, .string a0_5, .bool a0_6, .string a0_7, .bool a0_8, .string a0_9] 23 (0, 0)) BLK) : gb299 ≠ gb298)); clear BK298; clear HB; have BK298 := n0_; have HB := n1_; have BK299 := n2_; have GW299 := n3_; have GE299 := n4_; have NB298_299 := n5_; have NB299_298 := n6_; clear n0_ n1_ n2_ n3_ n4_ n5_ n6_; clear hb hbox hg))
 have n0_ := Aside0.mk (blk_drew BK298.out)
 have n1_ := Aside0.mk (blk_drew BK299.out)
 have n2_ := Aside0.mk (below_drew1 HB.out)
 clear BK298
 clear BK299
 clear HB
 have BK298 := n0_
 have BK299 := n1_
 have HB := n2_
 clear n0_ n1_ n2_
 refine start_ (n := 8) (S := fun w' => w'.cell? ⟨gb298, 0, none⟩ = some (.string a0_0) ∧ w'.cell? ⟨gb298, 1, none⟩ = some (.string a0_1) ∧ w'.cell? ⟨gb298, 2, none⟩ = some (.string a0_2) ∧ w'.cell? ⟨gb298, 3, none⟩ = some (.string a0_3) ∧ w'.cell? ⟨gb298, 4, none⟩ = some (.int .i64 a0_4) ∧ w'.cell? ⟨gb298, 5, none⟩ = some (.string a0_5) ∧ w'.cell? ⟨gb298, 6, none⟩ = some (.bool a0_6) ∧ w'.cell? ⟨gb298, 7, none⟩ = some (.string a0_7) ∧ w'.cell? ⟨gb298, 8, none⟩ = some (.bool a0_8) ∧ w'.cell? ⟨gb298, 9, none⟩ = some (.string a0_9)) (ds := []) #[false, false, false, false, false, false, false, false] (by kernel_rfl) rfl rfl ⟨(blk_cell BK298.out 0).trans rfl, (blk_cell BK298.out 1).trans rfl, (blk_cell BK298.out 2).trans rfl, (blk_cell BK298.out 3).trans rfl, (blk_cell BK298.out 4).trans rfl, (blk_cell BK298.out 5).trans rfl, (blk_cell BK298.out 6).trans rfl, (blk_cell BK298.out 7).trans rfl, (blk_cell BK298.out 8).trans rfl, (blk_cell BK298.out 9).trans rfl⟩ (fun hHeld => ?_); refine with_tabW origin_Of.tab1 origin_Of.bits1 (fun HT_ HW_ => ?_)
 generalize w4.drew = w5 at BK298 BK299 HB hHeld ⊢
 refine pure_ (i := 0) (N := some 3) (v := ?_) (a' := ?_) #[true, false, false, false, false, false, false, false] rfl rfl (any_of HT_.out (by kernel_rfl)) (fun _ _ _ h => h) (Or.inl ⟨by rfl, ?_⟩) ?_ ?_
 rotate_left
 ·intro w'
  go_simp
  with_reducible rfl
 rotate_left
 ·simp only [Act.put, List.setIfInBounds_toArray, List.set_cons_zero, List.set_cons_succ, i64_w, i32_w]
  rfl
 refine pure_ (i := 2) (N := some 5) (v := ?_) (a' := ?_) #[true, false, true, false, false, false, false, false] rfl rfl (any_of HT_.out (by kernel_rfl)) (fun _ _ _ h => h) (Or.inl ⟨by rfl, ?_⟩) ?_ ?_
 rotate_left
 ·intro w'
  go_simp
  with_reducible rfl
 rotate_left
 ·simp only [Act.put, List.setIfInBounds_toArray, List.set_cons_zero, List.set_cons_succ, i64_w, i32_w]
  rfl
 refine take_ (i := 1) (N := some 4) (v := ?_) (a' := ?_) #[true, true, true, false, false, false, false, false] rfl rfl (take_ofW HT_.out HW_.out (by kernel_rfl)) (fun _ _ _ h => h) (Or.inl ⟨by rfl, ?_⟩) hHeld ?_ ?_
 rotate_left
 ·rintro w' ⟨s0, s1, s2, s3, s4, s5, s6, s7, s8, s9⟩
  go_simp
  with_reducible rfl
 rotate_left
 ·simp only [Act.put, List.setIfInBounds_toArray, List.set_cons_zero, List.set_cons_succ, i64_w, i32_w]
  rfl
 refine take_ (i := 3) (N := some 6) (v := ?_) (a' := ?_) #[true, true, true, true, false, false, false, false] rfl rfl (take_ofW HT_.out HW_.out (by kernel_rfl)) (fun _ _ _ h => h) (Or.inl ⟨by rfl, ?_⟩) hHeld ?_ ?_
 rotate_left
 ·rintro w' ⟨s0, s1, s2, s3, s4, s5, s6, s7, s8, s9⟩
  go_simp
  with_reducible rfl
 rotate_left
 ·simp only [Act.put, List.setIfInBounds_toArray, List.set_cons_zero, List.set_cons_succ, i64_w, i32_w]
  rfl
 refine take_ (i := 4) (N := some 7) (v := ?_) (a' := ?_) #[true, true, true, true, true, false, false, false] rfl rfl (take_ofW HT_.out HW_.out (by kernel_rfl)) (fun _ _ _ h => h) (Or.inl ⟨by rfl, ?_⟩) hHeld ?_ ?_
 rotate_left
 ·rintro w' ⟨s0, s1, s2, s3, s4, s5, s6, s7, s8, s9⟩
  go_simp
  with_reducible rfl
 rotate_left
 ·simp only [Act.put, List.setIfInBounds_toArray, List.set_cons_zero, List.set_cons_succ, i64_w, i32_w]
  rfl
 refine one_ (i := 5) (N := some 8) #[true, true, true, true, true, true, false, false] rfl rfl (one_of HT_.out (by kernel_rfl)) (by decide) (fun K hK => ?_)
 refine goes_ Tryd.func60 (by kernel_rfl) rfl #[.agg #[.string a0_0, .string a0_1, .string a0_2, .string a0_3, .int .i64 a0_4, .string a0_5, .bool a0_6, .string a0_7, .bool a0_8, .string a0_9]] (by rfl) rfl rfl GAK ?_
 with_reducible refine (url_Port.calls k a0_0 a0_1 a0_2 a0_3 a0_4 a0_5 a0_6 a0_7 a0_8 a0_9 t300 _ A2.out).mono ?_
 rintro e w6 ⟨rfl, hb⟩
 refine ⟨_, rfl, ?_⟩
 have n0_ := Aside0.mk (blk_below (g := gb298) (o := .cells #[.string a0_0, .string a0_1, .string a0_2, .string a0_3, .int .i64 a0_4, .string a0_5, .bool a0_6, .string a0_7, .bool a0_8, .string a0_9] 23 (0, 0)) BLK hb)
 have n1_ := Aside0.mk (blk_below (g := gb299) (o := .cells #[.string (⟨#[]⟩ : ByteArray), .string (⟨#[]⟩ : ByteArray), .int .i64 0] 29 (0, 0)) BLK hb)
 have n2_ := Aside0.mk (below_step BWK hb)
 clear BK298
 clear BK299
 clear HB
 have BK298 := n0_
 have BK299 := n1_
 have HB := n2_
 clear n0_ n1_ n2_
 (try clear hb)
 (try clear hb2)
 (try clear hk)
 (try clear hi)
 refine hK.out _ _ ⟨(blk_cell BK298.out 0).trans rfl, (blk_cell BK298.out 1).trans rfl, (blk_cell BK298.out 2).trans rfl, (blk_cell BK298.out 3).trans rfl, (blk_cell BK298.out 4).trans rfl, (blk_cell BK298.out 5).trans rfl, (blk_cell BK298.out 6).trans rfl, (blk_cell BK298.out 7).trans rfl, (blk_cell BK298.out 8).trans rfl, (blk_cell BK298.out 9).trans rfl⟩ (fun hHeld => ?_)
 clear hK K
 refine norm_ (a' := ?_) ?_ ?_
 rotate_left
 ·show Act.put _ (some 8) _ = _
  simp only [Act.put, List.setIfInBounds_toArray, List.set_cons_zero, List.set_cons_succ, i64_w, i32_w]
  rfl
 refine pure_ (i := 6) (N := some 9) (v := ?_) (a' := ?_) #[true, true, true, true, true, true, true, false] rfl rfl (any_of HT_.out (by kernel_rfl)) (fun _ _ _ h => h) (Or.inl ⟨by rfl, ?_⟩) ?_ ?_
 rotate_left
 ·intro w'
  go_simp
  with_reducible rfl
 rotate_left
 ·simp only [Act.put, List.setIfInBounds_toArray, List.set_cons_zero, List.set_cons_succ, i64_w, i32_w]
  rfl
 refine one_ (i := 7) (N := none) #[true, true, true, true, true, true, true, true] rfl rfl (one_of HT_.out (by kernel_rfl)) (by decide) (fun K hK => ?_)
 have hs7 : w6.cell? ⟨gb299, 0, none⟩ = some (.string (⟨#[]⟩ : ByteArray)) := (blk_cell BK299.out 0).trans rfl
 have hfs7 := blk_frozen BK299.out 0
 have hns7_0 := NB298_299.out
 have hms7_0 := NB299_298.out
 have hs8 : w6.cell? ⟨gb299, 1, none⟩ = some (.string (⟨#[]⟩ : ByteArray)) := (blk_cell BK299.out 1).trans rfl
 have hfs8 := blk_frozen BK299.out 1
 have hns8_0 := NB298_299.out
 have hms8_0 := NB299_298.out
 have hs9 : w6.cell? ⟨gb299, 2, none⟩ = some (.int .i64 0) := (blk_cell BK299.out 2).trans rfl
 have hfs9 := blk_frozen BK299.out 2
 have hns9_0 := NB298_299.out
 have hms9_0 := NB299_298.out
 refine skip_ (w1 := ?_) (by rfl) rfl ?_ ?_
 rotate_left
 ·go_simp
  rfl
 refine hK.out _ _ ⟨((cell_far (p := ⟨gb299, _, none⟩) NB298_299.out _).trans (((cell_far (p := ⟨gb299, _, none⟩) NB298_299.out _).trans (((cell_far (p := ⟨gb299, _, none⟩) NB298_299.out _).trans (hHeld.1)))))), ((cell_far (p := ⟨gb299, _, none⟩) NB298_299.out _).trans (((cell_far (p := ⟨gb299, _, none⟩) NB298_299.out _).trans (((cell_far (p := ⟨gb299, _, none⟩) NB298_299.out _).trans (hHeld.2.1)))))), ((cell_far (p := ⟨gb299, _, none⟩) NB298_299.out _).trans (((cell_far (p := ⟨gb299, _, none⟩) NB298_299.out _).trans (((cell_far (p := ⟨gb299, _, none⟩) NB298_299.out _).trans (hHeld.2.2.1)))))), ((cell_far (p := ⟨gb299, _, none⟩) NB298_299.out _).trans (((cell_far (p := ⟨gb299, _, none⟩) NB298_299.out _).trans (((cell_far (p := ⟨gb299, _, none⟩) NB298_299.out _).trans (hHeld.2.2.2.1)))))), ((cell_far (p := ⟨gb299, _, none⟩) NB298_299.out _).trans (((cell_far (p := ⟨gb299, _, none⟩) NB298_299.out _).trans (((cell_far (p := ⟨gb299, _, none⟩) NB298_299.out _).trans (hHeld.2.2.2.2.1)))))), ((cell_far (p := ⟨gb299, _, none⟩) NB298_299.out _).trans (((cell_far (p := ⟨gb299, _, none⟩) NB298_299.out _).trans (((cell_far (p := ⟨gb299, _, none⟩) NB298_299.out _).trans (hHeld.2.2.2.2.2.1)))))), ((cell_far (p := ⟨gb299, _, none⟩) NB298_299.out _).trans (((cell_far (p := ⟨gb299, _, none⟩) NB298_299.out _).trans (((cell_far (p := ⟨gb299, _, none⟩) NB298_299.out _).trans (hHeld.2.2.2.2.2.2.1)))))), ((cell_far (p := ⟨gb299, _, none⟩) NB298_299.out _).trans (((cell_far (p := ⟨gb299, _, none⟩) NB298_299.out _).trans (((cell_far (p := ⟨gb299, _, none⟩) NB298_299.out _).trans (hHeld.2.2.2.2.2.2.2.1)))))), ((cell_far (p := ⟨gb299, _, none⟩) NB298_299.out _).trans (((cell_far (p := ⟨gb299, _, none⟩) NB298_299.out _).trans (((cell_far (p := ⟨gb299, _, none⟩) NB298_299.out _).trans (hHeld.2.2.2.2.2.2.2.2.1)))))), ((cell_far (p := ⟨gb299, _, none⟩) NB298_299.out _).trans (((cell_far (p := ⟨gb299, _, none⟩) NB298_299.out _).trans (((cell_far (p := ⟨gb299, _, none⟩) NB298_299.out _).trans (hHeld.2.2.2.2.2.2.2.2.2))))))⟩ (fun hHeld => ?_)
 clear hK K
 refine done_ (done_of HT_.out (by kernel_rfl)) ?_
 try go_wp2
 refine bodyPost_ret (results_cell_row rfl _ _ gb299 29 #[.string a0_0, .string a0_3, .int .i64 t300] (0, 0) _ rfl BLK Tryd.underlying29 rfl (by kernel_rfl)) rfl ?_
 exact ⟨ERK, BWK⟩

/-! ### origin_Secure: function 21 -/
def origin_Secure.f (k : Nat) (a0_0 : ByteArray) (a0_1 : ByteArray) (a0_2 : ByteArray) (a0_3 : ByteArray) (a0_4 : Int) (a0_5 : ByteArray) (a0_6 : Bool) (a0_7 : ByteArray) (a0_8 : Bool) (a0_9 : ByteArray) : Option (Bool) := (origin_Of.f k a0_0 a0_1 a0_2 a0_3 a0_4 a0_5 a0_6 a0_7 a0_8 a0_9).bind fun bt302 => ((origin_Trusted.f k bt302.1 bt302.2.1 bt302.2.2).bind fun t305 => (some t305))
theorem origin_Secure.mono : ∀ a0 a1 a2 a3 a4 a5 a6 a7 a8 a9 k, LeO (origin_Secure.f k a0 a1 a2 a3 a4 a5 a6 a7 a8 a9) (origin_Secure.f (k + 1) a0 a1 a2 a3 a4 a5 a6 a7 a8 a9) := by
 intro a0 a1 a2 a3 a4 a5 a6 a7 a8 a9 k
 unfold origin_Secure.f
 repeat' first
   | (with_reducible exact origin_Of.mono _ _ _ _ _ _ _ _ _ _ _)
   | (with_reducible exact origin_Trusted.mono _ _ _ _)
   | (with_reducible exact LeO.refl _)
   | (with_reducible exact LeO.none _)
   | (with_reducible refine LeO.ite ?_ ?_)
   | (with_reducible refine LeO.bind ?_ (fun _ => ?_))
   | exact origin_Of.mono _ _ _ _ _ _ _ _ _ _ _
   | exact origin_Trusted.mono _ _ _ _
   | exact LeO.none _
   | refine LeO.ite ?_ ?_
   | refine LeO.bind ?_ (fun _ => ?_)
theorem origin_Secure.calls (k : Nat) (a0_0 : ByteArray) (a0_1 : ByteArray) (a0_2 : ByteArray) (a0_3 : ByteArray) (a0_4 : Int) (a0_5 : ByteArray) (a0_6 : Bool) (a0_7 : ByteArray) (a0_8 : Bool) (a0_9 : ByteArray) (r : Bool) (w : World) (h : origin_Secure.f k a0_0 a0_1 a0_2 a0_3 a0_4 a0_5 a0_6 a0_7 a0_8 a0_9 = some r) :
  Calls Tryd.prog 21 #[.agg #[.string a0_0, .string a0_1, .string a0_2, .string a0_3, .int .i64 a0_4, .string a0_5, .bool a0_6, .string a0_7, .bool a0_8, .string a0_9]] w fun e w' => e = .returned (.bool r) ∧ Below w.heap.size w w' := by
 have hu23 := Tryd.underlying23
 have HB := Aside0.mk (Below.refl w.heap.size w)
 have H : ((origin_Of.f k a0_0 a0_1 a0_2 a0_3 a0_4 a0_5 a0_6 a0_7 a0_8 a0_9).bind fun bt302 => ((origin_Trusted.f k bt302.1 bt302.2.1 bt302.2.2).bind fun t305 => (some t305))) = some r := h
 clear h
 replace H := Option.bind_eq_some_iff.mp H
 obtain ⟨⟨t302, t303, t304⟩, A20, H⟩ := H
 (try dsimp only at H)
 have A2 := Aside0.mk A20
 clear A20
 replace H := Option.bind_eq_some_iff.mp H
 obtain ⟨t305, A30, H⟩ := H
 (try dsimp only at H)
 have A3 := Aside0.mk A30
 clear A30
 obtain rfl := Option.some.inj H
 go_enter Tryd.func21, Tryd.ntmps21
 go_wp2_with (first | ((with_reducible refine gate_dst (N := 1) rfl ?_); refine box_event ?hg (N := 1) ?hd (cs := #[.string a0_0, .string a0_1, .string a0_2, .string a0_3, .int .i64 a0_4, .string a0_5, .bool a0_6, .string a0_7, .bool a0_8, .string a0_9]) (t := 23) ?hr ?_; (case hd => rfl); (case hg => rfl); (case hr => first | (go_simp; done) | (go_simp; rfl)); intro gb301 hg w4 hbox hb; have n0_ := Aside0.mk (below_step BWK hb); have n1_ := Aside0.mk (hbox); have n2_ := Aside0.mk ((by rw [hg]; exact (below_size BWK) : w.heap.size ≤ gb301)); have n3_ := Aside0.mk ((by rw [hg]; exact (below_size BWK) : w.heap.size ≤ gb301)); clear HB; have HB := n0_; have BK301 := n1_; have GW301 := n2_; have GE301 := n3_; clear n0_ n1_ n2_ n3_; clear hb hbox hg; have hcz5_0 := bc0 BK301.out; have hcz5_1 := bc1 BK301.out; have hcz5_2 := bc2 BK301.out; have hcz5_3 := bc3 BK301.out; have hcz5_4 := bc4 BK301.out; have hcz5_5 := bc5 BK301.out; have hcz5_6 := bc6 BK301.out; have hcz5_7 := bc7 BK301.out; have hcz5_8 := bc8 BK301.out; have hcz5_9 := bc9 BK301.out; have hfz5_0 := blk_frozen BK301.out 0; have hfz5_1 := blk_frozen BK301.out 1; have hfz5_2 := blk_frozen BK301.out 2; have hfz5_3 := blk_frozen BK301.out 3; have hfz5_4 := blk_frozen BK301.out 4; have hfz5_5 := blk_frozen BK301.out 5; have hfz5_6 := blk_frozen BK301.out 6; have hfz5_7 := blk_frozen BK301.out 7; have hfz5_8 := blk_frozen BK301.out 8; have hfz5_9 := blk_frozen BK301.out 9) | ((with_reducible refine gate_callee (f := 41) rfl ?_); refine goesL_ (some 4) rfl rfl Tryd.func41 (by kernel_rfl) rfl #[.agg #[.string a0_0, .string a0_1, .string a0_2, .string a0_3, .int .i64 a0_4, .string a0_5, .bool a0_6, .string a0_7, .bool a0_8, .string a0_9]] rfl GAK ?_; (with_reducible refine (origin_Of.calls k a0_0 a0_1 a0_2 a0_3 a0_4 a0_5 a0_6 a0_7 a0_8 a0_9 t302 t303 t304 _ A2.out).mono ?_); rintro e w6 ⟨rfl, hb⟩; refine ⟨_, rfl, ?_⟩; have n0_ := Aside0.mk (blk_below (g := gb301) (o := .cells #[.string a0_0, .string a0_1, .string a0_2, .string a0_3, .int .i64 a0_4, .string a0_5, .bool a0_6, .string a0_7, .bool a0_8, .string a0_9] 23 (0, 0)) BLK hb); have n1_ := Aside0.mk (below_step BWK hb); clear BK301; clear HB; have BK301 := n0_; have HB := n1_; clear n0_ n1_; (try clear hb); (try clear hb2); (try clear hk); (try clear hi)) | ((with_reducible refine gate_callee (f := 40) rfl ?_); refine goesL_ (some 5) rfl rfl Tryd.func40 (by kernel_rfl) rfl #[.agg #[.string t302, .string t303, .int .i64 t304]] rfl GAK ?_; (with_reducible refine (origin_Trusted.calls k t302 t303 t304 t305 _ A3.out).mono ?_); rintro e w7 ⟨rfl, hb⟩; refine ⟨_, rfl, ?_⟩; have n0_ := Aside0.mk (blk_below (g := gb301) (o := .cells #[.string a0_0, .string a0_1, .string a0_2, .string a0_3, .int .i64 a0_4, .string a0_5, .bool a0_6, .string a0_7, .bool a0_8, .string a0_9] 23 (0, 0)) BLK hb); have n1_ := Aside0.mk (below_step BWK hb); clear BK301; clear HB; have BK301 := n0_; have HB := n1_; clear n0_ n1_; (try clear hb); (try clear hb2); (try clear hk); (try clear hi)))
 go_ret
 exact ⟨ERK, BWK⟩

/-! ### mixed_Class: function 10 -/
def mixed_Class.j0 : Nat → ByteArray → Bool → Bool → Option (Int)
 | 0, _, _, _ => none
 | k + 1, x2, x8, x15 => if x15 = true then (some 0) else ((ascii_Any.f k x2 (([(⟨#[105, 109, 97, 103, 101]⟩ : ByteArray), (⟨#[97, 117, 100, 105, 111]⟩ : ByteArray), (⟨#[118, 105, 100, 101, 111]⟩ : ByteArray)] : List ByteArray))).bind fun t318 => (if t318 = true then (if x8 = true then (some 2) else (some 1)) else (some 2)))
def mixed_Class.f (k : Nat) (a0_0 : ByteArray) (a0_1 : ByteArray) (a0_2 : Int) (a1_0 : ByteArray) (a1_1 : ByteArray) (a1_2 : ByteArray) (a1_3 : ByteArray) (a1_4 : Int) (a1_5 : ByteArray) (a1_6 : Bool) (a1_7 : ByteArray) (a1_8 : Bool) (a1_9 : ByteArray) (a2 : ByteArray) : Option (Int) := (host_Address.f k a1_3).bind fun bt308 => ((ascii_Any.f k a0_0 (([(⟨#[104, 116, 116, 112, 115]⟩ : ByteArray), (⟨#[119, 115, 115]⟩ : ByteArray)] : List ByteArray))).bind fun t313 => (if t313 = true then ((origin_Secure.f k a1_0 a1_1 a1_2 a1_3 a1_4 a1_5 a1_6 a1_7 a1_8 a1_9).bind fun t314 => (if t314 = true then (mixed_Class.j0 k a2 bt308.2 t314) else (mixed_Class.j0 k a2 bt308.2 (a2.toList == ([100, 111, 99, 117, 109, 101, 110, 116] : List UInt8))))) else (mixed_Class.j0 k a2 bt308.2 (!t313))))
theorem mixed_Class.mono_l : ∀ k, (∀ y0 y1 y2, LeO (mixed_Class.j0 k y0 y1 y2) (mixed_Class.j0 (k + 1) y0 y1 y2))
 | 0 => fun _ _ _ r h => by simp [mixed_Class.j0] at h
 | k + 1 => by
  have ih0 := mixed_Class.mono_l k
  ·intro y0 y1 y2
   unfold mixed_Class.j0
   repeat' first
   | (with_reducible exact ih0 _ _ _)
   | (with_reducible exact ascii_Any.mono _ _ _)
   | (with_reducible exact host_Address.mono _ _)
   | (with_reducible exact origin_Secure.mono _ _ _ _ _ _ _ _ _ _ _)
   | (with_reducible exact LeO.refl _)
   | (with_reducible exact LeO.none _)
   | (with_reducible refine LeO.ite ?_ ?_)
   | (with_reducible refine LeO.bind ?_ (fun _ => ?_))
   | exact ih0 _ _ _
   | exact ascii_Any.mono _ _ _
   | exact host_Address.mono _ _
   | exact origin_Secure.mono _ _ _ _ _ _ _ _ _ _ _
   | exact LeO.none _
   | refine LeO.ite ?_ ?_
   | refine LeO.bind ?_ (fun _ => ?_)
theorem mixed_Class.mono : ∀ a0 a1 a2 a3 a4 a5 a6 a7 a8 a9 a10 a11 a12 a13 k, LeO (mixed_Class.f k a0 a1 a2 a3 a4 a5 a6 a7 a8 a9 a10 a11 a12 a13) (mixed_Class.f (k + 1) a0 a1 a2 a3 a4 a5 a6 a7 a8 a9 a10 a11 a12 a13) := by
 intro a0 a1 a2 a3 a4 a5 a6 a7 a8 a9 a10 a11 a12 a13 k
 have ih0 := mixed_Class.mono_l k
 unfold mixed_Class.f
 repeat' first
   | (with_reducible exact ih0 _ _ _)
   | (with_reducible exact ascii_Any.mono _ _ _)
   | (with_reducible exact host_Address.mono _ _)
   | (with_reducible exact origin_Secure.mono _ _ _ _ _ _ _ _ _ _ _)
   | (with_reducible exact LeO.refl _)
   | (with_reducible exact LeO.none _)
   | (with_reducible refine LeO.ite ?_ ?_)
   | (with_reducible refine LeO.bind ?_ (fun _ => ?_))
   | exact ih0 _ _ _
   | exact ascii_Any.mono _ _ _
   | exact host_Address.mono _ _
   | exact origin_Secure.mono _ _ _ _ _ _ _ _ _ _ _
   | exact LeO.none _
   | refine LeO.ite ?_ ?_
   | refine LeO.bind ?_ (fun _ => ?_)
theorem mixed_Class.calls (k : Nat) (a0_0 : ByteArray) (a0_1 : ByteArray) (a0_2 : Int) (a1_0 : ByteArray) (a1_1 : ByteArray) (a1_2 : ByteArray) (a1_3 : ByteArray) (a1_4 : Int) (a1_5 : ByteArray) (a1_6 : Bool) (a1_7 : ByteArray) (a1_8 : Bool) (a1_9 : ByteArray) (a2 : ByteArray) (r : Int) (w : World) (h : mixed_Class.f k a0_0 a0_1 a0_2 a1_0 a1_1 a1_2 a1_3 a1_4 a1_5 a1_6 a1_7 a1_8 a1_9 a2 = some r) :
  Calls Tryd.prog 10 #[.agg #[.string a0_0, .string a0_1, .int .i64 a0_2], .agg #[.string a1_0, .string a1_1, .string a1_2, .string a1_3, .int .i64 a1_4, .string a1_5, .bool a1_6, .string a1_7, .bool a1_8, .string a1_9], .string a2] w fun e w' => e = .returned (.int .i64 r) ∧ Below w.heap.size w w' := by
 have hu29 := Tryd.underlying29
 have hu23 := Tryd.underlying23
 have HB := Aside0.mk (Below.refl w.heap.size w)
 have H : ((host_Address.f k a1_3).bind fun bt308 => ((ascii_Any.f k a0_0 (([(⟨#[104, 116, 116, 112, 115]⟩ : ByteArray), (⟨#[119, 115, 115]⟩ : ByteArray)] : List ByteArray))).bind fun t313 => (if t313 = true then ((origin_Secure.f k a1_0 a1_1 a1_2 a1_3 a1_4 a1_5 a1_6 a1_7 a1_8 a1_9).bind fun t314 => (if t314 = true then (mixed_Class.j0 k a2 bt308.2 t314) else (mixed_Class.j0 k a2 bt308.2 (a2.toList == ([100, 111, 99, 117, 109, 101, 110, 116] : List UInt8))))) else (mixed_Class.j0 k a2 bt308.2 (!t313))))) = some r := h
 clear h
 replace H := Option.bind_eq_some_iff.mp H
 obtain ⟨⟨t308, t309⟩, A40, H⟩ := H
 (try dsimp only at H)
 have A4 := Aside0.mk A40
 clear A40
 obtain ⟨y310, hy310⟩ : ∃ y_ : List ByteArray, y_ = (([(⟨#[104, 116, 116, 112, 115]⟩ : ByteArray), (⟨#[119, 115, 115]⟩ : ByteArray)] : List ByteArray)) := ⟨_, rfl⟩
 replace H : ((ascii_Any.f k a0_0 y310).bind fun t313 => (if t313 = true then ((origin_Secure.f k a1_0 a1_1 a1_2 a1_3 a1_4 a1_5 a1_6 a1_7 a1_8 a1_9).bind fun t314 => (if t314 = true then (mixed_Class.j0 k a2 t309 t314) else (mixed_Class.j0 k a2 t309 (a2.toList == ([100, 111, 99, 117, 109, 101, 110, 116] : List UInt8))))) else (mixed_Class.j0 k a2 t309 (!t313)))) = some r := by first | (rw [hy310]; with_reducible exact H) | (have H2_ := (Option.bind_some _ _).symm.trans H; rw [hy310]; with_reducible exact H2_) | (have H2_ := (Option.bind_some _ _).symm.trans H; with_reducible exact H2_) | with_reducible exact H | (rw [hy310]; exact H) | exact H
 have Ny310 := Aside0.mk hy310
 clear hy310
 replace H := Option.bind_eq_some_iff.mp H
 obtain ⟨t313, A50, H⟩ := H
 (try dsimp only at H)
 have A5 := Aside0.mk A50
 clear A50
 have HC6 := Aside0.mk H
 clear H
 go_enter Tryd.func10, Tryd.ntmps10
 go_upto_if 15 with (first | ((with_reducible refine gate_dst (N := 3) rfl ?_); refine box_event ?hg (N := 3) ?hd (cs := #[.string a0_0, .string a0_1, .int .i64 a0_2]) (t := 29) ?hr ?_; (case hd => rfl); (case hg => rfl); (case hr => first | (go_simp; done) | (go_simp; rfl)); intro gb306 hg w7 hbox hb; have n0_ := Aside0.mk (below_step BWK hb); have n1_ := Aside0.mk (hbox); have n2_ := Aside0.mk ((by rw [hg]; exact (below_size BWK) : w.heap.size ≤ gb306)); have n3_ := Aside0.mk ((by rw [hg]; exact (below_size BWK) : w.heap.size ≤ gb306)); clear HB; have HB := n0_; have BK306 := n1_; have GW306 := n2_; have GE306 := n3_; clear n0_ n1_ n2_ n3_; clear hb hbox hg) | ((with_reducible refine gate_dst (N := 4) rfl ?_); refine box_event ?hg (N := 4) ?hd (cs := #[.string a1_0, .string a1_1, .string a1_2, .string a1_3, .int .i64 a1_4, .string a1_5, .bool a1_6, .string a1_7, .bool a1_8, .string a1_9]) (t := 23) ?hr ?_; (case hd => rfl); (case hg => rfl); (case hr => first | (go_simp; done) | (go_simp; rfl)); intro gb307 hg w8 hbox hb; have n0_ := Aside0.mk (blk_below (g := gb306) (o := .cells #[.string a0_0, .string a0_1, .int .i64 a0_2] 29 (0, 0)) BLK hb); have n1_ := Aside0.mk (below_step BWK hb); have n2_ := Aside0.mk (hbox); have n3_ := Aside0.mk ((by rw [hg]; exact (below_size BWK) : w.heap.size ≤ gb307)); have n4_ := Aside0.mk ((by rw [hg]; exact (below_size BWK) : w.heap.size ≤ gb307)); have n5_ := Aside0.mk ((by rw [hg]; exact Nat.ne_of_lt (blk_lt (g := gb306) (o := .cells #[.string a0_0, .string a0_1, .int .i64 a0_2] 29 (0, 0)) BLK) : gb306 ≠ gb307)); have n6_ := Aside0.mk ((by rw [hg]; exact Nat.ne_of_gt (blk_lt (g := gb306) (o := .cells #[.string a0_0, .string a0_1, .int .i64 a0_2] 29 (0, 0)) BLK) : gb307 ≠ gb306)); clear BK306; clear HB; have BK306 := n0_; have HB := n1_; have BK307 := n2_; have GW307 := n3_; have GE307 := n4_; have NB306_307 := n5_; have NB307_306 := n6_; clear n0_ n1_ n2_ n3_ n4_ n5_ n6_; clear hb hbox hg; have hnb9 := NB307_306.out; have hnc9 := NB306_307.out; have hcz10_0 := bc0 BK307.out; have hcz10_1 := bc1 BK307.out; have hcz10_2 := bc2 BK307.out; have hcz10_3 := bc3 BK307.out; have hcz10_4 := bc4 BK307.out; have hcz10_5 := bc5 BK307.out; have hcz10_6 := bc6 BK307.out; have hcz10_7 := bc7 BK307.out; have hcz10_8 := bc8 BK307.out; have hcz10_9 := bc9 BK307.out; have hfz10_0 := blk_frozen BK307.out 0; have hfz10_1 := blk_frozen BK307.out 1; have hfz10_2 := blk_frozen BK307.out 2; have hfz10_3 := blk_frozen BK307.out 3; have hfz10_4 := blk_frozen BK307.out 4; have hfz10_5 := blk_frozen BK307.out 5; have hfz10_6 := blk_frozen BK307.out 6; have hfz10_7 := blk_frozen BK307.out 7; have hfz10_8 := blk_frozen BK307.out 8; have hfz10_9 := blk_frozen BK307.out 9) | ((with_reducible refine gate_callee (f := 19) rfl ?_); refine goesL_ (some 12) rfl rfl Tryd.func19 (by kernel_rfl) rfl #[.string a1_3] rfl GAK ?_; (with_reducible refine (host_Address.calls k a1_3 t308 t309 _ A4.out).mono ?_); rintro e w11 ⟨rfl, hb⟩; refine ⟨_, rfl, ?_⟩; have n0_ := Aside0.mk (blk_below (g := gb306) (o := .cells #[.string a0_0, .string a0_1, .int .i64 a0_2] 29 (0, 0)) BLK hb); have n1_ := Aside0.mk (blk_below (g := gb307) (o := .cells #[.string a1_0, .string a1_1, .string a1_2, .string a1_3, .int .i64 a1_4, .string a1_5, .bool a1_6, .string a1_7, .bool a1_8, .string a1_9] 23 (0, 0)) BLK hb); have n2_ := Aside0.mk (below_step BWK hb); clear BK306; clear BK307; clear HB; have BK306 := n0_; have BK307 := n1_; have HB := n2_; clear n0_ n1_ n2_; (try clear hb); (try clear hb2); (try clear hk); (try clear hi); have hcz12_0 := bc0 BK306.out; have hcz12_1 := bc1 BK306.out; have hcz12_2 := bc2 BK306.out; have hfz12_0 := blk_frozen BK306.out 0; have hfz12_1 := blk_frozen BK306.out 1; have hfz12_2 := blk_frozen BK306.out 2) | ((with_reducible refine gate_dst (N := 18) rfl ?_); refine Kd.R_lit Kd.string _ 9 ?hg (N := 18) ?hd (xs := ([(⟨#[104, 116, 116, 112, 115]⟩ : ByteArray), (⟨#[119, 115, 115]⟩ : ByteArray)] : List ByteArray)) (inner := [.string (⟨#[104, 116, 116, 112, 115]⟩ : ByteArray), .string (⟨#[119, 115, 115]⟩ : ByteArray)]) (ok := fun _ => True) (okp := fun _ => True) ?hr ?hp (fun _ hk => hk) trivial (Below.refl _ _) (Nat.le_refl _) (by simp) ?_; (case hd => rfl); (case hg => rfl); (case hr => first | (go_simp; done) | (go_simp; rfl)); (case hp => exact (Reps.one (show Kd.M Kd.string _ _ _ (⟨#[104, 116, 116, 112, 115]⟩ : ByteArray) [.string (⟨#[104, 116, 116, 112, 115]⟩ : ByteArray)] from rfl) (Reps.one (show Kd.M Kd.string _ _ _ (⟨#[119, 115, 115]⟩ : ByteArray) [.string (⟨#[119, 115, 115]⟩ : ByteArray)] from rfl) (Reps.none _ _)))); intro v311 w13 ho14 hb hg_ hnew_; clear hg_ hnew_; (first | rw [← Ny310.out] at ho14 | (simp only [Int.reduceToNat] at ho14; rw [← Ny310.out] at ho14)); have n0_ := Aside0.mk (Kd.R_lower ho14 (below_size BWK)); have n1_ := Aside0.mk (blk_below (g := gb306) (o := .cells #[.string a0_0, .string a0_1, .int .i64 a0_2] 29 (0, 0)) BLK hb); have n2_ := Aside0.mk (blk_below (g := gb307) (o := .cells #[.string a1_0, .string a1_1, .string a1_2, .string a1_3, .int .i64 a1_4, .string a1_5, .bool a1_6, .string a1_7, .bool a1_8, .string a1_9] 23 (0, 0)) BLK hb); have n3_ := Aside0.mk (below_step BWK hb); clear BK306; clear BK307; clear HB; have HO312 := n0_; have BK306 := n1_; have BK307 := n2_; have HB := n3_; clear n0_ n1_ n2_ n3_; clear hb ho14; obtain ⟨Ao15, co15, eo15⟩ := Kd.R_slice HO312.out; subst eo15) | ((with_reducible refine gate_callee (f := 20) rfl ?_); refine goesL_ (some 19) rfl rfl Tryd.func20 (by kernel_rfl) rfl #[.string a0_0, .slice Ao15 y310.length co15] rfl GAK ?_; (with_reducible refine (ascii_Any.calls k a0_0 _ _ y310 t313 _ ?side1 ?side2 A5.out).mono ?_); (case side1 => repeat (first | exact (Kd.R_reads' HO312.out).2.2 | (with_reducible refine Kd.C_alloc ?_ _) | (with_reducible refine Kd.C_drewN ?_ _) | (with_reducible refine Kd.C_drew ?_))); (case side2 => exact (Kd.R_reads' HO312.out).2.1); rintro e w' ⟨rfl, ⟨nd, rfl⟩⟩; refine ⟨_, rfl, ?_⟩))
 (try simp only [Act.put, List.setIfInBounds_toArray, List.set_cons_zero, List.set_cons_succ])
 go_cut [15] (fun v15 wc => ∃ (kq : Nat) (x15_5 : Bool), v15 = .bool x15_5 ∧ Aside0 (mixed_Class.j0 kq a2 t309 x15_5 = some r) ∧ Aside0 (kq ≤ k) ∧ Aside0 (wc.heap[gb306]? = some (.cells #[.string a0_0, .string a0_1, .int .i64 a0_2] 29 (0, 0))) ∧ Aside0 (wc.heap[gb307]? = some (.cells #[.string a1_0, .string a1_1, .string a1_2, .string a1_3, .int .i64 a1_4, .string a1_5, .bool a1_6, .string a1_7, .bool a1_8, .string a1_9] 23 (0, 0))) ∧ Aside0 (Below w.heap.size w wc))
 case first =>
  have H := HC6.out
  clear HC6
  by_cases c16 : t313 = true
  ·subst c16
   have H1 := H; rw [if_pos rfl] at H1
   clear H
   have H := H1
   clear H1
   replace H := Option.bind_eq_some_iff.mp H
   obtain ⟨t314, A170, H⟩ := H
   (try dsimp only at H)
   have A17 := Aside0.mk A170
   clear A170
   by_cases c18 : t314 = true
   ·subst c18
    have H1 := H; rw [if_pos rfl] at H1
    clear H
    have H := H1
    clear H1
    have H' := Aside0.mk H
    clear H
    have hnb19 := NB307_306.out
    have hnc19 := NB306_307.out
    have hcz20_0 := bc0 BK307.out
    have hcz20_1 := bc1 BK307.out
    have hcz20_2 := bc2 BK307.out
    have hcz20_3 := bc3 BK307.out
    have hcz20_4 := bc4 BK307.out
    have hcz20_5 := bc5 BK307.out
    have hcz20_6 := bc6 BK307.out
    have hcz20_7 := bc7 BK307.out
    have hcz20_8 := bc8 BK307.out
    have hcz20_9 := bc9 BK307.out
    have hfz20_0 := blk_frozen BK307.out 0
    have hfz20_1 := blk_frozen BK307.out 1
    have hfz20_2 := blk_frozen BK307.out 2
    have hfz20_3 := blk_frozen BK307.out 3
    have hfz20_4 := blk_frozen BK307.out 4
    have hfz20_5 := blk_frozen BK307.out 5
    have hfz20_6 := blk_frozen BK307.out 6
    have hfz20_7 := blk_frozen BK307.out 7
    have hfz20_8 := blk_frozen BK307.out 8
    have hfz20_9 := blk_frozen BK307.out 9
    go_wp2_with (first | ((with_reducible refine gate_callee (f := 21) rfl ?_); refine goesL_ (some 22) rfl rfl Tryd.func21 (by kernel_rfl) rfl #[.agg #[.string a1_0, .string a1_1, .string a1_2, .string a1_3, .int .i64 a1_4, .string a1_5, .bool a1_6, .string a1_7, .bool a1_8, .string a1_9]] rfl GAK ?_; (with_reducible refine (origin_Secure.calls k a1_0 a1_1 a1_2 a1_3 a1_4 a1_5 a1_6 a1_7 a1_8 a1_9 true _ A17.out).mono ?_); rintro e w21 ⟨rfl, hb⟩; refine ⟨_, rfl, ?_⟩; have n0_ := Aside0.mk (Kd.R_below (by (with_reducible repeat (first | apply Kd.R_alloc | apply Kd.R_drewN | apply Kd.R_drew)); exact HO312.out) hb); have n1_ := Aside0.mk (blk_below (g := gb306) (o := .cells #[.string a0_0, .string a0_1, .int .i64 a0_2] 29 (0, 0)) BLK hb); have n2_ := Aside0.mk (blk_below (g := gb307) (o := .cells #[.string a1_0, .string a1_1, .string a1_2, .string a1_3, .int .i64 a1_4, .string a1_5, .bool a1_6, .string a1_7, .bool a1_8, .string a1_9] 23 (0, 0)) BLK hb); have n3_ := Aside0.mk (below_step BWK hb); clear HO312; clear BK306; clear BK307; clear HB; have HO312 := n0_; have BK306 := n1_; have BK307 := n2_; have HB := n3_; clear n0_ n1_ n2_ n3_; (try clear hb); (try clear hb2); (try clear hk); (try clear hi)))
    go_meet
    case rel => exact ⟨_, (true), RFK, H', ⟨OMK⟩, ⟨BLK⟩, ⟨BLK⟩, ⟨BWK⟩⟩
   ·replace c18 := Bool.eq_false_iff.mpr c18
    subst c18
    have H1 := H; rw [if_neg (show ¬ (false = true) by decide)] at H1
    clear H
    have H := H1
    clear H1
    have H' := Aside0.mk H
    clear H
    have hnb22 := NB307_306.out
    have hnc22 := NB306_307.out
    have hcz23_0 := bc0 BK307.out
    have hcz23_1 := bc1 BK307.out
    have hcz23_2 := bc2 BK307.out
    have hcz23_3 := bc3 BK307.out
    have hcz23_4 := bc4 BK307.out
    have hcz23_5 := bc5 BK307.out
    have hcz23_6 := bc6 BK307.out
    have hcz23_7 := bc7 BK307.out
    have hcz23_8 := bc8 BK307.out
    have hcz23_9 := bc9 BK307.out
    have hfz23_0 := blk_frozen BK307.out 0
    have hfz23_1 := blk_frozen BK307.out 1
    have hfz23_2 := blk_frozen BK307.out 2
    have hfz23_3 := blk_frozen BK307.out 3
    have hfz23_4 := blk_frozen BK307.out 4
    have hfz23_5 := blk_frozen BK307.out 5
    have hfz23_6 := blk_frozen BK307.out 6
    have hfz23_7 := blk_frozen BK307.out 7
    have hfz23_8 := blk_frozen BK307.out 8
    have hfz23_9 := blk_frozen BK307.out 9
    go_wp2_with (first | ((with_reducible refine gate_callee (f := 21) rfl ?_); refine goesL_ (some 22) rfl rfl Tryd.func21 (by kernel_rfl) rfl #[.agg #[.string a1_0, .string a1_1, .string a1_2, .string a1_3, .int .i64 a1_4, .string a1_5, .bool a1_6, .string a1_7, .bool a1_8, .string a1_9]] rfl GAK ?_; (with_reducible refine (origin_Secure.calls k a1_0 a1_1 a1_2 a1_3 a1_4 a1_5 a1_6 a1_7 a1_8 a1_9 false _ A17.out).mono ?_); rintro e w24 ⟨rfl, hb⟩; refine ⟨_, rfl, ?_⟩; have n0_ := Aside0.mk (Kd.R_below (by (with_reducible repeat (first | apply Kd.R_alloc | apply Kd.R_drewN | apply Kd.R_drew)); exact HO312.out) hb); have n1_ := Aside0.mk (blk_below (g := gb306) (o := .cells #[.string a0_0, .string a0_1, .int .i64 a0_2] 29 (0, 0)) BLK hb); have n2_ := Aside0.mk (blk_below (g := gb307) (o := .cells #[.string a1_0, .string a1_1, .string a1_2, .string a1_3, .int .i64 a1_4, .string a1_5, .bool a1_6, .string a1_7, .bool a1_8, .string a1_9] 23 (0, 0)) BLK hb); have n3_ := Aside0.mk (below_step BWK hb); clear HO312; clear BK306; clear BK307; clear HB; have HO312 := n0_; have BK306 := n1_; have BK307 := n2_; have HB := n3_; clear n0_ n1_ n2_ n3_; (try clear hb); (try clear hb2); (try clear hk); (try clear hi)))
    go_meet
    case rel => exact ⟨_, ((a2.toList == ([100, 111, 99, 117, 109, 101, 110, 116] : List UInt8))), RFK, H', ⟨OMK⟩, ⟨BLK⟩, ⟨BLK⟩, ⟨BWK⟩⟩
  ·replace c16 := Bool.eq_false_iff.mpr c16
   subst c16
   have H1 := H; rw [if_neg (show ¬ (false = true) by decide)] at H1
   clear H
   have H := H1
   clear H1
   have H' := Aside0.mk H
   clear H
   go_wp2
   go_meet
   case rel => exact ⟨_, (!false), RFK, H', ⟨OMK⟩, ⟨BLK⟩, ⟨BLK⟩, ⟨BWK⟩⟩
 case rest =>
  clear HC6
  try clear c1
  try clear c2
  try clear p2
  try clear c9
  try clear c10
  try clear c16
  try clear c18
  try clear c19
  try clear c20
  try clear c21
  try clear c22
  try clear hcz10_0
  try clear hcz10_1
  try clear hcz10_2
  try clear hcz10_3
  try clear hcz10_4
  try clear hcz10_5
  try clear hcz10_6
  try clear hcz10_7
  try clear hcz10_8
  try clear hcz10_9
  try clear hcz12_0
  try clear hcz12_1
  try clear hcz12_2
  try clear hcz20_0
  try clear hcz20_1
  try clear hcz20_2
  try clear hcz20_3
  try clear hcz20_4
  try clear hcz20_5
  try clear hcz20_6
  try clear hcz20_7
  try clear hcz20_8
  try clear hcz20_9
  try clear hcz23_0
  try clear hcz23_1
  try clear hcz23_2
  try clear hcz23_3
  try clear hcz23_4
  try clear hcz23_5
  try clear hcz23_6
  try clear hcz23_7
  try clear hcz23_8
  try clear hcz23_9
  try clear hfz10_0
  try clear hfz10_1
  try clear hfz10_2
  try clear hfz10_3
  try clear hfz10_4
  try clear hfz10_5
  try clear hfz10_6
  try clear hfz10_7
  try clear hfz10_8
  try clear hfz10_9
  try clear hfz12_0
  try clear hfz12_1
  try clear hfz12_2
  try clear hfz20_0
  try clear hfz20_1
  try clear hfz20_2
  try clear hfz20_3
  try clear hfz20_4
  try clear hfz20_5
  try clear hfz20_6
  try clear hfz20_7
  try clear hfz20_8
  try clear hfz20_9
  try clear hfz23_0
  try clear hfz23_1
  try clear hfz23_2
  try clear hfz23_3
  try clear hfz23_4
  try clear hfz23_5
  try clear hfz23_6
  try clear hfz23_7
  try clear hfz23_8
  try clear hfz23_9
  obtain ⟨kq, x15_5, rfl, HA, HJ5, BK306, BK307, HB⟩ := hcut
  cases kq with
  | zero => exact absurd HA.out (by simp [mixed_Class.j0])
  | succ kj5 =>
   have H := HA.out
   clear HA
   simp only [mixed_Class.j0] at H
   by_cases c25 : x15_5 = true
   ·subst c25
    have H1 := H; rw [if_pos rfl] at H1
    clear H
    have H := H1
    clear H1
    obtain rfl := Option.some.inj H
    go_wp2
    go_ret
    exact ⟨ERK, BWK⟩
   ·replace c25 := Bool.eq_false_iff.mpr c25
    subst c25
    have H1 := H; rw [if_neg (show ¬ (false = true) by decide)] at H1
    clear H
    have H := H1
    clear H1
    obtain ⟨y315, hy315⟩ : ∃ y_ : List ByteArray, y_ = (([(⟨#[105, 109, 97, 103, 101]⟩ : ByteArray), (⟨#[97, 117, 100, 105, 111]⟩ : ByteArray), (⟨#[118, 105, 100, 101, 111]⟩ : ByteArray)] : List ByteArray)) := ⟨_, rfl⟩
    replace H : ((ascii_Any.f kj5 a2 y315).bind fun t318 => (if t318 = true then (if t309 = true then (some 2) else (some 1)) else (some 2))) = some r := by first | (rw [hy315]; with_reducible exact H) | (have H2_ := (Option.bind_some _ _).symm.trans H; rw [hy315]; with_reducible exact H2_) | (have H2_ := (Option.bind_some _ _).symm.trans H; with_reducible exact H2_) | with_reducible exact H | (rw [hy315]; exact H) | exact H
    have Ny315 := Aside0.mk hy315
    clear hy315
    replace H := Option.bind_eq_some_iff.mp H
    obtain ⟨t318, A260, H⟩ := H
    (try dsimp only at H)
    have A26 := Aside0.mk A260
    clear A260
    by_cases c27 : t318 = true
    ·subst c27
     have H1 := H; rw [if_pos rfl] at H1
     clear H
     have H := H1
     clear H1
     by_cases c28 : t309 = true
     ·subst c28
      have H1 := H; rw [if_pos rfl] at H1
      clear H
      have H := H1
      clear H1
      obtain rfl := Option.some.inj H
      go_wp2_with (first | ((with_reducible refine gate_dst (N := 27) rfl ?_); refine Kd.R_lit Kd.string _ 9 ?hg (N := 27) ?hd (xs := ([(⟨#[105, 109, 97, 103, 101]⟩ : ByteArray), (⟨#[97, 117, 100, 105, 111]⟩ : ByteArray), (⟨#[118, 105, 100, 101, 111]⟩ : ByteArray)] : List ByteArray)) (inner := [.string (⟨#[105, 109, 97, 103, 101]⟩ : ByteArray), .string (⟨#[97, 117, 100, 105, 111]⟩ : ByteArray), .string (⟨#[118, 105, 100, 101, 111]⟩ : ByteArray)]) (ok := fun _ => True) (okp := fun _ => True) ?hr ?hp (fun _ hk => hk) trivial (Below.refl _ _) (Nat.le_refl _) (by simp) ?_; (case hd => rfl); (case hg => rfl); (case hr => first | (go_simp; done) | (go_simp; rfl)); (case hp => exact (Reps.one (show Kd.M Kd.string _ _ _ (⟨#[105, 109, 97, 103, 101]⟩ : ByteArray) [.string (⟨#[105, 109, 97, 103, 101]⟩ : ByteArray)] from rfl) (Reps.one (show Kd.M Kd.string _ _ _ (⟨#[97, 117, 100, 105, 111]⟩ : ByteArray) [.string (⟨#[97, 117, 100, 105, 111]⟩ : ByteArray)] from rfl) (Reps.one (show Kd.M Kd.string _ _ _ (⟨#[118, 105, 100, 101, 111]⟩ : ByteArray) [.string (⟨#[118, 105, 100, 101, 111]⟩ : ByteArray)] from rfl) (Reps.none _ _))))); intro v316 w29 ho30 hb hg_ hnew_; clear hg_ hnew_; (first | rw [← Ny315.out] at ho30 | (simp only [Int.reduceToNat] at ho30; rw [← Ny315.out] at ho30)); have n0_ := Aside0.mk (Kd.R_lower ho30 (below_size BWK)); have n1_ := Aside0.mk (blk_below (g := gb306) (o := .cells #[.string a0_0, .string a0_1, .int .i64 a0_2] 29 (0, 0)) BLK hb); have n2_ := Aside0.mk (blk_below (g := gb307) (o := .cells #[.string a1_0, .string a1_1, .string a1_2, .string a1_3, .int .i64 a1_4, .string a1_5, .bool a1_6, .string a1_7, .bool a1_8, .string a1_9] 23 (0, 0)) BLK hb); have n3_ := Aside0.mk (below_step BWK hb); clear BK306; clear BK307; clear HB; have HO317 := n0_; have BK306 := n1_; have BK307 := n2_; have HB := n3_; clear n0_ n1_ n2_ n3_; clear hb ho30; obtain ⟨Ao31, co31, eo31⟩ := Kd.R_slice HO317.out; subst eo31) | ((with_reducible refine gate_callee (f := 20) rfl ?_); refine goesL_ (some 28) rfl rfl Tryd.func20 (by kernel_rfl) rfl #[.string a2, .slice Ao31 y315.length co31] rfl GAK ?_; (with_reducible refine (ascii_Any.calls kj5 a2 _ _ y315 true _ ?side1 ?side2 A26.out).mono ?_); (case side1 => repeat (first | exact (Kd.R_reads' HO317.out).2.2 | (with_reducible refine Kd.C_alloc ?_ _) | (with_reducible refine Kd.C_drewN ?_ _) | (with_reducible refine Kd.C_drew ?_))); (case side2 => exact (Kd.R_reads' HO317.out).2.1); rintro e w' ⟨rfl, ⟨nd, rfl⟩⟩; refine ⟨_, rfl, ?_⟩))
      go_ret
      exact ⟨ERK, BWK⟩
     ·replace c28 := Bool.eq_false_iff.mpr c28
      subst c28
      have H1 := H; rw [if_neg (show ¬ (false = true) by decide)] at H1
      clear H
      have H := H1
      clear H1
      obtain rfl := Option.some.inj H
      go_wp2_with (first | ((with_reducible refine gate_dst (N := 27) rfl ?_); refine Kd.R_lit Kd.string _ 9 ?hg (N := 27) ?hd (xs := ([(⟨#[105, 109, 97, 103, 101]⟩ : ByteArray), (⟨#[97, 117, 100, 105, 111]⟩ : ByteArray), (⟨#[118, 105, 100, 101, 111]⟩ : ByteArray)] : List ByteArray)) (inner := [.string (⟨#[105, 109, 97, 103, 101]⟩ : ByteArray), .string (⟨#[97, 117, 100, 105, 111]⟩ : ByteArray), .string (⟨#[118, 105, 100, 101, 111]⟩ : ByteArray)]) (ok := fun _ => True) (okp := fun _ => True) ?hr ?hp (fun _ hk => hk) trivial (Below.refl _ _) (Nat.le_refl _) (by simp) ?_; (case hd => rfl); (case hg => rfl); (case hr => first | (go_simp; done) | (go_simp; rfl)); (case hp => exact (Reps.one (show Kd.M Kd.string _ _ _ (⟨#[105, 109, 97, 103, 101]⟩ : ByteArray) [.string (⟨#[105, 109, 97, 103, 101]⟩ : ByteArray)] from rfl) (Reps.one (show Kd.M Kd.string _ _ _ (⟨#[97, 117, 100, 105, 111]⟩ : ByteArray) [.string (⟨#[97, 117, 100, 105, 111]⟩ : ByteArray)] from rfl) (Reps.one (show Kd.M Kd.string _ _ _ (⟨#[118, 105, 100, 101, 111]⟩ : ByteArray) [.string (⟨#[118, 105, 100, 101, 111]⟩ : ByteArray)] from rfl) (Reps.none _ _))))); intro v316 w32 ho33 hb hg_ hnew_; clear hg_ hnew_; (first | rw [← Ny315.out] at ho33 | (simp only [Int.reduceToNat] at ho33; rw [← Ny315.out] at ho33)); have n0_ := Aside0.mk (Kd.R_lower ho33 (below_size BWK)); have n1_ := Aside0.mk (blk_below (g := gb306) (o := .cells #[.string a0_0, .string a0_1, .int .i64 a0_2] 29 (0, 0)) BLK hb); have n2_ := Aside0.mk (blk_below (g := gb307) (o := .cells #[.string a1_0, .string a1_1, .string a1_2, .string a1_3, .int .i64 a1_4, .string a1_5, .bool a1_6, .string a1_7, .bool a1_8, .string a1_9] 23 (0, 0)) BLK hb); have n3_ := Aside0.mk (below_step BWK hb); clear BK306; clear BK307; clear HB; have HO317 := n0_; have BK306 := n1_; have BK307 := n2_; have HB := n3_; clear n0_ n1_ n2_ n3_; clear hb ho33; obtain ⟨Ao34, co34, eo34⟩ := Kd.R_slice HO317.out; subst eo34) | ((with_reducible refine gate_callee (f := 20) rfl ?_); refine goesL_ (some 28) rfl rfl Tryd.func20 (by kernel_rfl) rfl #[.string a2, .slice Ao34 y315.length co34] rfl GAK ?_; (with_reducible refine (ascii_Any.calls kj5 a2 _ _ y315 true _ ?side1 ?side2 A26.out).mono ?_); (case side1 => repeat (first | exact (Kd.R_reads' HO317.out).2.2 | (with_reducible refine Kd.C_alloc ?_ _) | (with_reducible refine Kd.C_drewN ?_ _) | (with_reducible refine Kd.C_drew ?_))); (case side2 => exact (Kd.R_reads' HO317.out).2.1); rintro e w' ⟨rfl, ⟨nd, rfl⟩⟩; refine ⟨_, rfl, ?_⟩))
      go_ret
      exact ⟨ERK, BWK⟩
    ·replace c27 := Bool.eq_false_iff.mpr c27
     subst c27
     have H1 := H; rw [if_neg (show ¬ (false = true) by decide)] at H1
     clear H
     have H := H1
     clear H1
     obtain rfl := Option.some.inj H
     go_wp2_with (first | ((with_reducible refine gate_dst (N := 27) rfl ?_); refine Kd.R_lit Kd.string _ 9 ?hg (N := 27) ?hd (xs := ([(⟨#[105, 109, 97, 103, 101]⟩ : ByteArray), (⟨#[97, 117, 100, 105, 111]⟩ : ByteArray), (⟨#[118, 105, 100, 101, 111]⟩ : ByteArray)] : List ByteArray)) (inner := [.string (⟨#[105, 109, 97, 103, 101]⟩ : ByteArray), .string (⟨#[97, 117, 100, 105, 111]⟩ : ByteArray), .string (⟨#[118, 105, 100, 101, 111]⟩ : ByteArray)]) (ok := fun _ => True) (okp := fun _ => True) ?hr ?hp (fun _ hk => hk) trivial (Below.refl _ _) (Nat.le_refl _) (by simp) ?_; (case hd => rfl); (case hg => rfl); (case hr => first | (go_simp; done) | (go_simp; rfl)); (case hp => exact (Reps.one (show Kd.M Kd.string _ _ _ (⟨#[105, 109, 97, 103, 101]⟩ : ByteArray) [.string (⟨#[105, 109, 97, 103, 101]⟩ : ByteArray)] from rfl) (Reps.one (show Kd.M Kd.string _ _ _ (⟨#[97, 117, 100, 105, 111]⟩ : ByteArray) [.string (⟨#[97, 117, 100, 105, 111]⟩ : ByteArray)] from rfl) (Reps.one (show Kd.M Kd.string _ _ _ (⟨#[118, 105, 100, 101, 111]⟩ : ByteArray) [.string (⟨#[118, 105, 100, 101, 111]⟩ : ByteArray)] from rfl) (Reps.none _ _))))); intro v316 w35 ho36 hb hg_ hnew_; clear hg_ hnew_; (first | rw [← Ny315.out] at ho36 | (simp only [Int.reduceToNat] at ho36; rw [← Ny315.out] at ho36)); have n0_ := Aside0.mk (Kd.R_lower ho36 (below_size BWK)); have n1_ := Aside0.mk (blk_below (g := gb306) (o := .cells #[.string a0_0, .string a0_1, .int .i64 a0_2] 29 (0, 0)) BLK hb); have n2_ := Aside0.mk (blk_below (g := gb307) (o := .cells #[.string a1_0, .string a1_1, .string a1_2, .string a1_3, .int .i64 a1_4, .string a1_5, .bool a1_6, .string a1_7, .bool a1_8, .string a1_9] 23 (0, 0)) BLK hb); have n3_ := Aside0.mk (below_step BWK hb); clear BK306; clear BK307; clear HB; have HO317 := n0_; have BK306 := n1_; have BK307 := n2_; have HB := n3_; clear n0_ n1_ n2_ n3_; clear hb ho36; obtain ⟨Ao37, co37, eo37⟩ := Kd.R_slice HO317.out; subst eo37) | ((with_reducible refine gate_callee (f := 20) rfl ?_); refine goesL_ (some 28) rfl rfl Tryd.func20 (by kernel_rfl) rfl #[.string a2, .slice Ao37 y315.length co37] rfl GAK ?_; (with_reducible refine (ascii_Any.calls kj5 a2 _ _ y315 false _ ?side1 ?side2 A26.out).mono ?_); (case side1 => repeat (first | exact (Kd.R_reads' HO317.out).2.2 | (with_reducible refine Kd.C_alloc ?_ _) | (with_reducible refine Kd.C_drewN ?_ _) | (with_reducible refine Kd.C_drew ?_))); (case side2 => exact (Kd.R_reads' HO317.out).2.1); rintro e w' ⟨rfl, ⟨nd, rfl⟩⟩; refine ⟨_, rfl, ?_⟩))
     go_ret
     exact ⟨ERK, BWK⟩

/-! ### parapetlaw18_awake: function 9 -/
def parapetlaw18_awake.f (k : Nat)  : Option (Bool) := (parapetlaw18_parsed.f k (⟨#[104, 116, 116, 112, 58, 47, 47, 97, 47]⟩ : ByteArray)).bind fun bt319 => ((parapetlaw18_parsed.f k (⟨#[104, 116, 116, 112, 58, 47, 47, 108, 111, 99, 97, 108, 104, 111, 115, 116, 47]⟩ : ByteArray)).bind fun bt331 => (if bt319.2.2.2.2.2.2.2.2.2.2 = true then (if bt331.2.2.2.2.2.2.2.2.2.2 = true then ((mixed_Class.f k (⟨#[104, 116, 116, 112, 115]⟩ : ByteArray) (⟨#[97]⟩ : ByteArray) 443 bt319.1 bt319.2.1 bt319.2.2.1 bt319.2.2.2.1 bt319.2.2.2.2.1 bt319.2.2.2.2.2.1 bt319.2.2.2.2.2.2.1 bt319.2.2.2.2.2.2.2.1 bt319.2.2.2.2.2.2.2.2.1 bt319.2.2.2.2.2.2.2.2.2.1 (⟨#[105, 109, 97, 103, 101]⟩ : ByteArray)).bind fun t344 => (if t344 = 1 then ((mixed_Class.f k (⟨#[104, 116, 116, 112, 115]⟩ : ByteArray) (⟨#[97]⟩ : ByteArray) 443 bt319.1 bt319.2.1 bt319.2.2.1 bt319.2.2.2.1 bt319.2.2.2.2.1 bt319.2.2.2.2.2.1 bt319.2.2.2.2.2.2.1 bt319.2.2.2.2.2.2.2.1 bt319.2.2.2.2.2.2.2.2.1 bt319.2.2.2.2.2.2.2.2.2.1 (⟨#[115, 99, 114, 105, 112, 116]⟩ : ByteArray)).bind fun t345 => (if t345 = 2 then ((mixed_Class.f k (⟨#[104, 116, 116, 112, 115]⟩ : ByteArray) (⟨#[97]⟩ : ByteArray) 443 bt331.1 bt331.2.1 bt331.2.2.1 bt331.2.2.2.1 bt331.2.2.2.2.1 bt331.2.2.2.2.2.1 bt331.2.2.2.2.2.2.1 bt331.2.2.2.2.2.2.2.1 bt331.2.2.2.2.2.2.2.2.1 bt331.2.2.2.2.2.2.2.2.2.1 (⟨#[115, 99, 114, 105, 112, 116]⟩ : ByteArray)).bind fun t346 => (some (t346 == 0))) else (some false))) else (some false))) else (some false)) else (some false)))
theorem parapetlaw18_awake.mono : ∀ k, LeO (parapetlaw18_awake.f k ) (parapetlaw18_awake.f (k + 1) ) := by
 intro  k
 unfold parapetlaw18_awake.f
 repeat' first
   | (with_reducible exact mixed_Class.mono _ _ _ _ _ _ _ _ _ _ _ _ _ _ _)
   | (with_reducible exact parapetlaw18_parsed.mono _ _)
   | (with_reducible exact LeO.refl _)
   | (with_reducible exact LeO.none _)
   | (with_reducible refine LeO.ite ?_ ?_)
   | (with_reducible refine LeO.bind ?_ (fun _ => ?_))
   | exact mixed_Class.mono _ _ _ _ _ _ _ _ _ _ _ _ _ _ _
   | exact parapetlaw18_parsed.mono _ _
   | exact LeO.none _
   | refine LeO.ite ?_ ?_
   | refine LeO.bind ?_ (fun _ => ?_)
theorem parapetlaw18_awake.calls (k : Nat)  (r : Bool) (w : World) (h : parapetlaw18_awake.f k  = some r) :
  Calls Tryd.prog 9 #[] w fun e w' => e = .returned (.bool r) ∧ Below w.heap.size w w' := by
 have hu23 := Tryd.underlying23
 have hu29 := Tryd.underlying29
 have HB := Aside0.mk (Below.refl w.heap.size w)
 have H : ((parapetlaw18_parsed.f k (⟨#[104, 116, 116, 112, 58, 47, 47, 97, 47]⟩ : ByteArray)).bind fun bt319 => ((parapetlaw18_parsed.f k (⟨#[104, 116, 116, 112, 58, 47, 47, 108, 111, 99, 97, 108, 104, 111, 115, 116, 47]⟩ : ByteArray)).bind fun bt331 => (if bt319.2.2.2.2.2.2.2.2.2.2 = true then (if bt331.2.2.2.2.2.2.2.2.2.2 = true then ((mixed_Class.f k (⟨#[104, 116, 116, 112, 115]⟩ : ByteArray) (⟨#[97]⟩ : ByteArray) 443 bt319.1 bt319.2.1 bt319.2.2.1 bt319.2.2.2.1 bt319.2.2.2.2.1 bt319.2.2.2.2.2.1 bt319.2.2.2.2.2.2.1 bt319.2.2.2.2.2.2.2.1 bt319.2.2.2.2.2.2.2.2.1 bt319.2.2.2.2.2.2.2.2.2.1 (⟨#[105, 109, 97, 103, 101]⟩ : ByteArray)).bind fun t344 => (if t344 = 1 then ((mixed_Class.f k (⟨#[104, 116, 116, 112, 115]⟩ : ByteArray) (⟨#[97]⟩ : ByteArray) 443 bt319.1 bt319.2.1 bt319.2.2.1 bt319.2.2.2.1 bt319.2.2.2.2.1 bt319.2.2.2.2.2.1 bt319.2.2.2.2.2.2.1 bt319.2.2.2.2.2.2.2.1 bt319.2.2.2.2.2.2.2.2.1 bt319.2.2.2.2.2.2.2.2.2.1 (⟨#[115, 99, 114, 105, 112, 116]⟩ : ByteArray)).bind fun t345 => (if t345 = 2 then ((mixed_Class.f k (⟨#[104, 116, 116, 112, 115]⟩ : ByteArray) (⟨#[97]⟩ : ByteArray) 443 bt331.1 bt331.2.1 bt331.2.2.1 bt331.2.2.2.1 bt331.2.2.2.2.1 bt331.2.2.2.2.2.1 bt331.2.2.2.2.2.2.1 bt331.2.2.2.2.2.2.2.1 bt331.2.2.2.2.2.2.2.2.1 bt331.2.2.2.2.2.2.2.2.2.1 (⟨#[115, 99, 114, 105, 112, 116]⟩ : ByteArray)).bind fun t346 => (some (t346 == 0))) else (some false))) else (some false))) else (some false)) else (some false)))) = some r := h
 clear h
 replace H := Option.bind_eq_some_iff.mp H
 obtain ⟨⟨t319, t320, t321, t322, t323, t324, t325, t326, t327, t328, t329⟩, A10, H⟩ := H
 (try dsimp only at H)
 have A1 := Aside0.mk A10
 clear A10
 replace H := Option.bind_eq_some_iff.mp H
 obtain ⟨⟨t331, t332, t333, t334, t335, t336, t337, t338, t339, t340, t341⟩, A20, H⟩ := H
 (try dsimp only at H)
 have A2 := Aside0.mk A20
 clear A20
 by_cases c3 : t329 = true
 ·subst c3
  have H1 := H; rw [if_pos rfl] at H1
  clear H
  have H := H1
  clear H1
  by_cases c4 : t341 = true
  ·subst c4
   have H1 := H; rw [if_pos rfl] at H1
   clear H
   have H := H1
   clear H1
   replace H := Option.bind_eq_some_iff.mp H
   obtain ⟨t344, A50, H⟩ := H
   (try dsimp only at H)
   have A5 := Aside0.mk A50
   clear A50
   by_cases c6 : t344 = 1
   ·rw [if_pos c6] at H
    have c6b0 : (t344 == 1) = true := beq_iff_eq.mpr c6
    have c6b1 : (t344 != 1) = false := bne_eq_false_iff_eq.mpr c6
    clear c6
    replace H := Option.bind_eq_some_iff.mp H
    obtain ⟨t345, A70, H⟩ := H
    (try dsimp only at H)
    have A7 := Aside0.mk A70
    clear A70
    by_cases c8 : t345 = 2
    ·rw [if_pos c8] at H
     have c8b0 : (t345 == 2) = true := beq_iff_eq.mpr c8
     have c8b1 : (t345 != 2) = false := bne_eq_false_iff_eq.mpr c8
     clear c8
     replace H := Option.bind_eq_some_iff.mp H
     obtain ⟨t346, A90, H⟩ := H
     (try dsimp only at H)
     have A9 := Aside0.mk A90
     clear A90
     obtain rfl := Option.some.inj H
     go_enter Tryd.func9, Tryd.ntmps9
     go_wp2_with (first | ((with_reducible refine gate_callee (f := 8) rfl ?_); refine goesL_ (some 7) rfl rfl Tryd.func8 (by kernel_rfl) rfl #[.string (⟨#[104, 116, 116, 112, 58, 47, 47, 97, 47]⟩ : ByteArray)] rfl GAK ?_; (with_reducible refine (parapetlaw18_parsed.calls k (⟨#[104, 116, 116, 112, 58, 47, 47, 97, 47]⟩ : ByteArray) t319 t320 t321 t322 t323 t324 t325 t326 t327 t328 true _ A1.out).mono ?_); rintro e w10 ⟨rfl, hb⟩; refine ⟨_, rfl, ?_⟩; have n0_ := Aside0.mk (below_step BWK hb); clear HB; have HB := n0_; clear n0_; (try clear hb); (try clear hb2); (try clear hk); (try clear hi)) | ((with_reducible refine gate_dst (N := 1) rfl ?_); refine box_event ?hg (N := 1) ?hd (cs := #[.string (⟨#[]⟩ : ByteArray), .string (⟨#[]⟩ : ByteArray), .string (⟨#[]⟩ : ByteArray), .string (⟨#[]⟩ : ByteArray), .int .i64 0, .string (⟨#[]⟩ : ByteArray), .bool false, .string (⟨#[]⟩ : ByteArray), .bool false, .string (⟨#[]⟩ : ByteArray)]) (t := 23) ?hr ?_; (case hd => rfl); (case hg => rfl); (case hr => first | (go_simp; done) | (go_simp; rfl)); intro gb330 hg w11 hbox hb; have n0_ := Aside0.mk (below_step BWK hb); have n1_ := Aside0.mk (hbox); have n2_ := Aside0.mk ((by rw [hg]; exact (below_size BWK) : w.heap.size ≤ gb330)); have n3_ := Aside0.mk ((by rw [hg]; exact (below_size BWK) : w.heap.size ≤ gb330)); clear HB; have HB := n0_; have BK330 := n1_; have GW330 := n2_; have GE330 := n3_; clear n0_ n1_ n2_ n3_; clear hb hbox hg; have hcz12_0 := bc0 BK330.out; have hcz12_1 := bc1 BK330.out; have hcz12_2 := bc2 BK330.out; have hcz12_3 := bc3 BK330.out; have hcz12_4 := bc4 BK330.out; have hcz12_5 := bc5 BK330.out; have hcz12_6 := bc6 BK330.out; have hcz12_7 := bc7 BK330.out; have hcz12_8 := bc8 BK330.out; have hcz12_9 := bc9 BK330.out; have hfz12_0 := blk_frozen BK330.out 0; have hfz12_1 := blk_frozen BK330.out 1; have hfz12_2 := blk_frozen BK330.out 2; have hfz12_3 := blk_frozen BK330.out 3; have hfz12_4 := blk_frozen BK330.out 4; have hfz12_5 := blk_frozen BK330.out 5; have hfz12_6 := blk_frozen BK330.out 6; have hfz12_7 := blk_frozen BK330.out 7; have hfz12_8 := blk_frozen BK330.out 8; have hfz12_9 := blk_frozen BK330.out 9) | ((with_reducible refine gate_callee (f := 8) rfl ?_); refine goesL_ (some 11) rfl rfl Tryd.func8 (by kernel_rfl) rfl #[.string (⟨#[104, 116, 116, 112, 58, 47, 47, 108, 111, 99, 97, 108, 104, 111, 115, 116, 47]⟩ : ByteArray)] rfl GAK ?_; (with_reducible refine (parapetlaw18_parsed.calls k (⟨#[104, 116, 116, 112, 58, 47, 47, 108, 111, 99, 97, 108, 104, 111, 115, 116, 47]⟩ : ByteArray) t331 t332 t333 t334 t335 t336 t337 t338 t339 t340 true _ A2.out).mono ?_); rintro e w13 ⟨rfl, hb⟩; refine ⟨_, rfl, ?_⟩; have n0_ := Aside0.mk (blk_below (g := gb330) (o := .cells #[.string t319, .string t320, .string t321, .string t322, .int .i64 t323, .string t324, .bool t325, .string t326, .bool t327, .string t328] 23 (0, 0)) BLK hb); have n1_ := Aside0.mk (below_step BWK hb); clear BK330; clear HB; have BK330 := n0_; have HB := n1_; clear n0_ n1_; (try clear hb); (try clear hb2); (try clear hk); (try clear hi)) | ((with_reducible refine gate_dst (N := 3) rfl ?_); refine box_event ?hg (N := 3) ?hd (cs := #[.string (⟨#[]⟩ : ByteArray), .string (⟨#[]⟩ : ByteArray), .string (⟨#[]⟩ : ByteArray), .string (⟨#[]⟩ : ByteArray), .int .i64 0, .string (⟨#[]⟩ : ByteArray), .bool false, .string (⟨#[]⟩ : ByteArray), .bool false, .string (⟨#[]⟩ : ByteArray)]) (t := 23) ?hr ?_; (case hd => rfl); (case hg => rfl); (case hr => first | (go_simp; done) | (go_simp; rfl)); intro gb342 hg w14 hbox hb; have n0_ := Aside0.mk (blk_below (g := gb330) (o := .cells #[.string t319, .string t320, .string t321, .string t322, .int .i64 t323, .string t324, .bool t325, .string t326, .bool t327, .string t328] 23 (0, 0)) BLK hb); have n1_ := Aside0.mk (below_step BWK hb); have n2_ := Aside0.mk (hbox); have n3_ := Aside0.mk ((by rw [hg]; exact (below_size BWK) : w.heap.size ≤ gb342)); have n4_ := Aside0.mk ((by rw [hg]; exact (below_size BWK) : w.heap.size ≤ gb342)); have n5_ := Aside0.mk ((by rw [hg]; exact Nat.ne_of_lt (blk_lt (g := gb330) (o := .cells #[.string t319, .string t320, .string t321, .string t322, .int .i64 t323, .string t324, .bool t325, .string t326, .bool t327, .string t328] 23 (0, 0)) BLK) : gb330 ≠ gb342)); have n6_ := Aside0.mk ((by rw [hg]; exact Nat.ne_of_gt (blk_lt (g := gb330) (o := .cells #[.string t319, .string t320, .string t321, .string t322, .int .i64 t323, .string t324, .bool t325, .string t326, .bool t327, .string t328] 23 (0, 0)) BLK) : gb342 ≠ gb330)); clear BK330; clear HB; have BK330 := n0_; have HB := n1_; have BK342 := n2_; have GW342 := n3_; have GE342 := n4_; have NB330_342 := n5_; have NB342_330 := n6_; clear n0_ n1_ n2_ n3_ n4_ n5_ n6_; clear hb hbox hg; have hnb15 := NB342_330.out; have hnc15 := NB330_342.out; have hcz16_0 := bc0 BK342.out; have hcz16_1 := bc1 BK342.out; have hcz16_2 := bc2 BK342.out; have hcz16_3 := bc3 BK342.out; have hcz16_4 := bc4 BK342.out; have hcz16_5 := bc5 BK342.out; have hcz16_6 := bc6 BK342.out; have hcz16_7 := bc7 BK342.out; have hcz16_8 := bc8 BK342.out; have hcz16_9 := bc9 BK342.out; have hfz16_0 := blk_frozen BK342.out 0; have hfz16_1 := blk_frozen BK342.out 1; have hfz16_2 := blk_frozen BK342.out 2; have hfz16_3 := blk_frozen BK342.out 3; have hfz16_4 := blk_frozen BK342.out 4; have hfz16_5 := blk_frozen BK342.out 5; have hfz16_6 := blk_frozen BK342.out 6; have hfz16_7 := blk_frozen BK342.out 7; have hfz16_8 := blk_frozen BK342.out 8; have hfz16_9 := blk_frozen BK342.out 9) | ((with_reducible refine gate_dst (N := 5) rfl ?_); refine box_event ?hg (N := 5) ?hd (cs := #[.string (⟨#[]⟩ : ByteArray), .string (⟨#[]⟩ : ByteArray), .int .i64 0]) (t := 29) ?hr ?_; (case hd => rfl); (case hg => rfl); (case hr => first | (go_simp; done) | (go_simp; rfl)); intro gb343 hg w17 hbox hb; have n0_ := Aside0.mk (blk_below (g := gb330) (o := .cells #[.string t319, .string t320, .string t321, .string t322, .int .i64 t323, .string t324, .bool t325, .string t326, .bool t327, .string t328] 23 (0, 0)) BLK hb); have n1_ := Aside0.mk (blk_below (g := gb342) (o := .cells #[.string t331, .string t332, .string t333, .string t334, .int .i64 t335, .string t336, .bool t337, .string t338, .bool t339, .string t340] 23 (0, 0)) BLK hb); have n2_ := Aside0.mk (below_step BWK hb); have n3_ := Aside0.mk (hbox); have n4_ := Aside0.mk ((by rw [hg]; exact (below_size BWK) : w.heap.size ≤ gb343)); have n5_ := Aside0.mk ((by rw [hg]; exact (below_size BWK) : w.heap.size ≤ gb343)); have n6_ := Aside0.mk ((by rw [hg]; exact Nat.ne_of_lt (blk_lt (g := gb330) (o := .cells #[.string t319, .string t320, .string t321, .string t322, .int .i64 t323, .string t324, .bool t325, .string t326, .bool t327, .string t328] 23 (0, 0)) BLK) : gb330 ≠ gb343)); have n7_ := Aside0.mk ((by rw [hg]; exact Nat.ne_of_gt (blk_lt (g := gb330) (o := .cells #[.string t319, .string t320, .string t321, .string t322, .int .i64 t323, .string t324, .bool t325, .string t326, .bool t327, .string t328] 23 (0, 0)) BLK) : gb343 ≠ gb330)); have n8_ := Aside0.mk ((by rw [hg]; exact Nat.ne_of_lt (blk_lt (g := gb342) (o := .cells #[.string t331, .string t332, .string t333, .string t334, .int .i64 t335, .string t336, .bool t337, .string t338, .bool t339, .string t340] 23 (0, 0)) BLK) : gb342 ≠ gb343)); have n9_ := Aside0.mk ((by rw [hg]; exact Nat.ne_of_gt (blk_lt (g := gb342) (o := .cells #[.string t331, .string t332, .string t333, .string t334, .int .i64 t335, .string t336, .bool t337, .string t338, .bool t339, .string t340] 23 (0, 0)) BLK) : gb343 ≠ gb342)); clear BK330; clear BK342; clear HB; have BK330 := n0_; have BK342 := n1_; have HB := n2_; have BK343 := n3_; have GW343 := n4_; have GE343 := n5_; have NB330_343 := n6_; have NB343_330 := n7_; have NB342_343 := n8_; have NB343_342 := n9_; clear n0_ n1_ n2_ n3_ n4_ n5_ n6_ n7_ n8_ n9_; clear hb hbox hg; have hnb18 := NB343_330.out; have hnc18 := NB330_343.out; have hnb19 := NB343_342.out; have hnc19 := NB342_343.out; have hcz20_0 := bc0 BK343.out; have hcz20_1 := bc1 BK343.out; have hcz20_2 := bc2 BK343.out; have hfz20_0 := blk_frozen BK343.out 0; have hfz20_1 := blk_frozen BK343.out 1; have hfz20_2 := blk_frozen BK343.out 2; have hcz21_0 := bc0 BK330.out; have hcz21_1 := bc1 BK330.out; have hcz21_2 := bc2 BK330.out; have hcz21_3 := bc3 BK330.out; have hcz21_4 := bc4 BK330.out; have hcz21_5 := bc5 BK330.out; have hcz21_6 := bc6 BK330.out; have hcz21_7 := bc7 BK330.out; have hcz21_8 := bc8 BK330.out; have hcz21_9 := bc9 BK330.out; have hfz21_0 := blk_frozen BK330.out 0; have hfz21_1 := blk_frozen BK330.out 1; have hfz21_2 := blk_frozen BK330.out 2; have hfz21_3 := blk_frozen BK330.out 3; have hfz21_4 := blk_frozen BK330.out 4; have hfz21_5 := blk_frozen BK330.out 5; have hfz21_6 := blk_frozen BK330.out 6; have hfz21_7 := blk_frozen BK330.out 7; have hfz21_8 := blk_frozen BK330.out 8; have hfz21_9 := blk_frozen BK330.out 9) | (go_at_call 10; (with_reducible refine (mixed_Class.calls k (⟨#[104, 116, 116, 112, 115]⟩ : ByteArray) (⟨#[97]⟩ : ByteArray) 443 t319 t320 t321 t322 t323 t324 t325 t326 t327 t328 (⟨#[105, 109, 97, 103, 101]⟩ : ByteArray) t344 _ A5.out).mono ?_); rintro e w22 ⟨rfl, hb⟩; have n0_ := Aside0.mk (blk_below (g := gb330) (o := .cells #[.string t319, .string t320, .string t321, .string t322, .int .i64 t323, .string t324, .bool t325, .string t326, .bool t327, .string t328] 23 (0, 0)) BLK hb); have n1_ := Aside0.mk (blk_below (g := gb342) (o := .cells #[.string t331, .string t332, .string t333, .string t334, .int .i64 t335, .string t336, .bool t337, .string t338, .bool t339, .string t340] 23 (0, 0)) BLK hb); have n2_ := Aside0.mk (blk_below (g := gb343) (o := .cells #[.string (⟨#[104, 116, 116, 112, 115]⟩ : ByteArray), .string (⟨#[97]⟩ : ByteArray), .int .i64 443] 29 (0, 0)) BLK hb); have n3_ := Aside0.mk (below_step BWK hb); clear BK330; clear BK342; clear BK343; clear HB; have BK330 := n0_; have BK342 := n1_; have BK343 := n2_; have HB := n3_; clear n0_ n1_ n2_ n3_; (try clear hb); (try clear hb2); (try clear hk); (try clear hi); have hcz23_0 := bc0 BK343.out; have hcz23_1 := bc1 BK343.out; have hcz23_2 := bc2 BK343.out; have hfz23_0 := blk_frozen BK343.out 0; have hfz23_1 := blk_frozen BK343.out 1; have hfz23_2 := blk_frozen BK343.out 2; have hcz24_0 := bc0 BK330.out; have hcz24_1 := bc1 BK330.out; have hcz24_2 := bc2 BK330.out; have hcz24_3 := bc3 BK330.out; have hcz24_4 := bc4 BK330.out; have hcz24_5 := bc5 BK330.out; have hcz24_6 := bc6 BK330.out; have hcz24_7 := bc7 BK330.out; have hcz24_8 := bc8 BK330.out; have hcz24_9 := bc9 BK330.out; have hfz24_0 := blk_frozen BK330.out 0; have hfz24_1 := blk_frozen BK330.out 1; have hfz24_2 := blk_frozen BK330.out 2; have hfz24_3 := blk_frozen BK330.out 3; have hfz24_4 := blk_frozen BK330.out 4; have hfz24_5 := blk_frozen BK330.out 5; have hfz24_6 := blk_frozen BK330.out 6; have hfz24_7 := blk_frozen BK330.out 7; have hfz24_8 := blk_frozen BK330.out 8; have hfz24_9 := blk_frozen BK330.out 9) | (go_at_call 10; (with_reducible refine (mixed_Class.calls k (⟨#[104, 116, 116, 112, 115]⟩ : ByteArray) (⟨#[97]⟩ : ByteArray) 443 t319 t320 t321 t322 t323 t324 t325 t326 t327 t328 (⟨#[115, 99, 114, 105, 112, 116]⟩ : ByteArray) t345 _ A7.out).mono ?_); rintro e w25 ⟨rfl, hb⟩; have n0_ := Aside0.mk (blk_below (g := gb330) (o := .cells #[.string t319, .string t320, .string t321, .string t322, .int .i64 t323, .string t324, .bool t325, .string t326, .bool t327, .string t328] 23 (0, 0)) BLK hb); have n1_ := Aside0.mk (blk_below (g := gb342) (o := .cells #[.string t331, .string t332, .string t333, .string t334, .int .i64 t335, .string t336, .bool t337, .string t338, .bool t339, .string t340] 23 (0, 0)) BLK hb); have n2_ := Aside0.mk (blk_below (g := gb343) (o := .cells #[.string (⟨#[104, 116, 116, 112, 115]⟩ : ByteArray), .string (⟨#[97]⟩ : ByteArray), .int .i64 443] 29 (0, 0)) BLK hb); have n3_ := Aside0.mk (below_step BWK hb); clear BK330; clear BK342; clear BK343; clear HB; have BK330 := n0_; have BK342 := n1_; have BK343 := n2_; have HB := n3_; clear n0_ n1_ n2_ n3_; (try clear hb); (try clear hb2); (try clear hk); (try clear hi); have hcz26_0 := bc0 BK343.out; have hcz26_1 := bc1 BK343.out; have hcz26_2 := bc2 BK343.out; have hfz26_0 := blk_frozen BK343.out 0; have hfz26_1 := blk_frozen BK343.out 1; have hfz26_2 := blk_frozen BK343.out 2; have hcz27_0 := bc0 BK342.out; have hcz27_1 := bc1 BK342.out; have hcz27_2 := bc2 BK342.out; have hcz27_3 := bc3 BK342.out; have hcz27_4 := bc4 BK342.out; have hcz27_5 := bc5 BK342.out; have hcz27_6 := bc6 BK342.out; have hcz27_7 := bc7 BK342.out; have hcz27_8 := bc8 BK342.out; have hcz27_9 := bc9 BK342.out; have hfz27_0 := blk_frozen BK342.out 0; have hfz27_1 := blk_frozen BK342.out 1; have hfz27_2 := blk_frozen BK342.out 2; have hfz27_3 := blk_frozen BK342.out 3; have hfz27_4 := blk_frozen BK342.out 4; have hfz27_5 := blk_frozen BK342.out 5; have hfz27_6 := blk_frozen BK342.out 6; have hfz27_7 := blk_frozen BK342.out 7; have hfz27_8 := blk_frozen BK342.out 8; have hfz27_9 := blk_frozen BK342.out 9) | (go_at_call 10; (with_reducible refine (mixed_Class.calls k (⟨#[104, 116, 116, 112, 115]⟩ : ByteArray) (⟨#[97]⟩ : ByteArray) 443 t331 t332 t333 t334 t335 t336 t337 t338 t339 t340 (⟨#[115, 99, 114, 105, 112, 116]⟩ : ByteArray) t346 _ A9.out).mono ?_); rintro e w28 ⟨rfl, hb⟩; have n0_ := Aside0.mk (blk_below (g := gb330) (o := .cells #[.string t319, .string t320, .string t321, .string t322, .int .i64 t323, .string t324, .bool t325, .string t326, .bool t327, .string t328] 23 (0, 0)) BLK hb); have n1_ := Aside0.mk (blk_below (g := gb342) (o := .cells #[.string t331, .string t332, .string t333, .string t334, .int .i64 t335, .string t336, .bool t337, .string t338, .bool t339, .string t340] 23 (0, 0)) BLK hb); have n2_ := Aside0.mk (blk_below (g := gb343) (o := .cells #[.string (⟨#[104, 116, 116, 112, 115]⟩ : ByteArray), .string (⟨#[97]⟩ : ByteArray), .int .i64 443] 29 (0, 0)) BLK hb); have n3_ := Aside0.mk (below_step BWK hb); clear BK330; clear BK342; clear BK343; clear HB; have BK330 := n0_; have BK342 := n1_; have BK343 := n2_; have HB := n3_; clear n0_ n1_ n2_ n3_; (try clear hb); (try clear hb2); (try clear hk); (try clear hi)))
     go_ret
     exact ⟨ERK, BWK⟩
    ·rw [if_neg c8] at H
     have c8b0 : (t345 == 2) = false := beq_eq_false_iff_ne.mpr c8
     have c8b1 : (t345 != 2) = true := bne_iff_ne.mpr c8
     obtain rfl := Option.some.inj H
     go_enter Tryd.func9, Tryd.ntmps9
     go_wp2_with (first | ((with_reducible refine gate_callee (f := 8) rfl ?_); refine goesL_ (some 7) rfl rfl Tryd.func8 (by kernel_rfl) rfl #[.string (⟨#[104, 116, 116, 112, 58, 47, 47, 97, 47]⟩ : ByteArray)] rfl GAK ?_; (with_reducible refine (parapetlaw18_parsed.calls k (⟨#[104, 116, 116, 112, 58, 47, 47, 97, 47]⟩ : ByteArray) t319 t320 t321 t322 t323 t324 t325 t326 t327 t328 true _ A1.out).mono ?_); rintro e w29 ⟨rfl, hb⟩; refine ⟨_, rfl, ?_⟩; have n0_ := Aside0.mk (below_step BWK hb); clear HB; have HB := n0_; clear n0_; (try clear hb); (try clear hb2); (try clear hk); (try clear hi)) | ((with_reducible refine gate_dst (N := 1) rfl ?_); refine box_event ?hg (N := 1) ?hd (cs := #[.string (⟨#[]⟩ : ByteArray), .string (⟨#[]⟩ : ByteArray), .string (⟨#[]⟩ : ByteArray), .string (⟨#[]⟩ : ByteArray), .int .i64 0, .string (⟨#[]⟩ : ByteArray), .bool false, .string (⟨#[]⟩ : ByteArray), .bool false, .string (⟨#[]⟩ : ByteArray)]) (t := 23) ?hr ?_; (case hd => rfl); (case hg => rfl); (case hr => first | (go_simp; done) | (go_simp; rfl)); intro gb330 hg w30 hbox hb; have n0_ := Aside0.mk (below_step BWK hb); have n1_ := Aside0.mk (hbox); have n2_ := Aside0.mk ((by rw [hg]; exact (below_size BWK) : w.heap.size ≤ gb330)); have n3_ := Aside0.mk ((by rw [hg]; exact (below_size BWK) : w.heap.size ≤ gb330)); clear HB; have HB := n0_; have BK330 := n1_; have GW330 := n2_; have GE330 := n3_; clear n0_ n1_ n2_ n3_; clear hb hbox hg; have hcz31_0 := bc0 BK330.out; have hcz31_1 := bc1 BK330.out; have hcz31_2 := bc2 BK330.out; have hcz31_3 := bc3 BK330.out; have hcz31_4 := bc4 BK330.out; have hcz31_5 := bc5 BK330.out; have hcz31_6 := bc6 BK330.out; have hcz31_7 := bc7 BK330.out; have hcz31_8 := bc8 BK330.out; have hcz31_9 := bc9 BK330.out; have hfz31_0 := blk_frozen BK330.out 0; have hfz31_1 := blk_frozen BK330.out 1; have hfz31_2 := blk_frozen BK330.out 2; have hfz31_3 := blk_frozen BK330.out 3; have hfz31_4 := blk_frozen BK330.out 4; have hfz31_5 := blk_frozen BK330.out 5; have hfz31_6 := blk_frozen BK330.out 6; have hfz31_7 := blk_frozen BK330.out 7; have hfz31_8 := blk_frozen BK330.out 8; have hfz31_9 := blk_frozen BK330.out 9) | ((with_reducible refine gate_callee (f := 8) rfl ?_); refine goesL_ (some 11) rfl rfl Tryd.func8 (by kernel_rfl) rfl #[.string (⟨#[104, 116, 116, 112, 58, 47, 47, 108, 111, 99, 97, 108, 104, 111, 115, 116, 47]⟩ : ByteArray)] rfl GAK ?_; (with_reducible refine (parapetlaw18_parsed.calls k (⟨#[104, 116, 116, 112, 58, 47, 47, 108, 111, 99, 97, 108, 104, 111, 115, 116, 47]⟩ : ByteArray) t331 t332 t333 t334 t335 t336 t337 t338 t339 t340 true _ A2.out).mono ?_); rintro e w32 ⟨rfl, hb⟩; refine ⟨_, rfl, ?_⟩; have n0_ := Aside0.mk (blk_below (g := gb330) (o := .cells #[.string t319, .string t320, .string t321, .string t322, .int .i64 t323, .string t324, .bool t325, .string t326, .bool t327, .string t328] 23 (0, 0)) BLK hb); have n1_ := Aside0.mk (below_step BWK hb); clear BK330; clear HB; have BK330 := n0_; have HB := n1_; clear n0_ n1_; (try clear hb); (try clear hb2); (try clear hk); (try clear hi)) | ((with_reducible refine gate_dst (N := 3) rfl ?_); refine box_event ?hg (N := 3) ?hd (cs := #[.string (⟨#[]⟩ : ByteArray), .string (⟨#[]⟩ : ByteArray), .string (⟨#[]⟩ : ByteArray), .string (⟨#[]⟩ : ByteArray), .int .i64 0, .string (⟨#[]⟩ : ByteArray), .bool false, .string (⟨#[]⟩ : ByteArray), .bool false, .string (⟨#[]⟩ : ByteArray)]) (t := 23) ?hr ?_; (case hd => rfl); (case hg => rfl); (case hr => first | (go_simp; done) | (go_simp; rfl)); intro gb342 hg w33 hbox hb; have n0_ := Aside0.mk (blk_below (g := gb330) (o := .cells #[.string t319, .string t320, .string t321, .string t322, .int .i64 t323, .string t324, .bool t325, .string t326, .bool t327, .string t328] 23 (0, 0)) BLK hb); have n1_ := Aside0.mk (below_step BWK hb); have n2_ := Aside0.mk (hbox); have n3_ := Aside0.mk ((by rw [hg]; exact (below_size BWK) : w.heap.size ≤ gb342)); have n4_ := Aside0.mk ((by rw [hg]; exact (below_size BWK) : w.heap.size ≤ gb342)); have n5_ := Aside0.mk ((by rw [hg]; exact Nat.ne_of_lt (blk_lt (g := gb330) (o := .cells #[.string t319, .string t320, .string t321, .string t322, .int .i64 t323, .string t324, .bool t325, .string t326, .bool t327, .string t328] 23 (0, 0)) BLK) : gb330 ≠ gb342)); have n6_ := Aside0.mk ((by rw [hg]; exact Nat.ne_of_gt (blk_lt (g := gb330) (o := .cells #[.string t319, .string t320, .string t321, .string t322, .int .i64 t323, .string t324, .bool t325, .string t326, .bool t327, .string t328] 23 (0, 0)) BLK) : gb342 ≠ gb330)); clear BK330; clear HB; have BK330 := n0_; have HB := n1_; have BK342 := n2_; have GW342 := n3_; have GE342 := n4_; have NB330_342 := n5_; have NB342_330 := n6_; clear n0_ n1_ n2_ n3_ n4_ n5_ n6_; clear hb hbox hg; have hnb34 := NB342_330.out; have hnc34 := NB330_342.out; have hcz35_0 := bc0 BK342.out; have hcz35_1 := bc1 BK342.out; have hcz35_2 := bc2 BK342.out; have hcz35_3 := bc3 BK342.out; have hcz35_4 := bc4 BK342.out; have hcz35_5 := bc5 BK342.out; have hcz35_6 := bc6 BK342.out; have hcz35_7 := bc7 BK342.out; have hcz35_8 := bc8 BK342.out; have hcz35_9 := bc9 BK342.out; have hfz35_0 := blk_frozen BK342.out 0; have hfz35_1 := blk_frozen BK342.out 1; have hfz35_2 := blk_frozen BK342.out 2; have hfz35_3 := blk_frozen BK342.out 3; have hfz35_4 := blk_frozen BK342.out 4; have hfz35_5 := blk_frozen BK342.out 5; have hfz35_6 := blk_frozen BK342.out 6; have hfz35_7 := blk_frozen BK342.out 7; have hfz35_8 := blk_frozen BK342.out 8; have hfz35_9 := blk_frozen BK342.out 9) | ((with_reducible refine gate_dst (N := 5) rfl ?_); refine box_event ?hg (N := 5) ?hd (cs := #[.string (⟨#[]⟩ : ByteArray), .string (⟨#[]⟩ : ByteArray), .int .i64 0]) (t := 29) ?hr ?_; (case hd => rfl); (case hg => rfl); (case hr => first | (go_simp; done) | (go_simp; rfl)); intro gb343 hg w36 hbox hb; have n0_ := Aside0.mk (blk_below (g := gb330) (o := .cells #[.string t319, .string t320, .string t321, .string t322, .int .i64 t323, .string t324, .bool t325, .string t326, .bool t327, .string t328] 23 (0, 0)) BLK hb); have n1_ := Aside0.mk (blk_below (g := gb342) (o := .cells #[.string t331, .string t332, .string t333, .string t334, .int .i64 t335, .string t336, .bool t337, .string t338, .bool t339, .string t340] 23 (0, 0)) BLK hb); have n2_ := Aside0.mk (below_step BWK hb); have n3_ := Aside0.mk (hbox); have n4_ := Aside0.mk ((by rw [hg]; exact (below_size BWK) : w.heap.size ≤ gb343)); have n5_ := Aside0.mk ((by rw [hg]; exact (below_size BWK) : w.heap.size ≤ gb343)); have n6_ := Aside0.mk ((by rw [hg]; exact Nat.ne_of_lt (blk_lt (g := gb330) (o := .cells #[.string t319, .string t320, .string t321, .string t322, .int .i64 t323, .string t324, .bool t325, .string t326, .bool t327, .string t328] 23 (0, 0)) BLK) : gb330 ≠ gb343)); have n7_ := Aside0.mk ((by rw [hg]; exact Nat.ne_of_gt (blk_lt (g := gb330) (o := .cells #[.string t319, .string t320, .string t321, .string t322, .int .i64 t323, .string t324, .bool t325, .string t326, .bool t327, .string t328] 23 (0, 0)) BLK) : gb343 ≠ gb330)); have n8_ := Aside0.mk ((by rw [hg]; exact Nat.ne_of_lt (blk_lt (g := gb342) (o := .cells #[.string t331, .string t332, .string t333, .string t334, .int .i64 t335, .string t336, .bool t337, .string t338, .bool t339, .string t340] 23 (0, 0)) BLK) : gb342 ≠ gb343)); have n9_ := Aside0.mk ((by rw [hg]; exact Nat.ne_of_gt (blk_lt (g := gb342) (o := .cells #[.string t331, .string t332, .string t333, .string t334, .int .i64 t335, .string t336, .bool t337, .string t338, .bool t339, .string t340] 23 (0, 0)) BLK) : gb343 ≠ gb342)); clear BK330; clear BK342; clear HB; have BK330 := n0_; have BK342 := n1_; have HB := n2_; have BK343 := n3_; have GW343 := n4_; have GE343 := n5_; have NB330_343 := n6_; have NB343_330 := n7_; have NB342_343 := n8_; have NB343_342 := n9_; clear n0_ n1_ n2_ n3_ n4_ n5_ n6_ n7_ n8_ n9_; clear hb hbox hg; have hnb37 := NB343_330.out; have hnc37 := NB330_343.out; have hnb38 := NB343_342.out; have hnc38 := NB342_343.out; have hcz39_0 := bc0 BK343.out; have hcz39_1 := bc1 BK343.out; have hcz39_2 := bc2 BK343.out; have hfz39_0 := blk_frozen BK343.out 0; have hfz39_1 := blk_frozen BK343.out 1; have hfz39_2 := blk_frozen BK343.out 2; have hcz40_0 := bc0 BK330.out; have hcz40_1 := bc1 BK330.out; have hcz40_2 := bc2 BK330.out; have hcz40_3 := bc3 BK330.out; have hcz40_4 := bc4 BK330.out; have hcz40_5 := bc5 BK330.out; have hcz40_6 := bc6 BK330.out; have hcz40_7 := bc7 BK330.out; have hcz40_8 := bc8 BK330.out; have hcz40_9 := bc9 BK330.out; have hfz40_0 := blk_frozen BK330.out 0; have hfz40_1 := blk_frozen BK330.out 1; have hfz40_2 := blk_frozen BK330.out 2; have hfz40_3 := blk_frozen BK330.out 3; have hfz40_4 := blk_frozen BK330.out 4; have hfz40_5 := blk_frozen BK330.out 5; have hfz40_6 := blk_frozen BK330.out 6; have hfz40_7 := blk_frozen BK330.out 7; have hfz40_8 := blk_frozen BK330.out 8; have hfz40_9 := blk_frozen BK330.out 9) | (go_at_call 10; (with_reducible refine (mixed_Class.calls k (⟨#[104, 116, 116, 112, 115]⟩ : ByteArray) (⟨#[97]⟩ : ByteArray) 443 t319 t320 t321 t322 t323 t324 t325 t326 t327 t328 (⟨#[105, 109, 97, 103, 101]⟩ : ByteArray) t344 _ A5.out).mono ?_); rintro e w41 ⟨rfl, hb⟩; have n0_ := Aside0.mk (blk_below (g := gb330) (o := .cells #[.string t319, .string t320, .string t321, .string t322, .int .i64 t323, .string t324, .bool t325, .string t326, .bool t327, .string t328] 23 (0, 0)) BLK hb); have n1_ := Aside0.mk (blk_below (g := gb342) (o := .cells #[.string t331, .string t332, .string t333, .string t334, .int .i64 t335, .string t336, .bool t337, .string t338, .bool t339, .string t340] 23 (0, 0)) BLK hb); have n2_ := Aside0.mk (blk_below (g := gb343) (o := .cells #[.string (⟨#[104, 116, 116, 112, 115]⟩ : ByteArray), .string (⟨#[97]⟩ : ByteArray), .int .i64 443] 29 (0, 0)) BLK hb); have n3_ := Aside0.mk (below_step BWK hb); clear BK330; clear BK342; clear BK343; clear HB; have BK330 := n0_; have BK342 := n1_; have BK343 := n2_; have HB := n3_; clear n0_ n1_ n2_ n3_; (try clear hb); (try clear hb2); (try clear hk); (try clear hi); have hcz42_0 := bc0 BK343.out; have hcz42_1 := bc1 BK343.out; have hcz42_2 := bc2 BK343.out; have hfz42_0 := blk_frozen BK343.out 0; have hfz42_1 := blk_frozen BK343.out 1; have hfz42_2 := blk_frozen BK343.out 2; have hcz43_0 := bc0 BK330.out; have hcz43_1 := bc1 BK330.out; have hcz43_2 := bc2 BK330.out; have hcz43_3 := bc3 BK330.out; have hcz43_4 := bc4 BK330.out; have hcz43_5 := bc5 BK330.out; have hcz43_6 := bc6 BK330.out; have hcz43_7 := bc7 BK330.out; have hcz43_8 := bc8 BK330.out; have hcz43_9 := bc9 BK330.out; have hfz43_0 := blk_frozen BK330.out 0; have hfz43_1 := blk_frozen BK330.out 1; have hfz43_2 := blk_frozen BK330.out 2; have hfz43_3 := blk_frozen BK330.out 3; have hfz43_4 := blk_frozen BK330.out 4; have hfz43_5 := blk_frozen BK330.out 5; have hfz43_6 := blk_frozen BK330.out 6; have hfz43_7 := blk_frozen BK330.out 7; have hfz43_8 := blk_frozen BK330.out 8; have hfz43_9 := blk_frozen BK330.out 9) | (go_at_call 10; (with_reducible refine (mixed_Class.calls k (⟨#[104, 116, 116, 112, 115]⟩ : ByteArray) (⟨#[97]⟩ : ByteArray) 443 t319 t320 t321 t322 t323 t324 t325 t326 t327 t328 (⟨#[115, 99, 114, 105, 112, 116]⟩ : ByteArray) t345 _ A7.out).mono ?_); rintro e w44 ⟨rfl, hb⟩; have n0_ := Aside0.mk (blk_below (g := gb330) (o := .cells #[.string t319, .string t320, .string t321, .string t322, .int .i64 t323, .string t324, .bool t325, .string t326, .bool t327, .string t328] 23 (0, 0)) BLK hb); have n1_ := Aside0.mk (blk_below (g := gb342) (o := .cells #[.string t331, .string t332, .string t333, .string t334, .int .i64 t335, .string t336, .bool t337, .string t338, .bool t339, .string t340] 23 (0, 0)) BLK hb); have n2_ := Aside0.mk (blk_below (g := gb343) (o := .cells #[.string (⟨#[104, 116, 116, 112, 115]⟩ : ByteArray), .string (⟨#[97]⟩ : ByteArray), .int .i64 443] 29 (0, 0)) BLK hb); have n3_ := Aside0.mk (below_step BWK hb); clear BK330; clear BK342; clear BK343; clear HB; have BK330 := n0_; have BK342 := n1_; have BK343 := n2_; have HB := n3_; clear n0_ n1_ n2_ n3_; (try clear hb); (try clear hb2); (try clear hk); (try clear hi)))
     go_ret
     exact ⟨ERK, BWK⟩
   ·rw [if_neg c6] at H
    have c6b0 : (t344 == 1) = false := beq_eq_false_iff_ne.mpr c6
    have c6b1 : (t344 != 1) = true := bne_iff_ne.mpr c6
    obtain rfl := Option.some.inj H
    go_enter Tryd.func9, Tryd.ntmps9
    go_wp2_with (first | ((with_reducible refine gate_callee (f := 8) rfl ?_); refine goesL_ (some 7) rfl rfl Tryd.func8 (by kernel_rfl) rfl #[.string (⟨#[104, 116, 116, 112, 58, 47, 47, 97, 47]⟩ : ByteArray)] rfl GAK ?_; (with_reducible refine (parapetlaw18_parsed.calls k (⟨#[104, 116, 116, 112, 58, 47, 47, 97, 47]⟩ : ByteArray) t319 t320 t321 t322 t323 t324 t325 t326 t327 t328 true _ A1.out).mono ?_); rintro e w45 ⟨rfl, hb⟩; refine ⟨_, rfl, ?_⟩; have n0_ := Aside0.mk (below_step BWK hb); clear HB; have HB := n0_; clear n0_; (try clear hb); (try clear hb2); (try clear hk); (try clear hi)) | ((with_reducible refine gate_dst (N := 1) rfl ?_); refine box_event ?hg (N := 1) ?hd (cs := #[.string (⟨#[]⟩ : ByteArray), .string (⟨#[]⟩ : ByteArray), .string (⟨#[]⟩ : ByteArray), .string (⟨#[]⟩ : ByteArray), .int .i64 0, .string (⟨#[]⟩ : ByteArray), .bool false, .string (⟨#[]⟩ : ByteArray), .bool false, .string (⟨#[]⟩ : ByteArray)]) (t := 23) ?hr ?_; (case hd => rfl); (case hg => rfl); (case hr => first | (go_simp; done) | (go_simp; rfl)); intro gb330 hg w46 hbox hb; have n0_ := Aside0.mk (below_step BWK hb); have n1_ := Aside0.mk (hbox); have n2_ := Aside0.mk ((by rw [hg]; exact (below_size BWK) : w.heap.size ≤ gb330)); have n3_ := Aside0.mk ((by rw [hg]; exact (below_size BWK) : w.heap.size ≤ gb330)); clear HB; have HB := n0_; have BK330 := n1_; have GW330 := n2_; have GE330 := n3_; clear n0_ n1_ n2_ n3_; clear hb hbox hg; have hcz47_0 := bc0 BK330.out; have hcz47_1 := bc1 BK330.out; have hcz47_2 := bc2 BK330.out; have hcz47_3 := bc3 BK330.out; have hcz47_4 := bc4 BK330.out; have hcz47_5 := bc5 BK330.out; have hcz47_6 := bc6 BK330.out; have hcz47_7 := bc7 BK330.out; have hcz47_8 := bc8 BK330.out; have hcz47_9 := bc9 BK330.out; have hfz47_0 := blk_frozen BK330.out 0; have hfz47_1 := blk_frozen BK330.out 1; have hfz47_2 := blk_frozen BK330.out 2; have hfz47_3 := blk_frozen BK330.out 3; have hfz47_4 := blk_frozen BK330.out 4; have hfz47_5 := blk_frozen BK330.out 5; have hfz47_6 := blk_frozen BK330.out 6; have hfz47_7 := blk_frozen BK330.out 7; have hfz47_8 := blk_frozen BK330.out 8; have hfz47_9 := blk_frozen BK330.out 9) | ((with_reducible refine gate_callee (f := 8) rfl ?_); refine goesL_ (some 11) rfl rfl Tryd.func8 (by kernel_rfl) rfl #[.string (⟨#[104, 116, 116, 112, 58, 47, 47, 108, 111, 99, 97, 108, 104, 111, 115, 116, 47]⟩ : ByteArray)] rfl GAK ?_; (with_reducible refine (parapetlaw18_parsed.calls k (⟨#[104, 116, 116, 112, 58, 47, 47, 108, 111, 99, 97, 108, 104, 111, 115, 116, 47]⟩ : ByteArray) t331 t332 t333 t334 t335 t336 t337 t338 t339 t340 true _ A2.out).mono ?_); rintro e w48 ⟨rfl, hb⟩; refine ⟨_, rfl, ?_⟩; have n0_ := Aside0.mk (blk_below (g := gb330) (o := .cells #[.string t319, .string t320, .string t321, .string t322, .int .i64 t323, .string t324, .bool t325, .string t326, .bool t327, .string t328] 23 (0, 0)) BLK hb); have n1_ := Aside0.mk (below_step BWK hb); clear BK330; clear HB; have BK330 := n0_; have HB := n1_; clear n0_ n1_; (try clear hb); (try clear hb2); (try clear hk); (try clear hi)) | ((with_reducible refine gate_dst (N := 3) rfl ?_); refine box_event ?hg (N := 3) ?hd (cs := #[.string (⟨#[]⟩ : ByteArray), .string (⟨#[]⟩ : ByteArray), .string (⟨#[]⟩ : ByteArray), .string (⟨#[]⟩ : ByteArray), .int .i64 0, .string (⟨#[]⟩ : ByteArray), .bool false, .string (⟨#[]⟩ : ByteArray), .bool false, .string (⟨#[]⟩ : ByteArray)]) (t := 23) ?hr ?_; (case hd => rfl); (case hg => rfl); (case hr => first | (go_simp; done) | (go_simp; rfl)); intro gb342 hg w49 hbox hb; have n0_ := Aside0.mk (blk_below (g := gb330) (o := .cells #[.string t319, .string t320, .string t321, .string t322, .int .i64 t323, .string t324, .bool t325, .string t326, .bool t327, .string t328] 23 (0, 0)) BLK hb); have n1_ := Aside0.mk (below_step BWK hb); have n2_ := Aside0.mk (hbox); have n3_ := Aside0.mk ((by rw [hg]; exact (below_size BWK) : w.heap.size ≤ gb342)); have n4_ := Aside0.mk ((by rw [hg]; exact (below_size BWK) : w.heap.size ≤ gb342)); have n5_ := Aside0.mk ((by rw [hg]; exact Nat.ne_of_lt (blk_lt (g := gb330) (o := .cells #[.string t319, .string t320, .string t321, .string t322, .int .i64 t323, .string t324, .bool t325, .string t326, .bool t327, .string t328] 23 (0, 0)) BLK) : gb330 ≠ gb342)); have n6_ := Aside0.mk ((by rw [hg]; exact Nat.ne_of_gt (blk_lt (g := gb330) (o := .cells #[.string t319, .string t320, .string t321, .string t322, .int .i64 t323, .string t324, .bool t325, .string t326, .bool t327, .string t328] 23 (0, 0)) BLK) : gb342 ≠ gb330)); clear BK330; clear HB; have BK330 := n0_; have HB := n1_; have BK342 := n2_; have GW342 := n3_; have GE342 := n4_; have NB330_342 := n5_; have NB342_330 := n6_; clear n0_ n1_ n2_ n3_ n4_ n5_ n6_; clear hb hbox hg; have hnb50 := NB342_330.out; have hnc50 := NB330_342.out; have hcz51_0 := bc0 BK342.out; have hcz51_1 := bc1 BK342.out; have hcz51_2 := bc2 BK342.out; have hcz51_3 := bc3 BK342.out; have hcz51_4 := bc4 BK342.out; have hcz51_5 := bc5 BK342.out; have hcz51_6 := bc6 BK342.out; have hcz51_7 := bc7 BK342.out; have hcz51_8 := bc8 BK342.out; have hcz51_9 := bc9 BK342.out; have hfz51_0 := blk_frozen BK342.out 0; have hfz51_1 := blk_frozen BK342.out 1; have hfz51_2 := blk_frozen BK342.out 2; have hfz51_3 := blk_frozen BK342.out 3; have hfz51_4 := blk_frozen BK342.out 4; have hfz51_5 := blk_frozen BK342.out 5; have hfz51_6 := blk_frozen BK342.out 6; have hfz51_7 := blk_frozen BK342.out 7; have hfz51_8 := blk_frozen BK342.out 8; have hfz51_9 := blk_frozen BK342.out 9) | ((with_reducible refine gate_dst (N := 5) rfl ?_); refine box_event ?hg (N := 5) ?hd (cs := #[.string (⟨#[]⟩ : ByteArray), .string (⟨#[]⟩ : ByteArray), .int .i64 0]) (t := 29) ?hr ?_; (case hd => rfl); (case hg => rfl); (case hr => first | (go_simp; done) | (go_simp; rfl)); intro gb343 hg w52 hbox hb; have n0_ := Aside0.mk (blk_below (g := gb330) (o := .cells #[.string t319, .string t320, .string t321, .string t322, .int .i64 t323, .string t324, .bool t325, .string t326, .bool t327, .string t328] 23 (0, 0)) BLK hb); have n1_ := Aside0.mk (blk_below (g := gb342) (o := .cells #[.string t331, .string t332, .string t333, .string t334, .int .i64 t335, .string t336, .bool t337, .string t338, .bool t339, .string t340] 23 (0, 0)) BLK hb); have n2_ := Aside0.mk (below_step BWK hb); have n3_ := Aside0.mk (hbox); have n4_ := Aside0.mk ((by rw [hg]; exact (below_size BWK) : w.heap.size ≤ gb343)); have n5_ := Aside0.mk ((by rw [hg]; exact (below_size BWK) : w.heap.size ≤ gb343)); have n6_ := Aside0.mk ((by rw [hg]; exact Nat.ne_of_lt (blk_lt (g := gb330) (o := .cells #[.string t319, .string t320, .string t321, .string t322, .int .i64 t323, .string t324, .bool t325, .string t326, .bool t327, .string t328] 23 (0, 0)) BLK) : gb330 ≠ gb343)); have n7_ := Aside0.mk ((by rw [hg]; exact Nat.ne_of_gt (blk_lt (g := gb330) (o := .cells #[.string t319, .string t320, .string t321, .string t322, .int .i64 t323, .string t324, .bool t325, .string t326, .bool t327, .string t328] 23 (0, 0)) BLK) : gb343 ≠ gb330)); have n8_ := Aside0.mk ((by rw [hg]; exact Nat.ne_of_lt (blk_lt (g := gb342) (o := .cells #[.string t331, .string t332, .string t333, .string t334, .int .i64 t335, .string t336, .bool t337, .string t338, .bool t339, .string t340] 23 (0, 0)) BLK) : gb342 ≠ gb343)); have n9_ := Aside0.mk ((by rw [hg]; exact Nat.ne_of_gt (blk_lt (g := gb342) (o := .cells #[.string t331, .string t332, .string t333, .string t334, .int .i64 t335, .string t336, .bool t337, .string t338, .bool t339, .string t340] 23 (0, 0)) BLK) : gb343 ≠ gb342)); clear BK330; clear BK342; clear HB; have BK330 := n0_; have BK342 := n1_; have HB := n2_; have BK343 := n3_; have GW343 := n4_; have GE343 := n5_; have NB330_343 := n6_; have NB343_330 := n7_; have NB342_343 := n8_; have NB343_342 := n9_; clear n0_ n1_ n2_ n3_ n4_ n5_ n6_ n7_ n8_ n9_; clear hb hbox hg; have hnb53 := NB343_330.out; have hnc53 := NB330_343.out; have hnb54 := NB343_342.out; have hnc54 := NB342_343.out; have hcz55_0 := bc0 BK343.out; have hcz55_1 := bc1 BK343.out; have hcz55_2 := bc2 BK343.out; have hfz55_0 := blk_frozen BK343.out 0; have hfz55_1 := blk_frozen BK343.out 1; have hfz55_2 := blk_frozen BK343.out 2; have hcz56_0 := bc0 BK330.out; have hcz56_1 := bc1 BK330.out; have hcz56_2 := bc2 BK330.out; have hcz56_3 := bc3 BK330.out; have hcz56_4 := bc4 BK330.out; have hcz56_5 := bc5 BK330.out; have hcz56_6 := bc6 BK330.out; have hcz56_7 := bc7 BK330.out; have hcz56_8 := bc8 BK330.out; have hcz56_9 := bc9 BK330.out; have hfz56_0 := blk_frozen BK330.out 0; have hfz56_1 := blk_frozen BK330.out 1; have hfz56_2 := blk_frozen BK330.out 2; have hfz56_3 := blk_frozen BK330.out 3; have hfz56_4 := blk_frozen BK330.out 4; have hfz56_5 := blk_frozen BK330.out 5; have hfz56_6 := blk_frozen BK330.out 6; have hfz56_7 := blk_frozen BK330.out 7; have hfz56_8 := blk_frozen BK330.out 8; have hfz56_9 := blk_frozen BK330.out 9) | (go_at_call 10; (with_reducible refine (mixed_Class.calls k (⟨#[104, 116, 116, 112, 115]⟩ : ByteArray) (⟨#[97]⟩ : ByteArray) 443 t319 t320 t321 t322 t323 t324 t325 t326 t327 t328 (⟨#[105, 109, 97, 103, 101]⟩ : ByteArray) t344 _ A5.out).mono ?_); rintro e w57 ⟨rfl, hb⟩; have n0_ := Aside0.mk (blk_below (g := gb330) (o := .cells #[.string t319, .string t320, .string t321, .string t322, .int .i64 t323, .string t324, .bool t325, .string t326, .bool t327, .string t328] 23 (0, 0)) BLK hb); have n1_ := Aside0.mk (blk_below (g := gb342) (o := .cells #[.string t331, .string t332, .string t333, .string t334, .int .i64 t335, .string t336, .bool t337, .string t338, .bool t339, .string t340] 23 (0, 0)) BLK hb); have n2_ := Aside0.mk (blk_below (g := gb343) (o := .cells #[.string (⟨#[104, 116, 116, 112, 115]⟩ : ByteArray), .string (⟨#[97]⟩ : ByteArray), .int .i64 443] 29 (0, 0)) BLK hb); have n3_ := Aside0.mk (below_step BWK hb); clear BK330; clear BK342; clear BK343; clear HB; have BK330 := n0_; have BK342 := n1_; have BK343 := n2_; have HB := n3_; clear n0_ n1_ n2_ n3_; (try clear hb); (try clear hb2); (try clear hk); (try clear hi)))
    go_ret
    exact ⟨ERK, BWK⟩
  ·replace c4 := Bool.eq_false_iff.mpr c4
   subst c4
   have H1 := H; rw [if_neg (show ¬ (false = true) by decide)] at H1
   clear H
   have H := H1
   clear H1
   obtain rfl := Option.some.inj H
   go_enter Tryd.func9, Tryd.ntmps9
   go_wp2_with (first | ((with_reducible refine gate_callee (f := 8) rfl ?_); refine goesL_ (some 7) rfl rfl Tryd.func8 (by kernel_rfl) rfl #[.string (⟨#[104, 116, 116, 112, 58, 47, 47, 97, 47]⟩ : ByteArray)] rfl GAK ?_; (with_reducible refine (parapetlaw18_parsed.calls k (⟨#[104, 116, 116, 112, 58, 47, 47, 97, 47]⟩ : ByteArray) t319 t320 t321 t322 t323 t324 t325 t326 t327 t328 true _ A1.out).mono ?_); rintro e w58 ⟨rfl, hb⟩; refine ⟨_, rfl, ?_⟩; have n0_ := Aside0.mk (below_step BWK hb); clear HB; have HB := n0_; clear n0_; (try clear hb); (try clear hb2); (try clear hk); (try clear hi)) | ((with_reducible refine gate_dst (N := 1) rfl ?_); refine box_event ?hg (N := 1) ?hd (cs := #[.string (⟨#[]⟩ : ByteArray), .string (⟨#[]⟩ : ByteArray), .string (⟨#[]⟩ : ByteArray), .string (⟨#[]⟩ : ByteArray), .int .i64 0, .string (⟨#[]⟩ : ByteArray), .bool false, .string (⟨#[]⟩ : ByteArray), .bool false, .string (⟨#[]⟩ : ByteArray)]) (t := 23) ?hr ?_; (case hd => rfl); (case hg => rfl); (case hr => first | (go_simp; done) | (go_simp; rfl)); intro gb330 hg w59 hbox hb; have n0_ := Aside0.mk (below_step BWK hb); have n1_ := Aside0.mk (hbox); have n2_ := Aside0.mk ((by rw [hg]; exact (below_size BWK) : w.heap.size ≤ gb330)); have n3_ := Aside0.mk ((by rw [hg]; exact (below_size BWK) : w.heap.size ≤ gb330)); clear HB; have HB := n0_; have BK330 := n1_; have GW330 := n2_; have GE330 := n3_; clear n0_ n1_ n2_ n3_; clear hb hbox hg; have hcz60_0 := bc0 BK330.out; have hcz60_1 := bc1 BK330.out; have hcz60_2 := bc2 BK330.out; have hcz60_3 := bc3 BK330.out; have hcz60_4 := bc4 BK330.out; have hcz60_5 := bc5 BK330.out; have hcz60_6 := bc6 BK330.out; have hcz60_7 := bc7 BK330.out; have hcz60_8 := bc8 BK330.out; have hcz60_9 := bc9 BK330.out; have hfz60_0 := blk_frozen BK330.out 0; have hfz60_1 := blk_frozen BK330.out 1; have hfz60_2 := blk_frozen BK330.out 2; have hfz60_3 := blk_frozen BK330.out 3; have hfz60_4 := blk_frozen BK330.out 4; have hfz60_5 := blk_frozen BK330.out 5; have hfz60_6 := blk_frozen BK330.out 6; have hfz60_7 := blk_frozen BK330.out 7; have hfz60_8 := blk_frozen BK330.out 8; have hfz60_9 := blk_frozen BK330.out 9) | ((with_reducible refine gate_callee (f := 8) rfl ?_); refine goesL_ (some 11) rfl rfl Tryd.func8 (by kernel_rfl) rfl #[.string (⟨#[104, 116, 116, 112, 58, 47, 47, 108, 111, 99, 97, 108, 104, 111, 115, 116, 47]⟩ : ByteArray)] rfl GAK ?_; (with_reducible refine (parapetlaw18_parsed.calls k (⟨#[104, 116, 116, 112, 58, 47, 47, 108, 111, 99, 97, 108, 104, 111, 115, 116, 47]⟩ : ByteArray) t331 t332 t333 t334 t335 t336 t337 t338 t339 t340 false _ A2.out).mono ?_); rintro e w61 ⟨rfl, hb⟩; refine ⟨_, rfl, ?_⟩; have n0_ := Aside0.mk (blk_below (g := gb330) (o := .cells #[.string t319, .string t320, .string t321, .string t322, .int .i64 t323, .string t324, .bool t325, .string t326, .bool t327, .string t328] 23 (0, 0)) BLK hb); have n1_ := Aside0.mk (below_step BWK hb); clear BK330; clear HB; have BK330 := n0_; have HB := n1_; clear n0_ n1_; (try clear hb); (try clear hb2); (try clear hk); (try clear hi)) | ((with_reducible refine gate_dst (N := 3) rfl ?_); refine box_event ?hg (N := 3) ?hd (cs := #[.string (⟨#[]⟩ : ByteArray), .string (⟨#[]⟩ : ByteArray), .string (⟨#[]⟩ : ByteArray), .string (⟨#[]⟩ : ByteArray), .int .i64 0, .string (⟨#[]⟩ : ByteArray), .bool false, .string (⟨#[]⟩ : ByteArray), .bool false, .string (⟨#[]⟩ : ByteArray)]) (t := 23) ?hr ?_; (case hd => rfl); (case hg => rfl); (case hr => first | (go_simp; done) | (go_simp; rfl)); intro gb342 hg w62 hbox hb; have n0_ := Aside0.mk (blk_below (g := gb330) (o := .cells #[.string t319, .string t320, .string t321, .string t322, .int .i64 t323, .string t324, .bool t325, .string t326, .bool t327, .string t328] 23 (0, 0)) BLK hb); have n1_ := Aside0.mk (below_step BWK hb); have n2_ := Aside0.mk (hbox); have n3_ := Aside0.mk ((by rw [hg]; exact (below_size BWK) : w.heap.size ≤ gb342)); have n4_ := Aside0.mk ((by rw [hg]; exact (below_size BWK) : w.heap.size ≤ gb342)); have n5_ := Aside0.mk ((by rw [hg]; exact Nat.ne_of_lt (blk_lt (g := gb330) (o := .cells #[.string t319, .string t320, .string t321, .string t322, .int .i64 t323, .string t324, .bool t325, .string t326, .bool t327, .string t328] 23 (0, 0)) BLK) : gb330 ≠ gb342)); have n6_ := Aside0.mk ((by rw [hg]; exact Nat.ne_of_gt (blk_lt (g := gb330) (o := .cells #[.string t319, .string t320, .string t321, .string t322, .int .i64 t323, .string t324, .bool t325, .string t326, .bool t327, .string t328] 23 (0, 0)) BLK) : gb342 ≠ gb330)); clear BK330; clear HB; have BK330 := n0_; have HB := n1_; have BK342 := n2_; have GW342 := n3_; have GE342 := n4_; have NB330_342 := n5_; have NB342_330 := n6_; clear n0_ n1_ n2_ n3_ n4_ n5_ n6_; clear hb hbox hg; have hnb63 := NB342_330.out; have hnc63 := NB330_342.out; have hcz64_0 := bc0 BK342.out; have hcz64_1 := bc1 BK342.out; have hcz64_2 := bc2 BK342.out; have hcz64_3 := bc3 BK342.out; have hcz64_4 := bc4 BK342.out; have hcz64_5 := bc5 BK342.out; have hcz64_6 := bc6 BK342.out; have hcz64_7 := bc7 BK342.out; have hcz64_8 := bc8 BK342.out; have hcz64_9 := bc9 BK342.out; have hfz64_0 := blk_frozen BK342.out 0; have hfz64_1 := blk_frozen BK342.out 1; have hfz64_2 := blk_frozen BK342.out 2; have hfz64_3 := blk_frozen BK342.out 3; have hfz64_4 := blk_frozen BK342.out 4; have hfz64_5 := blk_frozen BK342.out 5; have hfz64_6 := blk_frozen BK342.out 6; have hfz64_7 := blk_frozen BK342.out 7; have hfz64_8 := blk_frozen BK342.out 8; have hfz64_9 := blk_frozen BK342.out 9) | ((with_reducible refine gate_dst (N := 5) rfl ?_); refine box_event ?hg (N := 5) ?hd (cs := #[.string (⟨#[]⟩ : ByteArray), .string (⟨#[]⟩ : ByteArray), .int .i64 0]) (t := 29) ?hr ?_; (case hd => rfl); (case hg => rfl); (case hr => first | (go_simp; done) | (go_simp; rfl)); intro gb343 hg w65 hbox hb; have n0_ := Aside0.mk (blk_below (g := gb330) (o := .cells #[.string t319, .string t320, .string t321, .string t322, .int .i64 t323, .string t324, .bool t325, .string t326, .bool t327, .string t328] 23 (0, 0)) BLK hb); have n1_ := Aside0.mk (blk_below (g := gb342) (o := .cells #[.string t331, .string t332, .string t333, .string t334, .int .i64 t335, .string t336, .bool t337, .string t338, .bool t339, .string t340] 23 (0, 0)) BLK hb); have n2_ := Aside0.mk (below_step BWK hb); have n3_ := Aside0.mk (hbox); have n4_ := Aside0.mk ((by rw [hg]; exact (below_size BWK) : w.heap.size ≤ gb343)); have n5_ := Aside0.mk ((by rw [hg]; exact (below_size BWK) : w.heap.size ≤ gb343)); have n6_ := Aside0.mk ((by rw [hg]; exact Nat.ne_of_lt (blk_lt (g := gb330) (o := .cells #[.string t319, .string t320, .string t321, .string t322, .int .i64 t323, .string t324, .bool t325, .string t326, .bool t327, .string t328] 23 (0, 0)) BLK) : gb330 ≠ gb343)); have n7_ := Aside0.mk ((by rw [hg]; exact Nat.ne_of_gt (blk_lt (g := gb330) (o := .cells #[.string t319, .string t320, .string t321, .string t322, .int .i64 t323, .string t324, .bool t325, .string t326, .bool t327, .string t328] 23 (0, 0)) BLK) : gb343 ≠ gb330)); have n8_ := Aside0.mk ((by rw [hg]; exact Nat.ne_of_lt (blk_lt (g := gb342) (o := .cells #[.string t331, .string t332, .string t333, .string t334, .int .i64 t335, .string t336, .bool t337, .string t338, .bool t339, .string t340] 23 (0, 0)) BLK) : gb342 ≠ gb343)); have n9_ := Aside0.mk ((by rw [hg]; exact Nat.ne_of_gt (blk_lt (g := gb342) (o := .cells #[.string t331, .string t332, .string t333, .string t334, .int .i64 t335, .string t336, .bool t337, .string t338, .bool t339, .string t340] 23 (0, 0)) BLK) : gb343 ≠ gb342)); clear BK330; clear BK342; clear HB; have BK330 := n0_; have BK342 := n1_; have HB := n2_; have BK343 := n3_; have GW343 := n4_; have GE343 := n5_; have NB330_343 := n6_; have NB343_330 := n7_; have NB342_343 := n8_; have NB343_342 := n9_; clear n0_ n1_ n2_ n3_ n4_ n5_ n6_ n7_ n8_ n9_; clear hb hbox hg; have hnb66 := NB343_330.out; have hnc66 := NB330_343.out; have hnb67 := NB343_342.out; have hnc67 := NB342_343.out; have hcz68_0 := bc0 BK343.out; have hcz68_1 := bc1 BK343.out; have hcz68_2 := bc2 BK343.out; have hfz68_0 := blk_frozen BK343.out 0; have hfz68_1 := blk_frozen BK343.out 1; have hfz68_2 := blk_frozen BK343.out 2))
   go_ret
   exact ⟨ERK, BWK⟩
 ·replace c3 := Bool.eq_false_iff.mpr c3
  subst c3
  have H1 := H; rw [if_neg (show ¬ (false = true) by decide)] at H1
  clear H
  have H := H1
  clear H1
  obtain rfl := Option.some.inj H
  go_enter Tryd.func9, Tryd.ntmps9
  go_wp2_with (first | ((with_reducible refine gate_callee (f := 8) rfl ?_); refine goesL_ (some 7) rfl rfl Tryd.func8 (by kernel_rfl) rfl #[.string (⟨#[104, 116, 116, 112, 58, 47, 47, 97, 47]⟩ : ByteArray)] rfl GAK ?_; (with_reducible refine (parapetlaw18_parsed.calls k (⟨#[104, 116, 116, 112, 58, 47, 47, 97, 47]⟩ : ByteArray) t319 t320 t321 t322 t323 t324 t325 t326 t327 t328 false _ A1.out).mono ?_); rintro e w69 ⟨rfl, hb⟩; refine ⟨_, rfl, ?_⟩; have n0_ := Aside0.mk (below_step BWK hb); clear HB; have HB := n0_; clear n0_; (try clear hb); (try clear hb2); (try clear hk); (try clear hi)) | ((with_reducible refine gate_dst (N := 1) rfl ?_); refine box_event ?hg (N := 1) ?hd (cs := #[.string (⟨#[]⟩ : ByteArray), .string (⟨#[]⟩ : ByteArray), .string (⟨#[]⟩ : ByteArray), .string (⟨#[]⟩ : ByteArray), .int .i64 0, .string (⟨#[]⟩ : ByteArray), .bool false, .string (⟨#[]⟩ : ByteArray), .bool false, .string (⟨#[]⟩ : ByteArray)]) (t := 23) ?hr ?_; (case hd => rfl); (case hg => rfl); (case hr => first | (go_simp; done) | (go_simp; rfl)); intro gb330 hg w70 hbox hb; have n0_ := Aside0.mk (below_step BWK hb); have n1_ := Aside0.mk (hbox); have n2_ := Aside0.mk ((by rw [hg]; exact (below_size BWK) : w.heap.size ≤ gb330)); have n3_ := Aside0.mk ((by rw [hg]; exact (below_size BWK) : w.heap.size ≤ gb330)); clear HB; have HB := n0_; have BK330 := n1_; have GW330 := n2_; have GE330 := n3_; clear n0_ n1_ n2_ n3_; clear hb hbox hg; have hcz71_0 := bc0 BK330.out; have hcz71_1 := bc1 BK330.out; have hcz71_2 := bc2 BK330.out; have hcz71_3 := bc3 BK330.out; have hcz71_4 := bc4 BK330.out; have hcz71_5 := bc5 BK330.out; have hcz71_6 := bc6 BK330.out; have hcz71_7 := bc7 BK330.out; have hcz71_8 := bc8 BK330.out; have hcz71_9 := bc9 BK330.out; have hfz71_0 := blk_frozen BK330.out 0; have hfz71_1 := blk_frozen BK330.out 1; have hfz71_2 := blk_frozen BK330.out 2; have hfz71_3 := blk_frozen BK330.out 3; have hfz71_4 := blk_frozen BK330.out 4; have hfz71_5 := blk_frozen BK330.out 5; have hfz71_6 := blk_frozen BK330.out 6; have hfz71_7 := blk_frozen BK330.out 7; have hfz71_8 := blk_frozen BK330.out 8; have hfz71_9 := blk_frozen BK330.out 9) | ((with_reducible refine gate_callee (f := 8) rfl ?_); refine goesL_ (some 11) rfl rfl Tryd.func8 (by kernel_rfl) rfl #[.string (⟨#[104, 116, 116, 112, 58, 47, 47, 108, 111, 99, 97, 108, 104, 111, 115, 116, 47]⟩ : ByteArray)] rfl GAK ?_; (with_reducible refine (parapetlaw18_parsed.calls k (⟨#[104, 116, 116, 112, 58, 47, 47, 108, 111, 99, 97, 108, 104, 111, 115, 116, 47]⟩ : ByteArray) t331 t332 t333 t334 t335 t336 t337 t338 t339 t340 t341 _ A2.out).mono ?_); rintro e w72 ⟨rfl, hb⟩; refine ⟨_, rfl, ?_⟩; have n0_ := Aside0.mk (blk_below (g := gb330) (o := .cells #[.string t319, .string t320, .string t321, .string t322, .int .i64 t323, .string t324, .bool t325, .string t326, .bool t327, .string t328] 23 (0, 0)) BLK hb); have n1_ := Aside0.mk (below_step BWK hb); clear BK330; clear HB; have BK330 := n0_; have HB := n1_; clear n0_ n1_; (try clear hb); (try clear hb2); (try clear hk); (try clear hi)) | ((with_reducible refine gate_dst (N := 3) rfl ?_); refine box_event ?hg (N := 3) ?hd (cs := #[.string (⟨#[]⟩ : ByteArray), .string (⟨#[]⟩ : ByteArray), .string (⟨#[]⟩ : ByteArray), .string (⟨#[]⟩ : ByteArray), .int .i64 0, .string (⟨#[]⟩ : ByteArray), .bool false, .string (⟨#[]⟩ : ByteArray), .bool false, .string (⟨#[]⟩ : ByteArray)]) (t := 23) ?hr ?_; (case hd => rfl); (case hg => rfl); (case hr => first | (go_simp; done) | (go_simp; rfl)); intro gb342 hg w73 hbox hb; have n0_ := Aside0.mk (blk_below (g := gb330) (o := .cells #[.string t319, .string t320, .string t321, .string t322, .int .i64 t323, .string t324, .bool t325, .string t326, .bool t327, .string t328] 23 (0, 0)) BLK hb); have n1_ := Aside0.mk (below_step BWK hb); have n2_ := Aside0.mk (hbox); have n3_ := Aside0.mk ((by rw [hg]; exact (below_size BWK) : w.heap.size ≤ gb342)); have n4_ := Aside0.mk ((by rw [hg]; exact (below_size BWK) : w.heap.size ≤ gb342)); have n5_ := Aside0.mk ((by rw [hg]; exact Nat.ne_of_lt (blk_lt (g := gb330) (o := .cells #[.string t319, .string t320, .string t321, .string t322, .int .i64 t323, .string t324, .bool t325, .string t326, .bool t327, .string t328] 23 (0, 0)) BLK) : gb330 ≠ gb342)); have n6_ := Aside0.mk ((by rw [hg]; exact Nat.ne_of_gt (blk_lt (g := gb330) (o := .cells #[.string t319, .string t320, .string t321, .string t322, .int .i64 t323, .string t324, .bool t325, .string t326, .bool t327, .string t328] 23 (0, 0)) BLK) : gb342 ≠ gb330)); clear BK330; clear HB; have BK330 := n0_; have HB := n1_; have BK342 := n2_; have GW342 := n3_; have GE342 := n4_; have NB330_342 := n5_; have NB342_330 := n6_; clear n0_ n1_ n2_ n3_ n4_ n5_ n6_; clear hb hbox hg; have hnb74 := NB342_330.out; have hnc74 := NB330_342.out; have hcz75_0 := bc0 BK342.out; have hcz75_1 := bc1 BK342.out; have hcz75_2 := bc2 BK342.out; have hcz75_3 := bc3 BK342.out; have hcz75_4 := bc4 BK342.out; have hcz75_5 := bc5 BK342.out; have hcz75_6 := bc6 BK342.out; have hcz75_7 := bc7 BK342.out; have hcz75_8 := bc8 BK342.out; have hcz75_9 := bc9 BK342.out; have hfz75_0 := blk_frozen BK342.out 0; have hfz75_1 := blk_frozen BK342.out 1; have hfz75_2 := blk_frozen BK342.out 2; have hfz75_3 := blk_frozen BK342.out 3; have hfz75_4 := blk_frozen BK342.out 4; have hfz75_5 := blk_frozen BK342.out 5; have hfz75_6 := blk_frozen BK342.out 6; have hfz75_7 := blk_frozen BK342.out 7; have hfz75_8 := blk_frozen BK342.out 8; have hfz75_9 := blk_frozen BK342.out 9) | ((with_reducible refine gate_dst (N := 5) rfl ?_); refine box_event ?hg (N := 5) ?hd (cs := #[.string (⟨#[]⟩ : ByteArray), .string (⟨#[]⟩ : ByteArray), .int .i64 0]) (t := 29) ?hr ?_; (case hd => rfl); (case hg => rfl); (case hr => first | (go_simp; done) | (go_simp; rfl)); intro gb343 hg w76 hbox hb; have n0_ := Aside0.mk (blk_below (g := gb330) (o := .cells #[.string t319, .string t320, .string t321, .string t322, .int .i64 t323, .string t324, .bool t325, .string t326, .bool t327, .string t328] 23 (0, 0)) BLK hb); have n1_ := Aside0.mk (blk_below (g := gb342) (o := .cells #[.string t331, .string t332, .string t333, .string t334, .int .i64 t335, .string t336, .bool t337, .string t338, .bool t339, .string t340] 23 (0, 0)) BLK hb); have n2_ := Aside0.mk (below_step BWK hb); have n3_ := Aside0.mk (hbox); have n4_ := Aside0.mk ((by rw [hg]; exact (below_size BWK) : w.heap.size ≤ gb343)); have n5_ := Aside0.mk ((by rw [hg]; exact (below_size BWK) : w.heap.size ≤ gb343)); have n6_ := Aside0.mk ((by rw [hg]; exact Nat.ne_of_lt (blk_lt (g := gb330) (o := .cells #[.string t319, .string t320, .string t321, .string t322, .int .i64 t323, .string t324, .bool t325, .string t326, .bool t327, .string t328] 23 (0, 0)) BLK) : gb330 ≠ gb343)); have n7_ := Aside0.mk ((by rw [hg]; exact Nat.ne_of_gt (blk_lt (g := gb330) (o := .cells #[.string t319, .string t320, .string t321, .string t322, .int .i64 t323, .string t324, .bool t325, .string t326, .bool t327, .string t328] 23 (0, 0)) BLK) : gb343 ≠ gb330)); have n8_ := Aside0.mk ((by rw [hg]; exact Nat.ne_of_lt (blk_lt (g := gb342) (o := .cells #[.string t331, .string t332, .string t333, .string t334, .int .i64 t335, .string t336, .bool t337, .string t338, .bool t339, .string t340] 23 (0, 0)) BLK) : gb342 ≠ gb343)); have n9_ := Aside0.mk ((by rw [hg]; exact Nat.ne_of_gt (blk_lt (g := gb342) (o := .cells #[.string t331, .string t332, .string t333, .string t334, .int .i64 t335, .string t336, .bool t337, .string t338, .bool t339, .string t340] 23 (0, 0)) BLK) : gb343 ≠ gb342)); clear BK330; clear BK342; clear HB; have BK330 := n0_; have BK342 := n1_; have HB := n2_; have BK343 := n3_; have GW343 := n4_; have GE343 := n5_; have NB330_343 := n6_; have NB343_330 := n7_; have NB342_343 := n8_; have NB343_342 := n9_; clear n0_ n1_ n2_ n3_ n4_ n5_ n6_ n7_ n8_ n9_; clear hb hbox hg; have hnb77 := NB343_330.out; have hnc77 := NB330_343.out; have hnb78 := NB343_342.out; have hnc78 := NB342_343.out; have hcz79_0 := bc0 BK343.out; have hcz79_1 := bc1 BK343.out; have hcz79_2 := bc2 BK343.out; have hfz79_0 := blk_frozen BK343.out 0; have hfz79_1 := blk_frozen BK343.out 1; have hfz79_2 := blk_frozen BK343.out 2))
  go_ret
  exact ⟨ERK, BWK⟩

/-! ### parapetalike_Origin: function 13 -/
def parapetalike_Origin.f (a0_0 : ByteArray) (a0_1 : ByteArray) (a0_2 : Int) : Option (Bool) := if a0_2 ≥ 0 then (if a0_2 ≤ 65535 then (some (decide ((wrap64 ((a0_0.size : Int) + (a0_1.size : Int))) ≤ 1000))) else (some false)) else (some false)
theorem parapetalike_Origin.calls (a0_0 : ByteArray) (a0_1 : ByteArray) (a0_2 : Int) (r : Bool) (w : World) (h : parapetalike_Origin.f a0_0 a0_1 a0_2 = some r) :
  Calls Tryd.prog 13 #[.agg #[.string a0_0, .string a0_1, .int .i64 a0_2]] w fun e w' => e = .returned (.bool r) ∧ Below w.heap.size w w' := by
 have hu29 := Tryd.underlying29
 have HB := Aside0.mk (Below.refl w.heap.size w)
 have H : (if a0_2 ≥ 0 then (if a0_2 ≤ 65535 then (some (decide ((wrap64 ((a0_0.size : Int) + (a0_1.size : Int))) ≤ 1000))) else (some false)) else (some false)) = some r := h
 clear h
 by_cases c2 : a0_2 ≥ 0
 ·rw [if_pos c2] at H
  have c2b0 := decide_eq_true c2
  clear c2
  by_cases c3 : a0_2 ≤ 65535
  ·rw [if_pos c3] at H
   have c3b0 := decide_eq_true c3
   clear c3
   obtain rfl := Option.some.inj H
   go_enter Tryd.func13, Tryd.ntmps13
   go_wp2_with (first | ((with_reducible refine gate_dst (N := 1) rfl ?_); (try (refine gate_guard (by rfl) ?_; dsimp only)); refine box_event ?hg (N := 1) ?hd (cs := #[.string a0_0, .string a0_1, .int .i64 a0_2]) (t := 29) ?hr ?_; (case hd => rfl); (case hg => rfl); (case hr => first | (go_simp; done) | (go_simp; rfl)); intro gb347 hg w4 hbox hb; have n0_ := Aside0.mk (below_step BWK hb); have n1_ := Aside0.mk (hbox); have n2_ := Aside0.mk ((by rw [hg]; exact (below_size BWK) : w.heap.size ≤ gb347)); have n3_ := Aside0.mk ((by rw [hg]; exact (below_size BWK) : w.heap.size ≤ gb347)); clear HB; have HB := n0_; have BK347 := n1_; have GW347 := n2_; have GE347 := n3_; clear n0_ n1_ n2_ n3_; clear hb hbox hg; have hcz5_0 := bc0 BK347.out; have hcz5_1 := bc1 BK347.out; have hcz5_2 := bc2 BK347.out; have hfz5_0 := blk_frozen BK347.out 0; have hfz5_1 := blk_frozen BK347.out 1; have hfz5_2 := blk_frozen BK347.out 2))
   go_ret
   exact ⟨ERK, BWK⟩
  ·rw [if_neg c3] at H
   have c3b0 := decide_eq_false c3
   clear c3
   obtain rfl := Option.some.inj H
   go_enter Tryd.func13, Tryd.ntmps13
   go_wp2_with (first | ((with_reducible refine gate_dst (N := 1) rfl ?_); (try (refine gate_guard (by rfl) ?_; dsimp only)); refine box_event ?hg (N := 1) ?hd (cs := #[.string a0_0, .string a0_1, .int .i64 a0_2]) (t := 29) ?hr ?_; (case hd => rfl); (case hg => rfl); (case hr => first | (go_simp; done) | (go_simp; rfl)); intro gb347 hg w6 hbox hb; have n0_ := Aside0.mk (below_step BWK hb); have n1_ := Aside0.mk (hbox); have n2_ := Aside0.mk ((by rw [hg]; exact (below_size BWK) : w.heap.size ≤ gb347)); have n3_ := Aside0.mk ((by rw [hg]; exact (below_size BWK) : w.heap.size ≤ gb347)); clear HB; have HB := n0_; have BK347 := n1_; have GW347 := n2_; have GE347 := n3_; clear n0_ n1_ n2_ n3_; clear hb hbox hg; have hcz7_0 := bc0 BK347.out; have hcz7_1 := bc1 BK347.out; have hcz7_2 := bc2 BK347.out; have hfz7_0 := blk_frozen BK347.out 0; have hfz7_1 := blk_frozen BK347.out 1; have hfz7_2 := blk_frozen BK347.out 2))
   go_ret
   exact ⟨ERK, BWK⟩
 ·rw [if_neg c2] at H
  have c2b0 := decide_eq_false c2
  clear c2
  obtain rfl := Option.some.inj H
  go_enter Tryd.func13, Tryd.ntmps13
  go_wp2_with (first | ((with_reducible refine gate_dst (N := 1) rfl ?_); (try (refine gate_guard (by rfl) ?_; dsimp only)); refine box_event ?hg (N := 1) ?hd (cs := #[.string a0_0, .string a0_1, .int .i64 a0_2]) (t := 29) ?hr ?_; (case hd => rfl); (case hg => rfl); (case hr => first | (go_simp; done) | (go_simp; rfl)); intro gb347 hg w8 hbox hb; have n0_ := Aside0.mk (below_step BWK hb); have n1_ := Aside0.mk (hbox); have n2_ := Aside0.mk ((by rw [hg]; exact (below_size BWK) : w.heap.size ≤ gb347)); have n3_ := Aside0.mk ((by rw [hg]; exact (below_size BWK) : w.heap.size ≤ gb347)); clear HB; have HB := n0_; have BK347 := n1_; have GW347 := n2_; have GE347 := n3_; clear n0_ n1_ n2_ n3_; clear hb hbox hg; have hcz9_0 := bc0 BK347.out; have hcz9_1 := bc1 BK347.out; have hcz9_2 := bc2 BK347.out; have hfz9_0 := blk_frozen BK347.out 0; have hfz9_1 := blk_frozen BK347.out 1; have hfz9_2 := blk_frozen BK347.out 2))
  go_ret
  exact ⟨ERK, BWK⟩

end Go.Proofs.YtknkokkgefcdbaaDoor.PA
