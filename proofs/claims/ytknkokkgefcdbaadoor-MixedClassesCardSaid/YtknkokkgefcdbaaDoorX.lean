/- Contracts by hand, in the print's form: stringslite.IndexByte, strings.Count at one byte, ascii.Lower. -/
import Derived.Test.YtknkokkgefcdbaaDoorPAx0
import Derived.Test.YtknkokkgefcdbaaDoorPL
import Derived.Test.YtknkokkgefcdbaaDoorS
import Derived.Lib.Bytealg
namespace Go.Proofs.YtknkokkgefcdbaaDoor.PA
open Go.RowKit Go.Proofs.YtknkokkgefcdbaaDoorW.PrintWords Go.Proofs.YtknkokkgefcdbaaDoorW.PrintLast Go.Proofs.YtknkokkgefcdbaaDoorW.PrintMore
set_option linter.unusedVariables false
set_option linter.unusedSimpArgs false
def stringslite_IndexByte.f (a0 : ByteArray) (a1 : Int) : Option (Int) := some (Lib.indexByte a0.data.toList a1.toNat.toUInt8)
set_option maxHeartbeats 1000000 in
set_option maxRecDepth 100000 in
theorem stringslite_IndexByte.calls (a0 : ByteArray) (a1 : Int) (r : Int) (w : World) (h : stringslite_IndexByte.f a0 a1 = some r) :
    Calls Tryd.prog 83 #[.string a0, .int .u8 a1] w fun e w' => e = .returned (.int .i64 r) ∧ Drawn0 w w' := by
  obtain rfl := Option.some.inj h
  go_enter Tryd.func83, Tryd.ntmps83
  go_wp2
  rw [run_callFunc_extern Tryd.func87 (by kernel_rfl) (by kernel_rfl) (by kernel_rfl) (e := Extern.BytealgIndexByte.indexByte) (by kernel_rfl), Lib.run_indexByteString]
  simp only [Result.andThen]
  rw [Oper.upon_value]
  go_wp2
  go_ret
  exact ⟨rfl, by repeat (first | exact Drawn0.refl _ | apply Drawn0.step)⟩
def strings_Count.f (a0 : ByteArray) (a1 : ByteArray) : Option (Int) := if a1.size = 1 then some (Lib.countByte a0.data.toList (a1.data.getD 0 0) : Int) else none
theorem one_byte {b : ByteArray} (h : b.size = 1) : b = ⟨#[b.data.getD 0 0]⟩ := by
  cases b with
  | mk d =>
    match d, h with
    | ⟨[x]⟩, _ => rfl
set_option maxHeartbeats 1000000 in
set_option maxRecDepth 100000 in
theorem strings_Count.calls (a0 : ByteArray) (a1 : ByteArray) (r : Int) (w : World) (h : strings_Count.f a0 a1 = some r) :
    Calls Tryd.prog 76 #[.string a0, .string a1] w fun e w' => e = .returned (.int .i64 r) ∧ Drawn0 w w' := by
  unfold strings_Count.f at h
  by_cases h1 : a1.size = 1
  · rw [if_pos h1] at h
    obtain rfl := Option.some.inj h
    rw [one_byte h1]
    generalize a1.data.getD 0 0 = c
    go_enter Tryd.func76, Tryd.ntmps76
    go_wp2
    rw [run_callFunc_extern Tryd.func80 (by kernel_rfl) (by kernel_rfl) (by kernel_rfl) (e := Extern.BytealgCount.count) (by kernel_rfl), Lib.run_countString]
    simp only [Result.andThen]
    rw [Oper.upon_value]
    go_wp2
    go_ret
    exact ⟨by simp; rfl, by repeat (first | exact Drawn0.refl _ | apply Drawn0.step)⟩
  · rw [if_neg h1] at h; cases h
def ascii_Lower.f (a0 : ByteArray) : Option (ByteArray) := if a0.size < 4611686018427387904 then some (strOfNums (Go.Proofs.YtknkokkgefcdbaaDoorWS.lowerL (bytesOf a0))) else none
/-- the row of a conversion, as far as it is read and written -/
def LowRow (W : World) (g : Nat) (xs : List Int) : Prop := ∀ j, j < xs.length → W.cell? ⟨g, j, none⟩ = some (.int .u8 (xs.getD j 0)) ∧ W.frozen? ⟨g, j, none⟩ = false
theorem LowRow.drew {W : World} {g : Nat} {xs : List Int} (h : LowRow W g xs) : LowRow W.drew g xs := h
theorem LowRow.drewN {W : World} {g : Nat} {xs : List Int} (h : LowRow W g xs) (n : Nat) : LowRow (W.drewN n) g xs := h
theorem LowRow.put {W : World} {g : Nat} {xs : List Int} (h : LowRow W g xs) (i : Nat) (x : Int) : LowRow (W.setCell ⟨g, i, none⟩ (.int .u8 x)) g (xs.set i x) := fun j hj => by
  rw [List.length_set] at hj
  obtain ⟨h1, h2⟩ := h j hj
  refine ⟨?_, by rw [World.frozen?_setCell]; exact h2⟩
  by_cases e : i = j
  · subst e
    rw [World.cell?_setCell_same' _ _ _ (by rw [h1]; rfl), List.getD_eq_getElem?_getD, List.getElem?_set_self hj]; rfl
  · rw [World.cell?_setCell_other _ _ _ _ (by intro q; injection q with _ q2 _; exact e q2), h1, List.getD_eq_getElem?_getD, List.getD_eq_getElem?_getD, List.getElem?_set_ne e]
theorem LowRow.reads {W : World} {g : Nat} {xs : List Int} (h : LowRow W g xs) (hm : xs.length ≤ 9223372036854775807) : ReadsInt W .u8 (some ⟨g, 0, none⟩) xs.length xs :=
  ⟨rfl, hm, fun _ => ⟨_, rfl, fun j hj => by rw [add_plain]; exact (h j hj).1⟩⟩
theorem low_start (W : World) (s : ByteArray) : LowRow (Lib.bytesWorld W 5 s) W.heap.size (bytesOf s) := fun j hj => by
  rw [bytesOf_length] at hj
  refine ⟨?_, ?_⟩
  · rw [Lib.bytesWorld_cell W 5 s j hj]
    have h' : j < s.data.toList.length := by rw [data_length]; exact hj
    simp [bytesOf, List.getD_eq_getElem?_getD, List.getElem?_eq_getElem h']
  · unfold World.frozen?
    rw [Lib.bytesWorld_at_new]
    have : s.size ≤ (Lib.bytesCells W 5 s).size := by
      unfold Lib.bytesCells
      rw [Array.size_append, Array.size_map]
      exact Nat.le_add_right _ _
    show (decide ((Lib.bytesCells W 5 s).size ≤ j) && _) = false
    rw [decide_eq_false (by omega), Bool.false_and]
/-- the row behind i rounds -/
def lowTo (i : Nat) (xs : List Int) : List Int := Go.Proofs.YtknkokkgefcdbaaDoorWS.lowerL (xs.take i) ++ xs.drop i
theorem lowTo_length (i : Nat) (xs : List Int) : (lowTo i xs).length = xs.length := by
  unfold lowTo Go.Proofs.YtknkokkgefcdbaaDoorWS.lowerL; simp; omega
theorem lowTo_get {i : Nat} {xs : List Int} (h : i < xs.length) : (lowTo i xs).getD i 0 = xs.getD i 0 := by
  unfold lowTo Go.Proofs.YtknkokkgefcdbaaDoorWS.lowerL
  rw [List.getD_eq_getElem?_getD, List.getElem?_append_right (by simp; omega)]
  simp [List.getD_eq_getElem?_getD, Nat.min_eq_left (Nat.le_of_lt h)]
theorem lowTo_step {i : Nat} {xs : List Int} (h : i < xs.length) : lowTo (i + 1) xs = (lowTo i xs).set i (Go.Proofs.YtknkokkgefcdbaaDoorWS.lowB (xs.getD i 0)) := by
  unfold lowTo Go.Proofs.YtknkokkgefcdbaaDoorWS.lowerL
  have hl : (List.map Go.Proofs.YtknkokkgefcdbaaDoorWS.lowB (xs.take i)).length = i := by simp; omega
  rw [List.set_append_right _ _ (by omega), hl, Nat.sub_self, List.drop_eq_getElem_cons h, List.set_cons_zero, List.take_succ_eq_append_getElem h, List.map_append, List.getD_eq_getElem?_getD, List.getElem?_eq_getElem h]
  simp
theorem lowTo_same {i : Nat} {xs : List Int} (h : i < xs.length) (e : Go.Proofs.YtknkokkgefcdbaaDoorWS.lowB (xs.getD i 0) = xs.getD i 0) : lowTo (i + 1) xs = lowTo i xs := by
  rw [lowTo_step h, e, ← lowTo_get h, List.getD_eq_getElem?_getD, List.getElem?_eq_getElem (by rw [lowTo_length]; exact h), Option.getD_some, List.set_getElem_self]
theorem lowTo_all (xs : List Int) : lowTo xs.length xs = Go.Proofs.YtknkokkgefcdbaaDoorWS.lowerL xs := by
  unfold lowTo; simp
end Go.Proofs.YtknkokkgefcdbaaDoor.PA
