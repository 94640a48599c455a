import Derived.Test.YtopejcaiabebpaaDoorNC
/-! Many directives, as they are written and read. -/
namespace GoD
open Go Go.Proofs
set_option linter.unusedVariables false
set_option linter.unusedSimpArgs false
set_option maxHeartbeats 4000000
set_option maxRecDepth 100000
def srcs : Nat → List Int
  | 0 => []
  | r + 1 => srcs r ++ [9, 120, 48 + (r : Int)]
def srcsL : Nat → List (List Int)
  | 0 => []
  | r + 1 => srcsL r ++ [[120, 48 + (r : Int)]]
def nameD (i : Nat) : List Int := [100, 97 + (i : Int)]
def segS (i r : Nat) : List Int := [32] ++ nameD i ++ srcs r ++ [32]
def manyT : Nat → List Nat → List Int
  | _, [] => []
  | i, r :: rs => segS i r ++ 59 :: manyT (i + 1) rs
def manyD : Nat → List Nat → List Dr
  | _, [] => []
  | i, r :: rs => (nameD i, srcsL r) :: manyD (i + 1) rs
theorem manyT_snoc : ∀ (rs : List Nat) (i r : Nat), manyT i (rs ++ [r]) = manyT i rs ++ (segS (i + rs.length) r ++ [59])
  | [], i, r => by simp [manyT]
  | q :: rs, i, r => by
    have := manyT_snoc rs (i + 1) r
    rw [List.cons_append, manyT, this, manyT]
    simp only [List.length_cons, List.append_assoc, List.cons_append]
    rw [show i + 1 + rs.length = i + (rs.length + 1) by omega]
def segOk : Bool := (List.range 20).all fun i => (List.range 5).all fun r => asciiB (segS i r) && (decide (blanksL (segS i r) = nameD i :: srcsL r) && (decide (lowerL (nameD i) = nameD i) && !(segS i r).contains 59))
theorem seg_ok : segOk = true := by kernel_rfl
theorem seg_of {i r : Nat} (hi : i < 20) (hr : r < 5) : asciiB (segS i r) = true ∧ blanksL (segS i r) = nameD i :: srcsL r ∧ lowerL (nameD i) = nameD i ∧ 59 ∉ segS i r := by
  have h := List.all_eq_true.1 (List.all_eq_true.1 seg_ok i (by simpa using hi)) r (by simpa using hr)
  simp only [Bool.and_eq_true, decide_eq_true_eq, Bool.not_eq_true'] at h
  exact ⟨h.1, h.2.1, h.2.2.1, fun hm => by have := h.2.2.2; rw [List.contains_iff_mem.2 hm] at this; cases this⟩
theorem nameD_inj {i j : Nat} (h : nameD i = nameD j) : i = j := by
  simp [nameD] at h; omega
theorem split_many : ∀ (rs : List Nat) (i : Nat), i + rs.length ≤ 20 → (∀ r ∈ rs, r < 5) → ∀ acc : List Dr, (∀ d ∈ acc, ∀ j, i ≤ j → d.1 ≠ nameD j) → (splitL 59 (manyT i rs)).foldl cspStep acc = acc ++ manyD i rs
  | [], i, _, _, acc, _ => by
    have e : cspStep acc [] = acc := by unfold cspStep; rw [if_pos (.inr rfl)]
    simp [manyT, splitL, manyD, e]
  | r :: rs, i, hn, hr, acc, hacc => by
    simp only [List.length_cons] at hn
    obtain ⟨h1, h2, h3, h4⟩ := seg_of (i := i) (r := r) (by omega) (hr r (by simp))
    have e : cspStep acc (segS i r) = acc ++ [(nameD i, srcsL r)] := by
      unfold cspStep
      rw [if_neg (by simp [h1, h2]), h2]
      simp only [List.headD_cons, h3, List.drop_succ_cons, List.drop_zero]
      rw [if_neg]
      intro ha
      obtain ⟨d, hd, he⟩ := List.any_eq_true.1 ha
      exact hacc d hd i (Nat.le_refl _) (by simpa using he)
    rw [manyT, splitL_cons h4, List.foldl_cons, e, split_many rs (i + 1) (by omega) (fun q hq => hr q (by simp [hq])) _ (fun d hd j hj => ?_), manyD, List.append_assoc]
    · rfl
    · rcases List.mem_append.1 hd with hd | hd
      · exact hacc d hd j (by omega)
      · simp at hd
        subst hd
        intro e
        have := nameD_inj e
        omega
theorem csp_many {rs : List Nat} (hn : rs.length ≤ 20) (hr : ∀ r ∈ rs, r < 5) : cspL (manyT 0 rs) = manyD 0 rs := by
  unfold cspL
  rw [split_many rs 0 (by omega) hr [] (by simp)]; rfl
theorem manyD_len : ∀ (rs : List Nat) (i : Nat), (manyD i rs).length = rs.length
  | [], _ => rfl
  | r :: rs, i => by simp [manyD, manyD_len rs (i + 1)]
theorem manyD_get : ∀ {rs : List Nat} {i k : Nat} (h : k < rs.length), (manyD i rs)[k]'(by rw [manyD_len]; exact h) = (nameD (i + k), srcsL rs[k])
  | r :: rs, i, 0, _ => rfl
  | r :: rs, i, k + 1, h => by
    have := manyD_get (rs := rs) (i := i + 1) (k := k) (by simpa using h)
    simp only [manyD, List.getElem_cons_succ, this]
    rw [show i + 1 + k = i + (k + 1) by omega]
theorem srcsL_len (r : Nat) : (srcsL r).length = r := by
  induction r with
  | zero => rfl
  | succ r ih => simp [srcsL, ih]
theorem srcs_len (r : Nat) : (srcs r).length = 3 * r := by
  induction r with
  | zero => rfl
  | succ r ih => simp [srcs, ih]; omega
theorem manyT_len : ∀ (rs : List Nat) (i : Nat), (∀ r ∈ rs, r < 5) → (manyT i rs).length ≤ 20 * rs.length
  | [], _, _ => by simp [manyT]
  | r :: rs, i, h => by
    have h1 := manyT_len rs (i + 1) (fun q hq => h q (by simp [hq]))
    have h2 := h r (by simp)
    simp [manyT, segS, nameD, srcs_len]
    omega
theorem find_many {rs : List Nat} {k : Nat} (h : k < rs.length) {ns : List (List Int)} : findL (manyD 0 rs) (([110, 111, 110, 101] : List Int) :: nameD k :: ns) = some (nameD k, srcsL rs[k]) := by
  have e1 : (manyD 0 rs).find? (fun d => d.1 == [110, 111, 110, 101]) = none := by
    rw [List.find?_eq_none]
    intro d hd
    obtain ⟨j, hj, rfl⟩ := List.getElem_of_mem hd
    rw [manyD_get (by rwa [manyD_len] at hj)]
    simp [nameD]
  have e2 : (manyD 0 rs).find? (fun d => d.1 == nameD k) = some (nameD k, srcsL rs[k]) := by
    rw [List.find?_eq_some_iff_getElem]
    refine ⟨by simp, k, by rw [manyD_len]; exact h, by rw [manyD_get h]; simp, fun j hj => ?_⟩
    have hj2 : j < rs.length := by omega
    rw [manyD_get hj2]
    simp only [Bool.not_eq_true', beq_eq_false_iff_ne, Nat.zero_add]
    intro e
    have := nameD_inj e
    omega
  unfold findL
  rw [e1]
  unfold findL
  rw [e2]
end GoD
