import Derived.Test.YtkhcoeampamegaaGreatDoorNF
/-! DirectNone. -/
namespace GoD
open Go Go.Proofs
set_option linter.unusedVariables false
set_option linter.unusedSimpArgs false
set_option maxHeartbeats 4000000
set_option maxRecDepth 100000
def roundJ (k n : Int) : Int := if k.tmod n < 0 then k.tmod n + n else k.tmod n
def pRoundJC : Ct := fun args h => match args with | [.i .i64 k, .i .i64 n] => if 0 < n ∧ n ≤ 1000000 then some (.i .i64 (roundJ k n), h) else none | _ => none
theorem pRoundJ_ok : CtOk Tryz.prog G0 19 pRoundJC := by
  refine ct_plain (n := 2) fol sound_nil (by kernel_rfl) Tryz.func19 rfl fun args h v h' hc r xs H hr hx => ?_
  unfold pRoundJC at hc; split at hc <;> (try split at hc) <;> cases hc
  rename_i k n hn
  have hn0 : ¬ n = 0 := by omega
  have h1 := Int.tmod_lt_of_pos k hn.1
  have h2 : -n < k.tmod n := Int.neg_lt_of_neg_lt (by rw [← Int.neg_tmod]; exact Int.tmod_lt_of_pos _ hn.1)
  refine ⟨rfl, rfl, by simp [renV, bndV], ?_⟩
  by_cases c1 : k.tmod n < 0
  · simp -implicitDefEqProofs [go_sem, Tryz.f19, hn0, c1, roundJ, w64 (x := k.tmod n + n) (by omega)]
  · simp -implicitDefEqProofs [go_sem, Tryz.f19, hn0, c1, roundJ]
theorem roundJ_lt {k n : Int} (hn : 0 < n) : 0 ≤ roundJ k n ∧ roundJ k n < n := by
  have h1 := Int.tmod_lt_of_pos k hn
  have h2 : -n < k.tmod n := Int.neg_lt_of_neg_lt (by rw [← Int.neg_tmod]; exact Int.tmod_lt_of_pos _ hn)
  unfold roundJ
  split <;> omega
theorem sch5 {s : List Int} (h : (defaultL s).2 = true) : s = [104, 116, 116, 112] ∨ s = [119, 115] ∨ s = [104, 116, 116, 112, 115] ∨ s = [119, 115, 115] ∨ s = [102, 116, 112] := by
  unfold defaultL at h
  by_cases h1 : s = [104, 116, 116, 112]
  · exact .inl h1
  · by_cases h2 : s = [119, 115]
    · exact .inr (.inl h2)
    · by_cases h3 : s = [104, 116, 116, 112, 115]
      · exact .inr (.inr (.inl h3))
      · by_cases h4 : s = [119, 115, 115]
        · exact .inr (.inr (.inr (.inl h4)))
        · by_cases h5 : s = [102, 116, 112]
          · exact .inr (.inr (.inr (.inr h5)))
          · simp [h1, h2, h3, h4, h5] at h
theorem urlOk_sch5 {l : List Int} (h : urlOk l = true) : (defaultL (urlOr l).sch).2 = true := by
  unfold urlOk at h
  rw [Bool.and_eq_true] at h
  unfold urlOr
  cases hu : urlL l with
  | none => rw [hu] at h; exact absurd h.1 (by simp)
  | some u =>
    show (defaultL u.sch).2 = true
    unfold urlL at hu
    split at hu
    · cases hu
    · split at hu
      · unfold url1 at hu
        split at hu
        · rename_i hd
          unfold url2 at hu
          split at hu
          · cases hu
          · rw [← Option.some.inj hu]; exact hd
        · cases hu
      · cases hu
theorem kwN : (srcL [39, 110, 111, 110, 101, 39]).kind = 5 := by kernel_rfl
theorem kwS : (srcL [42]).kind = 1 := by kernel_rfl
theorem none_list (a d : List Int) (p : Int) (e os oh : List Int) (op rd : Int) : listB [[39, 110, 111, 110, 101, 39]] a d p e os oh op rd = false := by
  simp only [listB, List.any_cons, List.any_nil, Bool.or_false]
  unfold matchB
  rw [kwN]; rfl
theorem star_list {a : List Int} (ha : a = [104, 116, 116, 112] ∨ a = [119, 115] ∨ a = [104, 116, 116, 112, 115] ∨ a = [119, 115, 115] ∨ a = [102, 116, 112]) (d : List Int) (p : Int) (e oh : List Int) (op rd : Int) : listB [[42]] a d p e [] oh op rd = !decide (a = [102, 116, 112]) := by
  simp only [listB, List.any_cons, List.any_nil, Bool.or_false]
  unfold matchB
  rw [kwS]
  rcases ha with rfl | rfl | rfl | rfl | rfl <;> rfl
theorem dnA0 (a d : List Int) (p : Int) (e os oh : List Int) (op rd : Int) : allowB [100, 101, 102, 97, 117, 108, 116, 45, 115, 114, 99, 32, 39, 110, 111, 110, 101, 39] [] a d p e os oh op rd = false := by
  rw [allow_some (x := ([100, 101, 102, 97, 117, 108, 116, 45, 115, 114, 99], [[39, 110, 111, 110, 101, 39]])) (by kernel_rfl)]; exact none_list _ _ _ _ _ _ _ _
theorem dnB0 {a : List Int} (ha : a = [104, 116, 116, 112] ∨ a = [119, 115] ∨ a = [104, 116, 116, 112, 115] ∨ a = [119, 115, 115] ∨ a = [102, 116, 112]) (d : List Int) (p : Int) (e oh : List Int) (op rd : Int) : allowB [100, 101, 102, 97, 117, 108, 116, 45, 115, 114, 99, 32, 39, 110, 111, 110, 101, 39, 59, 32, 99, 111, 110, 110, 101, 99, 116, 45, 115, 114, 99, 32, 42] [] a d p e [] oh op rd = !decide (a = [102, 116, 112]) := by
  rw [allow_some (x := ([99, 111, 110, 110, 101, 99, 116, 45, 115, 114, 99], [[42]])) (by kernel_rfl)]; exact star_list ha _ _ _ _ _ _
theorem dnA1 (a d : List Int) (p : Int) (e os oh : List Int) (op rd : Int) : allowB [100, 101, 102, 97, 117, 108, 116, 45, 115, 114, 99, 32, 39, 110, 111, 110, 101, 39] [115, 99, 114, 105, 112, 116] a d p e os oh op rd = false := by
  rw [allow_some (x := ([100, 101, 102, 97, 117, 108, 116, 45, 115, 114, 99], [[39, 110, 111, 110, 101, 39]])) (by kernel_rfl)]; exact none_list _ _ _ _ _ _ _ _
theorem dnB1 {a : List Int} (ha : a = [104, 116, 116, 112] ∨ a = [119, 115] ∨ a = [104, 116, 116, 112, 115] ∨ a = [119, 115, 115] ∨ a = [102, 116, 112]) (d : List Int) (p : Int) (e oh : List Int) (op rd : Int) : allowB [100, 101, 102, 97, 117, 108, 116, 45, 115, 114, 99, 32, 39, 110, 111, 110, 101, 39, 59, 32, 115, 99, 114, 105, 112, 116, 45, 115, 114, 99, 32, 42] [115, 99, 114, 105, 112, 116] a d p e [] oh op rd = !decide (a = [102, 116, 112]) := by
  rw [allow_some (x := ([115, 99, 114, 105, 112, 116, 45, 115, 114, 99], [[42]])) (by kernel_rfl)]; exact star_list ha _ _ _ _ _ _
theorem dnA2 (a d : List Int) (p : Int) (e os oh : List Int) (op rd : Int) : allowB [100, 101, 102, 97, 117, 108, 116, 45, 115, 114, 99, 32, 39, 110, 111, 110, 101, 39] [115, 116, 121, 108, 101] a d p e os oh op rd = false := by
  rw [allow_some (x := ([100, 101, 102, 97, 117, 108, 116, 45, 115, 114, 99], [[39, 110, 111, 110, 101, 39]])) (by kernel_rfl)]; exact none_list _ _ _ _ _ _ _ _
theorem dnB2 {a : List Int} (ha : a = [104, 116, 116, 112] ∨ a = [119, 115] ∨ a = [104, 116, 116, 112, 115] ∨ a = [119, 115, 115] ∨ a = [102, 116, 112]) (d : List Int) (p : Int) (e oh : List Int) (op rd : Int) : allowB [100, 101, 102, 97, 117, 108, 116, 45, 115, 114, 99, 32, 39, 110, 111, 110, 101, 39, 59, 32, 115, 116, 121, 108, 101, 45, 115, 114, 99, 32, 42] [115, 116, 121, 108, 101] a d p e [] oh op rd = !decide (a = [102, 116, 112]) := by
  rw [allow_some (x := ([115, 116, 121, 108, 101, 45, 115, 114, 99], [[42]])) (by kernel_rfl)]; exact star_list ha _ _ _ _ _ _
theorem dnA3 (a d : List Int) (p : Int) (e os oh : List Int) (op rd : Int) : allowB [100, 101, 102, 97, 117, 108, 116, 45, 115, 114, 99, 32, 39, 110, 111, 110, 101, 39] [105, 109, 97, 103, 101] a d p e os oh op rd = false := by
  rw [allow_some (x := ([100, 101, 102, 97, 117, 108, 116, 45, 115, 114, 99], [[39, 110, 111, 110, 101, 39]])) (by kernel_rfl)]; exact none_list _ _ _ _ _ _ _ _
theorem dnB3 {a : List Int} (ha : a = [104, 116, 116, 112] ∨ a = [119, 115] ∨ a = [104, 116, 116, 112, 115] ∨ a = [119, 115, 115] ∨ a = [102, 116, 112]) (d : List Int) (p : Int) (e oh : List Int) (op rd : Int) : allowB [100, 101, 102, 97, 117, 108, 116, 45, 115, 114, 99, 32, 39, 110, 111, 110, 101, 39, 59, 32, 105, 109, 103, 45, 115, 114, 99, 32, 42] [105, 109, 97, 103, 101] a d p e [] oh op rd = !decide (a = [102, 116, 112]) := by
  rw [allow_some (x := ([105, 109, 103, 45, 115, 114, 99], [[42]])) (by kernel_rfl)]; exact star_list ha _ _ _ _ _ _
theorem dnA4 (a d : List Int) (p : Int) (e os oh : List Int) (op rd : Int) : allowB [100, 101, 102, 97, 117, 108, 116, 45, 115, 114, 99, 32, 39, 110, 111, 110, 101, 39] [102, 111, 110, 116] a d p e os oh op rd = false := by
  rw [allow_some (x := ([100, 101, 102, 97, 117, 108, 116, 45, 115, 114, 99], [[39, 110, 111, 110, 101, 39]])) (by kernel_rfl)]; exact none_list _ _ _ _ _ _ _ _
theorem dnB4 {a : List Int} (ha : a = [104, 116, 116, 112] ∨ a = [119, 115] ∨ a = [104, 116, 116, 112, 115] ∨ a = [119, 115, 115] ∨ a = [102, 116, 112]) (d : List Int) (p : Int) (e oh : List Int) (op rd : Int) : allowB [100, 101, 102, 97, 117, 108, 116, 45, 115, 114, 99, 32, 39, 110, 111, 110, 101, 39, 59, 32, 102, 111, 110, 116, 45, 115, 114, 99, 32, 42] [102, 111, 110, 116] a d p e [] oh op rd = !decide (a = [102, 116, 112]) := by
  rw [allow_some (x := ([102, 111, 110, 116, 45, 115, 114, 99], [[42]])) (by kernel_rfl)]; exact star_list ha _ _ _ _ _ _
theorem dnA5 (a d : List Int) (p : Int) (e os oh : List Int) (op rd : Int) : allowB [100, 101, 102, 97, 117, 108, 116, 45, 115, 114, 99, 32, 39, 110, 111, 110, 101, 39] [109, 97, 110, 105, 102, 101, 115, 116] a d p e os oh op rd = false := by
  rw [allow_some (x := ([100, 101, 102, 97, 117, 108, 116, 45, 115, 114, 99], [[39, 110, 111, 110, 101, 39]])) (by kernel_rfl)]; exact none_list _ _ _ _ _ _ _ _
theorem dnB5 {a : List Int} (ha : a = [104, 116, 116, 112] ∨ a = [119, 115] ∨ a = [104, 116, 116, 112, 115] ∨ a = [119, 115, 115] ∨ a = [102, 116, 112]) (d : List Int) (p : Int) (e oh : List Int) (op rd : Int) : allowB [100, 101, 102, 97, 117, 108, 116, 45, 115, 114, 99, 32, 39, 110, 111, 110, 101, 39, 59, 32, 109, 97, 110, 105, 102, 101, 115, 116, 45, 115, 114, 99, 32, 42] [109, 97, 110, 105, 102, 101, 115, 116] a d p e [] oh op rd = !decide (a = [102, 116, 112]) := by
  rw [allow_some (x := ([109, 97, 110, 105, 102, 101, 115, 116, 45, 115, 114, 99], [[42]])) (by kernel_rfl)]; exact star_list ha _ _ _ _ _ _
theorem dnA6 (a d : List Int) (p : Int) (e os oh : List Int) (op rd : Int) : allowB [100, 101, 102, 97, 117, 108, 116, 45, 115, 114, 99, 32, 39, 110, 111, 110, 101, 39] [97, 117, 100, 105, 111] a d p e os oh op rd = false := by
  rw [allow_some (x := ([100, 101, 102, 97, 117, 108, 116, 45, 115, 114, 99], [[39, 110, 111, 110, 101, 39]])) (by kernel_rfl)]; exact none_list _ _ _ _ _ _ _ _
theorem dnB6 {a : List Int} (ha : a = [104, 116, 116, 112] ∨ a = [119, 115] ∨ a = [104, 116, 116, 112, 115] ∨ a = [119, 115, 115] ∨ a = [102, 116, 112]) (d : List Int) (p : Int) (e oh : List Int) (op rd : Int) : allowB [100, 101, 102, 97, 117, 108, 116, 45, 115, 114, 99, 32, 39, 110, 111, 110, 101, 39, 59, 32, 109, 101, 100, 105, 97, 45, 115, 114, 99, 32, 42] [97, 117, 100, 105, 111] a d p e [] oh op rd = !decide (a = [102, 116, 112]) := by
  rw [allow_some (x := ([109, 101, 100, 105, 97, 45, 115, 114, 99], [[42]])) (by kernel_rfl)]; exact star_list ha _ _ _ _ _ _
theorem dnA7 (a d : List Int) (p : Int) (e os oh : List Int) (op rd : Int) : allowB [100, 101, 102, 97, 117, 108, 116, 45, 115, 114, 99, 32, 39, 110, 111, 110, 101, 39] [116, 114, 97, 99, 107] a d p e os oh op rd = false := by
  rw [allow_some (x := ([100, 101, 102, 97, 117, 108, 116, 45, 115, 114, 99], [[39, 110, 111, 110, 101, 39]])) (by kernel_rfl)]; exact none_list _ _ _ _ _ _ _ _
theorem dnB7 {a : List Int} (ha : a = [104, 116, 116, 112] ∨ a = [119, 115] ∨ a = [104, 116, 116, 112, 115] ∨ a = [119, 115, 115] ∨ a = [102, 116, 112]) (d : List Int) (p : Int) (e oh : List Int) (op rd : Int) : allowB [100, 101, 102, 97, 117, 108, 116, 45, 115, 114, 99, 32, 39, 110, 111, 110, 101, 39, 59, 32, 109, 101, 100, 105, 97, 45, 115, 114, 99, 32, 42] [116, 114, 97, 99, 107] a d p e [] oh op rd = !decide (a = [102, 116, 112]) := by
  rw [allow_some (x := ([109, 101, 100, 105, 97, 45, 115, 114, 99], [[42]])) (by kernel_rfl)]; exact star_list ha _ _ _ _ _ _
theorem dnA8 (a d : List Int) (p : Int) (e os oh : List Int) (op rd : Int) : allowB [100, 101, 102, 97, 117, 108, 116, 45, 115, 114, 99, 32, 39, 110, 111, 110, 101, 39] [111, 98, 106, 101, 99, 116] a d p e os oh op rd = false := by
  rw [allow_some (x := ([100, 101, 102, 97, 117, 108, 116, 45, 115, 114, 99], [[39, 110, 111, 110, 101, 39]])) (by kernel_rfl)]; exact none_list _ _ _ _ _ _ _ _
theorem dnB8 {a : List Int} (ha : a = [104, 116, 116, 112] ∨ a = [119, 115] ∨ a = [104, 116, 116, 112, 115] ∨ a = [119, 115, 115] ∨ a = [102, 116, 112]) (d : List Int) (p : Int) (e oh : List Int) (op rd : Int) : allowB [100, 101, 102, 97, 117, 108, 116, 45, 115, 114, 99, 32, 39, 110, 111, 110, 101, 39, 59, 32, 111, 98, 106, 101, 99, 116, 45, 115, 114, 99, 32, 42] [111, 98, 106, 101, 99, 116] a d p e [] oh op rd = !decide (a = [102, 116, 112]) := by
  rw [allow_some (x := ([111, 98, 106, 101, 99, 116, 45, 115, 114, 99], [[42]])) (by kernel_rfl)]; exact star_list ha _ _ _ _ _ _
theorem dnA9 (a d : List Int) (p : Int) (e os oh : List Int) (op rd : Int) : allowB [100, 101, 102, 97, 117, 108, 116, 45, 115, 114, 99, 32, 39, 110, 111, 110, 101, 39] [105, 102, 114, 97, 109, 101] a d p e os oh op rd = false := by
  rw [allow_some (x := ([100, 101, 102, 97, 117, 108, 116, 45, 115, 114, 99], [[39, 110, 111, 110, 101, 39]])) (by kernel_rfl)]; exact none_list _ _ _ _ _ _ _ _
theorem dnB9 {a : List Int} (ha : a = [104, 116, 116, 112] ∨ a = [119, 115] ∨ a = [104, 116, 116, 112, 115] ∨ a = [119, 115, 115] ∨ a = [102, 116, 112]) (d : List Int) (p : Int) (e oh : List Int) (op rd : Int) : allowB [100, 101, 102, 97, 117, 108, 116, 45, 115, 114, 99, 32, 39, 110, 111, 110, 101, 39, 59, 32, 99, 104, 105, 108, 100, 45, 115, 114, 99, 32, 42] [105, 102, 114, 97, 109, 101] a d p e [] oh op rd = !decide (a = [102, 116, 112]) := by
  rw [allow_some (x := ([99, 104, 105, 108, 100, 45, 115, 114, 99], [[42]])) (by kernel_rfl)]; exact star_list ha _ _ _ _ _ _
theorem dnA10 (a d : List Int) (p : Int) (e os oh : List Int) (op rd : Int) : allowB [100, 101, 102, 97, 117, 108, 116, 45, 115, 114, 99, 32, 39, 110, 111, 110, 101, 39] [119, 111, 114, 107, 101, 114] a d p e os oh op rd = false := by
  rw [allow_some (x := ([100, 101, 102, 97, 117, 108, 116, 45, 115, 114, 99], [[39, 110, 111, 110, 101, 39]])) (by kernel_rfl)]; exact none_list _ _ _ _ _ _ _ _
theorem dnB10 {a : List Int} (ha : a = [104, 116, 116, 112] ∨ a = [119, 115] ∨ a = [104, 116, 116, 112, 115] ∨ a = [119, 115, 115] ∨ a = [102, 116, 112]) (d : List Int) (p : Int) (e oh : List Int) (op rd : Int) : allowB [100, 101, 102, 97, 117, 108, 116, 45, 115, 114, 99, 32, 39, 110, 111, 110, 101, 39, 59, 32, 115, 99, 114, 105, 112, 116, 45, 115, 114, 99, 32, 42] [119, 111, 114, 107, 101, 114] a d p e [] oh op rd = !decide (a = [102, 116, 112]) := by
  rw [allow_some (x := ([115, 99, 114, 105, 112, 116, 45, 115, 114, 99], [[42]])) (by kernel_rfl)]; exact star_list ha _ _ _ _ _ _
theorem dnC (a d : List Int) (p : Int) (e os oh : List Int) (op rd : Int) : allowB [100, 101, 102, 97, 117, 108, 116, 45, 115, 114, 99, 32, 39, 110, 111, 110, 101, 39] [100, 111, 99, 117, 109, 101, 110, 116] a d p e os oh op rd = true := allow_none (by kernel_rfl) _ _ _ _ _ _ _ _
def pLaw16nC : Ct := fun args h => match args with | [.i .i64 k, .s s] => some (.b true, h) | _ => none
theorem pLaw16n_ok : CtOk Tryz.prog G0 5 pLaw16nC := by
  refine ct_plain (n := 2) fol (sound_cons pAwake16_ok (sound_cons pParsed_ok (sound_cons pRoundJ_ok (sound_cons pAllows_ok sound_nil)))) (by kernel_rfl) Tryz.func5 rfl fun args h v h' hc r xs H hr hx => ?_
  unfold pLaw16nC at hc; split at hc <;> (try split at hc) <;> cases hc
  rename_i k s
  refine ⟨rfl, rfl, by simp [renV, bndV], ?_⟩
  obtain ⟨u, hu⟩ : ∃ u, urlOr s = u := ⟨_, rfl⟩
  cases h4 : urlOk s with
  | true =>
    obtain ⟨hho, hpa⟩ := urlOk_len h4
    have h5 := sch5 (urlOk_sch5 h4)
    rw [hu] at hho hpa h5
    obtain ⟨us, uu, up, uh, upo, upath, uq, uqu, uf, ufr⟩ := u
    simp only at hho hpa h5
    obtain ⟨r1, r2⟩ := roundJ_lt (k := k) (n := 11) (by decide)
    obtain ⟨kk, hk⟩ : ∃ kk : Nat, roundJ k 11 = kk := ⟨(roundJ k 11).toNat, by omega⟩
    have hkk : kk = 0 ∨ kk = 1 ∨ kk = 2 ∨ kk = 3 ∨ kk = 4 ∨ kk = 5 ∨ kk = 6 ∨ kk = 7 ∨ kk = 8 ∨ kk = 9 ∨ kk = 10 := by omega
    clear r1 r2
    rcases hkk with rfl | rfl | rfl | rfl | rfl | rfl | rfl | rfl | rfl | rfl | rfl
    · simp -implicitDefEqProofs [go_sem, Tryz.f5, pAwake16C, pParsedC, pAllowsC, pRoundJC, h4, hu, Url.V, Url.cells, hho, hpa, hk, dnA0, dnB0 h5, dnC]
    · simp -implicitDefEqProofs [go_sem, Tryz.f5, pAwake16C, pParsedC, pAllowsC, pRoundJC, h4, hu, Url.V, Url.cells, hho, hpa, hk, dnA1, dnB1 h5, dnC]
    · simp -implicitDefEqProofs [go_sem, Tryz.f5, pAwake16C, pParsedC, pAllowsC, pRoundJC, h4, hu, Url.V, Url.cells, hho, hpa, hk, dnA2, dnB2 h5, dnC]
    · simp -implicitDefEqProofs [go_sem, Tryz.f5, pAwake16C, pParsedC, pAllowsC, pRoundJC, h4, hu, Url.V, Url.cells, hho, hpa, hk, dnA3, dnB3 h5, dnC]
    · simp -implicitDefEqProofs [go_sem, Tryz.f5, pAwake16C, pParsedC, pAllowsC, pRoundJC, h4, hu, Url.V, Url.cells, hho, hpa, hk, dnA4, dnB4 h5, dnC]
    · simp -implicitDefEqProofs [go_sem, Tryz.f5, pAwake16C, pParsedC, pAllowsC, pRoundJC, h4, hu, Url.V, Url.cells, hho, hpa, hk, dnA5, dnB5 h5, dnC]
    · simp -implicitDefEqProofs [go_sem, Tryz.f5, pAwake16C, pParsedC, pAllowsC, pRoundJC, h4, hu, Url.V, Url.cells, hho, hpa, hk, dnA6, dnB6 h5, dnC]
    · simp -implicitDefEqProofs [go_sem, Tryz.f5, pAwake16C, pParsedC, pAllowsC, pRoundJC, h4, hu, Url.V, Url.cells, hho, hpa, hk, dnA7, dnB7 h5, dnC]
    · simp -implicitDefEqProofs [go_sem, Tryz.f5, pAwake16C, pParsedC, pAllowsC, pRoundJC, h4, hu, Url.V, Url.cells, hho, hpa, hk, dnA8, dnB8 h5, dnC]
    · simp -implicitDefEqProofs [go_sem, Tryz.f5, pAwake16C, pParsedC, pAllowsC, pRoundJC, h4, hu, Url.V, Url.cells, hho, hpa, hk, dnA9, dnB9 h5, dnC]
    · simp -implicitDefEqProofs [go_sem, Tryz.f5, pAwake16C, pParsedC, pAllowsC, pRoundJC, h4, hu, Url.V, Url.cells, hho, hpa, hk, dnA10, dnB10 h5, dnC]
  | false =>
    simp -implicitDefEqProofs [go_sem, Tryz.f5, pAwake16C, pParsedC, h4, hu, Url.V, Url.cells]
end GoD
