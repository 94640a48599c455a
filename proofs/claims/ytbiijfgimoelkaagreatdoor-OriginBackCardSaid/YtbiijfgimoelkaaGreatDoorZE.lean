import Derived.Test.YtbiijfgimoelkaaGreatDoorZC
/-! UrlParts, UrlDots: what is read. -/
namespace GoD
open Go Go.Proofs
set_option linter.unusedVariables false
set_option linter.unusedSimpArgs false
set_option maxHeartbeats 4000000
set_option maxRecDepth 100000
def hxT : List Int := [104, 46, 120]
def schT (sec : Bool) : List Int := if sec = true then [104, 116, 116, 112, 115] else [104, 116, 116, 112]
def dpT (sec : Bool) : Int := if sec = true then 443 else 80
def partsT (sec us q f : Bool) (n : Nat) : List Int := schT sec ++ 58 :: 47 :: 47 :: ((uiT (if us = true then [117] else []) (if us = true then [112] else []) ++ (hxT ++ 58 :: 48 :: 48 :: decD n)) ++ ([47, 97] ++ (sufT 63 q [113] ++ sufT 35 f [102])))
theorem hx_ok : hostL hxT = some hxT := by kernel_rfl
theorem a_ok : pathL [47, 97] = [47, 97] := by kernel_rfl
theorem digits_cons (n : Nat) : digitsB 10 (48 :: 48 :: decD n) = true := by
  rw [digitsB_cons, digitsB_cons, dec_digits, decide_eq_true (by decide), Bool.and_true]; rfl
theorem parts_port (sec : Bool) (n : Nat) : hostP (schT sec) (hxT ++ 58 :: 48 :: 48 :: decD n) = some (hxT, if n ≤ 65535 then some (if (n : Int) = dpT sec then -1 else (n : Int)) else none) := by
  have h58 : (58 : Int) ∉ hxT := by decide
  unfold hostP
  rw [upL_one h58, List.take_left, hx_ok, Option.map_some, if_neg (by simp), show hxT ++ 58 :: 48 :: 48 :: decD n = (hxT ++ [58]) ++ 48 :: 48 :: decD n by simp, show hxT.length + 1 = (hxT ++ [58]).length by simp, List.drop_left]
  have hd : (defaultL (schT sec)).1 = dpT sec := by cases sec <;> rfl
  unfold portV
  rw [if_neg (by simp), if_pos (digits_cons n), portA_zero, portA_zero, portA_dec, hd]
  by_cases h : n ≤ 65535
  · rw [if_pos h, if_pos h]; rfl
  · rw [if_neg h, if_neg h]; rfl
def partsU (sec us q f : Bool) (n : Nat) : Url := ⟨schT sec, if us = true then [117] else [], if us = true then [112] else [], hxT, if (n : Int) = dpT sec then -1 else (n : Int), [47, 97], q, if q = true then [113] else [], f, if f = true then [102] else []⟩
theorem hx_mem {n : Nat} {c : Int} (h : c ∈ hxT ++ 58 :: 48 :: 48 :: decD n) : 33 ≤ c ∧ c ≤ 126 ∧ c ∉ ([47, 92, 63, 35, 64] : List Int) := by
  have k : ∀ d ∈ hxT ++ [58, 48, 48], 33 ≤ d ∧ d ≤ 126 ∧ d ∉ ([47, 92, 63, 35, 64] : List Int) := by decide
  rw [show hxT ++ 58 :: 48 :: 48 :: decD n = (hxT ++ [58, 48, 48]) ++ decD n by simp] at h
  rcases List.mem_append.1 h with h | h
  · exact k c h
  · have := dec_mem h
    refine ⟨by omega, by omega, fun hm => ?_⟩
    simp only [List.mem_cons, List.not_mem_nil, or_false] at hm
    omega
theorem vis_dec (l : List Int) (h : (l.all fun c => decide (33 ≤ c ∧ c ≤ 126)) = true) : Vis l := fun c hc => of_decide_eq_true (List.all_eq_true.1 h c hc)
theorem sub4 {m : List Int} {c : Int} (h : c ∉ ([47, 92, 63, 35, 64] : List Int)) : c ∉ ([47, 92, 63, 35] : List Int) := fun hm => h (by simp only [List.mem_cons, List.not_mem_nil, or_false] at hm ⊢; omega)
theorem parts_url (sec us q f : Bool) (n : Nat) (hn : (decD n).length ≤ 10) : Vis (partsT sec us q f n) ∧ urlL (partsT sec us q f n) = if n ≤ 65535 then some (partsU sec us q f n) else none := by
  have hu : Fre 4 (if us = true then [117] else []) := by cases us <;> simp [Fre, inB, moreL]
  have hp : Fre 4 (if us = true then [112] else []) := by cases us <;> simp [Fre, inB, moreL]
  have hs : (defaultL (schT sec)).2 = true := by cases sec <;> rfl
  have hau : ∀ c ∈ uiT (if us = true then [117] else []) (if us = true then [112] else []) ++ (hxT ++ 58 :: 48 :: 48 :: decD n), 33 ≤ c ∧ c ≤ 126 ∧ c ∉ ([47, 92, 63, 35] : List Int) := fun c hc => by
    rcases List.mem_append.1 hc with h | h
    · exact ui_mem hu hp h
    · have := hx_mem h; exact ⟨this.1, this.2.1, sub4 (m := []) this.2.2⟩
  have hv : Vis (partsT sec us q f n) := by
    unfold partsT
    refine Vis.app (scheme_at hs []).2.2.1 ?_
    have : Vis ((uiT (if us = true then [117] else []) (if us = true then [112] else []) ++ (hxT ++ 58 :: 48 :: 48 :: decD n)) ++ ([47, 97] ++ (sufT 63 q [113] ++ sufT 35 f [102]))) := by
      refine Vis.app (fun c hc => ⟨(hau c hc).1, (hau c hc).2.1⟩) (Vis.app (vis_dec _ (by decide)) (Vis.app ?_ ?_))
      · exact suf_vis (by omega) (vis_dec _ (by decide))
      · exact suf_vis (by omega) (vis_dec _ (by decide))
    intro c hc
    rcases List.mem_cons.1 hc with rfl | hc
    · omega
    rcases List.mem_cons.1 hc with rfl | hc
    · omega
    rcases List.mem_cons.1 hc with rfl | hc
    · omega
    exact this c hc
  refine ⟨hv, ?_⟩
  have hl : (partsT sec us q f n).length ≤ 65536 := by
    unfold partsT schT uiT hxT sufT
    cases sec <;> cases us <;> cases q <;> cases f <;> simp <;> omega
  unfold urlL
  rw [if_neg (by omega), utf8_vis hv, if_pos rfl, clean_vis hv]
  unfold partsT
  rw [url1_at hs (by simp [hxT]) (fun c hc => (hau c hc).2.2) (.inr ⟨47, 97 :: (sufT 63 q [113] ++ sufT 35 f [102]), by simp, by decide⟩)]
  obtain ⟨e1, e2, e3⟩ := ui_at hu hp (r := hxT ++ 58 :: 48 :: 48 :: decD n) fun hm => (hx_mem hm).2.2 (by decide)
  have h4 : sufT 63 q [113] = sufT 63 q (if q = true then [113] else []) := by cases q <;> rfl
  have h5 : sufT 35 f [102] = sufT 35 f (if f = true then [102] else []) := by cases f <;> rfl
  rw [e1]
  unfold authW
  rw [parts_port]
  by_cases h : n ≤ 65535
  · rw [if_pos h, if_pos h]
    simp only
    rw [h4, h5, url3_back (by decide) (by decide) (by cases q <;> simp) a_ok (by rintro rfl; rfl) (by cases q <;> rfl) (by rintro rfl; rfl) (by cases f <;> rfl), e2, e3]
    rfl
  · rw [if_neg h, if_neg h]
/-! points -/
def dotS (x : List (List Int) × Bool) (p : List Int) : List (List Int) × Bool := if p = [120] then (x.1 ++ [[120]], true) else if p = [46] then (x.1, false) else (x.1.dropLast, false)
def dotF (x : List (List Int) × Bool) : List Int := slashL x.1 ++ if x.2 = true then [] else [47]
def dot3 : List (List Int) := [[120], [46], [37, 50, 69, 46]]
theorem dotsN_1 : dotsN [120] = 0 ∧ dotsN [46] = 1 ∧ dotsN [37, 50, 69, 46] = 2 := by decide +kernel
theorem enc_x : encL 3 [120] = [120] := by decide +kernel
theorem slashL_snoc1 (w : List (List Int)) (p : List Int) : slashL (w ++ [p]) = slashL w ++ 47 :: p := by simp [slashL]
theorem dots_fold : ∀ (ps : List (List Int)) (p : List Int) (acc : List (List Int)) (la : Bool), p ∈ dot3 → (∀ x ∈ ps, x ∈ dot3) → pathG acc [] (p ++ slashL ps) ≠ [] ∧ slashL (pathG acc [] (p ++ slashL ps)) = dotF ((p :: ps).foldl dotS (acc, la)) := by
  have hno : ∀ p ∈ dot3, ∀ c ∈ p, ¬ (c = 47 ∨ c = 92) := by decide
  intro ps
  induction ps with
  | nil =>
    intro p acc la hp _
    rw [pathG_seg p acc [] _ (hno p hp), List.nil_append]
    show pathG acc p [] ≠ [] ∧ slashL (pathG acc p []) = dotF (dotS (acc, la) p)
    rw [pathG]
    simp only [dot3, List.mem_cons, List.not_mem_nil, or_false] at hp
    rcases hp with rfl | rfl | rfl
    · simp [pathStep, dotsN_1, enc_x, dotS, dotF]
    · simp [pathStep, dotsN_1, dotS, dotF, slashL_snoc1]
    · simp [pathStep, dotsN_1, dotS, dotF, slashL_snoc1]
  | cons q qs ih =>
    intro p acc la hp hs
    rw [pathG_seg p acc [] _ (hno p hp), List.nil_append, slashL_cons, pathG, if_pos (.inl rfl)]
    have hq := hs q (by simp)
    have hqs : ∀ x ∈ qs, x ∈ dot3 := fun x hx => hs x (by simp [hx])
    have key : ∃ b, pathStep acc p false = (dotS (acc, la) p).1 ∧ (dotS (acc, la) p) = ((dotS (acc, la) p).1, b) := by
      simp only [dot3, List.mem_cons, List.not_mem_nil, or_false] at hp
      rcases hp with rfl | rfl | rfl
      · exact ⟨true, by simp [pathStep, dotsN_1, enc_x, dotS], by simp [dotS]⟩
      · exact ⟨false, by simp [pathStep, dotsN_1, dotS], by simp [dotS]⟩
      · exact ⟨false, by simp [pathStep, dotsN_1, dotS], by simp [dotS]⟩
    obtain ⟨b, k1, k2⟩ := key
    rw [k1]
    have := ih q (dotS (acc, la) p).1 b hq hqs
    refine ⟨this.1, ?_⟩
    rw [this.2, List.foldl_cons (a := p), k2]
theorem dot_mem {ps : List (List Int)} (h : ∀ x ∈ ps, x ∈ dot3) {c : Int} (hc : c ∈ slashL ps) : 33 ≤ c ∧ c ≤ 126 ∧ c ≠ 63 ∧ c ≠ 35 := by
  have hno : ∀ p ∈ dot3, ∀ c ∈ p, 33 ≤ c ∧ c ≤ 126 ∧ c ≠ 63 ∧ c ≠ 35 := by decide
  rcases slash_mem hc with rfl | ⟨q, hq, hc⟩
  · omega
  · exact hno q (h q hq) c hc
def httpA : List Int := [104, 116, 116, 112, 58, 47, 47, 97]
theorem a_host : hostL [97] = some [97] := by kernel_rfl
theorem dots_url {ps : List (List Int)} (h : ∀ x ∈ ps, x ∈ dot3) (hl : ps.length ≤ 60) : Vis (httpA ++ slashL ps) ∧ ∃ u, urlL (httpA ++ slashL ps) = some u ∧ u.path = dotF (ps.foldl dotS ([], false)) := by
  have hv : Vis (httpA ++ slashL ps) := Vis.app (vis_dec _ (by decide)) fun c hc => ⟨(dot_mem h hc).1, (dot_mem h hc).2.1⟩
  refine ⟨hv, ?_⟩
  have hll : (slashL ps).length ≤ 300 := by
    have := slashL_len (l := ps) (b := 4) (by
      intro p hp
      have : ∀ p ∈ dot3, p.length ≤ 4 := by decide
      exact this p (h p hp))
    omega
  have h0 : httpA ++ slashL ps = [104, 116, 116, 112] ++ 58 :: 47 :: 47 :: ([97] ++ slashL ps) := rfl
  unfold urlL
  rw [if_neg (by simp [httpA]; omega), utf8_vis hv, if_pos rfl, clean_vis hv, h0, url1_at (by rfl) (by simp) (by decide) (by cases ps with | nil => exact .inl rfl | cons q qs => exact .inr ⟨47, q ++ slashL qs, slashL_cons _ _, by decide⟩)]
  rw [restL_none (by decide)]
  have hA : authW [104, 116, 116, 112] [97] [] 0 = (true, [97], -1) := authW_at (sch := [104, 116, 116, 112]) (po := -1) a_host (.inl rfl)
  rw [hA]
  refine ⟨_, rfl, ?_⟩
  have k35 : (35 : Int) ∉ slashL ps := fun hm => (dot_mem h hm).2.2.2 rfl
  have k63 : (63 : Int) ∉ slashL ps := fun hm => (dot_mem h hm).2.2.1 rfl
  show pathL ((cutF (slashL ps)).take (upL [63] (cutF (slashL ps)))) = _
  have hc : cutF (slashL ps) = slashL ps := by unfold cutF; rw [upL_one0 k35, List.take_length]
  rw [hc, upL_one0 k63, List.take_length]
  cases ps with
  | nil => rfl
  | cons q qs =>
    have := dots_fold qs q [] false (h q (by simp)) fun x hx => h x (by simp [hx])
    unfold pathL
    rw [slashL_cons, if_neg (by simp), List.tail_cons, if_neg this.1, this.2]
end GoD
