import Derived.Test.YtcaaebjjgbcjpaaGreatDoorOT
/-! url.Parse answers as the document does. -/
namespace GoD
open Go Go.Proofs
set_option linter.unusedVariables false
set_option linter.unusedSimpArgs false
set_option maxHeartbeats 8000000
set_option maxRecDepth 100000
theorem step_eq {acc : List (List Int)} {s r : List Int} (hb : ∀ c ∈ s, 0 ≤ c ∧ c < 256) : pathStepU acc s r = pathStep acc s (lastUB r) := by unfold pathStepU pathStep; rw [dots_eq hb]
theorem pathG_seg : ∀ (s acc cur rest), (∀ c ∈ s, ¬ (c = 47 ∨ c = 92)) → pathG acc cur (s ++ rest) = pathG acc (cur ++ s) rest
  | [], acc, cur, rest, _ => by rw [List.append_nil]; rfl
  | c :: t, acc, cur, rest, h => by
    rw [List.cons_append, pathG, if_neg (h c (by simp)), pathG_seg t acc (cur ++ [c]) rest fun d hd => h d (by simp [hd]), List.append_assoc]; rfl
theorem upL_app {m : List Int} {a b : List Int} (ha : ∀ c ∈ a, c ∉ m) : upL m (a ++ b) = a.length + upL m b := by
  induction a with
  | nil => simp
  | cons c t ih => rw [List.cons_append, upL, if_neg (ha c (by simp)), ih fun d hd => ha d (by simp [hd])]; simp; omega
theorem upL_split (m : List Int) (l : List Int) : ∃ A R, l = A ++ R ∧ A = l.take (upL m l) ∧ R = l.drop (upL m l) ∧ A.length = upL m l ∧ (∀ c ∈ A, c ∉ m) ∧ (R = [] ∨ ∃ c t, R = c :: t ∧ c ∈ m) :=
  ⟨l.take (upL m l), l.drop (upL m l), (List.take_append_drop _ _).symm, rfl, rfl, by rw [List.length_take]; have := upL_le m l; omega, upL_take l, upL_drop l⟩
theorem path_run : ∀ (f : Nat) (t : List Int) (acc : List (List Int)) (c : Int), t.length ≤ f → (∀ c ∈ t, 0 ≤ c ∧ c < 256) → (c = 47 ∨ c = 92) → pathRunU acc (c :: t) = (pathG acc [] (t.take (upL [63, 35] t)), t.drop (upL [63, 35] t)) := by
  intro f
  induction f with
  | zero =>
    intro t acc c h _ hc
    obtain rfl := List.length_eq_zero_iff.1 (show t.length = 0 by omega)
    rw [pathRunU_go hc]
    show pathRunU (pathStepU acc [] []) [] = _
    rw [pathRunU, step_eq (by simp)]; rfl
  | succ f ih =>
    intro t acc c h hb hc
    rw [pathRunU_go hc]
    unfold upM
    obtain ⟨A, R, hl, hA, hR, hlen, hm, hcase⟩ := upL_split [47, 92, 63, 35] t
    rw [← hA, ← hR]
    have hAb : ∀ c ∈ A, 0 ≤ c ∧ c < 256 := fun d hd => hb d (by rw [hl]; simp [hd])
    have hRb : ∀ c ∈ R, 0 ≤ c ∧ c < 256 := fun d hd => hb d (by rw [hl]; simp [hd])
    have hns : ∀ c ∈ A, ¬ (c = 47 ∨ c = 92) := fun d hd e => hm d hd (by rcases e with rfl | rfl <;> simp)
    have hnq : ∀ c ∈ A, c ∉ [63, 35] := fun d hd e => hm d hd (by simp at e ⊢; omega)
    rw [step_eq hAb]
    have hup : upL [63, 35] t = A.length + upL [63, 35] R := by rw [hl]; exact upL_app hnq
    rw [hup]
    have htk : t.take (A.length + upL [63, 35] R) = A ++ R.take (upL [63, 35] R) := by rw [hl, List.take_append, List.take_of_length_le (by omega)]; congr 1; rw [Nat.add_sub_cancel_left]
    have hdr : t.drop (A.length + upL [63, 35] R) = R.drop (upL [63, 35] R) := by rw [hl, List.drop_append, List.drop_eq_nil_of_le (by omega)]; rw [Nat.add_sub_cancel_left]; rfl
    rw [htk, hdr, pathG_seg A acc [] _ hns, List.nil_append]
    rcases hcase with rfl | ⟨d, r, rfl, hd⟩
    · rw [pathRunU]; rfl
    · by_cases hsl : d = 47 ∨ d = 92
      · have hd2 : d ∉ ([63, 35] : List Int) := by rcases hsl with rfl | rfl <;> decide
        have hlu : lastUB (d :: r) = false := by rcases hsl with rfl | rfl <;> rfl
        rw [hlu, ih r _ d (by have := congrArg List.length hl; simp at this; omega) (fun x hx => hRb x (by simp [hx])) hsl, upL, if_neg hd2, List.take_succ_cons, List.drop_succ_cons, pathG, if_pos hsl]
      · have hd2 : d ∈ ([63, 35] : List Int) := by simp at hd ⊢; omega
        have hlu : lastUB (d :: r) = true := by simp at hd2; rcases hd2 with rfl | rfl <;> rfl
        rw [hlu, pathRunU_stop hsl, upL, if_pos hd2]; rfl
theorem hexD_byte (v : Int) : 0 ≤ hexD v ∧ hexD v < 256 := by
  unfold hexD
  rw [List.getD_eq_getElem?_getD]
  cases e : ([48, 49, 50, 51, 52, 53, 54, 55, 56, 57, 65, 66, 67, 68, 69, 70] : List Int)[v.toNat]? with
  | none => simp
  | some x =>
    have := List.mem_of_getElem? e
    simp at this ⊢
    omega
theorem encL_byte (s : Int) : ∀ l : List Int, (∀ c ∈ l, 0 ≤ c ∧ c < 256) → ∀ c ∈ encL s l, 0 ≤ c ∧ c < 256
  | [], _, c, h => by simp [encL] at h
  | d :: t, hb, c, h => by
    have ih := encL_byte s t fun x hx => hb x (by simp [hx])
    rw [encL] at h
    split at h
    · simp at h
      rcases h with rfl | rfl | rfl | h
      · omega
      · exact hexD_byte _
      · exact hexD_byte _
      · exact ih c h
    · simp at h
      rcases h with rfl | h
      · exact hb _ (by simp)
      · exact ih c h
theorem step_byte {acc : List (List Int)} {p : List Int} {b : Bool} (ha : ∀ q ∈ acc, ∀ c ∈ q, 0 ≤ c ∧ c < 256) (hp : ∀ c ∈ p, 0 ≤ c ∧ c < 256) : ∀ q ∈ pathStep acc p b, ∀ c ∈ q, 0 ≤ c ∧ c < 256 := by
  have hd : ∀ q ∈ acc.dropLast, ∀ c ∈ q, 0 ≤ c ∧ c < 256 := fun q hq => ha q ((List.dropLast_sublist acc).mem hq)
  intro q hq
  unfold pathStep at hq
  split at hq
  · rcases List.mem_append.1 hq with h | h
    · exact ha q h
    · obtain rfl := List.mem_singleton.1 h; exact encL_byte 3 p hp
  · split at hq
    · rcases List.mem_append.1 hq with h | h
      · split at h
        · exact hd q h
        · exact ha q h
      · obtain rfl := List.mem_singleton.1 h; simp
    · split at hq
      · exact hd q hq
      · exact ha q hq
theorem pathG_byte : ∀ (s : List Int) (acc : List (List Int)) (cur : List Int), (∀ q ∈ acc, ∀ c ∈ q, 0 ≤ c ∧ c < 256) → (∀ c ∈ cur, 0 ≤ c ∧ c < 256) → (∀ c ∈ s, 0 ≤ c ∧ c < 256) → ∀ q ∈ pathG acc cur s, ∀ c ∈ q, 0 ≤ c ∧ c < 256
  | [], acc, cur, ha, hc, _ => step_byte ha hc
  | d :: t, acc, cur, ha, hc, hs => by
    rw [pathG]
    split
    · exact pathG_byte t _ [] (step_byte ha hc) (by simp) fun x hx => hs x (by simp [hx])
    · exact pathG_byte t acc _ ha (fun x hx => by
        rcases List.mem_append.1 hx with h | h
        · exact hc x h
        · obtain rfl := List.mem_singleton.1 h; exact hs _ (by simp)) fun x hx => hs x (by simp [hx])
theorem join_slash_eq : ∀ (y : List (List Int)), y ≠ [] → (∀ q ∈ y, ∀ c ∈ q, 0 ≤ c ∧ c < 256) → 47 :: joinGo y [47] = slashL y := by
  intro y hy hb
  rw [joinGo_eq]
  have key : ∀ y : List (List Int), y ≠ [] → (47 : Int) :: ([47] : List Int).intercalate y = slashL y := by
    intro y
    induction y with
    | nil => intro h; exact absurd rfl h
    | cons p t ih =>
      intro _
      cases t with
      | nil => simp [slashL, List.intercalate]
      | cons q t =>
        have := ih (by simp)
        unfold slashL at this ⊢
        rw [List.flatMap_cons, ← this]
        simp [List.intercalate]
  rw [← key y hy]
  congr 1
  have hall : ∀ c ∈ ([47] : List Int).intercalate y, 0 ≤ c ∧ c < 256 := fun c hc => by
    have h1 : c ∈ slashL y := by rw [← key y hy]; simp [hc]
    unfold slashL at h1
    obtain ⟨q, hq, h2⟩ := List.mem_flatMap.1 h1
    rcases List.mem_cons.1 h2 with rfl | h2
    · omega
    · exact hb q hq c h2
  conv => rhs; rw [← List.map_id (([47] : List Int).intercalate y)]
  refine List.map_congr_left fun c hc => ?_
  have := hall c hc
  simp; omega
/-- behind the authority: a part up to ? and #, then those -/
theorem path_eq {s : List Int} (hb : ∀ c ∈ s, 0 ≤ c ∧ c < 256) (hs : s = [] ∨ ∃ c t, s = c :: t ∧ c ∈ ([47, 92, 63, 35] : List Int)) : pathU s = pathL (s.take (upL [63, 35] s)) ∧ (pathRunU [] s).2 = s.drop (upL [63, 35] s) := by
  rcases hs with rfl | ⟨c, t, rfl, hc⟩
  · exact ⟨by unfold pathU; rw [pathRunU, if_pos rfl]; rfl, by rw [pathRunU]; rfl⟩
  · by_cases hsl : c = 47 ∨ c = 92
    · have hd2 : c ∉ ([63, 35] : List Int) := by rcases hsl with rfl | rfl <;> decide
      have htb : ∀ x ∈ t, 0 ≤ x ∧ x < 256 := fun x hx => hb x (by simp [hx])
      have hr := path_run _ t [] c (Nat.le_refl _) htb hsl
      rw [upL, if_neg hd2, List.take_succ_cons, List.drop_succ_cons]
      refine ⟨?_, by rw [hr]⟩
      unfold pathU pathL
      rw [hr, List.tail_cons, if_neg (show ¬ c :: t.take (upL [63, 35] t) = [] from List.cons_ne_nil _ _)]
      simp only
      by_cases he : pathG [] [] (t.take (upL [63, 35] t)) = []
      · rw [if_pos he, if_pos he]
      · rw [if_neg he, if_neg he]
        exact join_slash_eq _ he (pathG_byte _ _ _ (by simp) (by simp) fun x hx => htb x (List.mem_of_mem_take hx))
    · have hd2 : c ∈ ([63, 35] : List Int) := by simp at hc ⊢; omega
      rw [upL, if_pos hd2]
      refine ⟨?_, by rw [pathRunU_stop hsl]; rfl⟩
      unfold pathU
      rw [pathRunU_stop hsl, if_pos rfl]; rfl
theorem port_eq (sch q : List Int) : portV sch q = match portRun 0 q with
    | none => none
    | some n => some (if q = [] ∨ n = (defaultL sch).1 then -1 else n) := by
  have key : ∀ (q : List Int) (n : Int), portRun n q = if digitsB 10 q = true then portA n q else none := by
    intro q
    induction q with
    | nil => intro n; rfl
    | cons c t ih =>
      intro n
      have hd : digitsB 10 (c :: t) = (decide (48 ≤ c ∧ c ≤ 57) && digitsB 10 t) := by
        unfold digitsB
        rw [List.all_cons]
        congr 1
        apply decide_eq_decide.2
        unfold hexv
        split
        · omega
        · split
          · omega
          · split <;> omega
      rw [portRun, hd]
      by_cases h1 : 48 ≤ c ∧ c ≤ 57
      · rw [if_neg (by omega), decide_eq_true h1, Bool.true_and, portA]
        by_cases h2 : 65535 < 10 * n + (c - 48)
        · rw [if_pos h2, if_pos h2]; split <;> rfl
        · rw [if_neg h2, if_neg h2, ih]
      · rw [if_pos (by omega), decide_eq_false h1, Bool.false_and, if_neg (by simp)]
  unfold portV
  by_cases hq : q = []
  · subst hq; rfl
  · rw [if_neg hq, key]
    by_cases hd : digitsB 10 q = true
    · rw [if_pos hd, if_pos hd]
      cases portA 0 q with
      | none => rfl
      | some n =>
        show some (if n = (defaultL sch).1 then -1 else n) = some _
        by_cases h : n = (defaultL sch).1
        · rw [if_pos h, if_pos (.inr h)]
        · rw [if_neg h, if_neg (by rintro (e | e); exact hq e; exact h e)]
    · rw [if_neg hd, if_neg hd]
/-- the authority, as the program reads it -/
theorem auth_eq (l : List Int) (sch : List Int) : (if (authW sch (restL (l.take (upL [47, 92, 63, 35] l))) [] 0).1 = true then
    authUR l { urlZ with sch := sch } = (true, { urlZ with sch := sch, us := userL (l.take (upL [47, 92, 63, 35] l)) [], pa := passL (l.take (upL [47, 92, 63, 35] l)) [], ho := (authW sch (restL (l.take (upL [47, 92, 63, 35] l))) [] 0).2.1, po := (authW sch (restL (l.take (upL [47, 92, 63, 35] l))) [] 0).2.2 })
    else (authUR l { urlZ with sch := sch }).1 = false) := by
  unfold authUR
  generalize l.take (upL [47, 92, 63, 35] l) = s
  have hat : atL s = lastU 64 s := by unfold atL; rw [last_at]
  have h1 : auT s { urlZ with sch := sch } = (restL s, { urlZ with sch := sch, us := userL s [], pa := passL s [] }) := by
    unfold auT restL userL passL
    rw [hat]
    by_cases h : 0 ≤ lastU 64 s
    · rw [if_pos h, if_pos h, if_pos h, if_pos h, cut_up]
      simp only
      congr 2
      split
      · rfl
      · rename_i hle
        rw [List.drop_eq_nil_of_le (by omega)]; rfl
    · rw [if_neg h, if_neg h, if_neg h, if_neg h]; rfl
  rw [h1]
  generalize restL s = r
  simp only
  unfold auH authW hostP
  rw [cut_up]
  simp only
  cases hh : hostL (r.take (upL [58] r)) with
  | none => simp
  | some ho =>
    simp only [Option.map_some]
    unfold portUR
    have hpe := port_eq sch (r.drop (upL [58] r + 1))
    by_cases hle : upL [58] r = r.length
    · rw [if_pos hle, List.drop_eq_nil_of_le (by omega)]
      simp [portRun]
    · rw [if_neg hle, hpe]
      cases portRun 0 (r.drop (upL [58] r + 1)) with
      | none => simp
      | some n => simp
/-- behind the path -/
theorem tail_eq {s : List Int} (hs : s = [] ∨ ∃ c t, s = c :: t ∧ c ∈ ([47, 92, 63, 35] : List Int)) (u : Url) (hu : u.qu = [] ∧ u.fr = []) : fragU (queryU (s.drop (upL [63, 35] s)) u).1 (queryU (s.drop (upL [63, 35] s)) u).2 = { u with
    q := decide (upL [63] (cutF s) < (cutF s).length), qu := if upL [63] (cutF s) < (cutF s).length then encL 2 ((cutF s).drop (upL [63] (cutF s) + 1)) else []
    f := decide (upL [35] s < s.length), fr := if upL [35] s < s.length then encL 1 (s.drop (upL [35] s + 1)) else [] } ∧ (cutF s).take (upL [63] (cutF s)) = s.take (upL [63, 35] s) := by
  obtain ⟨hq, hf⟩ := hu
  obtain ⟨A, R, hl, hA, hR, hlen, hm, hcase⟩ := upL_split [63, 35] s
  rw [← hR, ← hA]
  have a63 : ∀ c ∈ A, c ∉ ([63] : List Int) := fun d hd e => hm d hd (by simp at e ⊢; omega)
  have a35 : ∀ c ∈ A, c ∉ ([35] : List Int) := fun d hd e => hm d hd (by simp at e ⊢; omega)
  have u35 : upL [35] s = A.length + upL [35] R := by rw [hl]; exact upL_app a35
  have hc : cutF s = A ++ R.take (upL [35] R) := by
    unfold cutF
    rw [u35, hl, List.take_append, List.take_of_length_le (by omega), Nat.add_sub_cancel_left]
  have u63 : upL [63] (cutF s) = A.length + upL [63] (R.take (upL [35] R)) := by rw [hc]; exact upL_app a63
  have hsl : s.length = A.length + R.length := by rw [hl, List.length_append]
  have hcl : (cutF s).length = A.length + (R.take (upL [35] R)).length := by rw [hc, List.length_append]
  have hdr : s.drop (upL [35] s + 1) = R.drop (upL [35] R + 1) := by
    rw [u35, hl, List.drop_append, List.drop_eq_nil_of_le (by omega), List.nil_append, Nat.add_assoc, Nat.add_sub_cancel_left]
  have hdc : (cutF s).drop (upL [63] (cutF s) + 1) = (R.take (upL [35] R)).drop (upL [63] (R.take (upL [35] R)) + 1) := by
    rw [u63, hc, List.drop_append, List.drop_eq_nil_of_le (by omega), List.nil_append, Nat.add_assoc, Nat.add_sub_cancel_left]
  have htc : (cutF s).take (upL [63] (cutF s)) = A ++ (R.take (upL [35] R)).take (upL [63] (R.take (upL [35] R))) := by
    rw [u63, hc, List.take_append, List.take_of_length_le (by omega), Nat.add_sub_cancel_left]
  rw [hdr, hdc, htc, u35, u63, hsl, hcl]
  have i1 : (A.length + upL [35] R < A.length + R.length) = (upL [35] R < R.length) := propext (by omega)
  have i2 : (A.length + upL [63] (R.take (upL [35] R)) < A.length + (R.take (upL [35] R)).length) = (upL [63] (R.take (upL [35] R)) < (R.take (upL [35] R)).length) := propext (by omega)
  simp only [i1, i2]
  clear hdr hdc htc u35 u63 hsl hcl i1 i2 hc hA hR hl
  have frag : ∀ (L : List Int) (v : Url), v.fr = [] → (L = [] ∨ ∃ t, L = 35 :: t) → fragU L v = { v with f := decide (0 < L.length), fr := if 0 < L.length then encL 1 (L.drop 1) else [] } := by
    intro L v hv hL
    unfold fragU
    rcases hL with rfl | ⟨t, rfl⟩
    · rw [show passK [35] [] = 0 from rfl, if_neg (by simp)]
      simp [hv]
    · rw [show passK [35] (35 :: t) = 1 from rfl, if_pos rfl]
      simp
  rcases hcase with rfl | ⟨d, t, rfl, hd⟩
  · unfold queryU
    rw [show passK [63] [] = 0 from rfl, if_neg (by simp)]
    simp only
    rw [frag []]
    · simp [upL, hq]
    · exact hf
    · exact .inl rfl
  · simp at hd
    rcases hd with rfl | rfl
    · have h1 : upL [35] (63 :: t) = upL [35] t + 1 := by rw [upL, if_neg (by decide)]
      unfold queryU
      rw [show passK [63] (63 :: t) = 1 from rfl, if_pos rfl]
      simp only [List.drop_succ_cons, List.drop_zero]
      have hdt := upL_drop (m := [35]) t
      rw [frag (t.drop (upL [35] t))]
      · have u0 : ∀ r : List Int, upL [63] (63 :: r) = 0 := fun r => by rw [upL, if_pos (by simp)]
        rw [h1, List.take_succ_cons, u0]
        have hl := upL_le [35] t
        have i3 : (0 < (t.drop (upL [35] t)).length) = (upL [35] t + 1 < (63 :: t).length) := propext (by rw [List.length_drop, List.length_cons]; omega)
        simp only [i3, List.drop_drop]
        simp <;> (intro h; rw [List.drop_eq_nil_of_le (by omega)]; rfl)
      · exact hf
      · rcases hdt with h | ⟨c, r, h, hc⟩
        · exact .inl h
        · obtain rfl := List.mem_singleton.1 hc; exact .inr ⟨r, h⟩
    · unfold queryU
      rw [show passK [63] (35 :: t) = 0 from rfl, if_neg (by simp)]
      simp only
      rw [frag (35 :: t)]
      · simp [upL, hq]
      · exact hf
      · exact .inr ⟨t, rfl⟩
theorem parse_eq {l : List Int} (hb : ∀ c ∈ l, 0 ≤ c ∧ c < 256) : parseU l = urlL l := by
  unfold parseU urlL
  by_cases h1 : 65536 < l.length
  · rw [if_pos h1, if_pos h1]
  rw [if_neg h1, if_neg h1, validR_eq _ _ (Nat.le_refl _) hb, clean_go hb]
  by_cases h2 : ¬ utf8B l = true
  · rw [if_neg h2, if_neg h2]
  have h2 : utf8B l = true := by simpa using h2
  rw [if_pos h2, if_pos h2]
  have hcb : ∀ c ∈ cleanL l, 0 ≤ c ∧ c < 256 := by
    intro c hc
    unfold cleanL trimR at hc
    have h1 := (List.mem_filter.1 hc).1
    rw [trimL_eq, trimL_eq] at h1
    exact hb c ((List.dropWhile_sublist _).mem (List.mem_reverse.1 ((List.dropWhile_sublist _).mem (List.mem_reverse.1 h1))))
  generalize cleanL l = s at hcb
  unfold parseU1 url1
  have hsc := sch_eq s urlZ hcb
  by_cases h3 : ¬ (defaultL (lowerL (s.take (schemeN s)))).2 = true
  · rw [if_neg h3] at hsc ⊢
    rw [hsc]; rfl
  have h3 : (defaultL (lowerL (s.take (schemeN s)))).2 = true := by simpa using h3
  rw [if_pos h3] at hsc ⊢
  rw [hsc, if_pos rfl]
  simp only
  generalize lowerL (s.take (schemeN s)) = sch
  have hxb : ∀ c ∈ skipL (s.drop (schemeN s + 1)), 0 ≤ c ∧ c < 256 := by
    have key : ∀ l : List Int, ∀ c ∈ skipL l, c ∈ l := by
      intro l
      induction l with
      | nil => intro c hc; exact hc
      | cons d t ih =>
        intro c hc
        rw [skipL] at hc
        split at hc
        · simp [ih c hc]
        · exact hc
    intro c hc
    exact hcb c (List.mem_of_mem_drop (key _ c hc))
  generalize skipL (s.drop (schemeN s + 1)) = x at hxb
  clear hsc h3 hcb h2 h1 hb
  unfold parseU2 url2
  have hau := auth_eq x sch
  have hs2 := upL_drop (m := [47, 92, 63, 35]) x
  obtain ⟨W, hW⟩ : ∃ W, authW sch (restL (x.take (upL [47, 92, 63, 35] x))) [] 0 = W := ⟨_, rfl⟩
  rw [hW] at hau ⊢
  obtain ⟨w1, w2, w3⟩ := W
  simp only at hau
  cases w1 with
  | false =>
    rw [if_neg (by simp)] at hau
    rw [hau, if_neg (by simp)]
  | true =>
    rw [if_pos rfl] at hau
    rw [hau, if_pos rfl]
    simp only
    congr 1
    generalize x.take (upL [47, 92, 63, 35] x) = a
    have hsb : ∀ c ∈ x.drop (upL [47, 92, 63, 35] x), 0 ≤ c ∧ c < 256 := fun c hc => hxb c (List.mem_of_mem_drop hc)
    generalize x.drop (upL [47, 92, 63, 35] x) = s2 at hs2 hsb
    obtain ⟨p1, p2⟩ := path_eq hsb hs2
    unfold parseU3
    rw [p1, p2]
    have := tail_eq hs2 { urlZ with sch := sch, us := userL a [], pa := passL a [], ho := w2, po := w3, path := pathL (s2.take (upL [63, 35] s2)) } ⟨rfl, rfl⟩
    rw [this.1]
    unfold url3
    rw [this.2]
end GoD
