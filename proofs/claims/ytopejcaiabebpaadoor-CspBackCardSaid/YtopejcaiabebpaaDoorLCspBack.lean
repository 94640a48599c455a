import Derived.Test.YtopejcaiabebpaaDoorJ
import Derived.Test.YtopejcaiabebpaaDoorK14
import Derived.Test.YtopejcaiabebpaaDoorPAx12
namespace Go.Proofs.YtopejcaiabebpaaDoor.PA
open Go.RowKit Go.Proofs.YtopejcaiabebpaaDoorW.PrintWords Go.Proofs.YtopejcaiabebpaaDoorW.PrintLast Go.Proofs.YtopejcaiabebpaaDoorW.PrintMore Go.Proofs.YtopejcaiabebpaaDoorPL
open Go.Proofs.YtopejcaiabebpaaDoorWS
set_option linter.unusedVariables false
theorem splitL_nosep {sep : Int} : ∀ {xs p : List Int}, p ∈ splitL sep xs → sep ∉ p
  | [], p, h => by rw [show splitL sep [] = [[]] from rfl] at h; rw [List.mem_singleton.1 h]; simp
  | x :: xs, p, h => by
    rw [splitL] at h
    by_cases hx : x = sep
    · rw [if_pos hx] at h
      rcases List.mem_cons.1 h with rfl | h
      · simp
      · exact splitL_nosep h
    · rw [if_neg hx] at h
      cases hs : splitL sep xs with
      | nil => exact absurd hs (splitL_ne sep xs)
      | cons q qs =>
        rw [hs] at h
        rcases List.mem_cons.1 h with rfl | h
        · have := splitL_nosep (xs := xs) (p := q) (by rw [hs]; exact List.mem_cons_self)
          simp [this, Ne.symm hx]
        · exact splitL_nosep (xs := xs) (by rw [hs]; exact List.mem_cons_of_mem _ h)
theorem blanksG_word : ∀ (w cur rest : List Int), (∀ c ∈ w, blB c = false) → blanksG cur (w ++ rest) = blanksG (cur ++ w) rest
  | [], cur, rest, _ => by simp
  | c :: w, cur, rest, h => by
    rw [List.cons_append, blanksG, if_neg (by rw [h c List.mem_cons_self]; simp), blanksG_word w _ rest (fun x hx => h x (List.mem_cons_of_mem _ hx)), List.append_assoc]
    rfl
/-- a word: some bytes, no blank, no ; -/
def Wd (w : List Int) : Prop := w ≠ [] ∧ ∀ c ∈ w, blB c = false ∧ c ≠ 59 ∧ c < 128
def Good (d : Dr) : Prop := Wd d.1 ∧ Small d.1 ∧ ∀ x ∈ d.2, Wd x
theorem blanksG_good : ∀ (xs cur : List Int), (∀ c ∈ cur, blB c = false) → ∀ w ∈ blanksG cur xs, w ≠ [] ∧ ∀ c ∈ w, blB c = false
  | [], cur, hc, w, hw => by
    rw [blanksG] at hw
    by_cases h : cur = []
    · rw [if_pos h] at hw; cases hw
    · rw [if_neg h] at hw; rw [List.mem_singleton.1 hw]; exact ⟨h, hc⟩
  | x :: xs, cur, hc, w, hw => by
    rw [blanksG] at hw
    by_cases hb : blB x = true
    · rw [if_pos hb] at hw
      by_cases h : cur = []
      · rw [if_pos h] at hw; exact blanksG_good xs [] (fun c h => by cases h) w hw
      · rw [if_neg h] at hw
        rcases List.mem_cons.1 hw with rfl | hw
        · exact ⟨h, hc⟩
        · exact blanksG_good xs [] (fun c h => by cases h) w hw
    · rw [if_neg hb] at hw
      refine blanksG_good xs _ (fun c h => ?_) w hw
      rcases List.mem_append.1 h with h | h
      · exact hc c h
      · rw [List.mem_singleton.1 h]; simpa using hb
theorem cspL_good {xs : List Int} : ∀ d ∈ cspL xs, Good d := by
  intro d hd
  have hS := (cspL_names xs).1 d hd
  obtain ⟨p, hp, hA, hne, rfl⟩ := cspL_mem hd
  have hW : ∀ w ∈ blanksL p, Wd w := fun w hw => by
    have h1 := blanksG_good p [] (fun c h => by cases h) w hw
    refine ⟨h1.1, fun c hc => ⟨h1.2 c hc, ?_, ?_⟩⟩
    · rcases blanksG_mem p [] w hw c hc with h | h
      · cases h
      · intro e; subst e; exact splitL_nosep hp h
    · rcases blanksG_mem p [] w hw c hc with h | h
      · cases h
      · have := List.all_eq_true.1 hA c h; simpa using this
  refine ⟨?_, hS, fun x hx => hW x (List.mem_of_mem_drop hx)⟩
  have h1 := hW _ (headD_mem hne)
  refine ⟨fun e => h1.1 (by have h2 : (lowerL ((blanksL p).headD [])).length = 0 := by rw [show lowerL ((blanksL p).headD []) = [] from e]; rfl
                            rw [lowerL_length] at h2; exact List.eq_nil_of_length_eq_zero h2), fun c hc => ?_⟩
  obtain ⟨b, hb, rfl⟩ := List.mem_map.1 hc
  have h2 := h1.2 b hb
  unfold lowB
  by_cases h3 : 65 ≤ b ∧ b ≤ 90
  · rw [if_pos h3]
    refine ⟨?_, by omega, by omega⟩
    rw [blB_eq, beq_false_of_ne (by omega), beq_false_of_ne (by omega), beq_false_of_ne (by omega), beq_false_of_ne (by omega), beq_false_of_ne (by omega)]
    rfl
  · rw [if_neg h3]; exact h2
theorem blanksG_row : ∀ (r : List (List Int)) (cur : List Int), cur ≠ [] → (∀ x ∈ r, Wd x) → blanksG cur (r.map fun x => 32 :: x).flatten = cur :: r
  | [], cur, hc, _ => by rw [List.map_nil, List.flatten_nil, blanksG, if_neg hc]
  | x :: r, cur, hc, h => by
    have hx := h x List.mem_cons_self
    rw [List.map_cons, List.flatten_cons, List.cons_append, blanksG, if_pos (by decide), if_neg hc, blanksG_word x [] _ (fun c h => (hx.2 c h).1), List.nil_append, blanksG_row r x hx.1 (fun y hy => h y (List.mem_cons_of_mem _ hy))]
theorem blanks_dir {d : Dr} (h : Good d) : blanksL (dirL d) = d.1 :: d.2 := by
  unfold blanksL
  rw [dirL, blanksG_word d.1 [] _ (fun c hc => (h.1.2 c hc).1), List.nil_append, blanksG_row d.2 d.1 h.1.1 h.2.2]
theorem blanks_dir2 {d : Dr} (h : Good d) : blanksL (32 :: dirL d) = d.1 :: d.2 := by
  show blanksG [] (32 :: dirL d) = _
  rw [blanksG, if_pos (by decide), if_pos rfl]
  exact blanks_dir h
theorem dir_bytes {d : Dr} (h : Good d) : ∀ c ∈ dirL d, c ≠ 59 ∧ c < 128 := by
  intro c hc
  rw [dirL] at hc
  rcases List.mem_append.1 hc with hc | hc
  · exact (h.1.2 c hc).2
  · obtain ⟨l, hl, hx⟩ := List.mem_flatten.1 hc
    obtain ⟨y, hy, rfl⟩ := List.mem_map.1 hl
    rcases List.mem_cons.1 hx with rfl | hx
    · omega
    · exact ((h.2.2 y hy).2 c hx).2
theorem csplit_text : ∀ (t : List Dr) (p : List Int), (59 : Int) ∉ p → (∀ d ∈ t, Good d) → splitL 59 (p ++ (t.map fun e => 59 :: 32 :: dirL e).flatten) = p :: t.map fun e => 32 :: dirL e
  | [], p, hp, _ => by rw [List.map_nil, List.flatten_nil, List.append_nil, splitL_none hp]; rfl
  | d :: t, p, hp, h => by
    have hd := dir_bytes (h d List.mem_cons_self)
    rw [List.map_cons, List.flatten_cons, List.cons_append, splitL_app, splitL_none hp, csplit_text t (32 :: dirL d) (by simp only [List.mem_cons, not_or]; exact ⟨by decide, fun h => (hd 59 h).1 rfl⟩) (fun e he => h e (List.mem_cons_of_mem _ he))]
    rfl
theorem lower_small {w : List Int} (h : Small w) : lowerL w = w := by
  unfold lowerL
  conv => rhs; rw [← List.map_id w]
  apply List.map_congr_left
  intro c hc
  have := (h c hc).1
  unfold lowB
  rw [if_neg this]; rfl
theorem step_good {acc : List Dr} {d : Dr} {p : List Int} (h : Good d) (hp : blanksL p = d.1 :: d.2) (hA : asciiB p = true) (hn : ∀ e ∈ acc, e.1 ≠ d.1) : cspStep acc p = acc ++ [d] := by
  unfold cspStep
  rw [hp, if_neg (by simp [hA]), List.headD_cons, lower_small h.2.1, if_neg ?_]
  · rfl
  · rw [Bool.not_eq_true, List.any_eq_false]
    intro e he
    rw [beq_iff_eq]
    exact hn e he
theorem ascii_dir {d : Dr} (h : Good d) : asciiB (dirL d) = true := List.all_eq_true.2 fun c hc => decide_eq_true (dir_bytes h c hc).2
theorem names_tail {acc t : List Dr} {d : Dr} (h : Names (acc ++ d :: t)) : ∀ e ∈ acc, e.1 ≠ d.1 := by
  intro e he
  obtain ⟨k, hk, rfl⟩ := List.getElem_of_mem he
  have := h.2 acc.length k hk (by simp)
  rw [List.getD_eq_getElem?_getD, List.getD_eq_getElem?_getD, List.getElem?_append_left hk, List.getElem?_append_right (Nat.le_refl _), Nat.sub_self, List.getElem?_eq_getElem hk] at this
  exact this
theorem fold_text : ∀ (t acc : List Dr), (∀ d ∈ t, Good d) → Names (acc ++ t) → (t.map fun e => 32 :: dirL e).foldl cspStep acc = acc ++ t
  | [], acc, _, _ => by simp
  | d :: t, acc, h, hN => by
    have hd := h d List.mem_cons_self
    rw [List.map_cons, List.foldl_cons, step_good hd (blanks_dir2 hd) (by show (decide ((32 : Int) < 128) && asciiB (dirL d)) = true; rw [ascii_dir hd]; rfl) (names_tail hN), fold_text t _ (fun e he => h e (List.mem_cons_of_mem _ he)) (by rw [List.append_assoc]; exact hN), List.append_assoc]
    rfl
theorem csp_back (xs : List Int) : cspL (ctextL (cspL xs)) = cspL xs := by
  have hg := cspL_good (xs := xs)
  have hN := cspL_names xs
  generalize cspL xs = l at hg hN
  cases l with
  | nil => rfl
  | cons d t =>
    have hd := hg d List.mem_cons_self
    rw [ctextL, cspL, csplit_text t (dirL d) (fun h => (dir_bytes hd 59 h).1 rfl) (fun e he => hg e (List.mem_cons_of_mem _ he)), List.foldl_cons, step_good hd (blanks_dir hd) (ascii_dir hd) (fun e he => by cases he), List.nil_append, fold_text t [d] (fun e he => hg e (List.mem_cons_of_mem _ he)) hN]
    rfl
/-! how long what is written is -/
def wsum (l : List (List Int)) : Nat := (l.map fun w => w.length + 1).sum
theorem blanksG_sum : ∀ (xs cur : List Int), wsum (blanksG cur xs) ≤ cur.length + xs.length + 1
  | [], cur => by rw [blanksG]; split <;> simp [wsum]
  | x :: xs, cur => by
    rw [blanksG]
    by_cases hb : blB x = true
    · rw [if_pos hb]
      have h := blanksG_sum xs []
      simp only [List.length_nil, List.length_cons] at h ⊢
      by_cases hc : cur = []
      · rw [if_pos hc]; omega
      · rw [if_neg hc]; show (cur.length + 1) + wsum _ ≤ _; omega
    · rw [if_neg hb]
      have h := blanksG_sum xs (cur ++ [x])
      simp only [List.length_append, List.length_nil, List.length_cons] at h ⊢
      omega
theorem flat_sum : ∀ (r : List (List Int)), (r.map fun x => 32 :: x).flatten.length = wsum r
  | [] => rfl
  | x :: r => by rw [List.map_cons, List.flatten_cons, List.length_append, flat_sum r]; show _ = (x.length + 1) + wsum r; rfl
def wt (l : List Dr) : Nat := (l.map fun d => (dirL d).length + 2).sum
theorem step_wt (acc : List Dr) (p : List Int) : wt (cspStep acc p) ≤ wt acc + (p.length + 2) := by
  unfold cspStep
  split
  · omega
  · rename_i h
    split
    · omega
    · have hne : blanksL p ≠ [] := fun e => h (.inr e)
      have h1 := blanksG_sum p []
      unfold wt
      rw [List.map_append, List.sum_append]
      simp only [List.map_cons, List.map_nil, List.sum_cons, List.sum_nil]
      rw [dirL, List.length_append, flat_sum, lowerL_length]
      have h2 : blanksL p = (blanksL p).headD [] :: (blanksL p).drop 1 := by cases hb : blanksL p with | nil => exact absurd hb hne | cons a b => rfl
      have h3 : wsum (blanksL p) = (((blanksL p).headD []).length + 1) + wsum ((blanksL p).drop 1) := by rw [h2]; rfl
      have h4 : wsum (blanksL p) ≤ p.length + 1 := by have := h1; simpa [blanksL] using this
      show _ + ((((blanksL p).headD []).length + wsum ((blanksL p).drop 1) + 2) + 0) ≤ _
      omega
theorem fold_wt : ∀ (ps : List (List Int)) (acc : List Dr), wt (ps.foldl cspStep acc) ≤ wt acc + (ps.map fun p => p.length + 2).sum
  | [], acc => by simp
  | p :: ps, acc => by
    have h1 := fold_wt ps (cspStep acc p)
    have h2 := step_wt acc p
    rw [List.foldl_cons, List.map_cons, List.sum_cons]
    omega
theorem split_sum : ∀ (xs : List Int), ((splitL 59 xs).map fun p => p.length + 2).sum ≤ 2 * xs.length + 2
  | [] => by decide
  | x :: xs => by
    have h := split_sum xs
    rw [splitL]
    by_cases hx : x = 59
    · rw [if_pos hx, List.map_cons, List.sum_cons]; simp only [List.length_nil, List.length_cons]; omega
    · rw [if_neg hx]
      cases hs : splitL 59 xs with
      | nil => exact absurd hs (splitL_ne 59 xs)
      | cons q qs =>
        rw [hs] at h
        simp only [List.map_cons, List.sum_cons, List.length_cons] at h ⊢
        omega
theorem ctext_wt : ∀ (l : List Dr), (ctextL l).length ≤ wt l
  | [] => Nat.le_refl _
  | d :: t => by
    have h : ∀ (t : List Dr), (t.map fun e => 59 :: 32 :: dirL e).flatten.length = wt t := by
      intro t
      induction t with
      | nil => rfl
      | cons e t ih => rw [List.map_cons, List.flatten_cons, List.length_append, ih]; rfl
    rw [ctextL, List.length_append, h t]
    show _ ≤ ((dirL d).length + 2) + wt t
    omega
theorem ctext_short {xs : List Int} (h : xs.length ≤ 4000) : (ctextL (cspL xs)).length ≤ 8002 := by
  have h1 := ctext_wt (cspL xs)
  have h2 := fold_wt (splitL 59 xs) []
  have h3 := split_sum xs
  have h4 : wt [] = 0 := rfl
  unfold cspL at h1 ⊢
  omega
theorem CspBack (a0 : ByteArray) (h0 : a0.size ≤ 140737488351232) : ∃ k, parapetlaw14_CspBack.f k a0 = some true := by
  apply Ev.rounds
  obtain ⟨xs, rfl, hx, hl⟩ := st_of a0
  unfold parapetlaw14_CspBack.f
  rw [st_size]
  by_cases h : xs.length > 3000
  · exact ev_pos (by omega) awake14b
  · have hok := cspL_ok hx (show xs.length < 1048576 by omega)
    have hfit := cspL_fit hx (show xs.length ≤ 4000 by omega)
    have hcnt := cspL_count (show xs.length ≤ 4000 by omega)
    have hs := ctext_short (show xs.length ≤ 4000 by omega)
    refine ev_neg (by omega) (Ev.bind (cspParse_f hx (by omega)) (Ev.bind (cspText_f hfit hcnt) (Ev.bind (cspParse_f (ctextL_bytes hok) (by omega)) ?_)))
    rw [csp_back]
    exact Ev.bind (same_f hok hok (by omega)) (ev_pos (by simp) awake14b)
end Go.Proofs.YtopejcaiabebpaaDoor.PA
