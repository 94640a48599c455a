import Derived.Test.YtopejcaiabebpaaDoorI
import Derived.Test.YtopejcaiabebpaaDoorPAx11
import Derived.Test.YtopejcaiabebpaaDoorXJ
namespace Go.Proofs.YtopejcaiabebpaaDoor.PA
open Go.RowKit Go.Proofs.YtopejcaiabebpaaDoorW.PrintWords Go.Proofs.YtopejcaiabebpaaDoorW.PrintLast Go.Proofs.YtopejcaiabebpaaDoorW.PrintMore Go.Proofs.YtopejcaiabebpaaDoorPL
open Go.Proofs.YtopejcaiabebpaaDoorWS
set_option linter.unusedVariables false
set_option linter.unusedSimpArgs false
/-! Texts of directives -/
theorem Join_f {x : List Int} {r : List (List Int)} {sep : List Int} (h : (x ++ (r.map fun y => sep ++ y).flatten).length ≤ 140737488355328) (hr : r.length < 140737488355328) : strings_Join.f ((x :: r).map st) (st sep) = some (st (x ++ (r.map fun y => sep ++ y).flatten)) := by
  have e : Lib.join (((x :: r).map st).map (·.data.toList)) (st sep).data.toList = (x ++ (r.map fun y => sep ++ y).flatten).map fun z => UInt8.ofNat z.toNat := by
    rw [List.map_cons, List.map_cons, Lib.join_cons, List.map_append, Lib.joinTail]
    have e2 : (((r.map st).map (·.data.toList)).map ((st sep).data.toList ++ ·)).flatten = (r.map fun y => sep ++ y).flatten.map fun z => UInt8.ofNat z.toNat := by
      rw [List.map_map, List.map_map, List.map_flatten, List.map_map]
      congr 1
      apply List.map_congr_left
      intro y _
      show (st sep).data.toList ++ (st y).data.toList = List.map _ (sep ++ y)
      rw [List.map_append, strOfNums_data, strOfNums_data]
    rw [e2, show (st x).data.toList = _ from strOfNums_data x]
  unfold strings_Join.f
  rw [if_pos (by rw [List.length_map, List.length_cons]; omega), e, if_pos (by rw [List.length_map]; exact h)]
  rfl
theorem Join_nil {sep : List Int} : strings_Join.f [] (st sep) = some (st []) := rfl
theorem flat_length {r : List (List Int)} {B n : Nat} (sep : List Int) (hr : ∀ y ∈ r, y.length ≤ B) (hn : r.length ≤ n) : (r.map fun y => sep ++ y).flatten.length ≤ n * (sep.length + B) := by
  induction r generalizing n with
  | nil => simp
  | cons a r ih =>
    cases n with
    | zero => simp at hn
    | succ n =>
      have h1 := ih (n := n) (fun y hy => hr y (List.mem_cons_of_mem _ hy)) (by simpa using hn)
      have h2 := hr a List.mem_cons_self
      rw [List.map_cons, List.flatten_cons, List.length_append, List.length_append, Nat.succ_mul]
      omega
/-- how great a directive may be -/
def FitD (d : Dr) : Prop := OkD d ∧ d.1.length ≤ 4000 ∧ d.2.length ≤ 4001 ∧ ∀ x ∈ d.2, x.length ≤ 4000
theorem dirL_length {d : Dr} (h : FitD d) : (dirL d).length ≤ 16020001 := by
  have := flat_length [32] h.2.2.2 h.2.2.1
  have h1 := h.2.1
  rw [dirL, List.length_append]
  simp only [List.length_cons, List.length_nil, List.singleton_append] at this
  omega
theorem dirL_bytes {d : Dr} (h : OkD d) : Bytes (dirL d) := by
  rw [dirL]
  refine h.1.append (fun x hx => ?_)
  obtain ⟨l, hl, hx⟩ := List.mem_flatten.1 hx
  obtain ⟨y, hy, rfl⟩ := List.mem_map.1 hl
  rcases List.mem_cons.1 hx with rfl | hx
  · omega
  · exact h.2.1 y hy x hx
theorem ctextL_bytes {l : List Dr} (h : ∀ d ∈ l, OkD d) : Bytes (ctextL l) := by
  cases l with
  | nil => exact Bytes.nil
  | cons a l =>
    rw [ctextL]
    refine (dirL_bytes (h a List.mem_cons_self)).append (fun x hx => ?_)
    obtain ⟨l', hl, hx⟩ := List.mem_flatten.1 hx
    obtain ⟨y, hy, rfl⟩ := List.mem_map.1 hl
    rcases List.mem_cons.1 hx with rfl | hx
    · omega
    · rcases List.mem_cons.1 hx with rfl | hx
      · omega
      · exact dirL_bytes (h y (List.mem_cons_of_mem _ hy)) x hx
theorem cspText_l0 {l : List Dr} (hl : ∀ d ∈ l, FitD d) (hn : l.length ≤ 4001) : ∀ (d i : Nat), l.length - i = d → i ≤ l.length →
    Ev (fun k => csp_Text.l0 k ((l.take i).map fun d => st (dirL d)) (l.map dst) (l.length : Int) (i : Int)) (st (ctextL l))
  | 0, i, hd, hi => by
    have : i = l.length := by omega
    subst this
    rw [List.take_length]
    refine Ev.step (fun k => by rw [csp_Text.l0]) ?_
    refine ev_neg (by omega) ?_
    rw [show (⟨#[59, 32]⟩ : ByteArray) = st [59, 32] from rfl]
    cases l with
    | nil => exact Ev.now _
    | cons a l =>
      have hb : ∀ y ∈ l.map dirL, y.length ≤ 16020001 := fun y hy => by
        obtain ⟨e, he, rfl⟩ := List.mem_map.1 hy
        exact dirL_length (hl e (List.mem_cons_of_mem _ he))
      have h1 := flat_length [59, 32] hb (n := 4001) (by rw [List.length_map]; simp at hn; omega)
      have h2 := dirL_length (hl a List.mem_cons_self)
      have h3 := Join_f (x := dirL a) (r := l.map dirL) (sep := [59, 32]) (by rw [List.length_append]; simp only [List.length_cons, List.length_nil] at h1; omega) (by rw [List.length_map]; simp at hn; omega)
      rw [List.map_cons, List.map_map, List.map_map] at h3
      exact ev_const h3 (Ev.now _)
  | d + 1, i, hd, hi => by
    have ih := cspText_l0 hl hn d (i + 1) (by omega) (by omega)
    rw [show ((i + 1 : Nat) : Int) = (i : Int) + 1 by omega, List.take_succ_eq_append_getElem (show i < l.length by omega), List.map_append] at ih
    have hm := hl _ (getDr_mem (show i < l.length by omega))
    have hg : l.getD i ([], []) = l[i]'(by omega) := by rw [List.getD_eq_getElem?_getD, List.getElem?_eq_getElem (by omega)]; rfl
    rw [← hg] at ih
    refine Ev.step (fun k => by rw [csp_Text.l0]) ?_
    refine ev_pos (by omega) (ev_pos (by omega) (ev_pos (by rw [List.length_map]; omega) ?_))
    rw [getDr (by omega), w64 (by omega) (by omega)]
    generalize l.getD i ([], []) = e at hm ih ⊢
    have h1 := dirL_length hm
    have h3 := Join_f (x := e.1) (r := e.2) (sep := [32]) (by rw [dirL] at h1; simpa using Nat.le_trans h1 (by decide)) (by have := hm.2.2.1; omega)
    refine ev_some (ev_pos (by have := hm.2.2.1; show 1 + (e.2.map st).length < _; rw [List.length_map]; omega) ?_)
    refine ev_const (x := st (dirL e)) h3 (ev_pos (by rw [List.length_map, List.length_take]; omega) ?_)
    exact ih
theorem cspText_f {l : List Dr} (hl : ∀ d ∈ l, FitD d) (hn : l.length ≤ 4001) : Ev (fun k => csp_Text.f k (l.map dst)) (st (ctextL l)) := by
  unfold csp_Text.f
  rw [List.length_map]
  exact cspText_l0 hl hn _ 0 rfl (by omega)
theorem CText_l1 {l : List Dr} (hl : ∀ d ∈ l, OkD d) (hn : l.length < 4611686018427387904) {i : Nat} (hi : i < l.length) {r : ByteArray} : ∀ (d j : Nat) (s : List Int), (l.getD i ([], [])).2.length - j = d → j ≤ (l.getD i ([], [])).2.length → (s ++ (((l.getD i ([], [])).2.drop j).map fun x => 32 :: x).flatten).length < 4611686018427387904 →
    Ev (fun q => parapetref9_CSPText.l0 q (l.map dst) (st (s ++ (((l.getD i ([], [])).2.drop j).map fun x => 32 :: x).flatten)) ((i : Int) + 1)) r → Ev (fun q => parapetref9_CSPText.l1 q (l.map dst) (st s) (i : Int) (j : Int)) r
  | 0, j, s, hd, hj, hb, hr => by
    have hje : j = (l.getD i ([], [])).2.length := by omega
    rw [hje, List.drop_length, List.map_nil, List.flatten_nil, List.append_nil] at hr
    refine Ev.step (fun k => by rw [parapetref9_CSPText.l1]) ?_
    refine ev_pos (by omega) (ev_pos (by rw [List.length_map]; omega) ?_)
    rw [getDr hi]
    refine ev_neg (by show ¬ (j : Int) < (((l.getD i ([], [])).2.map st).length : Int); rw [List.length_map]; omega) ?_
    rw [w64 (by omega) (by omega)]
    exact hr
  | d + 1, j, s, hd, hj, hb, hr => by
    have hO := hl _ (getDr_mem hi)
    have hdj := dropDr [] (show j < (l.getD i ([], [])).2.length by omega)
    rw [hdj, List.map_cons, List.flatten_cons, ← List.append_assoc] at hr hb
    have ih := CText_l1 hl hn hi d (j + 1) (s ++ 32 :: (l.getD i ([], [])).2.getD j []) (by omega) (by omega) hb hr
    rw [show ((j + 1 : Nat) : Int) = (j : Int) + 1 by omega] at ih
    refine Ev.step (fun k => by rw [parapetref9_CSPText.l1]) ?_
    refine ev_pos (by omega) (ev_pos (by rw [List.length_map]; omega) ?_)
    rw [getDr hi]
    generalize l.getD i ([], []) = e at hO hd hj hb hdj ih ⊢
    have hw : rdOf ByteArray.empty (dst e).f1 (j : Int) = st (e.2.getD j []) := by show rdOf _ (e.2.map st) _ = _; rw [st_rdOf, Int.toNat_natCast]
    have e1 : st s ++ (⟨#[32]⟩ : ByteArray) = st (s ++ [32]) := by rw [show (⟨#[32]⟩ : ByteArray) = st [32] from rfl, st_app]
    rw [hw, e1, st_app, st_size, st_size, st_size, List.append_assoc, List.singleton_append]
    have hj2 := hO.2.2
    simp only [List.length_append, List.length_cons, List.length_nil] at hb ⊢
    refine ev_pos (by show (j : Int) < ((e.2.map st).length : Int); rw [List.length_map]; omega) (ev_pos (by omega) (ev_pos (by omega) (ev_pos (by omega) ?_)))
    rw [w64 (by omega) (by omega)]
    exact ih
theorem CText_j1 {l : List Dr} (hl : ∀ d ∈ l, OkD d) (hn : l.length < 4611686018427387904) {i : Nat} (hi : i < l.length) {r : ByteArray} {s : List Int} (hb : (s ++ dirL (l.getD i ([], []))).length < 4611686018427387904)
    (hr : Ev (fun q => parapetref9_CSPText.l0 q (l.map dst) (st (s ++ dirL (l.getD i ([], [])))) ((i : Int) + 1)) r) : Ev (fun q => parapetref9_CSPText.j1 q (l.map dst) (st s) (i : Int)) r := by
  rw [dirL, ← List.append_assoc] at hr hb
  have h := CText_l1 hl hn hi (l.getD i ([], [])).2.length 0 (s ++ (l.getD i ([], [])).1) (by omega) (by omega) hb hr
  refine Ev.step (fun k => by rw [parapetref9_CSPText.j1]) ?_
  refine ev_pos (by omega) (ev_pos (by rw [List.length_map]; omega) ?_)
  rw [getDr hi]
  simp only [List.length_append] at hb
  refine ev_pos (by show (st s).size + (st (l.getD i ([], [])).1).size ≤ _; rw [st_size, st_size]; omega) ?_
  show Ev (fun q => parapetref9_CSPText.l1 q (l.map dst) (st s ++ st (l.getD i ([], [])).1) (i : Int) 0) r
  rw [st_app]
  exact h
theorem CText_l0 {l : List Dr} (hl : ∀ d ∈ l, FitD d) (hn : l.length ≤ 4001) : ∀ (d i : Nat) (s : List Int), l.length - i = d → 0 < i → i ≤ l.length → s.length ≤ i * 16020003 →
    Ev (fun q => parapetref9_CSPText.l0 q (l.map dst) (st s) (i : Int)) (st (s ++ ((l.drop i).map fun e => 59 :: 32 :: dirL e).flatten))
  | 0, i, s, hd, h0, hi, hs => by
    have : i = l.length := by omega
    subst this
    rw [List.drop_length, List.map_nil, List.flatten_nil, List.append_nil]
    refine Ev.step (fun k => by rw [parapetref9_CSPText.l0]) ?_
    refine ev_neg (by rw [List.length_map]; omega) ?_
    exact Ev.now _
  | d + 1, i, s, hd, h0, hi, hs => by
    have hi2 : i < l.length := by omega
    have h1 := dirL_length (hl _ (getDr_mem hi2))
    have ih := CText_l0 hl hn d (i + 1) (s ++ [59, 32] ++ dirL (l.getD i ([], []))) (by omega) (by omega) (by omega) (by simp only [List.length_append, List.length_cons, List.length_nil]; rw [Nat.succ_mul]; omega)
    rw [show ((i + 1 : Nat) : Int) = (i : Int) + 1 by omega] at ih
    rw [dropDr ([], []) hi2, List.map_cons, List.flatten_cons]
    rw [show s ++ ((59 :: 32 :: dirL (l.getD i ([], []))) ++ ((l.drop (i + 1)).map fun e => 59 :: 32 :: dirL e).flatten) = s ++ [59, 32] ++ dirL (l.getD i ([], [])) ++ ((l.drop (i + 1)).map fun e => 59 :: 32 :: dirL e).flatten by simp]
    have hj := CText_j1 (fun e he => (hl e he).1) (by omega) hi2 (by simp only [List.length_append, List.length_cons, List.length_nil]; omega) ih
    refine Ev.step (fun k => by rw [parapetref9_CSPText.l0]) ?_
    refine ev_pos (by rw [List.length_map]; omega) (ev_pos (by omega) (ev_pos (by rw [st_size]; omega) ?_))
    rw [show (⟨#[59, 32]⟩ : ByteArray) = st [59, 32] from rfl, st_app]
    exact hj
theorem rcspText_f {l : List Dr} (hl : ∀ d ∈ l, FitD d) (hn : l.length ≤ 4001) : Ev (fun q => parapetref9_CSPText.f q (l.map dst)) (st (ctextL l)) := by
  unfold parapetref9_CSPText.f
  cases l with
  | nil =>
    refine Ev.step (fun k => by rw [parapetref9_CSPText.l0]) ?_
    refine ev_neg (by simp) ?_
    exact Ev.now _
  | cons a l =>
    have h1 := dirL_length (hl _ List.mem_cons_self)
    have h := CText_l0 hl hn l.length 1 (dirL a) (by simp) (by omega) (by simp) (by omega)
    have hj := CText_j1 (l := a :: l) (i := 0) (s := []) (fun e he => (hl e he).1) (by omega) (by simp) (by simp; show (dirL a).length < _; omega) h
    refine Ev.step (fun k => by rw [parapetref9_CSPText.l0]) ?_
    refine ev_pos (by rw [List.length_map, List.length_cons]; omega) (ev_neg (by omega) ?_)
    exact hj
/-! What stands in a policy's directives -/
theorem foldl_mem : ∀ {ps : List (List Int)} {acc : List Dr} {d : Dr}, d ∈ ps.foldl cspStep acc → d ∈ acc ∨ ∃ p ∈ ps, asciiB p = true ∧ blanksL p ≠ [] ∧ d = (lowerL ((blanksL p).headD []), (blanksL p).drop 1)
  | [], acc, d, h => .inl h
  | p :: ps, acc, d, h => by
    rcases foldl_mem (ps := ps) h with h | ⟨q, hq, h⟩
    · unfold cspStep at h
      split at h
      · exact .inl h
      · rename_i h1
        split at h
        · exact .inl h
        · rcases List.mem_append.1 h with h | h
          · exact .inl h
          · refine .inr ⟨p, List.mem_cons_self, ?_, fun e => h1 (.inr e), List.mem_singleton.1 h⟩
            cases e : asciiB p with
            | true => rfl
            | false => exact absurd (.inl e) h1
    · exact .inr ⟨q, List.mem_cons_of_mem _ hq, h⟩
theorem cspL_mem {xs : List Int} {d : Dr} (h : d ∈ cspL xs) : ∃ p ∈ splitL 59 xs, asciiB p = true ∧ blanksL p ≠ [] ∧ d = (lowerL ((blanksL p).headD []), (blanksL p).drop 1) := by
  rcases foldl_mem h with h | h
  · cases h
  · exact h
theorem cspL_fit {xs : List Int} (hx : Bytes xs) (hl : xs.length ≤ 4000) : ∀ d ∈ cspL xs, FitD d := by
  intro d hd
  refine ⟨cspL_ok hx (by omega) d hd, ?_⟩
  obtain ⟨p, hp, _, hne, rfl⟩ := cspL_mem hd
  have h1 := splitL_short p hp
  have h2 := blanksL_short _ (headD_mem hne)
  have h3 := blanksG_length p []
  refine ⟨by show (lowerL _).length ≤ _; rw [lowerL_length]; omega, by show ((blanksL p).drop 1).length ≤ _; unfold blanksL; rw [List.length_drop]; omega, fun x hx => ?_⟩
  have := blanksL_short x (List.mem_of_mem_drop hx)
  omega
theorem cspL_count {xs : List Int} (hl : xs.length ≤ 4000) : (cspL xs).length ≤ 4001 := by
  have h1 := foldl_few (splitL 59 xs) []
  have h2 := splitL_length 59 xs
  have h3 := List.count_le_length (a := 59) (l := xs)
  simp only [List.length_nil] at h1
  unfold cspL
  omega
/-- a row of texts, as rows of bytes -/
theorem st_map (l : List ByteArray) : ∃ ns : List (List Int), l = ns.map st ∧ (∀ n ∈ ns, Bytes n) ∧ ns.length = l.length ∧ ∀ B, (∀ s ∈ l, s.size ≤ B) → ∀ n ∈ ns, n.length ≤ B := by
  refine ⟨l.map bytesOf, ?_, fun n hn => ?_, List.length_map _, fun B h n hn => ?_⟩
  · rw [List.map_map]
    conv => lhs; rw [← List.map_id l]
    exact List.map_congr_left fun s _ => (st_bytesOf s).symm
  · obtain ⟨s, _, rfl⟩ := List.mem_map.1 hn
    exact bytes_bytesOf s
  · obtain ⟨s, hs, rfl⟩ := List.mem_map.1 hn
    rw [bytesOf_length']
    exact h s hs
/-! names -/
theorem splitL_app (sep : Int) : ∀ (xs ys : List Int), splitL sep (xs ++ sep :: ys) = splitL sep xs ++ splitL sep ys
  | [], ys => by simp [splitL]
  | x :: xs, ys => by
    have ih := splitL_app sep xs ys
    rw [List.cons_append, splitL, splitL]
    by_cases h : x = sep
    · rw [if_pos h, if_pos h, ih]; rfl
    · rw [if_neg h, if_neg h, ih]
      cases hs : splitL sep xs with
      | nil => exact absurd hs (splitL_ne sep xs)
      | cons p ps => rfl
theorem cspStep_more (acc : List Dr) (p : List Int) : ∃ t, cspStep acc p = acc ++ t := by
  unfold cspStep
  split
  · exact ⟨[], by simp⟩
  · split
    · exact ⟨[], by simp⟩
    · exact ⟨_, rfl⟩
theorem foldl_more : ∀ (ps : List (List Int)) (acc : List Dr), ∃ t, ps.foldl cspStep acc = acc ++ t
  | [], acc => ⟨[], by simp⟩
  | p :: ps, acc => by
    obtain ⟨t, ht⟩ := cspStep_more acc p
    obtain ⟨u, hu⟩ := foldl_more ps (cspStep acc p)
    exact ⟨t ++ u, by rw [List.foldl_cons, hu, ht, List.append_assoc]⟩
theorem blanksG_mem : ∀ (xs cur w : List Int), w ∈ blanksG cur xs → ∀ c ∈ w, c ∈ cur ∨ c ∈ xs
  | [], cur, w, hw, c, hc => by
    rw [blanksG] at hw
    by_cases h : cur = []
    · rw [if_pos h] at hw; cases hw
    · rw [if_neg h] at hw; rw [List.mem_singleton.1 hw] at hc; exact .inl hc
  | x :: xs, cur, w, hw, c, hc => by
    rw [blanksG] at hw
    by_cases hb : blB x = true
    · rw [if_pos hb] at hw
      by_cases h : cur = []
      · rw [if_pos h] at hw
        rcases blanksG_mem xs [] w hw c hc with h1 | h1
        · cases h1
        · exact .inr (List.mem_cons_of_mem _ h1)
      · rw [if_neg h] at hw
        rcases List.mem_cons.1 hw with rfl | hw
        · exact .inl hc
        · rcases blanksG_mem xs [] w hw c hc with h1 | h1
          · cases h1
          · exact .inr (List.mem_cons_of_mem _ h1)
    · rw [if_neg hb] at hw
      rcases blanksG_mem xs _ w hw c hc with h1 | h1
      · rcases List.mem_append.1 h1 with h1 | h1
        · exact .inl h1
        · rw [List.mem_singleton.1 h1]; exact .inr List.mem_cons_self
      · exact .inr (List.mem_cons_of_mem _ h1)
/-- a name's bytes: small, of ASCII -/
def Small (xs : List Int) : Prop := ∀ c ∈ xs, ¬ (65 ≤ c ∧ c ≤ 90) ∧ c < 128
def Names (l : List Dr) : Prop := (∀ d ∈ l, Small d.1) ∧ ∀ (i k : Nat), k < i → i < l.length → (l.getD k ([], [])).1 ≠ (l.getD i ([], [])).1
theorem cspStep_names {acc : List Dr} {p : List Int} (h : Names acc) : Names (cspStep acc p) := by
  unfold cspStep
  split
  · exact h
  · rename_i h1
    split
    · exact h
    · rename_i h2
      have hA : asciiB p = true := by
        cases e : asciiB p with
        | true => rfl
        | false => exact absurd (.inl e) h1
      have hne : blanksL p ≠ [] := fun e => h1 (.inr e)
      refine ⟨fun d hd => ?_, fun i k hki hi => ?_⟩
      · rcases List.mem_append.1 hd with hd | hd
        · exact h.1 d hd
        · rw [List.mem_singleton.1 hd]
          intro c hc
          obtain ⟨b, hb, rfl⟩ := List.mem_map.1 hc
          have hbp : b ∈ p := by
            rcases blanksG_mem p [] _ (headD_mem hne) b hb with h3 | h3
            · cases h3
            · exact h3
          have h3 : b < 128 := by have := List.all_eq_true.1 hA b hbp; simpa using this
          unfold lowB
          split <;> omega
      · rw [List.length_append, List.length_singleton] at hi
        by_cases hi2 : i < acc.length
        · have := h.2 i k hki hi2
          rw [List.getD_eq_getElem?_getD, List.getD_eq_getElem?_getD, List.getElem?_append_left (by omega), List.getElem?_append_left hi2, ← List.getD_eq_getElem?_getD, ← List.getD_eq_getElem?_getD]
          exact this
        · have hie : i = acc.length := by omega
          subst hie
          intro e
          apply h2
          rw [List.any_eq_true]
          have hk : k < acc.length := hki
          rw [List.getD_eq_getElem?_getD, List.getD_eq_getElem?_getD, List.getElem?_append_left hk, List.getElem?_append_right (Nat.le_refl _), Nat.sub_self, List.getElem?_eq_getElem hk] at e
          exact ⟨acc[k], List.getElem_mem hk, beq_iff_eq.2 e⟩
theorem foldl_names : ∀ {ps : List (List Int)} {acc : List Dr}, Names acc → Names (ps.foldl cspStep acc)
  | [], _, h => h
  | p :: ps, _, h => foldl_names (ps := ps) (cspStep_names h)
theorem cspL_names (xs : List Int) : Names (cspL xs) := foldl_names ⟨fun d hd => (by cases hd), fun i k _ hi => absurd hi (Nat.not_lt_zero i)⟩
end Go.Proofs.YtopejcaiabebpaaDoor.PA
