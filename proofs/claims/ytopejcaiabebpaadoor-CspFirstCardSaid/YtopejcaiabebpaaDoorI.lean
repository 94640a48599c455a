import Derived.Test.YtopejcaiabebpaaDoorH
import Derived.Test.YtopejcaiabebpaaDoorPAx3
import Derived.Test.YtopejcaiabebpaaDoorPAx5
import Derived.Test.YtopejcaiabebpaaDoorPAx8
import Derived.Test.YtopejcaiabebpaaDoorPL
import Derived.Test.YtopejcaiabebpaaDoorS2
import Derived.Test.YtopejcaiabebpaaDoorXF
namespace Go.Proofs.YtopejcaiabebpaaDoor.PA
open Go.RowKit Go.Proofs.YtopejcaiabebpaaDoorW.PrintWords Go.Proofs.YtopejcaiabebpaaDoorW.PrintLast Go.Proofs.YtopejcaiabebpaaDoorW.PrintMore Go.Proofs.YtopejcaiabebpaaDoorPL
open Go.Proofs.YtopejcaiabebpaaDoorWS
set_option linter.unusedVariables false
set_option linter.unusedSimpArgs false
/-! Directives -/
def dst (d : Dr) : S29 := ⟨st d.1, d.2.map st⟩
def OkD (d : Dr) : Prop := Bytes d.1 ∧ (∀ x ∈ d.2, Bytes x) ∧ d.2.length < 1048577
theorem blanksG_bytes : ∀ (xs cur : List Int), Bytes cur → Bytes xs → ∀ w ∈ blanksG cur xs, Bytes w
  | [], cur, hc, hx, w, hw => by
    rw [blanksG] at hw
    by_cases h : cur = []
    · rw [if_pos h] at hw; cases hw
    · rw [if_neg h] at hw; rw [List.mem_singleton.1 hw]; exact hc
  | x :: xs, cur, hc, hx, w, hw => by
    rw [blanksG] at hw
    by_cases hb : blB x = true
    · rw [if_pos hb] at hw
      by_cases h : cur = []
      · rw [if_pos h] at hw; exact blanksG_bytes xs [] Bytes.nil hx.tail w hw
      · rw [if_neg h] at hw
        rcases List.mem_cons.1 hw with rfl | hw
        · exact hc
        · exact blanksG_bytes xs [] Bytes.nil hx.tail w hw
    · rw [if_neg hb] at hw
      exact blanksG_bytes xs _ (hc.append (Bytes.cons hx.head Bytes.nil)) hx.tail w hw
theorem blanksG_length : ∀ (xs cur : List Int), (blanksG cur xs).length ≤ xs.length + 1
  | [], cur => by rw [blanksG]; split <;> simp
  | x :: xs, cur => by
    rw [blanksG]
    by_cases hb : blB x = true
    · rw [if_pos hb]
      by_cases h : cur = []
      · rw [if_pos h]; have := blanksG_length xs []; simp only [List.length_cons]; omega
      · rw [if_neg h]; have := blanksG_length xs []; simp only [List.length_cons]; omega
    · rw [if_neg hb]; have := blanksG_length xs (cur ++ [x]); simp only [List.length_cons]; omega
theorem blanksG_short : ∀ (xs cur : List Int), ∀ w ∈ blanksG cur xs, w.length ≤ cur.length + xs.length
  | [], cur, w, hw => by
    rw [blanksG] at hw
    by_cases h : cur = []
    · rw [if_pos h] at hw; cases hw
    · rw [if_neg h] at hw; rw [List.mem_singleton.1 hw]; simp
  | x :: xs, cur, w, hw => by
    rw [blanksG] at hw
    simp only [List.length_cons]
    by_cases hb : blB x = true
    · rw [if_pos hb] at hw
      by_cases h : cur = []
      · rw [if_pos h] at hw; have := blanksG_short xs [] w hw; simp only [List.length_nil] at this; omega
      · rw [if_neg h] at hw
        rcases List.mem_cons.1 hw with rfl | hw
        · omega
        · have := blanksG_short xs [] w hw; simp only [List.length_nil] at this; omega
    · rw [if_neg hb] at hw
      have := blanksG_short xs _ w hw
      simp only [List.length_append, List.length_cons, List.length_nil] at this
      omega
theorem blanksL_short {xs : List Int} : ∀ w ∈ blanksL xs, w.length ≤ xs.length := fun w hw => by have := blanksG_short xs [] w hw; simpa using this
theorem blanksL_bytes {xs : List Int} (h : Bytes xs) : ∀ w ∈ blanksL xs, Bytes w := blanksG_bytes xs [] Bytes.nil h
theorem headD_mem {l : List (List Int)} (h : l ≠ []) : l.headD [] ∈ l := by cases l with | nil => exact absurd rfl h | cons a b => exact List.mem_cons_self
theorem cspStep_ok {acc : List Dr} {p : List Int} (ha : ∀ d ∈ acc, OkD d) (hp : Bytes p) (hl : p.length < 1048576) : ∀ d ∈ cspStep acc p, OkD d := by
  intro d hd
  unfold cspStep at hd
  split at hd
  · exact ha d hd
  · rename_i h
    split at hd
    · exact ha d hd
    · rcases List.mem_append.1 hd with hd | hd
      · exact ha d hd
      · rw [List.mem_singleton.1 hd]
        have hne : blanksL p ≠ [] := fun e => h (.inr e)
        refine ⟨lowerL_bytes (blanksL_bytes hp _ (headD_mem hne)), fun x hx => blanksL_bytes hp x (List.mem_of_mem_drop hx), ?_⟩
        have := blanksG_length p []
        show ((blanksL p).drop 1).length < _
        unfold blanksL
        rw [List.length_drop]
        omega
theorem cspStep_length (acc : List Dr) (p : List Int) : (cspStep acc p).length ≤ acc.length + 1 := by
  unfold cspStep
  split
  · omega
  · split
    · omega
    · simp
theorem find_map {l : List Dr} {n : List Int} (hl : ∀ d ∈ l, OkD d) (hn : Bytes n) : (l.map dst).find? (fun d => d.f0.toList == (st n).toList) = (l.find? (fun d => d.1 == n)).map dst := by
  induction l with
  | nil => rfl
  | cons a l ih =>
    have ha := hl a List.mem_cons_self
    rw [List.map_cons, List.find?_cons, List.find?_cons]
    have e : ((dst a).f0.toList == (st n).toList) = (a.1 == n) := by
      rw [Bool.eq_iff_iff, beq_iff_eq, beq_iff_eq]
      exact toList_eq ha.1 hn
    rw [e]
    cases a.1 == n with
    | true => rfl
    | false => exact ih (fun d hd => hl d (List.mem_cons_of_mem _ hd))
def findR : Option Dr → ByteArray × List ByteArray × Bool
  | none => (⟨#[]⟩, [], false)
  | some d => (st d.1, d.2.map st, true)
theorem findD_map {l : List Dr} (hl : ∀ d ∈ l, OkD d) : ∀ {ns : List (List Int)}, (∀ n ∈ ns, Bytes n) → findD (l.map dst) (ns.map st) = (findL l ns).map dst
  | [], _ => rfl
  | n :: ns, hn => by
    rw [List.map_cons, findD, findL, find_map hl (hn n List.mem_cons_self)]
    cases l.find? (fun d => d.1 == n) with
    | some d => rfl
    | none => exact findD_map hl (fun m hm => hn m (List.mem_cons_of_mem _ hm))
theorem find_ok {l : List Dr} (hl : ∀ d ∈ l, OkD d) {n : List Int} {d : Dr} (h : l.find? (fun d => d.1 == n) = some d) : OkD d := hl d (List.mem_of_find?_eq_some h)
theorem findL_ok {l : List Dr} (hl : ∀ d ∈ l, OkD d) : ∀ {ns : List (List Int)} {d : Dr}, findL l ns = some d → OkD d
  | [], d, h => by cases h
  | n :: ns, d, h => by
    rw [findL] at h
    cases hf : l.find? (fun d => d.1 == n) with
    | some e => rw [hf] at h; injection h with h; subst h; exact find_ok hl hf
    | none => rw [hf] at h; exact findL_ok hl h
theorem Find_f {l : List Dr} (hl : ∀ d ∈ l, OkD d) {ns : List (List Int)} (hn : ∀ n ∈ ns, Bytes n) : csp_Find.f (l.map dst) (ns.map st) = some (findR (findL l ns)) := by
  unfold csp_Find.f
  rw [findD_map hl hn]
  cases hf : findL l ns with
  | none => rfl
  | some d =>
    have := (findL_ok hl hf).2.2
    show (if (d.2.map st).length < _ then _ else _) = _
    rw [if_pos (by rw [List.length_map]; omega)]
    rfl
theorem getDr {l : List Dr} {i : Nat} (h : i < l.length) : rd_T29 (l.map dst) (i : Int) = dst (l.getD i ([], [])) := by
  unfold rd_T29
  rw [Int.toNat_natCast, List.getD_eq_getElem?_getD, List.getD_eq_getElem?_getD, List.getElem?_map, List.getElem?_eq_getElem h]
  rfl
theorem getDr_mem {l : List Dr} {i : Nat} (h : i < l.length) : l.getD i ([], []) ∈ l := by
  rw [List.getD_eq_getElem?_getD, List.getElem?_eq_getElem h]
  exact List.getElem_mem _
theorem dropDr {α : Type} {l : List α} {i : Nat} (d : α) (h : i < l.length) : l.drop i = l.getD i d :: l.drop (i + 1) := by
  rw [List.drop_eq_getElem_cons h, List.getD_eq_getElem?_getD, List.getElem?_eq_getElem h]; rfl
theorem getN_mem {l : List (List Int)} {i : Nat} (h : i < l.length) : l.getD i [] ∈ l := by
  rw [List.getD_eq_getElem?_getD, List.getElem?_eq_getElem h]
  exact List.getElem_mem _
theorem rFind_l1 {l : List Dr} (hl : ∀ d ∈ l, OkD d) {ns : List (List Int)} (hn : ∀ n ∈ ns, Bytes n) (b1 : l.length < 4611686018427387904) (b2 : ns.length < 4611686018427387904) {k : Nat} (hk : k < ns.length) {r : ByteArray × List ByteArray × Bool} (hr : Ev (fun q => parapetref9_Find.l0 q (l.map dst) (ns.map st) ((k : Int) + 1)) r) : ∀ (d i : Nat), l.length - i = d → i ≤ l.length →
    Ev (fun q => parapetref9_Find.l1 q (l.map dst) (ns.map st) (k : Int) (i : Int)) (match (l.drop i).find? (fun d => d.1 == ns.getD k []) with | some d => findR (some d) | none => r)
  | 0, i, hd, hi => by
    have : i = l.length := by omega
    subst this
    rw [List.drop_length]
    refine Ev.step (fun k => by rw [parapetref9_Find.l1]) ?_
    refine ev_neg (by rw [List.length_map]; omega) ?_
    rw [w64 (by omega) (by omega)]
    exact hr
  | d + 1, i, hd, hi => by
    have ih := rFind_l1 hl hn b1 b2 hk hr d (i + 1) (by omega) (by omega)
    have hm := hl _ (getDr_mem (show i < l.length by omega))
    rw [dropDr ([], []) (show i < l.length by omega), List.find?_cons]
    refine Ev.step (fun k => by rw [parapetref9_Find.l1]) ?_
    refine ev_pos (by rw [List.length_map]; omega) (ev_pos (by omega) (ev_pos (by omega) (ev_pos (by rw [List.length_map]; omega) ?_)))
    rw [getDr (by omega), st_rdOf, Int.toNat_natCast, w64 (by omega) (by omega)]
    by_cases h : (l.getD i ([], [])).1 = ns.getD k []
    · refine ev_pos (by show (st _).toList = _; rw [h]) ?_
      rw [beq_iff_eq.2 h]
      exact Ev.now _
    · refine ev_neg (fun h2 => h ((toList_eq hm.1 (getD_bytes hn k)).1 h2)) ?_
      rw [beq_false_of_ne h]
      exact ih
theorem rFind_l0 {l : List Dr} (hl : ∀ d ∈ l, OkD d) {ns : List (List Int)} (hn : ∀ n ∈ ns, Bytes n) (b1 : l.length < 4611686018427387904) (b2 : ns.length < 4611686018427387904) : ∀ (d k : Nat), ns.length - k = d → k ≤ ns.length →
    Ev (fun q => parapetref9_Find.l0 q (l.map dst) (ns.map st) (k : Int)) (findR (findL l (ns.drop k)))
  | 0, k, hd, hi => by
    have : k = ns.length := by omega
    subst this
    rw [List.drop_length]
    refine Ev.step (fun k => by rw [parapetref9_Find.l0]) ?_
    refine ev_neg (by rw [List.length_map]; omega) ?_
    exact Ev.now _
  | d + 1, k, hd, hi => by
    have ih := rFind_l0 hl hn b1 b2 d (k + 1) (by omega) (by omega)
    rw [show ((k + 1 : Nat) : Int) = (k : Int) + 1 by omega] at ih
    have h1 := rFind_l1 hl hn b1 b2 (show k < ns.length by omega) ih l.length 0 (by omega) (by omega)
    refine Ev.step (fun k => by rw [parapetref9_Find.l0]) ?_
    refine ev_pos (by rw [List.length_map]; omega) ?_
    rw [dropDr [] (show k < ns.length by omega), findL]
    rw [List.drop_zero] at h1
    cases hf : l.find? (fun d => d.1 == ns.getD k []) with
    | some e => rw [hf] at h1; exact h1
    | none => rw [hf] at h1; exact h1
theorem rFind_f {l : List Dr} (hl : ∀ d ∈ l, OkD d) {ns : List (List Int)} (hn : ∀ n ∈ ns, Bytes n) (b1 : l.length < 4611686018427387904) (b2 : ns.length < 4611686018427387904) : Ev (fun q => parapetref9_Find.f q (l.map dst) (ns.map st)) (findR (findL l ns)) := by
  unfold parapetref9_Find.f
  exact rFind_l0 hl hn b1 b2 ns.length 0 (by omega) (by omega)
theorem findL_one (l : List Dr) (n : List Int) : findL l [n] = l.find? (fun d => d.1 == n) := by
  rw [findL]
  cases l.find? (fun d => d.1 == n) <;> rfl
theorem find_any (l : List Dr) (n : List Int) : (findR (findL l [n])).2.2 = l.any (fun d => d.1 == n) := by
  rw [findL_one]
  cases h : l.find? (fun d => d.1 == n) with
  | some d =>
    have h1 := List.find?_some h
    have h2 := List.mem_of_find?_eq_some h
    symm
    show _ = true
    rw [List.any_eq_true]
    exact ⟨d, h2, h1⟩
  | none =>
    symm
    show _ = false
    rw [List.any_eq_false]
    intro d hd
    exact List.find?_eq_none.1 h d hd
/-! Parse -/
theorem cspParse_l0 {ps : List (List Int)} (hp : ∀ p ∈ ps, Bytes p ∧ p.length < 1048576) (hn : ps.length < 1048578) : ∀ (d i : Nat) (acc : List Dr), ps.length - i = d → i ≤ ps.length → (∀ e ∈ acc, OkD e) → acc.length ≤ i →
    Ev (fun k => csp_Parse.l0 k (acc.map dst) (ps.map st) (ps.length : Int) (i : Int)) (((ps.drop i).foldl cspStep acc).map dst)
  | 0, i, acc, hd, hi, ha, hk => by
    have : i = ps.length := by omega
    subst this
    rw [List.drop_length]
    refine Ev.step (fun k => by rw [csp_Parse.l0]) ?_
    refine ev_neg (by omega) ?_
    exact Ev.now _
  | d + 1, i, acc, hd, hi, ha, hk => by
    have hpi := hp _ (getN_mem (show i < ps.length by omega))
    have ih := cspParse_l0 hp hn d (i + 1) (cspStep acc (ps.getD i [])) (by omega) (by omega) (cspStep_ok ha hpi.1 hpi.2) (by have := cspStep_length acc (ps.getD i []); omega)
    rw [show ((i + 1 : Nat) : Int) = (i : Int) + 1 by omega] at ih
    rw [dropDr [] (show i < ps.length by omega), List.foldl_cons]
    refine Ev.step (fun k => by rw [csp_Parse.l0]) ?_
    refine ev_pos (by omega) (ev_pos (by omega) (ev_pos (by rw [List.length_map]; omega) ?_))
    rw [st_rdOf, Int.toNat_natCast]
    generalize hp0 : ps.getD i [] = p at ih hpi ⊢
    refine Ev.bind (aBlanks_f hpi.1 (by omega)) (Ev.bind (ASCII_f hpi.1 (by omega)) ?_)
    have skip : ∀ b, b = true → cspStep acc p = acc → Ev (fun k => csp_Parse.j1 k (acc.map dst) ((blanksL p).map st) (ps.map st) (ps.length : Int) (i : Int) b) (((ps.drop (i + 1)).foldl cspStep (cspStep acc p)).map dst) := by
      intro b hb he
      rw [he] at ih ⊢
      refine Ev.step (fun k => by rw [csp_Parse.j1]) ?_
      refine ev_pos hb ?_
      rw [w64 (by omega) (by omega)]
      exact ih
    by_cases h1 : asciiB p = true
    · refine ev_pos h1 ?_
      rw [List.length_map]
      by_cases h2 : blanksL p = []
      · exact skip _ (by rw [h2]; rfl) (by unfold cspStep; rw [if_pos (.inr h2)])
      · have hpos : 0 < (blanksL p).length := List.length_pos_iff.2 h2
        have hhd := blanksL_bytes hpi.1 _ (headD_mem h2)
        have hlen : ((blanksL p).headD []).length < 4611686018427387904 := by have := blanksL_short _ (headD_mem h2); omega
        refine Ev.step (fun k => by rw [csp_Parse.j1]) ?_
        refine ev_neg (by simp; omega) (ev_pos (by rw [List.length_map]; omega) ?_)
        rw [show (0 : Int) = ((0 : Nat) : Int) from rfl, st_rdOf, Int.toNat_natCast, show (blanksL p).getD 0 [] = (blanksL p).headD [] by cases blanksL p <;> rfl]
        refine ev_const (Lower_f hhd hlen) ?_
        have hfind := Find_f ha (ns := [lowerL ((blanksL p).headD [])]) (fun n h => by rw [List.mem_singleton.1 h]; exact lowerL_bytes hhd)
        rw [List.map_cons, List.map_nil] at hfind
        refine ev_const hfind ?_
        rw [find_any, w64 (by omega) (by omega)]
        by_cases h3 : (acc.any fun d => d.1 == lowerL ((blanksL p).headD [])) = true
        · refine ev_pos h3 ?_
          have he : cspStep acc p = acc := by unfold cspStep; rw [if_neg (by simp [h1, h2]), if_pos h3]
          rw [he] at ih ⊢
          exact ih
        · refine ev_neg h3 (ev_pos (by rw [List.length_map]; omega) (ev_pos (by rw [List.length_map]; omega) ?_))
          have he : cspStep acc p = acc ++ [(lowerL ((blanksL p).headD []), (blanksL p).drop 1)] := by unfold cspStep; rw [if_neg (by simp [h1, h2]), if_neg h3]
          rw [he, List.map_append] at ih
          rw [he, ← List.map_drop]
          exact ih
    · refine ev_neg h1 ?_
      exact skip _ rfl (by unfold cspStep; rw [if_pos (.inl (by simpa using h1))])
theorem splitL_ok {xs : List Int} (hx : Bytes xs) (hl : xs.length < 1048576) : ∀ p ∈ splitL 59 xs, Bytes p ∧ p.length < 1048576 := fun p hp => ⟨splitL_bytes hx p hp, by have := splitL_short p hp; omega⟩
theorem splitL_few {xs : List Int} (hl : xs.length < 1048576) : (splitL 59 xs).length < 1048578 := by rw [splitL_length]; have := List.count_le_length (a := 59) (l := xs); omega
theorem cspParse_f {xs : List Int} (hx : Bytes xs) (hl : xs.length < 1048576) : Ev (fun k => csp_Parse.f k (st xs)) ((cspL xs).map dst) := by
  unfold csp_Parse.f
  refine Ev.bind (aSplit_f hx (by omega) hl) ?_
  rw [List.length_map]
  exact cspParse_l0 (splitL_ok hx hl) (splitL_few hl) _ 0 [] rfl (by omega) (fun e he => by cases he) (Nat.le_refl _)
theorem CSP_l0 {ps : List (List Int)} (hp : ∀ p ∈ ps, Bytes p ∧ p.length < 1048576) (hn : ps.length < 1048578) : ∀ (d i : Nat) (acc : List Dr), ps.length - i = d → i ≤ ps.length → (∀ e ∈ acc, OkD e) → acc.length ≤ i →
    Ev (fun k => parapetref9_CSP.l0 k (acc.map dst) (ps.map st) (i : Int)) (((ps.drop i).foldl cspStep acc).map dst)
  | 0, i, acc, hd, hi, ha, hk => by
    have : i = ps.length := by omega
    subst this
    rw [List.drop_length]
    refine Ev.step (fun k => by rw [parapetref9_CSP.l0]) ?_
    refine ev_neg (by rw [List.length_map]; omega) ?_
    exact Ev.now _
  | d + 1, i, acc, hd, hi, ha, hk => by
    have hpi := hp _ (getN_mem (show i < ps.length by omega))
    have ih := CSP_l0 hp hn d (i + 1) (cspStep acc (ps.getD i [])) (by omega) (by omega) (cspStep_ok ha hpi.1 hpi.2) (by have := cspStep_length acc (ps.getD i []); omega)
    rw [show ((i + 1 : Nat) : Int) = (i : Int) + 1 by omega] at ih
    rw [dropDr [] (show i < ps.length by omega), List.foldl_cons]
    refine Ev.step (fun k => by rw [parapetref9_CSP.l0]) ?_
    refine ev_pos (by rw [List.length_map]; omega) (ev_pos (by omega) ?_)
    rw [st_rdOf, Int.toNat_natCast]
    generalize hp0 : ps.getD i [] = p at ih hpi ⊢
    refine Ev.bind (rBlanks_f hpi.1 (by omega)) (Ev.bind (rASCII_f hpi.1 (by omega)) ?_)
    have skip : ∀ b, b = true → cspStep acc p = acc → Ev (fun k => parapetref9_CSP.j1 k (acc.map dst) (ps.map st) (i : Int) ((blanksL p).map st) b) (((ps.drop (i + 1)).foldl cspStep (cspStep acc p)).map dst) := by
      intro b hb he
      rw [he] at ih ⊢
      refine Ev.step (fun k => by rw [parapetref9_CSP.j1]) ?_
      refine ev_pos hb ?_
      rw [w64 (by omega) (by omega)]
      exact ih
    by_cases h1 : asciiB p = true
    · refine ev_pos h1 ?_
      rw [List.length_map]
      by_cases h2 : blanksL p = []
      · exact skip _ (by rw [h2]; rfl) (by unfold cspStep; rw [if_pos (.inr h2)])
      · have hpos : 0 < (blanksL p).length := List.length_pos_iff.2 h2
        have hhd := blanksL_bytes hpi.1 _ (headD_mem h2)
        have hlen : ((blanksL p).headD []).length < 140737488355328 := by have := blanksL_short _ (headD_mem h2); omega
        refine Ev.step (fun k => by rw [parapetref9_CSP.j1]) ?_
        refine ev_neg (by simp; omega) (ev_pos (by rw [List.length_map]; omega) ?_)
        rw [show (0 : Int) = ((0 : Nat) : Int) from rfl, st_rdOf, Int.toNat_natCast, show (blanksL p).getD 0 [] = (blanksL p).headD [] by cases blanksL p <;> rfl]
        refine Ev.bind (rLower_f hhd hlen) (ev_pos (by rw [List.length_map]; omega) ?_)
        have hfind := rFind_f ha (ns := [lowerL ((blanksL p).headD [])]) (fun n h => by rw [List.mem_singleton.1 h]; exact lowerL_bytes hhd) (by omega) (by simp)
        rw [List.map_cons, List.map_nil] at hfind
        refine Ev.bind hfind ?_
        rw [find_any, w64 (by omega) (by omega)]
        by_cases h3 : (acc.any fun d => d.1 == lowerL ((blanksL p).headD [])) = true
        · refine ev_pos h3 ?_
          have he : cspStep acc p = acc := by unfold cspStep; rw [if_neg (by simp [h1, h2]), if_pos h3]
          rw [he] at ih ⊢
          exact ih
        · refine ev_neg h3 (ev_pos (by rw [List.length_map]; omega) ?_)
          have he : cspStep acc p = acc ++ [(lowerL ((blanksL p).headD []), (blanksL p).drop 1)] := by unfold cspStep; rw [if_neg (by simp [h1, h2]), if_neg h3]
          rw [he, List.map_append] at ih
          rw [he, ← List.map_drop]
          exact ih
    · refine ev_neg h1 ?_
      exact skip _ rfl (by unfold cspStep; rw [if_pos (.inl (by simpa using h1))])
theorem CSP_f {xs : List Int} (hx : Bytes xs) (hl : xs.length < 1048576) : Ev (fun k => parapetref9_CSP.f k (st xs)) ((cspL xs).map dst) := by
  unfold parapetref9_CSP.f
  refine Ev.bind (rSplit_f hx (by omega)) ?_
  exact CSP_l0 (splitL_ok hx hl) (splitL_few hl) _ 0 [] rfl (by omega) (fun e he => by cases he) (Nat.le_refl _)
theorem foldl_ok : ∀ {ps : List (List Int)}, (∀ p ∈ ps, Bytes p ∧ p.length < 1048576) → ∀ {acc : List Dr}, (∀ d ∈ acc, OkD d) → ∀ d ∈ ps.foldl cspStep acc, OkD d
  | [], _, acc, ha, d, hd => ha d hd
  | p :: ps, hp, acc, ha, d, hd => foldl_ok (fun q hq => hp q (List.mem_cons_of_mem _ hq)) (cspStep_ok ha (hp p List.mem_cons_self).1 (hp p List.mem_cons_self).2) d hd
theorem cspL_ok {xs : List Int} (hx : Bytes xs) (hl : xs.length < 1048576) : ∀ d ∈ cspL xs, OkD d := foldl_ok (splitL_ok hx hl) (fun d hd => by cases hd)
theorem foldl_few : ∀ (ps : List (List Int)) (acc : List Dr), (ps.foldl cspStep acc).length ≤ acc.length + ps.length
  | [], acc => by simp
  | p :: ps, acc => by
    have h1 := foldl_few ps (cspStep acc p)
    have h2 := cspStep_length acc p
    simp only [List.foldl_cons, List.length_cons]
    omega
theorem cspL_few {xs : List Int} (hl : xs.length < 1048576) : (cspL xs).length < 1048578 := by have := foldl_few (splitL 59 xs) []; have h := splitL_few hl; simp only [List.length_nil] at this; unfold cspL; omega
end Go.Proofs.YtopejcaiabebpaaDoor.PA
