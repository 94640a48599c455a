import Derived.Test.YtgldmliemeadpaaDoorG
import Derived.Test.YtgldmliemeadpaaDoorPAx10
import Derived.Test.YtgldmliemeadpaaDoorPAx9
namespace Go.Proofs.YtgldmliemeadpaaDoor.PA
open Go.RowKit Go.Proofs.YtgldmliemeadpaaDoorW.PrintWords Go.Proofs.YtgldmliemeadpaaDoorW.PrintLast Go.Proofs.YtgldmliemeadpaaDoorW.PrintMore Go.Proofs.YtgldmliemeadpaaDoorPL
open Go.Proofs.YtgldmliemeadpaaDoorWS (lowB lowerL hexv decodeL splitL partsL digitsB hexP accV baseV restV partV numL numberL numericB decD textL forbB hostL addrL domainB resV)
set_option linter.unusedVariables false
set_option linter.unusedSimpArgs false
theorem decD_short : ∀ (k n : Nat), n < 10 ^ (k + 1) → (decD n).length ≤ k + 1 := by
  intro k
  induction k with
  | zero => intro n h; rw [decD_small (by simpa using h)]; simp
  | succ k ih =>
    intro n h
    by_cases h2 : n < 10
    · rw [decD_small h2]; simp
    · rw [decD_big h2, List.length_append, List.length_singleton]
      have := ih (n / 10) (by rw [Nat.pow_succ] at h; omega)
      omega
theorem ldigits_l0 : ∀ (k n : Nat) (acc : List Int), n < 10 ^ (k + 1) → n < 4611686018427387904 → acc.length + k < 1000 → Ev (fun r => parapetlaw10_digits.l0 r (n : Int) (st acc)) (st (decD n ++ acc)) := by
  intro k
  induction k with
  | zero =>
    intro n acc h hn hl
    have h10 : n < 10 := by simpa using h
    refine Ev.step (fun k => by rw [parapetlaw10_digits.l0]) ?_
    rw [tmod10, tdiv10, w64 (x := 48 + ((n % 10 : Nat) : Int)) (by omega) (by omega), w64 (x := ((n / 10 : Nat) : Int)) (by omega) (by omega), show (48 + ((n % 10 : Nat) : Int)) % 256 = 48 + (n : Int) by omega]
    refine ev_some (ev_pos (by rw [st_size, strOfNums_size]; simp; omega) (ev_pos (by omega) ?_))
    rw [decD_small h10, st_app]
    exact Ev.now _
  | succ k ih =>
    intro n acc h hn hl
    refine Ev.step (fun k => by rw [parapetlaw10_digits.l0]) ?_
    rw [tmod10, tdiv10, w64 (x := 48 + ((n % 10 : Nat) : Int)) (by omega) (by omega), w64 (x := ((n / 10 : Nat) : Int)) (by omega) (by omega), show (48 + ((n % 10 : Nat) : Int)) % 256 = 48 + ((n % 10 : Nat) : Int) by omega]
    refine ev_some (ev_pos (by rw [st_size, strOfNums_size]; simp; omega) ?_)
    rw [st_app]
    by_cases h10 : n < 10
    · refine ev_pos (by omega) ?_
      rw [decD_small h10, show ((n % 10 : Nat) : Int) = (n : Int) by omega]
      exact Ev.now _
    · refine ev_neg (by omega) ?_
      have := ih (n / 10) ([48 + ((n % 10 : Nat) : Int)] ++ acc) (by rw [Nat.pow_succ] at h; omega) (by omega) (by simp; omega)
      rw [decD_big h10, List.append_assoc]
      exact this
theorem ldigits_f {n : Nat} (h : n ≤ 8589934592) : Ev (fun r => parapetlaw10_digits.f r (n : Int)) (st (decD n)) := by
  unfold parapetlaw10_digits.f
  have := ldigits_l0 9 n [] (by simp only [Nat.reduceAdd, Nat.reducePow]; omega) (by omega) (by simp)
  rwa [List.append_nil] at this
/-! parts with points between -/
def joinP : List (List Int) → List Int
  | [] => []
  | [p] => p
  | p :: q :: t => p ++ 46 :: joinP (q :: t)
theorem join_snoc : ∀ (ps : List (List Int)) (p : List Int), ps ≠ [] → joinP (ps ++ [p]) = joinP ps ++ [46] ++ p
  | [], _, h => absurd rfl h
  | [q], p, _ => by show q ++ 46 :: p = q ++ [46] ++ p; simp
  | q :: r :: t, p, _ => by
    have := join_snoc (r :: t) p (by simp)
    show q ++ 46 :: joinP ((r :: t) ++ [p]) = (q ++ 46 :: joinP (r :: t)) ++ [46] ++ p
    rw [this]; simp
theorem split_join : ∀ {ps : List (List Int)}, ps ≠ [] → (∀ p ∈ ps, (46 : Int) ∉ p) → splitL 46 (joinP ps) = ps
  | [], h, _ => absurd rfl h
  | [p], _, hp => splitL_none (hp p (by simp))
  | p :: q :: t, _, hp => by
    show splitL 46 (p ++ 46 :: joinP (q :: t)) = _
    rw [splitL_at (hp p (by simp)), split_join (by simp) (fun r hr => hp r (List.mem_cons_of_mem _ hr))]
theorem split_join_dot : ∀ {ps : List (List Int)}, ps ≠ [] → (∀ p ∈ ps, (46 : Int) ∉ p) → splitL 46 (joinP ps ++ [46]) = ps ++ [[]]
  | [], h, _ => absurd rfl h
  | [p], _, hp => by
    show splitL 46 (p ++ 46 :: []) = _
    rw [splitL_at (hp p (by simp))]; rfl
  | p :: q :: t, _, hp => by
    show splitL 46 ((p ++ 46 :: joinP (q :: t)) ++ [46]) = _
    rw [show (p ++ 46 :: joinP (q :: t)) ++ [46] = p ++ 46 :: (joinP (q :: t) ++ [46]) by simp, splitL_at (hp p (by simp)), split_join_dot (by simp) (fun r hr => hp r (List.mem_cons_of_mem _ hr))]
    rfl
def dec (x : Int) : List Int := decD x.toNat
theorem dec_parts {l : List Int} (hl : l ≠ []) (dot : Bool) : partsL (joinP (l.map dec) ++ (if dot then [46] else [])) = l.map dec := by
  have hne : l.map dec ≠ [] := by simpa using hl
  have hp : ∀ p ∈ l.map dec, (46 : Int) ∉ p := fun p hp => by
    obtain ⟨x, _, rfl⟩ := List.mem_map.1 hp
    exact decD_nodot _
  have hlast : ∀ p ∈ l.map dec, p ≠ [] := fun p hp => by
    obtain ⟨x, _, rfl⟩ := List.mem_map.1 hp
    exact decD_ne _
  unfold partsL
  cases dot with
  | false =>
    rw [if_neg (show ¬ (false = true) by simp), List.append_nil, split_join hne hp, if_neg]
    rintro ⟨_, e⟩
    rw [List.getLast?_eq_some_getLast hne] at e
    exact hlast _ (List.getLast_mem hne) (Option.some.inj e)
  | true =>
    rw [if_pos rfl, split_join_dot hne hp, if_pos ⟨by simp; exact List.length_pos_iff.2 hl, by simp⟩]
    simp
theorem join_chars {l : List Int} (dot : Bool) : ∀ c ∈ joinP (l.map dec) ++ (if dot then [46] else []), (48 ≤ c ∧ c ≤ 57) ∨ c = 46 := by
  have h1 : ∀ (m : List Int), ∀ c ∈ joinP (m.map dec), (48 ≤ c ∧ c ≤ 57) ∨ c = 46 := by
    intro m
    induction m with
    | nil => intro c hc; cases hc
    | cons x t ih =>
      cases t with
      | nil => intro c hc; exact Or.inl (decD_decB _ c hc)
      | cons y t =>
        intro c hc
        have hc' : c ∈ dec x ++ 46 :: joinP ((y :: t).map dec) := hc
        rcases List.mem_append.1 hc' with hc' | hc'
        · exact Or.inl (decD_decB _ c hc')
        · rcases List.mem_cons.1 hc' with hc' | hc'
          · exact Or.inr hc'
          · exact ih c hc'
  intro c hc
  rcases List.mem_append.1 hc with hc | hc
  · exact h1 l c hc
  · cases dot with
    | false => cases hc
    | true => exact Or.inr (List.mem_singleton.1 hc)
theorem chars_host {s : List Int} (hn : s ≠ []) (hc : ∀ c ∈ s, (48 ≤ c ∧ c ≤ 57) ∨ c = 46) (hnum : numericB ((partsL s).getLastD []) = true) : hostL s = (numberL s).map textL := by
  have hd : decodeL s = s := decodeL_id (fun m => by have := hc 37 m; omega)
  have hl : lowerL s = s := by
    unfold lowerL
    conv => rhs; rw [← List.map_id s]
    refine List.map_congr_left fun c m => ?_
    have := hc c m
    show lowB c = c
    unfold lowB; omega
  have hf : s.any forbB = false := by
    rw [List.any_eq_false]
    intro c m
    have := hc c m
    have key : ∀ k : Fin 256, ((48 ≤ (k.val : Int) ∧ (k.val : Int) ≤ 57) ∨ (k.val : Int) = 46) → forbB (k.val : Int) = false := by decide +kernel
    have q := key ⟨c.toNat, by omega⟩
    rw [show ((c.toNat : Nat) : Int) = c by omega] at q
    simp [q this]
  rw [hostL_eq, hd, hl, if_neg hn, if_neg (by rw [hf]; simp)]
  unfold finL
  rw [if_pos hnum]
/-! the law -/
/-- what the parts that were written say of the number -/
def Told (l : List Int) (ok : Bool) (v : Int) (suf : List Int) (left : Nat) : Prop :=
  if ok then numL 4 (l.map dec) = (numL left (suf.map dec)).map (fun w => v + w) else numL 4 (l.map dec) = none
def Done (l : List Int) (ok : Bool) (v : Int) : Prop := numL 4 (l.map dec) = if ok then some v else none
theorem part_dec {x : Int} (h : 0 ≤ x) : partV (dec x) = if x < 4294967296 then some x else none := by
  unfold dec
  rw [partV_decD, show ((x.toNat : Nat) : Int) = x by omega]
theorem parts_end {l : List Int} (h0 : l ≠ []) (h6 : l.length ≤ 6) (hr : ∀ x ∈ l, 0 ≤ x ∧ x ≤ 8589934592) (dot ok : Bool) (v : Int) (hok : 4 < l.length → ok = false) (hd : l.length ≤ 4 → Done l ok v) (hsz : (joinP (l.map dec)).length < 10000) :
    Ev (fun k => (host_Number.f k (st (joinP (l.map dec) ++ (if dot then [46] else [])))).bind fun a => (host_Parse.f k (st (joinP (l.map dec) ++ (if dot then [46] else [])))).bind fun b => (if (a.2 == ok) = true then (if ((b.2 == 0) == ok) = true then (if ok = true then (if (IntKind.u64.wrap (a.1)) = v then ((parapetlaw10_awake.f k).bind fun t => (some t)) else (some false)) else ((parapetlaw10_awake.f k).bind fun t => (some t))) else (some false)) else (some false))) true := by
  have hc := join_chars (l := l) dot
  have hp := dec_parts h0 dot
  have hlen : (joinP (l.map dec) ++ (if dot then [46] else [])).length < 20000 := by
    rw [List.length_append]; cases dot <;> simp <;> omega
  generalize joinP (l.map dec) ++ (if dot then [46] else []) = s at hc hp hlen ⊢
  have hb : Bytes s := fun c m => by have := hc c m; omega
  have hlast : (l.map dec).getLastD [] ∈ l.map dec := lastD_mem (by simpa using h0)
  obtain ⟨z, _, hz⟩ := List.mem_map.1 hlast
  have hnum : numericB ((partsL s).getLastD []) = true := by rw [hp, ← hz]; exact numeric_dec _
  have hs : s ≠ [] := fun e => by
    rw [e] at hp
    have : partsL [] = [[]] := by decide
    rw [this] at hp
    have hm : ([] : List Int) ∈ l.map dec := by rw [← hp]; simp
    obtain ⟨x, _, hx⟩ := List.mem_map.1 hm
    exact decD_ne _ hx
  have hn : numberL s = if ok then some v else none := by
    unfold numberL
    rw [hp, List.length_map]
    by_cases h4 : 4 < l.length
    · rw [if_pos h4, hok h4]; rfl
    · rw [if_neg h4]; exact hd (by omega)
  refine Ev.bind (Number_f hb (by omega)) ?_
  refine Ev.bind (Parse_f hb (by omega)) ?_
  rw [chars_host hs hc hnum, hn]
  cases ok with
  | false => exact ev_pos rfl (ev_pos rfl (ev_neg (by simp) awake10b))
  | true =>
    have hv := numberL_range (hn.trans (if_pos rfl))
    refine ev_pos rfl (ev_pos rfl (ev_pos rfl (ev_pos ?_ awake10b)))
    show IntKind.u64.wrap v = v
    exact wu hv.1 (by omega)
theorem dec_len {x : Int} (h : 0 ≤ x ∧ x ≤ 8589934592) : (dec x).length ≤ 10 := decD_short 9 x.toNat (by simp only [Nat.reduceAdd, Nat.reducePow]; omega)
theorem joinP_map_snoc (pre : List Int) (x : Int) : joinP ((pre ++ [x]).map dec) = joinP (pre.map dec) ++ ((if 0 < pre.length then [46] else []) ++ dec x) := by
  rw [List.map_append]
  by_cases h : pre = []
  · subst h; rfl
  · rw [show [x].map dec = [dec x] from rfl, join_snoc _ _ (by simpa using h), if_pos (List.length_pos_iff.2 h), List.append_assoc]
set_option maxRecDepth 100000 in
theorem parts_l0 {l : List Int} (h0 : l ≠ []) (h6 : l.length ≤ 6) (dot : Bool) : ∀ (suf pre : List Int) (ok : Bool) (v : Int), l = pre ++ suf → (∀ x ∈ pre, 0 ≤ x ∧ x ≤ 8589934592) → (joinP (pre.map dec)).length ≤ 11 * pre.length →
    (4 < l.length → ok = false) → (l.length ≤ 4 → 0 ≤ v ∧ v ≤ 288230376151711744 * pre.length) → (l.length ≤ 4 → suf ≠ [] → Told l ok v suf (4 - pre.length)) → (l.length ≤ 4 → suf = [] → Done l ok v) →
    Ev (fun k => parapetlaw10_HostParts.l0 k l dot (st (joinP (pre.map dec))) ok v (pre.length : Int)) true := by
  intro suf
  induction suf with
  | nil =>
    intro pre ok v e hr hj hok hv ht hd
    have e1 := mid_end e
    have e2 : l = pre := by rw [e, List.append_nil]
    have hl : l.length = pre.length := by rw [e2]
    refine Ev.step (fun k => by rw [parapetlaw10_HostParts.l0]) ?_
    refine ev_neg (by omega) ?_
    rw [← e2]
    have key := fun b => parts_end h0 h6 (by rw [e2]; exact hr) b ok v hok (fun h => hd h rfl) (by rw [e2]; omega)
    cases dot with
    | true =>
      refine ev_pos rfl (ev_pos (by rw [st_size, e2]; omega) ?_)
      rw [show (⟨#[46]⟩ : ByteArray) = st [46] from rfl, st_app]
      exact key true
    | false =>
      refine ev_neg (by simp) ?_
      have := key false
      rw [if_neg (by simp), List.append_nil] at this
      exact this
  | cons x t ih =>
    intro pre ok v e hr hj hok hv ht hd
    obtain ⟨e1, e2, e3⟩ := mid e
    have hrd := mid_rd e
    have hpl : pre.length < 6 := by omega
    have aw : Ev (fun k => parapetlaw10_HostParts.j2 k l dot (st (joinP (pre.map dec))) ok v (pre.length : Int) true) true := by
      refine Ev.step (fun k => by rw [parapetlaw10_HostParts.j2]) ?_
      exact ev_pos rfl awake10b
    refine Ev.step (fun k => by rw [parapetlaw10_HostParts.l0]) ?_
    refine ev_pos (by omega) (ev_pos (by omega) ?_)
    rw [hrd]
    by_cases c0 : x < 0
    · exact ev_pos c0 aw
    · refine ev_neg c0 ?_
      by_cases c1 : x > 8589934592
      · rw [decide_eq_true c1]; exact aw
      · rw [decide_eq_false c1]
        have hx : 0 ≤ x ∧ x ≤ 8589934592 := by omega
        have hdl := dec_len hx
        have hr' : ∀ y ∈ pre ++ [x], 0 ≤ y ∧ y ≤ 8589934592 := fun y hy => by
          rcases List.mem_append.1 hy with hy | hy
          · exact hr y hy
          · rw [List.mem_singleton.1 hy]; exact hx
        have hjs := joinP_map_snoc pre x
        have hj' : (joinP ((pre ++ [x]).map dec)).length ≤ 11 * (pre ++ [x]).length := by
          rw [hjs]
          simp only [List.length_append, List.length_singleton]
          split <;> simp <;> omega
        have hpl' : (pre ++ [x]).length = pre.length + 1 := by simp
        -- the step behind the point
        have step : Ev (fun k => parapetlaw10_HostParts.j3 k l dot (st (joinP (pre.map dec) ++ (if 0 < pre.length then [46] else []))) ok v (pre.length : Int)) true := by
          have hdx := ldigits_f (n := x.toNat) (by omega)
          rw [show ((x.toNat : Nat) : Int) = x by omega] at hdx
          have hsz : (joinP (pre.map dec) ++ (if 0 < pre.length then [46] else [])).length ≤ 11 * pre.length + 1 := by
            rw [List.length_append]; split <;> simp <;> omega
          refine Ev.step (fun k => by rw [parapetlaw10_HostParts.j3]) ?_
          refine ev_pos (by omega) (ev_pos (by omega) ?_)
          rw [hrd]
          refine Ev.bind hdx ?_
          refine ev_pos (by rw [st_size, st_size]; have : (decD x.toNat).length ≤ 10 := hdl; omega) ?_
          rw [st_app, List.append_assoc, show (if 0 < pre.length then [46] else []) ++ decD x.toNat = (if 0 < pre.length then [46] else []) ++ dec x from rfl, ← hjs, w64 (x := (pre.length : Int) + 1) (by omega) (by omega), e2]
          by_cases c4 : (l.length : Int) > 4
          · refine ev_pos c4 ?_
            exact ih (pre ++ [x]) ok v e3 hr' hj' hok (fun h => by omega) (fun h => by omega) (fun h => by omega)
          · refine ev_neg c4 ?_
            have hl4 : l.length ≤ 4 := by omega
            have hvv := hv hl4
            have htt := ht hl4 (by simp)
            have hll : l.length = pre.length + (t.length + 1) := by rw [e, List.length_append, List.length_cons]
            have pl3 : pre.length = 0 ∨ pre.length = 1 ∨ pre.length = 2 ∨ pre.length = 3 := by omega
            cases t with
            | cons y t' =>
              simp only [List.length_cons] at hll
              have pl2 : 3 - pre.length = 1 ∨ 3 - pre.length = 2 ∨ 3 - pre.length = 3 := by omega
              have hsh : shl .u64 (IntKind.u64.wrap x) (wrap64 (8 * (wrap64 (3 - (pre.length : Int))))) = x * 2 ^ (8 * (3 - pre.length)) ∧ x * 2 ^ (8 * (3 - pre.length)) ≤ 144115188075855872 ∧ 0 ≤ x * 2 ^ (8 * (3 - pre.length)) := by
                rw [wu hx.1 (by omega), w64 (x := 3 - (pre.length : Int)) (by omega) (by omega), w64 (by omega) (by omega), show 8 * (3 - (pre.length : Int)) = ((8 * (3 - pre.length) : Nat) : Int) by omega, shl_u64 (by omega)]
                rcases pl2 with q | q | q <;> rw [q] <;> simp only [Nat.reduceMul, Int.reducePow] <;> omega
              refine ev_pos (by omega) ?_
              have told' : Told l (ok && decide (x ≤ 255)) (v + x * 2 ^ (8 * (3 - pre.length))) (y :: t') (4 - (pre ++ [x]).length) := by
                unfold Told at htt ⊢
                cases ok with
                | false => rw [if_neg (by simp)] at htt; rw [Bool.false_and, if_neg (by simp)]; exact htt
                | true =>
                  rw [if_pos rfl] at htt
                  rw [htt, Bool.true_and, List.map_cons, List.map_cons, numL, part_dec hx.1]
                  by_cases c255 : x ≤ 255
                  · rw [decide_eq_true c255, if_pos rfl, if_pos (by omega), Option.bind_some, if_neg (by omega), Option.map_map, show 4 - pre.length - 1 = 4 - (pre ++ [x]).length by omega, show 3 - pre.length = 4 - (pre ++ [x]).length by omega]
                    congr 1
                    funext w
                    simp only [Function.comp]
                    omega
                  · rw [decide_eq_false c255, if_neg (by simp)]
                    by_cases c32 : x < 4294967296
                    · rw [if_pos c32, Option.bind_some, if_pos (by omega)]; rfl
                    · rw [if_neg c32]; rfl
              have go := ih (pre ++ [x]) (ok && decide (x ≤ 255)) (v + x * 2 ^ (8 * (3 - pre.length))) e3 hr' hj' (fun h => by omega) (fun _ => by rw [hpl']; omega) (fun _ _ => told') (fun _ h => by cases h)
              have hvn : IntKind.u64.wrap (v + x * 2 ^ (8 * (3 - pre.length))) = v + x * 2 ^ (8 * (3 - pre.length)) := wu (by omega) (by omega)
              cases ok with
              | true =>
                refine ev_pos rfl (ev_pos (by rw [w64 (x := 3 - (pre.length : Int)) (by omega) (by omega), w64 (by omega) (by omega)]; omega) ?_)
                rw [hsh.1, hvn]
                exact go
              | false =>
                refine ev_neg (by simp) (ev_pos (by rw [w64 (x := 3 - (pre.length : Int)) (by omega) (by omega), w64 (by omega) (by omega)]; omega) ?_)
                rw [hsh.1, hvn]
                exact go
            | nil =>
              simp only [List.length_nil] at hll
              refine ev_neg (by omega) ?_
              have hsh : shl .i64 1 (wrap64 (8 * (wrap64 (5 - (l.length : Int))))) = 2 ^ (8 * (4 - pre.length)) := by
                rw [w64 (x := 5 - (l.length : Int)) (by omega) (by omega), w64 (by omega) (by omega), show 8 * (5 - (l.length : Int)) = ((8 * (4 - pre.length) : Nat) : Int) by omega, shl_i64 (by omega)]
                rcases pl3 with q | q | q | q <;> rw [q] <;> simp only [Nat.reduceSub, Nat.reduceMul, Int.reducePow] <;> rw [w64 (by omega) (by omega)] <;> rfl
              have hdone : Done l (ok && decide (x < 2 ^ (8 * (4 - pre.length)))) (v + x) := by
                unfold Told at htt
                unfold Done
                cases ok with
                | false => rw [if_neg (by simp)] at htt; rw [htt]; rfl
                | true =>
                  rw [if_pos rfl] at htt
                  rw [htt, Bool.true_and, show [x].map dec = [dec x] from rfl, numL, part_dec hx.1]
                  by_cases cc : x < 2 ^ (8 * (4 - pre.length))
                  · rw [decide_eq_true cc, if_pos (by rcases pl3 with q | q | q | q <;> rw [q] at cc <;> simp only [Nat.reduceSub, Nat.reduceMul, Int.reducePow] at cc <;> omega), Option.bind_some, if_pos cc]
                    rfl
                  · rw [decide_eq_false cc]
                    by_cases c32 : x < 4294967296
                    · rw [if_pos c32, Option.bind_some, if_neg cc]; rfl
                    · rw [if_neg c32]; rfl
              have hvn : IntKind.u64.wrap (v + IntKind.u64.wrap x) = v + x := by rw [wu hx.1 (by omega), wu (by omega) (by omega)]
              have go := ih (pre ++ [x]) (ok && decide (x < 2 ^ (8 * (4 - pre.length)))) (v + x) e3 hr' hj' (fun h => by omega) (fun _ => by rw [hpl']; omega) (fun _ h => absurd rfl h) (fun _ _ => hdone)
              cases ok with
              | true =>
                refine ev_pos rfl (ev_pos (by rw [w64 (x := 5 - (l.length : Int)) (by omega) (by omega), w64 (by omega) (by omega)]; omega) ?_)
                rw [hsh, hvn]
                exact go
              | false =>
                refine ev_neg (by simp) ?_
                rw [hvn]
                exact go
        refine Ev.step (fun k => by rw [parapetlaw10_HostParts.j2]) ?_
        refine ev_neg (by simp) ?_
        by_cases cp : 0 < pre.length
        · rw [if_pos cp] at step
          refine ev_pos (by omega) (ev_pos (by rw [st_size]; omega) ?_)
          rw [show (⟨#[46]⟩ : ByteArray) = st [46] from rfl, st_app]
          exact step
        · rw [if_neg cp, List.append_nil] at step
          exact ev_neg (by omega) step
theorem HostParts (l0 : List Int) (a1 : Bool) : ∃ k, parapetlaw10_HostParts.f k l0 a1 = some true := by
  refine Ev.rounds ?_
  have aw : Ev (fun k => parapetlaw10_HostParts.j0 k l0 a1 true) true := by
    refine Ev.step (fun k => by rw [parapetlaw10_HostParts.j0]) ?_
    exact ev_pos rfl awake10b
  unfold parapetlaw10_HostParts.f
  by_cases h1 : (l0.length : Int) < 1
  · exact ev_pos h1 aw
  · refine ev_neg h1 ?_
    by_cases h2 : (l0.length : Int) > 6
    · rw [decide_eq_true h2]; exact aw
    · rw [decide_eq_false h2]
      refine Ev.step (fun k => by rw [parapetlaw10_HostParts.j0]) ?_
      refine ev_neg (by simp) ?_
      have hne : l0 ≠ [] := fun e => by subst e; simp at h1
      have := parts_l0 hne (by omega) a1 l0 [] (decide ((l0.length : Int) ≤ 4)) 0 rfl (fun x h => by cases h) (by simp [joinP]) (fun h => decide_eq_false (by omega)) (fun _ => ⟨by omega, by simp⟩)
        (fun h _ => by unfold Told; rw [decide_eq_true (by omega), if_pos rfl]; simp only [List.length_nil, Nat.sub_zero, Int.zero_add]; cases numL 4 (l0.map dec) <;> rfl) (fun _ h => absurd h hne)
      exact this
end Go.Proofs.YtgldmliemeadpaaDoor.PA
