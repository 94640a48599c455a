import Derived.Test.YtopejcaiabebpaaDoorJ
import Derived.Test.YtopejcaiabebpaaDoorK14
import Derived.Test.YtopejcaiabebpaaDoorPAx10
namespace Go.Proofs.YtopejcaiabebpaaDoor.PA
open Go.RowKit Go.Proofs.YtopejcaiabebpaaDoorW.PrintWords Go.Proofs.YtopejcaiabebpaaDoorW.PrintLast Go.Proofs.YtopejcaiabebpaaDoorW.PrintMore Go.Proofs.YtopejcaiabebpaaDoorPL
open Go.Proofs.YtopejcaiabebpaaDoorWS
set_option linter.unusedVariables false
theorem First_l2 {l : List Dr} (hl : ∀ d ∈ l, OkD d) (hN : Names l) (hn : l.length < 4611686018427387904) {i : Nat} (hi : i < l.length) {r : Bool} (hr : Ev (fun q => parapetlaw14_CspFirst.l0 q (l.map dst) ((i : Int) + 1)) r) : ∀ (d k : Nat), i - k = d → k ≤ i → Ev (fun q => parapetlaw14_CspFirst.l2 q (l.map dst) (i : Int) (k : Int)) r
  | 0, k, hd, hk => by
    have : k = i := by omega
    subst this
    refine Ev.step (fun k => by rw [parapetlaw14_CspFirst.l2]) ?_
    refine ev_neg (by omega) ?_
    rw [w64 (by omega) (by omega)]
    exact hr
  | d + 1, k, hd, hk => by
    have ih := First_l2 hl hN hn hi hr d (k + 1) (by omega) (by omega)
    refine Ev.step (fun k => by rw [parapetlaw14_CspFirst.l2]) ?_
    refine ev_pos (by omega) (ev_pos (by omega) (ev_pos (by rw [List.length_map]; omega) (ev_pos (by omega) (ev_pos (by rw [List.length_map]; omega) ?_))))
    rw [getDr (show k < l.length by omega), getDr hi, w64 (by omega) (by omega), show (k : Int) + 1 = ((k + 1 : Nat) : Int) by omega]
    refine ev_neg (fun h => hN.2 i k (by omega) hi ((toList_eq (hl _ (getDr_mem (show k < l.length by omega))).1 (hl _ (getDr_mem hi)).1).1 h)) ?_
    exact ih
theorem First_l1 {l : List Dr} (hl : ∀ d ∈ l, OkD d) (hN : Names l) (hn : l.length < 4611686018427387904) {i : Nat} (hi : i < l.length) (hsz : (l.getD i ([], [])).1.length < 4611686018427387904) {r : Bool} (hr : Ev (fun q => parapetlaw14_CspFirst.l0 q (l.map dst) ((i : Int) + 1)) r) : ∀ (d k : Nat), (l.getD i ([], [])).1.length - k = d → k ≤ (l.getD i ([], [])).1.length → Ev (fun q => parapetlaw14_CspFirst.l1 q (l.map dst) (i : Int) (k : Int)) r
  | 0, k, hd, hk => by
    refine Ev.step (fun k => by rw [parapetlaw14_CspFirst.l1]) ?_
    refine ev_pos (by omega) (ev_pos (by rw [List.length_map]; omega) ?_)
    rw [getDr hi]
    refine ev_neg (by show ¬ (k : Int) < ((st _).size : Int); rw [st_size]; omega) ?_
    exact First_l2 hl hN hn hi hr i 0 (by omega) (by omega)
  | d + 1, k, hd, hk => by
    have ih := First_l1 hl hN hn hi hsz hr d (k + 1) (by omega) (by omega)
    have hO := hl _ (getDr_mem hi)
    have hS := hN.1 _ (getDr_mem hi)
    refine Ev.step (fun k => by rw [parapetlaw14_CspFirst.l1]) ?_
    refine ev_pos (by omega) (ev_pos (by rw [List.length_map]; omega) ?_)
    rw [getDr hi, w64 (by omega) (by omega), show (k : Int) + 1 = ((k + 1 : Nat) : Int) by omega]
    generalize l.getD i ([], []) = e at hO hS hd hk hsz ⊢
    refine ev_pos (by show (k : Int) < ((st _).size : Int); rw [st_size]; omega) (ev_pos (by omega) ?_)
    have hc := hS (rd e.1 (k : Int)) (by rw [rd_nat, List.getD_eq_getElem?_getD, List.getElem?_eq_getElem (by omega)]; exact List.getElem_mem _)
    rw [show bt (dst e).f0 (k : Int) = rd e.1 (k : Int) from bt_st hO.1 _]
    generalize rd e.1 (k : Int) = c at hc ⊢
    refine ev_ite (fun h => ev_neg (by omega) (ev_neg (by omega) ?_)) (fun h => ev_neg (by omega) ?_)
    · exact ih
    · exact ih
theorem First_l0 {l : List Dr} (hl : ∀ d ∈ l, OkD d) (hN : Names l) (hs : ∀ d ∈ l, d.1.length < 4611686018427387904) (hn : l.length < 4611686018427387904) : ∀ (d i : Nat), l.length - i = d → i ≤ l.length → Ev (fun q => parapetlaw14_CspFirst.l0 q (l.map dst) (i : Int)) true
  | 0, i, hd, hi => by
    have : i = l.length := by omega
    subst this
    refine Ev.step (fun k => by rw [parapetlaw14_CspFirst.l0]) ?_
    refine ev_neg (by rw [List.length_map]; omega) ?_
    exact awake14b
  | d + 1, i, hd, hi => by
    have ih := First_l0 hl hN hs hn d (i + 1) (by omega) (by omega)
    rw [show ((i + 1 : Nat) : Int) = (i : Int) + 1 by omega] at ih
    refine Ev.step (fun k => by rw [parapetlaw14_CspFirst.l0]) ?_
    refine ev_pos (by rw [List.length_map]; omega) ?_
    exact First_l1 hl hN hn (show i < l.length by omega) (hs _ (getDr_mem (show i < l.length by omega))) ih _ 0 rfl (by omega)
theorem cspStep_size {B : Nat} {acc : List Dr} {p : List Int} (ha : ∀ d ∈ acc, d.1.length < B) (hl : p.length < B) : ∀ d ∈ cspStep acc p, d.1.length < B := by
  intro d hd
  unfold cspStep at hd
  split at hd
  · exact ha d hd
  · rename_i h
    split at hd
    · exact ha d hd
    · rcases List.mem_append.1 hd with hd | hd
      · exact ha d hd
      · rw [List.mem_singleton.1 hd]
        have hne : blanksL p ≠ [] := fun e => h (.inr e)
        have := blanksL_short _ (headD_mem hne)
        show (lowerL _).length < B
        rw [lowerL_length]
        omega
theorem foldl_size {B : Nat} : ∀ {ps : List (List Int)}, (∀ p ∈ ps, p.length < B) → ∀ {acc : List Dr}, (∀ d ∈ acc, d.1.length < B) → ∀ d ∈ ps.foldl cspStep acc, d.1.length < B
  | [], _, acc, ha, d, hd => ha d hd
  | p :: ps, hp, acc, ha, d, hd => foldl_size (fun q hq => hp q (List.mem_cons_of_mem _ hq)) (cspStep_size ha (hp p List.mem_cons_self)) d hd
theorem cspL_size {xs : List Int} {B : Nat} (h : xs.length < B) : ∀ d ∈ cspL xs, d.1.length < B := foldl_size (fun p hp => by have := splitL_short p hp; omega) (fun d hd => by cases hd)
theorem CspFirst (a0 a1 : ByteArray) (h0 : a0.size ≤ 140737488351232) (h1 : a1.size ≤ 140737488351232) : ∃ k, parapetlaw14_CspFirst.f k a0 a1 = some true := by
  apply Ev.rounds
  obtain ⟨xs, rfl, hx, hl⟩ := st_of a0
  obtain ⟨ys, rfl, hy, hl2⟩ := st_of a1
  unfold parapetlaw14_CspFirst.f
  rw [st_size, st_size, w64 (by omega) (by omega)]
  by_cases h : xs.length + ys.length > 3000
  · exact ev_pos (by omega) awake14b
  · have hc : Bytes (xs ++ 59 :: ys) := hx.append (Bytes.cons (by omega) hy)
    have hcl : (xs ++ 59 :: ys).length < 1048576 := by simp only [List.length_append, List.length_cons]; omega
    have e1 : st xs ++ (⟨#[59]⟩ : ByteArray) ++ st ys = st (xs ++ 59 :: ys) := by rw [show (⟨#[59]⟩ : ByteArray) = st [59] from rfl, st_app, st_app, List.append_assoc]; rfl
    obtain ⟨t, ht⟩ := foldl_more (splitL 59 ys) (cspL xs)
    have e2 : cspL (xs ++ 59 :: ys) = cspL xs ++ t := by
      rw [← ht]
      unfold cspL
      rw [splitL_app, List.foldl_append]
    have hf := cspL_few hcl
    refine ev_neg (by omega) (ev_pos (by omega) (ev_pos (by rw [show (⟨#[59]⟩ : ByteArray) = st [59] from rfl, st_app, st_size, List.length_append]; simp only [List.length_cons, List.length_nil]; omega) ?_))
    rw [e1]
    refine Ev.bind (cspParse_f hc hcl) (Ev.bind (cspParse_f hx (by omega)) ?_)
    rw [List.length_map, List.length_map]
    have hle : (cspL xs).length ≤ (cspL (xs ++ 59 :: ys)).length := by rw [e2, List.length_append]; omega
    refine ev_neg (by omega) (ev_pos (by omega) (ev_pos (by omega) ?_))
    rw [Int.toNat_natCast, ← List.map_take, show (cspL (xs ++ 59 :: ys)).take (cspL xs).length = cspL xs by rw [e2, List.take_left]]
    refine Ev.bind (same_f (cspL_ok hx (by omega)) (cspL_ok hx (by omega)) (by omega)) ?_
    rw [show (!(cspL xs == cspL xs)) = false by simp]
    refine Ev.step (fun k => by rw [parapetlaw14_CspFirst.j0]) ?_
    refine ev_neg (by simp) ?_
    exact First_l0 (cspL_ok hc hcl) (cspL_names _) (fun d hd => Nat.lt_trans (cspL_size hcl d hd) (by decide)) (by omega) _ 0 rfl (by omega)
end Go.Proofs.YtopejcaiabebpaaDoor.PA
