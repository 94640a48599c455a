import Derived.Test.YtknkokkgefcdbaaDoorU2
namespace Go.Proofs.YtknkokkgefcdbaaDoor.PA
open Go.RowKit Go.Proofs.YtknkokkgefcdbaaDoorW.PrintWords Go.Proofs.YtknkokkgefcdbaaDoorW.PrintLast Go.Proofs.YtknkokkgefcdbaaDoorW.PrintMore Go.Proofs.YtknkokkgefcdbaaDoorPL
open Go.Proofs.YtknkokkgefcdbaaDoorWS
set_option linter.unusedVariables false
set_option linter.unusedSimpArgs false
theorem atL_any {xs : List Int} (hx : Bytes xs) (hl : xs.length < 1048576) : ∀ (d i : Nat) (a : Int), xs.length - i = d → i ≤ xs.length → -1 ≤ a → a < (xs.length : Int) → ∃ r, Ev (fun k => atL k (st xs) a (i : Int)) r ∧ -1 ≤ r ∧ (r < (xs.length : Int) ∨ r = -1)
  | 0, i, a, hd, hi, h0, h1 => by
    refine ⟨a, ?_, h0, .inl h1⟩
    refine Ev.step (fun k => by rw [atL]) ?_
    exact ev_neg (by rw [st_size]; omega) (Ev.now _)
  | d + 1, i, a, hd, hi, h0, h1 => by
    by_cases h : bt (st xs) (i : Int) = 64
    · obtain ⟨r, hr, h2⟩ := atL_any hx hl d (i + 1) (i : Int) (by omega) (by omega) (by omega) (by omega)
      rw [show ((i + 1 : Nat) : Int) = (i : Int) + 1 by omega] at hr
      refine ⟨r, ?_, h2⟩
      refine Ev.step (fun k => by rw [atL]) ?_
      refine ev_pos (by rw [st_size]; omega) (ev_pos (by omega) (ev_pos h ?_))
      rw [w64 (by omega) (by omega)]
      exact hr
    · obtain ⟨r, hr, h2⟩ := atL_any hx hl d (i + 1) a (by omega) (by omega) h0 h1
      rw [show ((i + 1 : Nat) : Int) = (i : Int) + 1 by omega] at hr
      refine ⟨r, ?_, h2⟩
      refine Ev.step (fun k => by rw [atL]) ?_
      refine ev_pos (by rw [st_size]; omega) (ev_pos (by omega) (ev_neg h ?_))
      rw [w64 (by omega) (by omega)]
      exact hr
theorem at_any {xs : List Int} (hx : Bytes xs) (hl : xs.length < 1048576) : ∃ r, Ev (fun k => atL k (st xs) (-1) 0) r ∧ -1 ≤ r ∧ (r < (xs.length : Int) ∨ r = -1) := by
  cases xs with
  | nil =>
    refine ⟨-1, ?_, by omega, .inr rfl⟩
    refine Ev.step (fun k => by rw [atL]) ?_
    exact ev_neg (by rw [st_size]; simp) (Ev.now _)
  | cons x xs => exact atL_any hx hl _ 0 (-1) rfl (by omega) (by omega) (by simp; omega)
theorem portL_any {xs : List Int} (hx : Bytes xs) (hl : xs.length < 1048576) : ∀ (d i : Nat) (n : Int), xs.length - i = d → i ≤ xs.length → ∃ r, Ev (fun k => portL k (st xs) n (i : Int)) r
  | 0, i, n, hd, hi => by
    refine ⟨some n, ?_⟩
    refine Ev.step (fun k => by rw [portL]) ?_
    exact ev_neg (by rw [st_size]; omega) (Ev.now _)
  | d + 1, i, n, hd, hi => by
    by_cases h : wrap64 (wrap64 (10 * n) + (bt (st xs) (i : Int) - 48) % 256) > 65535
    · refine ⟨none, ?_⟩
      refine Ev.step (fun k => by rw [portL]) ?_
      exact ev_pos (by rw [st_size]; omega) (ev_pos (by omega) (ev_pos h (Ev.now _)))
    · obtain ⟨r, hr⟩ := portL_any hx hl d (i + 1) (wrap64 (wrap64 (10 * n) + (bt (st xs) (i : Int) - 48) % 256)) (by omega) (by omega)
      rw [show ((i + 1 : Nat) : Int) = (i : Int) + 1 by omega] at hr
      refine ⟨r, ?_⟩
      refine Ev.step (fun k => by rw [portL]) ?_
      refine ev_pos (by rw [st_size]; omega) (ev_pos (by omega) (ev_neg h ?_))
      rw [w64 (x := (i : Int) + 1) (by omega) (by omega)]
      exact hr
theorem cutTo_st {xs : List Int} {n : Nat} (h : n ≤ xs.length) : cutTo (st xs) (n : Int) = some (st (xs.take n)) := by
  unfold cutTo
  rw [if_pos (by omega), st_size, if_pos (by omega), Int.toNat_natCast, st_extl]
theorem cutFrom_st {xs : List Int} {n : Nat} (h : n ≤ xs.length) : cutFrom (st xs) (n : Int) = some (st (xs.drop n)) := by
  unfold cutFrom
  rw [if_pos (by omega)]
  rw [show ((st xs).size : Int) = (xs.length : Int) by rw [st_size], if_pos (by omega), Int.toNat_natCast, st_extr]
theorem colon_bytes : Bytes [58] := bytes_lit (by decide)
theorem partU_any {xs : List Int} (hx : Bytes xs) (hl : xs.length < 1048576) {n : Nat} (hn : n ≤ xs.length) (s : Int) : ∃ b ys, Ev (fun k => partU k (st xs) (n : Int) s) (b, st ys) ∧ Bytes ys ∧ ys.length ≤ 3 * xs.length := by
  unfold partU
  by_cases h : n < xs.length
  · obtain ⟨ys, he, h1, h2⟩ := Encode_any (hx.drop (n + 1)) (by rw [List.length_drop]; omega) s
    rw [List.length_drop] at h2
    refine ⟨true, ys, ?_, h1, by omega⟩
    refine ev_pos (by rw [st_size]; omega) ?_
    rw [w64 (by omega) (by omega), show (n : Int) + 1 = ((n + 1 : Nat) : Int) by omega]
    exact ev_const (cutFrom_st (by omega)) (Ev.bind he (Ev.now _))
  · exact ⟨false, [], ev_neg (by rw [st_size]; omega) (Ev.now _), Bytes.nil, by simp⟩
theorem userU_any {xs : List Int} (hx : Bytes xs) (hl : xs.length < 1048576) {a : Int} (h0 : -1 ≤ a) (h1 : a < (xs.length : Int) ∨ a = -1) : ∃ r u p, Ev (fun k => userU k (st xs) a) (st r, st u, st p) ∧ Bytes r ∧ r.length ≤ xs.length ∧ Bytes u ∧ u.length ≤ 3 * xs.length ∧ Bytes p ∧ p.length ≤ 3 * xs.length := by
  unfold userU
  by_cases h : 0 ≤ a
  · obtain ⟨m, rfl⟩ : ∃ m : Nat, a = (m : Int) := ⟨a.toNat, by omega⟩
    have hm : m < xs.length := by omega
    have hus : Bytes (xs.take m) := hx.take m
    have hul : (xs.take m).length = m := by rw [List.length_take]; omega
    obtain ⟨n, hn, hnl⟩ := upTo_any hus colon_bytes (by omega) (by decide)
    obtain ⟨eu, he, hb, hel⟩ := Encode_any (hus.take n) (by rw [List.length_take]; omega) 4
    rw [List.length_take] at hel
    rw [w64 (by omega) (by omega), show (m : Int) + 1 = ((m + 1 : Nat) : Int) by omega]
    by_cases hc : n < (xs.take m).length
    · obtain ⟨ep, hp, hpb, hpl⟩ := Encode_any (hus.drop (n + 1)) (by rw [List.length_drop]; omega) 4
      rw [List.length_drop] at hpl
      refine ⟨xs.drop (m + 1), eu, ep, ?_, hx.drop _, by rw [List.length_drop]; omega, hb, by omega, hpb, by omega⟩
      refine ev_pos (by omega) (ev_const (cutTo_st (by omega)) (ev_const (cutFrom_st (by omega)) (Ev.bind hn (ev_const (cutTo_st hnl) (Ev.bind he ?_)))))
      refine ev_pos (by rw [st_size]; omega) ?_
      rw [w64 (by omega) (by omega), show (n : Int) + 1 = ((n + 1 : Nat) : Int) by omega]
      exact ev_const (cutFrom_st (by omega)) (Ev.bind hp (Ev.now _))
    · refine ⟨xs.drop (m + 1), eu, [], ?_, hx.drop _, by rw [List.length_drop]; omega, hb, by omega, Bytes.nil, by simp⟩
      refine ev_pos (by omega) (ev_const (cutTo_st (by omega)) (ev_const (cutFrom_st (by omega)) (Ev.bind hn (ev_const (cutTo_st hnl) (Ev.bind he ?_)))))
      exact ev_neg (by rw [st_size]; omega) (Ev.now _)
  · exact ⟨xs, [], [], ev_neg h (Ev.now _), hx, Nat.le_refl _, Bytes.nil, by simp, Bytes.nil, by simp⟩
/-- a host that was read -/
def HostOk (h : List Int) (N : Nat) : Prop := Bytes h ∧ h.length ≤ N + 2000 ∧ hostL h = some h
theorem hostU_any {sc xs : List Int} (hs : Bytes sc) (hx : Bytes xs) (hl : xs.length < 1000000) : ∃ b h p, Ev (fun k => hostU k (st sc) (st xs)) (b, st h, p) ∧ (b = true → HostOk h xs.length) := by
  unfold hostU
  obtain ⟨n, hn, hnl⟩ := upTo_any hx colon_bytes (by omega) (by decide)
  have hh := rHost_f (hx.take n) (by rw [List.length_take]; omega)
  cases hr : hostL (xs.take n) with
  | none =>
    rw [hr] at hh
    exact ⟨false, [], 0, Ev.bind hn (ev_const (cutTo_st hnl) (Ev.bind hh (ev_neg (by simp [stR]) (Ev.now _)))), fun h => by cases h⟩
  | some h =>
    rw [hr] at hh
    have hok : HostOk h xs.length := ⟨hostL_bytes (hx.take n) hr, by have := hostL_length hr; rw [List.length_take] at this; omega, host_back hr⟩
    have fin : ∀ b p, Ev (fun k => if (n : Int) = ((st xs).size : Int) then some (true, st h, (-1 : Int)) else (cutFrom (st xs) (wrap64 ((n : Int) + 1))).bind fun p => if p.toList = ([] : List UInt8) then some (true, st h, -1) else
      (parapetref9_digits.f k p 10).bind fun d => if d = true then (portL k p 0 0).bind fun m => (match m with
        | none => some (false, st h, -1)
        | some v => (parapetref9_Default.f k (st sc)).bind fun df => if v = df.1 then some (true, st h, -1) else some (true, st h, v)) else some (false, st h, -1)) (b, st h, p) → ∃ b h p, Ev (fun k => (parapetref9_upTo.f k (st xs) ⟨#[58]⟩).bind fun n => (cutTo (st xs) n).bind fun x => (parapetref9_Host.f k x).bind fun h => if h.2 = 0 then (if n = ((st xs).size : Int) then some (true, h.1, -1) else (cutFrom (st xs) (wrap64 (n + 1))).bind fun p => if p.toList = ([] : List UInt8) then some (true, h.1, -1) else
      (parapetref9_digits.f k p 10).bind fun d => if d = true then (portL k p 0 0).bind fun m => (match m with
        | none => some (false, h.1, -1)
        | some v => (parapetref9_Default.f k (st sc)).bind fun df => if v = df.1 then some (true, h.1, -1) else some (true, h.1, v)) else some (false, h.1, -1)) else some (false, ⟨#[]⟩, 0)) (b, st h, p) ∧ (b = true → HostOk h xs.length) := by
      intro b p H
      exact ⟨b, h, p, Ev.bind hn (ev_const (cutTo_st hnl) (Ev.bind hh (ev_pos rfl H))), fun _ => hok⟩
    by_cases h1 : n = xs.length
    · exact fin true (-1) (ev_pos (by rw [st_size]; omega) (Ev.now _))
    · have hp : Bytes (xs.drop (n + 1)) := hx.drop _
      have hpl : (xs.drop (n + 1)).length < 1048576 := by rw [List.length_drop]; omega
      have hcut : cutFrom (st xs) (wrap64 ((n : Int) + 1)) = some (st (xs.drop (n + 1))) := by
        rw [w64 (by omega) (by omega), show (n : Int) + 1 = ((n + 1 : Nat) : Int) by omega]
        exact cutFrom_st (by omega)
      have h1' : ¬ (n : Int) = ((st xs).size : Int) := by rw [st_size]; omega
      by_cases h2 : xs.drop (n + 1) = []
      · exact fin true (-1) (ev_neg h1' (ev_const hcut (ev_pos (toList_nil.2 h2) (Ev.now _))))
      · have h2' : ¬ (st (xs.drop (n + 1))).toList = ([] : List UInt8) := fun h => h2 (toList_nil.1 h)
        have hd := rdigits_f 10 hp (by omega)
        cases hdb : (digitsB 10 (xs.drop (n + 1)) && xs.drop (n + 1) != []) with
        | false =>
          rw [hdb] at hd
          exact fin false (-1) (ev_neg h1' (ev_const hcut (ev_neg h2' (Ev.bind hd (ev_neg (by simp) (Ev.now _))))))
        | true =>
          rw [hdb] at hd
          obtain ⟨m, hm⟩ := portL_any hp hpl _ 0 0 rfl (by omega)
          cases m with
          | none => exact fin false (-1) (ev_neg h1' (ev_const hcut (ev_neg h2' (Ev.bind hd (ev_pos rfl (Ev.bind hm (Ev.now _)))))))
          | some v =>
            by_cases h3 : v = (dflt sc).1
            · exact fin true (-1) (ev_neg h1' (ev_const hcut (ev_neg h2' (Ev.bind hd (ev_pos rfl (Ev.bind hm (Ev.bind (rDefault_f hs) (ev_pos h3 (Ev.now _)))))))))
            · exact fin true v (ev_neg h1' (ev_const hcut (ev_neg h2' (Ev.bind hd (ev_pos rfl (Ev.bind hm (Ev.bind (rDefault_f hs) (ev_neg h3 (Ev.now _)))))))))
theorem authU_any {sc xs : List Int} (hs : Bytes sc) (hx : Bytes xs) (hl : xs.length < 1000000) : ∃ b u p h n, Ev (fun k => authU k (st sc) (st xs)) (b, st u, st p, st h, n) ∧ Bytes u ∧ Bytes p ∧ (b = true → HostOk h xs.length) ∧ u.length ≤ 3 * xs.length ∧ p.length ≤ 3 * xs.length := by
  obtain ⟨a, ha, h0, h1⟩ := at_any hx (by omega)
  obtain ⟨r, u, p, hu, hr, hrl, hub, hul, hpb, hpl⟩ := userU_any hx (by omega) h0 h1
  obtain ⟨b, h, n, hh, hok⟩ := hostU_any hs hr (by omega)
  refine ⟨b, u, p, h, n, ?_, hub, hpb, fun e => ?_, hul, hpl⟩
  · unfold authU
    exact Ev.bind ha (Ev.bind hu (Ev.bind hh (Ev.now _)))
  · obtain ⟨q1, q2, q3⟩ := hok e
    exact ⟨q1, by omega, q3⟩
/-- a URL that was read -/
def UrlOk (sc us ps h : List Int) (po : Int) (pa qf ff : List Int) : Prop :=
  Bytes sc ∧ (dflt sc).2 = true ∧ Bytes us ∧ us.length ≤ 200000 ∧ Bytes ps ∧ ps.length ≤ 200000 ∧ HostOk h 65536 ∧ Bytes pa ∧ pa.length ≤ 20000000000 ∧ Bytes qf ∧ qf.length ≤ 200000 ∧ Bytes ff ∧ ff.length ≤ 200000
theorem tailU_any {sc us ps h s3 : List Int} {po : Int} (hx : Bytes s3) (hl : s3.length ≤ 65536) : ∃ pa qb qf fb ff, Ev (fun k => tailU k (st sc) (st s3) (st us) (st ps) (st h) po) (st sc, st us, st ps, st h, po, st pa, qb, st qf, fb, st ff, 0) ∧ Bytes pa ∧ pa.length ≤ 20000000000 ∧ Bytes qf ∧ qf.length ≤ 200000 ∧ Bytes ff ∧ ff.length ≤ 200000 := by
  obtain ⟨k3, h3, l3⟩ := upTo_any hx (show Bytes [35] from bytes_lit (by decide)) (by omega) (by decide)
  obtain ⟨fb, ff, hf, hfb, hfl⟩ := partU_any hx (by omega) l3 1
  have h4 := hx.take k3
  have l4 : (s3.take k3).length ≤ 65536 := by rw [List.length_take]; omega
  obtain ⟨k4, h5, l5⟩ := upTo_any h4 (show Bytes [63] from bytes_lit (by decide)) (by omega) (by decide)
  obtain ⟨qb, qf, hq, hqb, hql⟩ := partU_any h4 (by omega) l5 2
  have h6 := h4.take k4
  have l6 : ((s3.take k3).take k4).length ≤ 65536 := by rw [List.length_take]; omega
  obtain ⟨pa, hp, hpb, hpl⟩ := path_any h6 (by omega)
  have hm : (((s3.take k3).take k4).length + 2) * (3 * ((s3.take k3).take k4).length + 1) ≤ 65538 * 196609 := Nat.mul_le_mul (by omega) (by omega)
  refine ⟨pa, qb, qf, fb, ff, ?_, hpb, by omega, hqb, by omega, hfb, by omega⟩
  unfold tailU
  exact Ev.bind h3 (Ev.bind hf (ev_const (cutTo_st l3) (Ev.bind h5 (Ev.bind hq (ev_const (cutTo_st l5) (Ev.bind hp (Ev.now _)))))))
theorem URL_any (a0 : ByteArray) (ha : a0.size < 9223372036854775808) : ∃ sc us ps h po pa qb qf fb ff e, Ev (fun k => parapetref9_URL.f k a0) (st sc, st us, st ps, st h, po, st pa, qb, st qf, fb, st ff, e) ∧ (e = 0 → UrlOk sc us ps h po pa qf ff) := by
  obtain ⟨xs, rfl, hx, hl⟩ := st_of a0
  have bad : ∀ {f : Nat → Option UrlR}, Ev f noUrl → ∃ sc us ps h po pa qb qf fb ff e, Ev f (st sc, st us, st ps, st h, po, st pa, qb, st qf, fb, st ff, e) ∧ (e = 0 → UrlOk sc us ps h po pa qf ff) := fun H => ⟨[], [], [], [], 0, [], false, [], false, [], 8, H, fun h => by cases h⟩
  unfold parapetref9_URL.f
  by_cases h1 : ((st xs).size : Int) > 65536
  · exact bad (ev_pos h1 (Ev.now _))
  rw [st_size] at h1 ha
  obtain ⟨b, hb⟩ := UTF8_any hx (by omega)
  cases b with
  | false => exact bad (ev_neg (by rw [st_size]; exact h1) (Ev.bind hb (ev_pos rfl (Ev.now _))))
  | true =>
    obtain ⟨s, hs, hsb, hsl⟩ := clean_any hx (by omega)
    obtain ⟨n, hn, hn0, hn1⟩ := scheme_any hsb (by omega)
    obtain ⟨m, rfl⟩ : ∃ m : Nat, n = (m : Int) := ⟨n.toNat, by omega⟩
    have hml : m ≤ s.length := by omega
    have hlow := rLower_f (hsb.take m) (by rw [List.length_take]; omega)
    have hscb : Bytes (lowerL (s.take m)) := lowerL_bytes (hsb.take m)
    have hd := rDefault_f hscb
    cases hdb : (dflt (lowerL (s.take m))).2 with
    | false => exact bad (ev_neg (by rw [st_size]; exact h1) (Ev.bind hb (ev_neg (by simp) (Ev.bind hs (Ev.bind hn (ev_const (cutTo_st hml) (Ev.bind hlow (Ev.bind hd (ev_pos hdb (Ev.now _))))))))))
    | true =>
      have hm0 : m ≠ 0 := by
        rintro rfl
        simp [lowerL, dflt] at hdb
      have hml2 : m + 1 ≤ s.length := by omega
      have hcut : cutFrom (st s) (wrap64 ((m : Int) + 1)) = some (st (s.drop (m + 1))) := by
        rw [w64 (by omega) (by omega), show (m : Int) + 1 = ((m + 1 : Nat) : Int) by omega]
        exact cutFrom_st hml2
      obtain ⟨s2, h2, h2b, h2l⟩ := slashes_any _ (xs := s.drop (m + 1)) rfl (hsb.drop _) (by rw [List.length_drop]; omega)
      rw [List.length_drop] at h2l
      obtain ⟨k2, hk2, lk2⟩ := upTo_any h2b (show Bytes [47, 92, 63, 35] from bytes_lit (by decide)) (by omega) (by decide)
      obtain ⟨ab, us, ps, ho, po, hau, hub, hpb, hok, hul, hpl⟩ := authU_any hscb (h2b.take k2) (by rw [List.length_take]; omega)
      rw [List.length_take] at hul hpl hok
      have go : ∀ {r : UrlR}, Ev (fun k => midU k (st (lowerL (s.take m))) (st s2)) r → Ev (fun k => if ((st xs).size : Int) > 65536 then some noUrl else (parapetref9_UTF8.f k (st xs)).bind fun b => if b = false then some noUrl else
          (parapetref9_clean.f k (st xs)).bind fun s => (parapetref9_scheme.f k s).bind fun n => (cutTo s n).bind fun x => (parapetref1_Lower.f k x).bind fun sch =>
          (parapetref9_Default.f k sch).bind fun d => if d.2 = false then some noUrl else
          (cutFrom s (wrap64 (n + 1))).bind fun s1 => (slashes k s1).bind fun s2 => midU k sch s2) r := fun H =>
        ev_neg (by rw [st_size]; exact h1) (Ev.bind hb (ev_neg (by simp) (Ev.bind hs (Ev.bind hn (ev_const (cutTo_st hml) (Ev.bind hlow (Ev.bind hd (ev_neg (by rw [hdb]; simp) (ev_const hcut (Ev.bind h2 H))))))))))
      cases ab with
      | false =>
        refine bad (go ?_)
        unfold midU
        exact Ev.bind hk2 (ev_const (cutTo_st lk2) (Ev.bind hau (ev_pos rfl (Ev.now _))))
      | true =>
        obtain ⟨q1, q2, q3⟩ := hok rfl
        obtain ⟨pa, qb, qf, fb, ff, ht, t1, t2, t3, t4, t5, t6⟩ := tailU_any (sc := lowerL (s.take m)) (us := us) (ps := ps) (h := ho) (po := po) (h2b.drop k2) (by rw [List.length_drop]; omega)
        refine ⟨lowerL (s.take m), us, ps, ho, po, pa, qb, qf, fb, ff, 0, go ?_, fun _ => ⟨hscb, hdb, hub, by omega, hpb, by omega, ⟨q1, by omega, q3⟩, t1, t2, t3, t4, t5, t6⟩⟩
        unfold midU
        exact Ev.bind hk2 (ev_const (cutTo_st lk2) (Ev.bind hau (ev_neg (by simp) (ev_const (cutFrom_st lk2) ht))))
end Go.Proofs.YtknkokkgefcdbaaDoor.PA
