import Derived.Test.YtgldmliemeadpaaDoorG
import Derived.Test.YtgldmliemeadpaaDoorPAx1
import Derived.Test.YtgldmliemeadpaaDoorPAx8
namespace Go.Proofs.YtgldmliemeadpaaDoor.PA
open Go.RowKit Go.Proofs.YtgldmliemeadpaaDoorW.PrintWords Go.Proofs.YtgldmliemeadpaaDoorW.PrintLast Go.Proofs.YtgldmliemeadpaaDoorW.PrintMore Go.Proofs.YtgldmliemeadpaaDoorPL
open Go.Proofs.YtgldmliemeadpaaDoorWS (lowB lowerL hexv decodeL splitL partsL digitsB hexP accV baseV restV partV numL numberL numericB decD textL forbB hostL addrL domainB resV)
set_option linter.unusedVariables false
set_option linter.unusedSimpArgs false
theorem round_f {a n : Int} (h0 : 0 < n) (h1 : n < 4611686018427387904) : ∃ t, parapetalike_Round.f a n = some t ∧ 0 ≤ t ∧ t < n := by
  unfold parapetalike_Round.f
  rw [if_neg (by omega)]
  have b1 := Int.tmod_lt_of_pos a h0
  have b2 := Int.lt_tmod_of_pos a h0
  by_cases h : Int.tmod a n < 0
  · rw [if_pos h, w64 (by omega) (by omega)]
    exact ⟨_, rfl, by omega, by omega⟩
  · rw [if_neg h]
    exact ⟨_, rfl, by omega, by omega⟩
theorem decodeL_pre {l : List Int} : ∀ {pre : List Int}, (37 : Int) ∉ pre → decodeL (pre ++ l) = pre ++ decodeL l
  | [], _ => rfl
  | c :: t, h => by
    rw [List.cons_append, decodeL_cons (Or.inl (fun e => h (by simp [e]))), decodeL_pre (fun e => h (List.mem_cons_of_mem _ e))]
    rfl
theorem low_mem : ∀ {g : List Int}, lowerL g = g → ∀ c ∈ g, lowB c = c
  | [], _, c, hc => by cases hc
  | x :: t, h, c, hc => by
    have h1 : lowB x :: lowerL t = x :: t := h
    injection h1 with h1 h2
    rcases List.mem_cons.1 hc with rfl | hc
    · exact h1
    · exact low_mem h2 c hc
def upB (c : Int) : Int := if 97 ≤ c ∧ c ≤ 122 then c - 32 else c
def upL (xs : List Int) : List Int := xs.map upB
theorem up_byte {c : Int} (h : 0 ≤ c ∧ c < 256) : 0 ≤ upB c ∧ upB c < 256 := by unfold upB; omega
theorem low_up {g : List Int} (h : lowerL g = g) : lowerL (upL g) = g := by
  unfold lowerL upL
  rw [List.map_map]
  conv => rhs; rw [← List.map_id g]
  refine List.map_congr_left fun c hc => ?_
  have := low_mem h c hc
  show lowB (upB c) = c
  unfold lowB at this ⊢
  unfold upB
  omega
theorem up_no37 {g : List Int} (h : (37 : Int) ∉ g) : (37 : Int) ∉ upL g := fun m => by
  obtain ⟨c, hc, e⟩ := List.mem_map.1 m
  have : c = 37 := by unfold upB at e; omega
  exact h (this ▸ hc)
theorem no37 {g : List Int} (h : g.any forbB = false) : (37 : Int) ∉ g := fun m => by
  rw [List.any_eq_false] at h
  exact h 37 m (by decide)
theorem hexd (n : Int) (h0 : 0 ≤ n) (h1 : n < 16) : hexv (bt (⟨#[48, 49, 50, 51, 52, 53, 54, 55, 56, 57, 65, 66, 67, 68, 69, 70]⟩ : ByteArray) n) = n ∧ 0 ≤ bt (⟨#[48, 49, 50, 51, 52, 53, 54, 55, 56, 57, 65, 66, 67, 68, 69, 70]⟩ : ByteArray) n ∧ bt (⟨#[48, 49, 50, 51, 52, 53, 54, 55, 56, 57, 65, 66, 67, 68, 69, 70]⟩ : ByteArray) n < 256 := by
  have key : ∀ k : Fin 16, hexv (bt (⟨#[48, 49, 50, 51, 52, 53, 54, 55, 56, 57, 65, 66, 67, 68, 69, 70]⟩ : ByteArray) (k.val : Int)) = (k.val : Int) ∧ 0 ≤ bt (⟨#[48, 49, 50, 51, 52, 53, 54, 55, 56, 57, 65, 66, 67, 68, 69, 70]⟩ : ByteArray) (k.val : Int) ∧ bt (⟨#[48, 49, 50, 51, 52, 53, 54, 55, 56, 57, 65, 66, 67, 68, 69, 70]⟩ : ByteArray) (k.val : Int) < 256 := by decide +kernel
  have := key ⟨n.toNat, by omega⟩
  rwa [show ((n.toNat : Nat) : Int) = n by omega] at this
theorem cases_l0 {g t : List Int} (hg : Bytes g) (ht : Bytes t) (hl : g.length < 10000) (htl : t.length < 10000) (eg : hostL g = some g) (et : hostL t = some g) (eu : hostL (upL g) = some g) : ∀ (suf pre : List Int), g = pre ++ suf →
    Ev (fun k => parapetlaw10_HostCases.l0 k (st g) (st t) (st (upL pre)) (pre.length : Int)) true
  | [], pre, e => by
    have e1 := mid_end e
    have hu : Bytes (upL g) := Bytes.map fun x hx => up_byte (hg x hx)
    refine Ev.step (fun k => by rw [parapetlaw10_HostCases.l0]) ?_
    refine ev_neg (by rw [st_size]; omega) ?_
    rw [show upL pre = upL g by rw [e, List.append_nil]]
    refine Ev.bind (Parse_f ht (by omega)) ?_
    refine Ev.bind (Parse_f hu (by unfold upL; rw [List.length_map]; omega)) ?_
    rw [et, eu]
    exact ev_pos rfl (ev_pos rfl (ev_pos rfl (ev_pos rfl awake10b)))
  | x :: suf, pre, e => by
    obtain ⟨e1, e2, e3⟩ := mid e
    have hb := mid_byte hg e
    have hpl : pre.length < 10000 := by omega
    have ih := cases_l0 hg ht hl htl eg et eu suf _ e3
    rw [← e2, show upL (pre ++ [x]) = upL pre ++ [upB x] by simp [upL]] at ih
    have hs : (upL pre).length = pre.length := List.length_map _
    refine Ev.step (fun k => by rw [parapetlaw10_HostCases.l0]) ?_
    refine ev_pos (by rw [st_size]; omega) (ev_pos (by omega) ?_)
    rw [mid_bt hg e, w64 (x := (pre.length : Int) + 1) (by omega) (by omega)]
    by_cases h1 : x ≥ 97
    · refine ev_pos h1 ?_
      by_cases h2 : x ≤ 122
      · refine ev_pos h2 ?_
        rw [show (x - 32) % 256 = upB x by unfold upB; omega]
        refine ev_some (ev_pos (by rw [st_size, strOfNums_size, hs]; simp; omega) ?_)
        rw [st_app]
        exact ih
      · refine ev_neg h2 ?_
        rw [show upB x = x by unfold upB; omega] at ih
        refine ev_some (ev_pos (by rw [st_size, strOfNums_size, hs]; simp; omega) ?_)
        rw [st_app]
        exact ih
    · refine ev_neg h1 ?_
      rw [show upB x = x by unfold upB; omega] at ih
      refine ev_some (ev_pos (by rw [st_size, strOfNums_size, hs]; simp; omega) ?_)
      rw [st_app]
      exact ih
theorem HostCases_j0 {xs : List Int} (hx : Bytes xs) (hl : xs.length ≤ 600) (a1 : Int) : Ev (fun k => parapetlaw10_HostCases.j0 k (st xs) a1 false) true := by
  refine Ev.step (fun k => by rw [parapetlaw10_HostCases.j0]) ?_
  refine ev_neg (by simp) ?_
  refine Ev.bind (Parse_f hx (by omega)) ?_
  cases e : hostL xs with
  | none => exact ev_neg (by simp [stR]) (ev_pos (toList_nil.2 rfl) awake10b)
  | some g =>
    have hg := hostL_bytes hx e
    have hgl := hostL_length e
    obtain ⟨f1, f2, f3, f4⟩ := host_fixed e
    have hback := host_back e
    have hpos : 0 < g.length := List.length_pos_iff.2 f1
    refine ev_pos rfl ?_
    show Ev (fun k => if ((st g).size : Int) = 0 then _ else _) true
    refine ev_neg (by rw [st_size]; omega) ?_
    simp only [show (stR (some g)).1 = st g from rfl]
    rw [st_size]
    obtain ⟨j, hj, hj0, hj1⟩ := round_f (a := a1) (n := (g.length : Int)) (by omega) (by omega)
    refine ev_const hj ?_
    obtain ⟨m, rfl⟩ : ∃ m : Nat, j = (m : Int) := ⟨j.toNat, by omega⟩
    have hm : m < g.length := by omega
    obtain ⟨pre, c, post, hgp, hpl⟩ : ∃ pre c post, g = pre ++ c :: post ∧ pre.length = m := ⟨g.take m, g[m], g.drop (m + 1), by rw [← List.drop_eq_getElem_cons hm, List.take_append_drop], by rw [List.length_take]; omega⟩
    have hc := mid_byte hg hgp
    have hcm : bt (st g) (m : Int) = c := by rw [← hpl]; exact mid_bt hg hgp
    have ee1 : (st g).extract 0 (m : Int).toNat = st pre := by rw [Int.toNat_natCast, st_extl, hgp, ← hpl, List.take_left' rfl]
    have hlen : g.length = pre.length + (post.length + 1) := by rw [hgp, List.length_append, List.length_cons]
    have d1 := hexd (c / 16) (by omega) (by omega)
    have d2 := hexd (c % 16) (by omega) (by omega)
    refine ev_pos (by omega) (ev_pos (by omega) ?_)
    rw [hcm, ee1, u8_and15 c hc.1 hc.2, w64 (x := (m : Int) + 1) (by omega) (by omega)]
    have ee2 : (st g).extract ((m : Int) + 1).toNat g.length = st post := by
      rw [show ((m : Int) + 1).toNat = m + 1 by omega, st_ext, List.take_length, hgp, show pre ++ c :: post = (pre ++ [c]) ++ post by simp, List.drop_left' (by simp; omega)]
    generalize bt (⟨#[48, 49, 50, 51, 52, 53, 54, 55, 56, 57, 65, 66, 67, 68, 69, 70]⟩ : ByteArray) (c / 16) = x1 at d1 ⊢
    generalize bt (⟨#[48, 49, 50, 51, 52, 53, 54, 55, 56, 57, 65, 66, 67, 68, 69, 70]⟩ : ByteArray) (c % 16) = x2 at d2 ⊢
    refine ev_pos (by rw [st_size]; omega) (ev_pos (by omega) (ev_pos (by omega) (ev_pos (by omega) (ev_pos (by omega) (ev_pos (by omega) (ev_some ?_))))))
    rw [show (⟨#[37]⟩ : ByteArray) = st [37] from rfl, ee2]
    simp only [st_app, st_size]
    refine ev_pos (by simp; omega) (ev_pos (by omega) (ev_pos (by omega) (ev_pos (by simp; omega) ?_)))
    have h37 := no37 f4
    have hpre : (37 : Int) ∉ pre := fun q => h37 (by rw [hgp]; simp [q])
    have hpost : (37 : Int) ∉ post := fun q => h37 (by rw [hgp]; simp [q])
    have et : decodeL (pre ++ [37] ++ [x1, x2] ++ post) = g := by
      rw [show pre ++ [37] ++ [x1, x2] ++ post = pre ++ 37 :: x1 :: x2 :: post by simp, decodeL_pre hpre, decodeL, if_pos ⟨rfl, by omega, by omega⟩, decodeL_id hpost, d1.1, d2.1, show 16 * (c / 16) + c % 16 = c by omega, hgp]
    have eu : decodeL (upL g) = upL g := decodeL_id (up_no37 h37)
    have hbt : Bytes (pre ++ [37] ++ [x1, x2] ++ post) := by
      have hp1 : Bytes pre := fun x q => hg x (by rw [hgp]; simp [q])
      have hp2 : Bytes post := fun x q => hg x (by rw [hgp]; simp [q])
      exact ((hp1.append (Bytes.cons (by omega) Bytes.nil)).append (Bytes.cons d1.2 (Bytes.cons d2.2 Bytes.nil))).append hp2
    exact cases_l0 hg hbt (by omega) (by simp; omega) hback (by rw [← hback]; exact host_same (by rw [et, f2])) (by rw [← hback]; exact host_same (by rw [eu, f2, low_up f3, f3])) g [] rfl
theorem HostCases (a0 : ByteArray) (a1 : Int) (h : a0.size ≤ 140737488351232) (h1 : (Lit.int .i64 a1).wf = true) : ∃ k, parapetlaw10_HostCases.f k a0 a1 = some true := by
  obtain ⟨xs, rfl, hx, hl⟩ := st_of a0
  refine Ev.rounds ?_
  have aw : Ev (fun k => parapetlaw10_HostCases.j0 k (st xs) a1 true) true := by
    refine Ev.step (fun k => by rw [parapetlaw10_HostCases.j0]) ?_
    exact ev_pos rfl awake10b
  unfold parapetlaw10_HostCases.f
  rw [st_size]
  by_cases h1 : xs.length > 600
  · exact ev_pos (by omega) aw
  · refine ev_neg (by omega) ?_
    by_cases h2 : xs.length = 0
    · rw [show ((xs.length : Int) == 0) = true by simp [h2]]
      exact aw
    · rw [show ((xs.length : Int) == 0) = false by rw [beq_eq_false_iff_ne]; omega]
      exact HostCases_j0 hx (by omega) a1
end Go.Proofs.YtgldmliemeadpaaDoor.PA
