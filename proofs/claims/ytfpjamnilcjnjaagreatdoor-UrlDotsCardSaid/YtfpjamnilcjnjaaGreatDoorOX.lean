import Derived.Test.YtfpjamnilcjnjaaGreatDoorOV
import Derived.Test.YtfpjamnilcjnjaaGreatDoorOP
/-! UrlBlanks. -/
namespace GoD
open Go Go.Proofs
set_option linter.unusedVariables false
set_option linter.unusedSimpArgs false
set_option maxHeartbeats 8000000
set_option maxRecDepth 100000
theorem decN_app {c : Int} {t B : List Int} (hc : 0 ≤ c ∧ c < 256) (hB : ∀ x ∈ B, 0 ≤ x ∧ x < 128) : decN c (t ++ B) = decN c t := by
  have hz : ∀ i, (B.getD i 0).toNat < 128 := fun i => by
    rw [List.getD_eq_getElem?_getD]
    cases e : B[i]? with
    | none => simp
    | some x => have := hB x (List.mem_of_getElem? e); simp; omega
  have h0 := hz 0
  generalize e0 : B.getD 0 0 = x0 at h0
  generalize e1 : B.getD 1 0 = x1
  generalize e2 : B.getD 2 0 = x2
  have n0 : ¬ x0.toNat / 64 = 2 := by omega
  match t with
  | [] =>
    rw [show decN c ([] ++ B) = Lib.decodeN (B.length + 1) c.toNat (B.getD 0 0).toNat (B.getD 1 0).toNat (B.getD 2 0).toNat from rfl, show decN c [] = Lib.decodeN 1 c.toNat 0 0 0 from rfl, e0, e1, e2]
    unfold Lib.decodeN
    simp [n0]
  | [a] =>
    rw [show decN c ([a] ++ B) = Lib.decodeN (B.length + 1 + 1) c.toNat a.toNat (B.getD 0 0).toNat (B.getD 1 0).toNat from rfl, show decN c [a] = Lib.decodeN 2 c.toNat a.toNat 0 0 from rfl, e0, e1]
    unfold Lib.decodeN
    simp [n0]
  | [a, b] =>
    rw [show decN c ([a, b] ++ B) = Lib.decodeN (B.length + 1 + 1 + 1) c.toNat a.toNat b.toNat (B.getD 0 0).toNat from rfl, show decN c [a, b] = Lib.decodeN 3 c.toNat a.toNat b.toNat 0 from rfl, e0]
    unfold Lib.decodeN
    simp [n0]
  | a :: b :: d :: t =>
    rw [show decN c ((a :: b :: d :: t) ++ B) = Lib.decodeN ((t ++ B).length + 1 + 1 + 1 + 1) c.toNat a.toNat b.toNat d.toNat from rfl, show decN c (a :: b :: d :: t) = Lib.decodeN (t.length + 1 + 1 + 1 + 1) c.toNat a.toNat b.toNat d.toNat from rfl]
    unfold Lib.decodeN
    simp only [show 1 < (t ++ B).length + 1 + 1 + 1 + 1 by omega, show 2 < (t ++ B).length + 1 + 1 + 1 + 1 by omega, show 3 < (t ++ B).length + 1 + 1 + 1 + 1 by omega, show 1 < t.length + 1 + 1 + 1 + 1 by omega, show 2 < t.length + 1 + 1 + 1 + 1 by omega, show 3 < t.length + 1 + 1 + 1 + 1 by omega]
def Byt (l : List Int) : Prop := ∀ c ∈ l, 0 ≤ c ∧ c < 256
theorem runeN_app {c : Int} {t B : List Int} (hc : 0 ≤ c ∧ c < 256) (ht : Byt t) (hB : ∀ x ∈ B, 0 ≤ x ∧ x < 128) : runeN c (t ++ B) = runeN c t := by
  have hb : Byt (t ++ B) := fun x hx => by
    rcases List.mem_append.1 hx with h | h
    · exact ht x h
    · have := hB x h; omega
  have h1 := dec_rune hc ht
  have h2 := dec_rune hc hb
  rw [decN_app hc hB] at h2
  rcases h1 with ⟨a, b, e⟩ | ⟨a, b, e⟩ <;> rcases h2 with ⟨a2, b2, e2⟩ | ⟨a2, b2, e2⟩
  · rw [e, e2]
  · exact absurd ⟨a, b⟩ a2
  · exact absurd ⟨a2, b2⟩ a
  · rw [b, b2]
theorem utf8_cons (c : Int) (t : List Int) : utf8B (c :: t) = (decide (runeN c t ≠ 0) && utf8B (t.drop (runeN c t - 1))) := by
  unfold utf8B
  rw [brokenN_cons]
  have hle := runeN_le c t
  have h2 := brokenN_le (t.drop (runeN c t - 1))
  rw [List.length_drop] at h2
  by_cases h : runeN c t = 0
  · rw [if_pos h, decide_eq_false (by simp : ¬ 0 = (c :: t).length), decide_eq_false (by simpa using h)]; rfl
  · rw [if_neg h, decide_eq_true h, Bool.true_and]
    exact decide_eq_decide.2 (by rw [List.length_drop, List.length_cons]; omega)
theorem utf8_end : ∀ (n : Nat) (l B : List Int), l.length ≤ n → Byt l → (∀ x ∈ B, 0 ≤ x ∧ x < 128) → utf8B (l ++ B) = utf8B l
  | _, [], B, _, _, hB => by
    rw [List.nil_append]
    induction B with
    | nil => rfl
    | cons c t ih =>
      have hc := hB c (by simp)
      have h1 : runeN c t = 1 := by unfold runeN; rw [if_pos hc.2]
      rw [utf8_cons, h1]
      simp only [Nat.sub_self, List.drop_zero]
      rw [ih fun x hx => hB x (by simp [hx])]
      rfl
  | 0, c :: t, _, h, _, _ => by simp at h
  | n + 1, c :: t, B, h, hb, hB => by
    have hc := hb c (by simp)
    have ht : Byt t := fun x hx => hb x (by simp [hx])
    rw [List.cons_append, utf8_cons, utf8_cons, runeN_app hc ht hB]
    by_cases h0 : runeN c t = 0
    · simp [h0]
    · have hle := runeN_le c t
      rw [List.drop_append_of_le_length (by omega), utf8_end n _ B (by simp at h ⊢; omega) (fun x hx => ht x (List.mem_of_mem_drop hx)) hB]
theorem utf8_front : ∀ (n : Nat) (a x : List Int), a.length ≤ n → Byt a → utf8B a = true → utf8B (a ++ x) = utf8B x
  | _, [], x, _, _, _ => rfl
  | 0, c :: t, _, h, _, _ => by simp at h
  | n + 1, c :: t, x, h, hb, hu => by
    have hc := hb c (by simp)
    have ht : Byt t := fun x hx => hb x (by simp [hx])
    rw [utf8_cons, Bool.and_eq_true] at hu
    obtain ⟨h1, h2⟩ := hu
    have h1 : runeN c t ≠ 0 := by simpa using h1
    have hr : runeN c (t ++ x) = runeN c t := by
      -- the rune lies within t
      have hle := runeN_le c t
      have hpre : ∀ k, (t ++ x).take (t.length + k) = t ++ x.take k := fun k => by rw [List.take_append, List.take_of_length_le (by omega), Nat.add_sub_cancel_left]
      revert h1 hle
      unfold runeN runeF
      have g : ∀ (k : Nat) (u : Int) (t x : List Int), k ≤ t.length → runeG k u (t ++ x) = runeG k u t := by
        intro k
        induction k with
        | zero => intro u t x _; rfl
        | succ k ih =>
          intro u t x hk
          match t, hk with
          | d :: t, hk =>
            rw [List.cons_append, runeG, runeG]
            split
            · exact ih _ t x (by simpa using hk)
            · rfl
      intro h1 hle
      split
      · rfl
      · rename_i c1
        rw [if_neg c1] at h1 hle
        split
        · rename_i c2
          rw [if_pos c2] at h1 hle
          by_cases k : t.length + 1 < 2
          · rw [if_pos k] at h1; exact absurd rfl h1
          · rw [if_neg k, if_neg (by simp; omega), g _ _ _ _ (by omega)]
        · rename_i c2
          rw [if_neg c2] at h1 hle
          split
          · rename_i c3
            rw [if_pos c3] at h1 hle
            by_cases k : t.length + 1 < 3
            · rw [if_pos k] at h1; exact absurd rfl h1
            · rw [if_neg k, if_neg (by simp; omega), g _ _ _ _ (by omega)]
          · rename_i c3
            rw [if_neg c3] at h1 hle
            split
            · rename_i c4
              rw [if_pos c4] at h1 hle
              by_cases k : t.length + 1 < 4
              · rw [if_pos k] at h1; exact absurd rfl h1
              · rw [if_neg k, if_neg (by simp; omega), g _ _ _ _ (by omega)]
            · rfl
    have hle := runeN_le c t
    rw [List.cons_append, utf8_cons, hr, List.drop_append_of_le_length (by omega), utf8_front n _ x (by simp at h ⊢; omega) (fun x hx => ht x (List.mem_of_mem_drop hx)) h2]
    simp [h1]
theorem trimL_app (a x : List Int) : trimL (a ++ x) = if trimL a = [] then trimL x else trimL a ++ x := by
  induction a with
  | nil => rfl
  | cons c t ih =>
    rw [List.cons_append, trimL, trimL]
    split
    · exact ih
    · rw [if_neg (by simp)]; rfl
theorem trimR_app (a x : List Int) : trimR (a ++ x) = if trimR x = [] then trimR a else a ++ trimR x := by
  unfold trimR
  rw [List.reverse_append, trimL_app]
  by_cases h : trimL x.reverse = []
  · rw [if_pos h, if_pos (by rw [h]; rfl)]
  · rw [if_neg h, if_neg (by simpa using h)]; simp
theorem clean_ins {a b : List Int} {c : Int} (hc : c = 9 ∨ c = 10 ∨ c = 13) : cleanL (a ++ c :: b) = cleanL (a ++ b) := by
  have h32 : c ≤ 32 := by omega
  have hk : keepB c = false := by rcases hc with rfl | rfl | rfl <;> rfl
  unfold cleanL
  rw [trimL_app, trimL_app]
  by_cases h : trimL a = []
  · rw [if_pos h, if_pos h, trimL, if_pos h32]
  · rw [if_neg h, if_neg h]
    generalize trimL a = a'
    rw [show c :: b = [c] ++ b from rfl, ← List.append_assoc, trimR_app (a' ++ [c]) b, trimR_app a' b]
    by_cases h2 : trimR b = []
    · rw [if_pos h2, if_pos h2, trimR_snoc, if_pos h32]
    · rw [if_neg h2, if_neg h2, List.filter_append, List.filter_append, List.filter_append]
      simp [hk]
theorem clean_around (s : List Int) : cleanL ([32, 1] ++ s ++ [9, 32]) = cleanL s := by
  unfold cleanL
  rw [List.append_assoc, trimL_app, show trimL [32, 1] = [] from rfl, if_pos rfl, trimL_app]
  by_cases h : trimL s = []
  · rw [if_pos h, h]; rfl
  · rw [if_neg h, trimR_app, show trimR [9, 32] = [] from rfl, if_pos rfl]
theorem url_ins {a b : List Int} {c : Int} (ha : Byt a) (hb : Byt b) (hl : (a ++ b).length ≤ 3000) (hc : c = 9 ∨ c = 10 ∨ c = 13) (hu : utf8B a = true) : urlL (a ++ [c] ++ b) = urlL (a ++ b) := by
  have h1 : (a ++ [c] ++ b).length ≤ 3001 := by simp at hl ⊢; omega
  unfold urlL
  rw [if_neg (show ¬ 65536 < (a ++ [c] ++ b).length by omega), if_neg (show ¬ 65536 < (a ++ b).length by omega), List.append_assoc, utf8_front _ a _ (Nat.le_refl _) ha hu, utf8_front _ a _ (Nat.le_refl _) ha hu, utf8_front 1 [c] b (by simp) (fun x hx => by obtain rfl := List.mem_singleton.1 hx; omega) (by rcases hc with rfl | rfl | rfl <;> rfl)]
  show (if utf8B b = true then url1 (cleanL (a ++ c :: b)) else none) = _
  rw [clean_ins hc]
theorem url_around {s : List Int} (hs : Byt s) (hl : s.length ≤ 3000) : urlL ([32, 1] ++ s ++ [9, 32]) = urlL s := by
  have h1 : ¬ 65536 < (([32, 1] : List Int) ++ s ++ [9, 32]).length := by simp; omega
  unfold urlL
  rw [if_neg h1, if_neg (show ¬ 65536 < s.length by omega), clean_around, utf8_end _ ([32, 1] ++ s) [9, 32] (Nat.le_refl _) (fun x hx => by
    rcases List.mem_append.1 hx with h | h
    · simp at h; omega
    · exact hs x h) (by simp), utf8_front 2 [32, 1] s (by simp) (fun x hx => by simp at hx; omega) (by rfl)]
end GoD

/-! UrlBlanks: the law's run. -/
namespace GoD
open Go Go.Proofs
set_option linter.unusedVariables false
set_option linter.unusedSimpArgs false
set_option maxHeartbeats 8000000
set_option maxRecDepth 100000
theorem ct_plainM {P : Program} {G : Nat → List V} {l : List (FuncId × Ct)} (hm : P.follows .mixedOrders = true) (hl : Sound (ctx P G l)) (pm : List (Nat × List Nat × List Nat)) {f n : FuncId} {fn : Func} {c : Code} {C : Ct} (hok : okFnM P pm f n = true) (hf : P.funcs[f]? = some fn) (hb : fn.body = some c)
    (hc : ∀ args h v h', C args h = some (v, h') → ∀ (r : List (Option Loc)) (xs : List Value) (H : Array Obj), HR G r h H → RL r args xs → args.length = n ∧ h' = h ∧ (renV id v = v ∧ bndV h.length v) ∧ Run (ctm pm P G l) (Fini (ctm pm P G l) fn.results.toList fun v' h1 => v' = v ∧ Ext h h1) [.c c] args h) : CtOk P G f C :=
  ct_okM hm hl pm hok fun args h v h' h1 r xs H hr hx => by
    obtain ⟨e1, rfl, e2, e3⟩ := hc args h v h' h1 r xs H hr hx
    obtain ⟨k, v', h2, e4, rfl, e5⟩ := call_of_run (E := ctm pm P G l) hf hb e3
    exact ⟨e1, k, v', h2, id, e4, Trim.flat e2 e5⟩
def roundU (k n : Int) : Int := if k.tmod n < 0 then k.tmod n + n else k.tmod n
theorem roundU_le {k n : Int} (h : 0 < n) : 0 ≤ roundU k n ∧ roundU k n < n := by
  have h1 := Int.tmod_lt_of_pos k h
  have h2 : -n < k.tmod n := Int.neg_lt_of_neg_lt (by rw [← Int.neg_tmod]; exact Int.tmod_lt_of_pos _ h)
  unfold roundU
  split <;> omega
def pRoundUC : Ct := fun args h => match args with | [.i .i64 k, .i .i64 n] => if 0 < n ∧ n ≤ 1000000 then some (.i .i64 (roundU k n), h) else none | _ => none
theorem pRoundU_ok : CtOk Tryz.prog G0 19 pRoundUC := by
  refine ct_plain (n := 2) fol sound_nil (by kernel_rfl) Tryz.func19 rfl fun args h v h' hc r xs H hr hx => ?_
  unfold pRoundUC at hc; split at hc <;> (try split at hc) <;> cases hc
  rename_i k n hn
  have hn0 : ¬ n = 0 := by omega
  have h1 := Int.tmod_lt_of_pos k hn.1
  have h2 : -n < k.tmod n := Int.neg_lt_of_neg_lt (by rw [← Int.neg_tmod]; exact Int.tmod_lt_of_pos _ hn.1)
  refine ⟨rfl, rfl, by simp [renV, bndV], ?_⟩
  by_cases c1 : k.tmod n < 0
  · simp -implicitDefEqProofs [go_sem, Tryz.f19, hn0, c1, roundU, w64 (x := k.tmod n + n) (by omega)]
  · simp -implicitDefEqProofs [go_sem, Tryz.f19, hn0, c1, roundU]
theorem urlAns_eqd (o : Option Url) : ∃ a : List V, ∃ e : Int, urlAns o = .tup [.agg a, .i .i64 e] := by cases o <;> exact ⟨_, _, rfl⟩
def ansU : Option Url → Url
  | none => urlZ
  | some u => u
def ansE : Option Url → Int
  | none => 8
  | some _ => 0
theorem urlAns_ue (o : Option Url) : urlAns o = .tup [.agg [.s (ansU o).sch, .s (ansU o).us, .s (ansU o).pa, .s (ansU o).ho, .i .i64 (ansU o).po, .s (ansU o).path, .b (ansU o).q, .s (ansU o).qu, .b (ansU o).f, .s (ansU o).fr], .i .i64 (ansE o)] := by cases o <;> rfl
def pLawUbC : Ct := fun args h => match args with | [.s l, .i .i64 k, .i .i64 c] => some (.b true, h) | _ => none
theorem pLawUb_ok : CtOk Tryz.prog G0 6 pLawUbC := by
  refine ct_plainM (n := 3) fol (sound_cons pAwakeU_ok (sound_cons pUParse_ok (sound_cons pRoundU_ok (sound_cons rUTF8_ok sound_nil)))) [(6, [0, 1, 2, 3, 4, 5, 6, 7, 8, 9, 10, 11, 12, 13, 14, 15], [46])] (by kernel_rfl) Tryz.func6 rfl fun args h v h' hc r xs H hr hx => ?_
  unfold pLawUbC at hc; split at hc <;> (try split at hc) <;> cases hc
  rename_i l k c
  obtain ⟨⟨hs, hl⟩, _⟩ := str_of hx
  refine ⟨rfl, rfl, by simp [renV, bndV], ?_⟩
  by_cases c1 : 3000 < l.length
  · have c1' : (3000 : Int) < l.length := by omega
    simp -implicitDefEqProofs [go_sem, Tryz.f6, pAwakeUC, c1, c1']
  · have c1' : ¬ (3000 : Int) < l.length := by omega
    obtain ⟨k1, k2⟩ := roundU_le (k := k) (n := (l.length : Int) + 1) (by omega)
    obtain ⟨c2, c3⟩ := roundU_le (k := c) (n := 3) (by omega)
    obtain ⟨j, hj⟩ : ∃ j : Nat, roundU k ((l.length : Int) + 1) = j := ⟨(roundU k ((l.length : Int) + 1)).toNat, by omega⟩
    have hjl : j ≤ l.length := by omega
    have hji : (j : Int) ≤ l.length := by omega
    obtain ⟨A, hA⟩ : ∃ A, l.take j = A := ⟨_, rfl⟩
    obtain ⟨B, hB⟩ : ∃ B, l.drop j = B := ⟨_, rfl⟩
    have hAB : l = A ++ B := by rw [← hA, ← hB]; exact (List.take_append_drop _ _).symm
    have hAb : Byt A := fun x hx => hs x (by rw [hAB]; simp [hx])
    have hBb : Byt B := fun x hx => hs x (by rw [hAB]; simp [hx])
    have hlen : A.length + B.length = l.length := by rw [hAB, List.length_append]
    have o1 : l.length ≤ 281474976710656 := by omega
    have o2 : A.length + 1 ≤ 281474976710656 := by omega
    have o3 : A.length + (1 + B.length) ≤ 281474976710656 := by omega
    have o4 : A.length + 1 + B.length ≤ 281474976710656 := by omega
    have o5 : 2 + l.length ≤ 281474976710656 := by omega
    have o6 : l.length + 1 + 1 + 2 ≤ 281474976710656 := by omega
    have p1 := parse_eq hs
    have p2 : parseU (32 :: 1 :: (l ++ [9, 32])) = urlL l := by
      have : (32 : Int) :: 1 :: (l ++ [9, 32]) = [32, 1] ++ l ++ [9, 32] := by simp
      rw [this, parse_eq, url_around hs (by omega)]
      intro x hx
      simp at hx
      rcases hx with rfl | rfl | h | rfl | rfl
      · omega
      · omega
      · exact hs x h
      · omega
      · omega
    have w1 : IntKind.i64.wrap ((l.length : Int) + 1) = (l.length : Int) + 1 := w64 (by omega)
    have p3 : ∀ d : Int, (d = 9 ∨ d = 10 ∨ d = 13) → utf8B A = true → parseU (A ++ d :: B) = urlL l := by
      intro d hd hu
      rw [parse_eq, show A ++ d :: B = A ++ [d] ++ B by simp, url_ins hAb hBb (by rw [List.length_append]; omega) hd hu, ← hAB]
      intro x hx
      rcases List.mem_append.1 hx with h | h
      · exact hAb x h
      · rcases List.mem_cons.1 h with rfl | h
        · omega
        · exact hBb x h
    obtain ⟨d, hd, hdl⟩ : ∃ d : Int, (d = 9 ∨ d = 10 ∨ d = 13) ∧ ldN [V.i .u8 9, .i .u8 10, .i .u8 13] (roundU c 3).toNat 1 = some [.i .u8 d] := by
      rcases (show roundU c 3 = 0 ∨ roundU c 3 = 1 ∨ roundU c 3 = 2 by omega) with e | e | e <;> rw [e]
      · exact ⟨9, .inl rfl, rfl⟩
      · exact ⟨10, .inr (.inl rfl), rfl⟩
      · exact ⟨13, .inr (.inr rfl), rfl⟩
    have p3 := p3 d hd
    obtain ⟨oU, hoU⟩ : ∃ o, parseU (A ++ d :: B) = o := ⟨_, rfl⟩
    simp only [Tryz.f6, run_seq]
    generalize hK9 : (Code.region 9 _ _).seq _ = K9
    generalize hK8 : (Code.region 8 _ _).seq K9 = K8
    generalize hK7 : (Code.region 7 _ _).seq K8 = K7
    generalize hK6 : (Code.region 6 _ _).seq K7 = K6
    generalize hK4 : (Code.region 4 _ _).seq _ = K4
    simp -implicitDefEqProofs [go_sem, Tryz.f6, c1, c1', pUParseC, p1, urlAns_ue]
    refine run_gen (fun t => get t 0 = .s l ∧ get t 1 = .i .i64 k ∧ get t 2 = .i .i64 c ∧ get t 7 = .p h.length 0 ∧ get t 8 = .i .i64 (ansE (urlL l))) (by simp -implicitDefEqProofs [go_sem]) ?_
    rintro t ⟨t0, t1, t2, t7, t8⟩
    subst hK4
    simp -implicitDefEqProofs [go_sem, Tryz.f6, t0, t1, t2, pRoundUC, w1, hj, c2, c3, hdl, show (l.length : Int) + 1 ≤ 1000000 by omega, show (0 : Int) < (l.length : Int) + 1 by omega]
    refine run_gen (fun t => get t 0 = .s l ∧ get t 1 = .i .i64 j ∧ get t 7 = .p h.length 0 ∧ get t 8 = .i .i64 (ansE (urlL l)) ∧ get t 9 = .s [d]) (by simp -implicitDefEqProofs [go_sem, t0, t1, t2, t7, t8]) ?_
    clear t0 t1 t2 t7 t8 t
    rintro t ⟨t0, t1, t7, t8, t9⟩
    subst hK6
    obtain ⟨oU, hoU⟩ : ∃ o, parseU (A ++ d :: B) = o := ⟨_, rfl⟩
    simp -implicitDefEqProofs [go_sem, Tryz.f6, t0, t1, t7, t8, t9, pUParseC, hjl, hji, hA, hB, o1, o2, o3, o4, hoU, urlAns_ue]
    refine run_gen (fun t => get t 0 = .s l ∧ get t 1 = .i .i64 j ∧ get t 7 = .p h.length 0 ∧ get t 8 = .i .i64 (ansE (urlL l)) ∧ get t 10 = .p (h.length + 1 + 1 + 1) 0 ∧ get t 11 = .i .i64 (ansE oU)) (by simp -implicitDefEqProofs [go_sem, t0, t1, t7, t8, t9]) ?_
    clear t0 t1 t7 t8 t9 t
    rintro t ⟨t0, t1, t7, t8, t10, t11⟩
    subst hK7
    simp -implicitDefEqProofs [go_sem, Tryz.f6, t0, t1, t7, t8, t10, t11, pUParseC, o5, o6, p2, urlAns_ue]
    refine run_gen (fun t => get t 0 = .s l ∧ get t 1 = .i .i64 j ∧ get t 7 = .p h.length 0 ∧ get t 8 = .i .i64 (ansE (urlL l)) ∧ get t 10 = .p (h.length + 1 + 1 + 1) 0 ∧ get t 11 = .i .i64 (ansE oU) ∧ get t 12 = .p (h.length + 1 + 1 + 1 + 1) 0 ∧ get t 13 = .i .i64 (ansE (urlL l))) (by simp -implicitDefEqProofs [go_sem, t0, t1, t7, t8, t10, t11]) ?_
    clear t0 t1 t7 t8 t10 t11 t
    rintro t ⟨t0, t1, t7, t8, t10, t11, t12, t13⟩
    subst hK8
    simp -implicitDefEqProofs [go_sem, Tryz.f6, t0, t1, t7, t8, t10, t11, t12, t13, rUTF8C, hjl, hji, hA]
    refine run_gen (fun t => get t 7 = .p h.length 0 ∧ get t 8 = .i .i64 (ansE (urlL l)) ∧ get t 10 = .p (h.length + 1 + 1 + 1) 0 ∧ get t 11 = .i .i64 (ansE oU) ∧ get t 12 = .p (h.length + 1 + 1 + 1 + 1) 0 ∧ get t 13 = .i .i64 (ansE (urlL l)) ∧ get t 14 = .b (utf8B A)) (by simp -implicitDefEqProofs [go_sem, t0, t1, t7, t8, t10, t11, t12, t13]) ?_
    clear t0 t1 t7 t8 t10 t11 t12 t13 t
    rintro t ⟨t7, t8, t10, t11, t12, t13, t14⟩
    subst hK9
    generalize hH : h ++ (_ : List Blk) = H1
    have hE : Ext h H1 := by rw [← hH]; exact (Ext.refl h).app _
    have g7 : hget H1 h.length = ⟨2, true, (ansU (urlL l)).cells⟩ := by rw [← hH]; exact hget_at0 rfl
    have g10 : hget H1 (h.length + 1 + 1 + 1) = ⟨2, true, (ansU oU).cells⟩ := by rw [← hH]; exact hget_at (k := 3) rfl
    have g12 : hget H1 (h.length + 1 + 1 + 1 + 1) = ⟨2, true, (ansU (urlL l)).cells⟩ := by rw [← hH]; exact hget_at (k := 4) rfl
    clear hH
    generalize h.length + 1 + 1 + 1 + 1 = n12 at *
    generalize h.length + 1 + 1 + 1 = n10 at *
    obtain ⟨E1, hE1⟩ : ∃ x, ansE (urlL l) = x := ⟨_, rfl⟩
    rw [hE1] at t8 t13
    obtain ⟨U1, hU1⟩ : ∃ U, ansU (urlL l) = U := ⟨_, rfl⟩
    rw [hU1] at g7 g12
    obtain ⟨u1, u2, u3, u4, u5, u6, u7, u8, u9, u10⟩ := U1
    cases hu : utf8B A with
    | true =>
      have e := p3 hu
      rw [hoU] at e
      rw [e, hU1] at g10
      simp only [Url.cells] at g7 g10 g12
      rw [hu] at t14
      rw [e, hE1] at t11
      simp -implicitDefEqProofs [go_sem, Tryz.f6, t7, t8, t10, t11, t12, t13, t14, g7, g10, g12, pAwakeUC, hE]
    | false =>
      simp only [Url.cells] at g7 g12
      rw [hu] at t14
      simp -implicitDefEqProofs [go_sem, Tryz.f6, t7, t8, t10, t11, t12, t13, t14, g7, g12, pAwakeUC, hE]
end GoD
