import Derived.Test.YtbiijfgimoelkaaGreatDoorOU
import Derived.Test.YtbiijfgimoelkaaGreatDoorOP
/-! UrlBlanks. -/
namespace GoD
open Go Go.Proofs
set_option linter.unusedVariables false
set_option linter.unusedSimpArgs false
set_option maxHeartbeats 8000000
set_option maxRecDepth 100000
theorem decN_app {c : Int} {t B : List Int} (hc : 0 ≤ c ∧ c < 256) (hB : ∀ x ∈ B, 0 ≤ x ∧ x < 128) : decN c (t ++ B) = decN c t := by
  have hz : ∀ i, (B.getD i 0).toNat < 128 := fun i => by
    rw [List.getD_eq_getElem?_getD]
    cases e : B[i]? with
    | none => simp
    | some x => have := hB x (List.mem_of_getElem? e); simp; omega
  have h0 := hz 0
  generalize e0 : B.getD 0 0 = x0 at h0
  generalize e1 : B.getD 1 0 = x1
  generalize e2 : B.getD 2 0 = x2
  have n0 : ¬ x0.toNat / 64 = 2 := by omega
  match t with
  | [] =>
    rw [show decN c ([] ++ B) = Lib.decodeN (B.length + 1) c.toNat (B.getD 0 0).toNat (B.getD 1 0).toNat (B.getD 2 0).toNat from rfl, show decN c [] = Lib.decodeN 1 c.toNat 0 0 0 from rfl, e0, e1, e2]
    unfold Lib.decodeN
    simp [n0]
  | [a] =>
    rw [show decN c ([a] ++ B) = Lib.decodeN (B.length + 1 + 1) c.toNat a.toNat (B.getD 0 0).toNat (B.getD 1 0).toNat from rfl, show decN c [a] = Lib.decodeN 2 c.toNat a.toNat 0 0 from rfl, e0, e1]
    unfold Lib.decodeN
    simp [n0]
  | [a, b] =>
    rw [show decN c ([a, b] ++ B) = Lib.decodeN (B.length + 1 + 1 + 1) c.toNat a.toNat b.toNat (B.getD 0 0).toNat from rfl, show decN c [a, b] = Lib.decodeN 3 c.toNat a.toNat b.toNat 0 from rfl, e0]
    unfold Lib.decodeN
    simp [n0]
  | a :: b :: d :: t =>
    rw [show decN c ((a :: b :: d :: t) ++ B) = Lib.decodeN ((t ++ B).length + 1 + 1 + 1 + 1) c.toNat a.toNat b.toNat d.toNat from rfl, show decN c (a :: b :: d :: t) = Lib.decodeN (t.length + 1 + 1 + 1 + 1) c.toNat a.toNat b.toNat d.toNat from rfl]
    unfold Lib.decodeN
    simp only [show 1 < (t ++ B).length + 1 + 1 + 1 + 1 by omega, show 2 < (t ++ B).length + 1 + 1 + 1 + 1 by omega, show 3 < (t ++ B).length + 1 + 1 + 1 + 1 by omega, show 1 < t.length + 1 + 1 + 1 + 1 by omega, show 2 < t.length + 1 + 1 + 1 + 1 by omega, show 3 < t.length + 1 + 1 + 1 + 1 by omega]
def Byt (l : List Int) : Prop := ∀ c ∈ l, 0 ≤ c ∧ c < 256
theorem runeN_app {c : Int} {t B : List Int} (hc : 0 ≤ c ∧ c < 256) (ht : Byt t) (hB : ∀ x ∈ B, 0 ≤ x ∧ x < 128) : runeN c (t ++ B) = runeN c t := by
  have hb : Byt (t ++ B) := fun x hx => by
    rcases List.mem_append.1 hx with h | h
    · exact ht x h
    · have := hB x h; omega
  have h1 := dec_rune hc ht
  have h2 := dec_rune hc hb
  rw [decN_app hc hB] at h2
  rcases h1 with ⟨a, b, e⟩ | ⟨a, b, e⟩ <;> rcases h2 with ⟨a2, b2, e2⟩ | ⟨a2, b2, e2⟩
  · rw [e, e2]
  · exact absurd ⟨a, b⟩ a2
  · exact absurd ⟨a2, b2⟩ a
  · rw [b, b2]
theorem utf8_cons (c : Int) (t : List Int) : utf8B (c :: t) = (decide (runeN c t ≠ 0) && utf8B (t.drop (runeN c t - 1))) := by
  unfold utf8B
  rw [brokenN_cons]
  have hle := runeN_le c t
  have h2 := brokenN_le (t.drop (runeN c t - 1))
  rw [List.length_drop] at h2
  by_cases h : runeN c t = 0
  · rw [if_pos h, decide_eq_false (by simp : ¬ 0 = (c :: t).length), decide_eq_false (by simpa using h)]; rfl
  · rw [if_neg h, decide_eq_true h, Bool.true_and]
    exact decide_eq_decide.2 (by rw [List.length_drop, List.length_cons]; omega)
theorem utf8_end : ∀ (n : Nat) (l B : List Int), l.length ≤ n → Byt l → (∀ x ∈ B, 0 ≤ x ∧ x < 128) → utf8B (l ++ B) = utf8B l
  | _, [], B, _, _, hB => by
    rw [List.nil_append]
    induction B with
    | nil => rfl
    | cons c t ih =>
      have hc := hB c (by simp)
      have h1 : runeN c t = 1 := by unfold runeN; rw [if_pos hc.2]
      rw [utf8_cons, h1]
      simp only [Nat.sub_self, List.drop_zero]
      rw [ih fun x hx => hB x (by simp [hx])]
      rfl
  | 0, c :: t, _, h, _, _ => by simp at h
  | n + 1, c :: t, B, h, hb, hB => by
    have hc := hb c (by simp)
    have ht : Byt t := fun x hx => hb x (by simp [hx])
    rw [List.cons_append, utf8_cons, utf8_cons, runeN_app hc ht hB]
    by_cases h0 : runeN c t = 0
    · simp [h0]
    · have hle := runeN_le c t
      rw [List.drop_append_of_le_length (by omega), utf8_end n _ B (by simp at h ⊢; omega) (fun x hx => ht x (List.mem_of_mem_drop hx)) hB]
theorem utf8_front : ∀ (n : Nat) (a x : List Int), a.length ≤ n → Byt a → utf8B a = true → utf8B (a ++ x) = utf8B x
  | _, [], x, _, _, _ => rfl
  | 0, c :: t, _, h, _, _ => by simp at h
  | n + 1, c :: t, x, h, hb, hu => by
    have hc := hb c (by simp)
    have ht : Byt t := fun x hx => hb x (by simp [hx])
    rw [utf8_cons, Bool.and_eq_true] at hu
    obtain ⟨h1, h2⟩ := hu
    have h1 : runeN c t ≠ 0 := by simpa using h1
    have hr : runeN c (t ++ x) = runeN c t := by
      -- the rune lies within t
      have hle := runeN_le c t
      have hpre : ∀ k, (t ++ x).take (t.length + k) = t ++ x.take k := fun k => by rw [List.take_append, List.take_of_length_le (by omega), Nat.add_sub_cancel_left]
      revert h1 hle
      unfold runeN runeF
      have g : ∀ (k : Nat) (u : Int) (t x : List Int), k ≤ t.length → runeG k u (t ++ x) = runeG k u t := by
        intro k
        induction k with
        | zero => intro u t x _; rfl
        | succ k ih =>
          intro u t x hk
          match t, hk with
          | d :: t, hk =>
            rw [List.cons_append, runeG, runeG]
            split
            · exact ih _ t x (by simpa using hk)
            · rfl
      intro h1 hle
      split
      · rfl
      · rename_i c1
        rw [if_neg c1] at h1 hle
        split
        · rename_i c2
          rw [if_pos c2] at h1 hle
          by_cases k : t.length + 1 < 2
          · rw [if_pos k] at h1; exact absurd rfl h1
          · rw [if_neg k, if_neg (by simp; omega), g _ _ _ _ (by omega)]
        · rename_i c2
          rw [if_neg c2] at h1 hle
          split
          · rename_i c3
            rw [if_pos c3] at h1 hle
            by_cases k : t.length + 1 < 3
            · rw [if_pos k] at h1; exact absurd rfl h1
            · rw [if_neg k, if_neg (by simp; omega), g _ _ _ _ (by omega)]
          · rename_i c3
            rw [if_neg c3] at h1 hle
            split
            · rename_i c4
              rw [if_pos c4] at h1 hle
              by_cases k : t.length + 1 < 4
              · rw [if_pos k] at h1; exact absurd rfl h1
              · rw [if_neg k, if_neg (by simp; omega), g _ _ _ _ (by omega)]
            · rfl
    have hle := runeN_le c t
    rw [List.cons_append, utf8_cons, hr, List.drop_append_of_le_length (by omega), utf8_front n _ x (by simp at h ⊢; omega) (fun x hx => ht x (List.mem_of_mem_drop hx)) h2]
    simp [h1]
theorem trimL_app (a x : List Int) : trimL (a ++ x) = if trimL a = [] then trimL x else trimL a ++ x := by
  induction a with
  | nil => rfl
  | cons c t ih =>
    rw [List.cons_append, trimL, trimL]
    split
    · exact ih
    · rw [if_neg (by simp)]; rfl
theorem trimR_app (a x : List Int) : trimR (a ++ x) = if trimR x = [] then trimR a else a ++ trimR x := by
  unfold trimR
  rw [List.reverse_append, trimL_app]
  by_cases h : trimL x.reverse = []
  · rw [if_pos h, if_pos (by rw [h]; rfl)]
  · rw [if_neg h, if_neg (by simpa using h)]; simp
theorem clean_ins {a b : List Int} {c : Int} (hc : c = 9 ∨ c = 10 ∨ c = 13) : cleanL (a ++ c :: b) = cleanL (a ++ b) := by
  have h32 : c ≤ 32 := by omega
  have hk : keepB c = false := by rcases hc with rfl | rfl | rfl <;> rfl
  unfold cleanL
  rw [trimL_app, trimL_app]
  by_cases h : trimL a = []
  · rw [if_pos h, if_pos h, trimL, if_pos h32]
  · rw [if_neg h, if_neg h]
    generalize trimL a = a'
    rw [show c :: b = [c] ++ b from rfl, ← List.append_assoc, trimR_app (a' ++ [c]) b, trimR_app a' b]
    by_cases h2 : trimR b = []
    · rw [if_pos h2, if_pos h2, trimR_snoc, if_pos h32]
    · rw [if_neg h2, if_neg h2, List.filter_append, List.filter_append, List.filter_append]
      simp [hk]
theorem clean_around (s : List Int) : cleanL ([32, 1] ++ s ++ [9, 32]) = cleanL s := by
  unfold cleanL
  rw [List.append_assoc, trimL_app, show trimL [32, 1] = [] from rfl, if_pos rfl, trimL_app]
  by_cases h : trimL s = []
  · rw [if_pos h, h]; rfl
  · rw [if_neg h, trimR_app, show trimR [9, 32] = [] from rfl, if_pos rfl]
theorem url_ins {a b : List Int} {c : Int} (ha : Byt a) (hb : Byt b) (hl : (a ++ b).length ≤ 3000) (hc : c = 9 ∨ c = 10 ∨ c = 13) (hu : utf8B a = true) : urlL (a ++ [c] ++ b) = urlL (a ++ b) := by
  have h1 : (a ++ [c] ++ b).length ≤ 3001 := by simp at hl ⊢; omega
  unfold urlL
  rw [if_neg (show ¬ 65536 < (a ++ [c] ++ b).length by omega), if_neg (show ¬ 65536 < (a ++ b).length by omega), List.append_assoc, utf8_front _ a _ (Nat.le_refl _) ha hu, utf8_front _ a _ (Nat.le_refl _) ha hu, utf8_front 1 [c] b (by simp) (fun x hx => by obtain rfl := List.mem_singleton.1 hx; omega) (by rcases hc with rfl | rfl | rfl <;> rfl)]
  show (if utf8B b = true then url1 (cleanL (a ++ c :: b)) else none) = _
  rw [clean_ins hc]
theorem url_around {s : List Int} (hs : Byt s) (hl : s.length ≤ 3000) : urlL ([32, 1] ++ s ++ [9, 32]) = urlL s := by
  have h1 : ¬ 65536 < (([32, 1] : List Int) ++ s ++ [9, 32]).length := by simp; omega
  unfold urlL
  rw [if_neg h1, if_neg (show ¬ 65536 < s.length by omega), clean_around, utf8_end _ ([32, 1] ++ s) [9, 32] (Nat.le_refl _) (fun x hx => by
    rcases List.mem_append.1 hx with h | h
    · simp at h; omega
    · exact hs x h) (by simp), utf8_front 2 [32, 1] s (by simp) (fun x hx => by simp at hx; omega) (by rfl)]
end GoD

/-! UrlBlanks: the law's run. -/
namespace GoD
open Go Go.Proofs
set_option linter.unusedVariables false
set_option linter.unusedSimpArgs false
set_option maxHeartbeats 8000000
set_option maxRecDepth 100000
theorem ct_plainM {P : Program} {G : Nat → List V} {l : List (FuncId × Ct)} (hm : P.follows .mixedOrders = true) (hl : Sound (ctx P G l)) (pm : List (Nat × List Nat × List Nat)) {f n : FuncId} {fn : Func} {c : Code} {C : Ct} (hok : okFnM P pm f n = true) (hf : P.funcs[f]? = some fn) (hb : fn.body = some c)
    (hc : ∀ args h v h', C args h = some (v, h') → ∀ (r : List (Option Loc)) (xs : List Value) (H : Array Obj), HR G r h H → RL r args xs → args.length = n ∧ h' = h ∧ (renV id v = v ∧ bndV h.length v) ∧ Run (ctm pm P G l) (Fini (ctm pm P G l) fn.results.toList fun v' h1 => v' = v ∧ Ext h h1) [.c c] args h) : CtOk P G f C :=
  ct_okM hm hl pm hok fun args h v h' h1 r xs H hr hx => by
    obtain ⟨e1, rfl, e2, e3⟩ := hc args h v h' h1 r xs H hr hx
    obtain ⟨k, v', h2, e4, rfl, e5⟩ := call_of_run (E := ctm pm P G l) hf hb e3
    exact ⟨e1, k, v', h2, id, e4, Trim.flat e2 e5⟩
def roundU (k n : Int) : Int := if k.tmod n < 0 then k.tmod n + n else k.tmod n
theorem roundU_le {k n : Int} (h : 0 < n) : 0 ≤ roundU k n ∧ roundU k n < n := by
  have h1 := Int.tmod_lt_of_pos k h
  have h2 : -n < k.tmod n := Int.neg_lt_of_neg_lt (by rw [← Int.neg_tmod]; exact Int.tmod_lt_of_pos _ h)
  unfold roundU
  split <;> omega
def pRoundUC : Ct := fun args h => match args with | [.i .i64 k, .i .i64 n] => if 0 < n ∧ n ≤ 1000000 then some (.i .i64 (roundU k n), h) else none | _ => none
theorem pRoundU_ok : CtOk Tryz.prog G0 16 pRoundUC := by
  refine ct_plain (n := 2) fol sound_nil (by kernel_rfl) Tryz.func16 rfl fun args h v h' hc r xs H hr hx => ?_
  unfold pRoundUC at hc; split at hc <;> (try split at hc) <;> cases hc
  rename_i k n hn
  have hn0 : ¬ n = 0 := by omega
  have h1 := Int.tmod_lt_of_pos k hn.1
  have h2 : -n < k.tmod n := Int.neg_lt_of_neg_lt (by rw [← Int.neg_tmod]; exact Int.tmod_lt_of_pos _ hn.1)
  refine ⟨rfl, rfl, by simp [renV, bndV], ?_⟩
  by_cases c1 : k.tmod n < 0
  · simp -implicitDefEqProofs [go_sem, Tryz.f16, hn0, c1, roundU, w64 (x := k.tmod n + n) (by omega)]
  · simp -implicitDefEqProofs [go_sem, Tryz.f16, hn0, c1, roundU]
theorem urlAns_eqd (o : Option Url) : ∃ a : List V, ∃ e : Int, urlAns o = .tup [.agg a, .i .i64 e] := by cases o <;> exact ⟨_, _, rfl⟩
def ansU : Option Url → Url
  | none => urlZ
  | some u => u
def ansE : Option Url → Int
  | none => 8
  | some _ => 0
theorem urlAns_ue (o : Option Url) : urlAns o = .tup [.agg [.s (ansU o).sch, .s (ansU o).us, .s (ansU o).pa, .s (ansU o).ho, .i .i64 (ansU o).po, .s (ansU o).path, .b (ansU o).q, .s (ansU o).qu, .b (ansU o).f, .s (ansU o).fr], .i .i64 (ansE o)] := by cases o <;> rfl
def pLawUbC : Ct := fun args h => match args with | [.s l, .i .i64 k, .i .i64 c] => some (.b true, h) | _ => none
end GoD
