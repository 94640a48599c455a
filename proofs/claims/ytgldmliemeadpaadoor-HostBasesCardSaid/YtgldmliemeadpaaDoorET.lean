import Derived.Test.YtgldmliemeadpaaDoorEN
/-! Host patterns and schemes as the document reads them. -/
namespace GoD
open Go Go.Proofs
set_option linter.unusedVariables false
set_option linter.unusedSimpArgs false
set_option maxHeartbeats 4000000
set_option maxRecDepth 100000
theorem labelsN_le (l : List Int) : labelsN l ≤ l.length := by
  have key : ∀ (n : Nat) (l : List Int), l.length ≤ n → labelsN l ≤ l.length := by
    intro n
    induction n with
    | zero =>
      intro l h
      have : l = [] := List.length_eq_zero_iff.1 (by omega)
      subst this
      exact Nat.le_refl _
    | succ n ih =>
      intro l h
      have h1 := labelN_le l
      rw [labelsN_eq]
      split
      · omega
      · split
        · rename_i r hr
          have h2 := congrArg List.length hr
          simp at h2
          have := ih r (by omega)
          split
          · omega
          · show labelN l + 1 + labelsN r ≤ l.length
            omega
        · omega
  exact key _ l (Nat.le_refl _)
def hostPartN : List Int → Nat
  | [] => 0
  | [a] => if a = 42 then 1 else labelsN [a]
  | a :: b :: r => if a = 42 then (if b = 46 then (if labelsN r = 0 then 0 else 2 + labelsN r) else 1) else labelsN (a :: b :: r)
def rHostPartC : Ct := fun args h => match args with | [.s l] => some (.i .i64 (hostPartN l), h) | _ => none
/-- how many bytes ahead are so -/
def cntL (p : Int → Bool) : List Int → Nat
  | [] => 0
  | c :: t => if p c = true then cntL p t + 1 else 0
theorem cntL_le (p : Int → Bool) : ∀ l, cntL p l ≤ l.length
  | [] => by simp [cntL]
  | c :: t => by
    have := cntL_le p t
    unfold cntL
    split <;> simp <;> omega
def schB (c : Int) : Bool := letterB c || digitB c || decide (c = 43) || decide (c = 45) || decide (c = 46)
def schemeN : List Int → Nat
  | [] => 0
  | c :: t => if letterB c = true then (if (t.drop (cntL schB t)).head? = some 58 then cntL schB t + 1 else 0) else 0
theorem schemeN_le (l : List Int) : schemeN l ≤ l.length := by
  cases l with
  | nil => simp [schemeN]
  | cons c t =>
    have := cntL_le schB t
    rw [schemeN]
    split
    · split <;> simp <;> omega
    · simp
theorem schemeN_lt {l : List Int} (h : schemeN l ≠ 0) : schemeN l < l.length := by
  cases l with
  | nil => simp [schemeN] at h
  | cons c t =>
    rw [schemeN] at h ⊢
    split
    · split
      · rename_i h1 h2
        have : (t.drop (cntL schB t)).length ≠ 0 := by intro e; rw [List.length_eq_zero_iff.1 e] at h2; cases h2
        simp at this ⊢; omega
      · rename_i h1 h2; rw [if_pos h1, if_neg h2] at h; exact absurd rfl h
    · rename_i h1; rw [if_neg h1] at h; exact absurd rfl h
def rSchemeC : Ct := fun args h => match args with | [.s l] => some (.i .i64 (schemeN l), h) | _ => none
end GoD

/-! Sets of bytes, percents and blanks as the document writes and leaves them. -/
namespace GoD
open Go Go.Proofs
set_option linter.unusedVariables false
set_option linter.unusedSimpArgs false
set_option maxHeartbeats 4000000
set_option maxRecDepth 100000
def moreL (s : Int) : Option (List Int) :=
  if s = 1 then some [34, 60, 62, 96] else if s = 2 then some [34, 35, 39, 60, 62] else if s = 3 then some [34, 35, 60, 62, 63, 94, 96, 123, 125]
  else if s = 4 then some [34, 35, 60, 62, 63, 94, 96, 123, 125, 47, 58, 59, 61, 64, 91, 92, 93, 124] else none
def inB (c s : Int) : Bool := match moreL s with
  | none => false
  | some m => decide (c < 33) || decide (126 < c) || decide (c ∈ m)
def rInSetC : Ct := fun args h => match args with | [.i .u8 c, .i .i64 s] => some (.b (inB c s), h) | _ => none
def hexD (v : Int) : Int := [48, 49, 50, 51, 52, 53, 54, 55, 56, 57, 65, 66, 67, 68, 69, 70].getD v.toNat 0
def encL (s : Int) : List Int → List Int
  | [] => []
  | c :: t => if inB c s = true then 37 :: hexD (c / 16) :: hexD (c % 16) :: encL s t else c :: encL s t
theorem encL_len (s : Int) : ∀ l, (encL s l).length ≤ 3 * l.length
  | [] => by simp [encL]
  | c :: t => by
    have := encL_len s t
    rw [encL]
    split <;> simp <;> omega
theorem and15 {c : Int} (h : 0 ≤ c ∧ c < 256) : Go.bits .and .u8 c 15 = c % 16 :=
  bits_mask .u8 8 (by decide) (fun n h₀ h₁ => by rw [w8]; omega) 4 (by decide) c h.1 (by omega)
def rEncodeC : Ct := fun args h => match args with | [.s l, .i .i64 s] => if l.length ≤ 1048576 then some (.s (encL s l), h) else none | _ => none
def trimL : List Int → List Int
  | [] => []
  | c :: t => if c ≤ 32 then trimL t else c :: t
def trimR (l : List Int) : List Int := (trimL l.reverse).reverse
theorem trimR_snoc (q : List Int) (c : Int) : trimR (q ++ [c]) = if c ≤ 32 then trimR q else q ++ [c] := by
  unfold trimR
  rw [List.reverse_append, show [c].reverse ++ q.reverse = c :: q.reverse from rfl, trimL]
  split
  · rfl
  · simp
theorem trimL_len : ∀ l, (trimL l).length ≤ l.length
  | [] => by simp [trimL]
  | c :: t => by
    have := trimL_len t
    rw [trimL]
    split <;> simp; omega
def keepB (c : Int) : Bool := !decide (c = 9) && !decide (c = 10) && !decide (c = 13)
def cleanL (l : List Int) : List Int := (trimR (trimL l)).filter keepB
theorem cleanL_len (l : List Int) : (cleanL l).length ≤ l.length := by
  unfold cleanL trimR
  refine Nat.le_trans (List.length_filter_le _ _) ?_
  have h1 := trimL_len (trimL l).reverse
  have h2 := trimL_len l
  simp at *
  omega
def rCleanC : Ct := fun args h => match args with | [.s l] => if l.length ≤ 1048576 then some (.s (cleanL l), h) else none | _ => none
theorem filter_snoc (l : List Int) (f : Int → Bool) {i : Nat} (h : i < l.length) : (l.take (i + 1)).filter f = (l.take i).filter f ++ if f l[i] = true then [l[i]] else [] := by
  rw [List.take_succ_eq_append_getElem h, List.filter_append]
  congr 1
  cases hf : f l[i] <;> simp [hf]
def loopL : Code → List Code
  | .loop a => a :: loopL a
  | .seq a b => loopL a ++ loopL b
  | .cond _ a b => loopL a ++ loopL b
  | .block _ a => loopL a
  | _ => []
def loopAt (f : Func) (n : Nat) : Code := (f.body.map fun c => (loopL c).getD n .skip).getD .skip
end GoD

/-! Runes and points as the document reads them. -/
namespace GoD
open Go Go.Proofs
set_option linter.unusedVariables false
set_option linter.unusedSimpArgs false
set_option maxHeartbeats 4000000
set_option maxRecDepth 100000
def runeStep (u c : Int) : Int := Go.bits .or .i64 (IntKind.i64.wrap (u * 64)) (IntKind.i64.wrap (Go.bits .and .u8 c 63))
def runeG : Nat → Int → List Int → Option Int
  | 0, u, _ => some u
  | _ + 1, _, [] => none
  | k + 1, u, c :: t => if Go.bits .and .u8 c 192 = 128 then runeG k (runeStep u c) t else none
def runeF (n : Nat) (least u : Int) (t : List Int) : Nat := if t.length + 1 < n then 0 else match runeG (n - 1) u t with
  | none => 0
  | some v => if v < least ∨ 1114111 < v ∨ (55296 ≤ v ∧ v ≤ 57343) then 0 else n
def runeN (c : Int) (t : List Int) : Nat :=
  if c < 128 then 1 else if 194 ≤ c ∧ c < 224 then runeF 2 128 (Go.bits .and .i64 (IntKind.i64.wrap c) 31) t
  else if 224 ≤ c ∧ c < 240 then runeF 3 2048 (Go.bits .and .i64 (IntKind.i64.wrap c) 15) t
  else if 240 ≤ c ∧ c < 245 then runeF 4 65536 (Go.bits .and .i64 (IntKind.i64.wrap c) 7) t else 0
theorem runeF_le (n : Nat) (a u : Int) (t : List Int) : runeF n a u t ≤ t.length + 1 := by
  unfold runeF
  split
  · omega
  · split
    · omega
    · split <;> omega
theorem runeN_le (c : Int) (t : List Int) : runeN c t ≤ t.length + 1 := by
  unfold runeN
  split
  · omega
  · split
    · exact runeF_le _ _ _ _
    · split
      · exact runeF_le _ _ _ _
      · split
        · exact runeF_le _ _ _ _
        · omega
def rRuneAtC : Ct := fun args h => match args with | [.s (c :: l)] => some (.i .i64 (runeN c l), h) | _ => none
/-- where the first byte is that is no rune -/
def brokenG : Nat → List Int → Nat
  | 0, _ => 0
  | _, [] => 0
  | f + 1, c :: t => if runeN c t = 0 then 0 else runeN c t + brokenG f (t.drop (runeN c t - 1))
theorem brokenG_fuel : ∀ (f g : Nat) (l : List Int), l.length ≤ f → l.length ≤ g → brokenG f l = brokenG g l
  | 0, 0, l, _, _ => rfl
  | 0, g + 1, l, h, _ => by rw [List.length_eq_zero_iff.1 (show l.length = 0 by omega)]; simp [brokenG]
  | f + 1, 0, l, _, h => by rw [List.length_eq_zero_iff.1 (show l.length = 0 by omega)]; simp [brokenG]
  | f + 1, g + 1, l, h1, h2 => by
    match l with
    | [] => simp [brokenG]
    | c :: t =>
      simp at h1 h2
      rw [brokenG, brokenG]
      split
      · rfl
      · rw [brokenG_fuel f g _ (by simp; omega) (by simp; omega)]
def brokenN (l : List Int) : Nat := brokenG l.length l
theorem brokenN_nil : brokenN [] = 0 := rfl
theorem brokenN_cons (c : Int) (t : List Int) : brokenN (c :: t) = if runeN c t = 0 then 0 else runeN c t + brokenN (t.drop (runeN c t - 1)) := by
  unfold brokenN
  rw [show (c :: t).length = t.length + 1 from rfl, brokenG]
  split
  · rfl
  · rw [brokenG_fuel t.length (t.drop (runeN c t - 1)).length _ (by simp) (Nat.le_refl _)]
def rBrokenC : Ct := fun args h => match args with | [.s l] => some (.i .i64 (brokenN l), h) | _ => none
def utf8B (l : List Int) : Bool := decide (brokenN l = l.length)
def rUTF8C : Ct := fun args h => match args with | [.s l] => some (.b (utf8B l), h) | _ => none
/-- points -/
def dotsL : List Int → Option Nat
  | [] => some 0
  | c :: t => if c = 46 then (dotsL t).map (· + 1) else if c = 37 then (match t with
    | a :: b :: r => if a = 50 ∧ b = 101 then (dotsL r).map (· + 1) else none
    | _ => none) else none
def dotsT : List Int → Option Nat
  | a :: b :: r => if a = 50 ∧ b = 101 then (dotsL r).map (· + 1) else none
  | _ => none
theorem dotsL_cons (c : Int) (t : List Int) : dotsL (c :: t) = if c = 46 then (dotsL t).map (· + 1) else if c = 37 then dotsT t else none := by
  match t with
  | [] => simp [dotsL, dotsT]
  | [a] => simp [dotsL, dotsT]
  | a :: b :: r => simp [dotsL, dotsT]
def dotsN (l : List Int) : Nat := match dotsL (lowerL l) with
  | some n => if 2 < n then 0 else n
  | none => 0
def rDotsC : Ct := fun args h => match args with | [.s l] => if l.length ≤ 1048576 then some (.i .i64 (dotsN l), h) else none | _ => none
end GoD

/-! Paths as the document reads them. -/
namespace GoD
open Go Go.Proofs
set_option linter.unusedVariables false
set_option linter.unusedSimpArgs false
set_option maxHeartbeats 4000000
set_option maxRecDepth 100000
def pathStep (acc : List (List Int)) (p : List Int) (last : Bool) : List (List Int) :=
  if dotsN p = 0 then acc ++ [encL 3 p] else if last = true then (if dotsN p = 2 then acc.dropLast else acc) ++ [[]] else if dotsN p = 2 then acc.dropLast else acc
def pathG (acc : List (List Int)) (cur : List Int) : List Int → List (List Int)
  | [] => pathStep acc cur true
  | c :: t => if c = 47 ∨ c = 92 then pathG (pathStep acc cur false) [] t else pathG acc (cur ++ [c]) t
def slashL (l : List (List Int)) : List Int := l.flatMap (47 :: ·)
def pathL (s : List Int) : List Int := if s = [] then [47] else if pathG [] [] s.tail = [] then [47] else slashL (pathG [] [] s.tail)
theorem slashL_len {l : List (List Int)} {b : Nat} (h : ∀ p ∈ l, p.length ≤ b) : (slashL l).length ≤ l.length * (b + 1) := by
  unfold slashL
  induction l with
  | nil => simp
  | cons p l ih =>
    have h1 := ih fun q hq => h q (List.mem_cons_of_mem _ hq)
    have h2 := h p List.mem_cons_self
    rw [List.flatMap_cons, List.length_append, List.length_cons, List.length_cons, Nat.add_mul]
    omega
theorem slashL_snoc {l : List (List Int)} {i : Nat} (h : i < l.length) : slashL (l.take (i + 1)) = slashL (l.take i) ++ 47 :: l[i] := by
  unfold slashL
  rw [List.take_succ_eq_append_getElem h, List.flatMap_append]
  simp
theorem ldN_at {c : List V} {l : List (List Int)} {n i : Nat} (h : ldN c 0 n = some (sts l)) (hn : l.length = n) (hi : i < n) (hi' : i < l.length) : ldN c i 1 = some [.s l[i]] := by
  unfold ldN at h ⊢
  split at h
  · rename_i hb
    have h := Option.some.inj h
    have h1 : c[i]? = some (.s l[i]) := by
      have := congrArg (fun z : List V => z[i]?) h
      simp only [List.drop_zero, List.getElem?_take, if_pos hi, sts, List.getElem?_map, List.getElem?_eq_getElem hi', Option.map_some] at this
      exact this
    have h2 : i < c.length := by omega
    rw [if_pos (by omega), List.drop_eq_getElem_cons h2]
    rw [List.getElem?_eq_getElem h2] at h1
    rw [Option.some.inj h1]; rfl
  · cases h
theorem ldN_less {c : List V} {l : List (List Int)} {n : Nat} (h : ldN c 0 n = some (sts l)) (hn : l.length = n) (k : Nat) (hk : k ≤ n) : ldN c 0 k = some (sts (l.take k)) := by
  unfold ldN at h ⊢
  split at h
  · rename_i hb
    have h := Option.some.inj h
    rw [if_pos (by omega)]
    congr 1
    have := congrArg (List.take k) h
    rw [List.drop_zero, List.take_take, Nat.min_eq_left hk] at this
    rw [List.drop_zero, this]
    simp [sts]
  · cases h
def rPathC : Ct := fun args h => match args with | [.s l] => if l.length ≤ 1048576 then some (.s (pathL l), h) else none | _ => none
end GoD

/-! The user, the host and the port of a URL as the document reads them. -/
namespace GoD
open Go Go.Proofs
set_option linter.unusedVariables false
set_option linter.unusedSimpArgs false
set_option maxHeartbeats 4000000
set_option maxRecDepth 100000
theorem Trim.own {h h1 : Heap} {v : V} {b : Nat} {blk : Blk} (hv : renV id v = v ∧ bndV h.length v) (hf : blk.cells.all GoD.flat = true) (he : Ext (h.set b blk) h1) : ∃ σ, Trim h v h1 v (h.set b blk) σ := by
  have hl := he.1
  rw [List.length_set] at hl
  refine ⟨id, ⟨by simp, fun _ _ => rfl, fun i hi => by rw [List.length_set] at hi; exact Nat.lt_of_lt_of_le hi hl, fun _ _ _ _ h => h, hv.1.symm, by simpa using hv.2, ?_⟩⟩
  intro i c hc
  have h2 := he.get hc
  by_cases hi : i = b
  · subst hi
    have hlt : i < (h.set i blk).length := (List.getElem?_eq_some_iff.1 hc).1
    rw [List.length_set] at hlt
    rw [List.getElem?_set_self hlt] at hc
    cases hc
    exact .inr ⟨by rw [renL_flat hf]; exact h2, bndL_flat hf⟩
  · rw [List.getElem?_set_ne (fun e => hi e.symm)] at hc
    exact .inl ⟨(List.getElem?_eq_some_iff.1 hc).1, hc, h2⟩
/-- where the last sign of that kind is -/
def lastG (a i : Int) : List Int → Int
  | [] => a
  | c :: t => lastG (if c = 64 then i else a) (i + 1) t
theorem lastG_le : ∀ (l : List Int) (a i : Int), -1 ≤ a → a < i → 0 ≤ i → -1 ≤ lastG a i l ∧ lastG a i l < i + l.length
  | [], a, i, h1, h2, h3 => by simp [lastG]; omega
  | c :: t, a, i, h1, h2, h3 => by
    have := lastG_le t (if c = 64 then i else a) (i + 1) (by split <;> omega) (by split <;> omega) (by omega)
    rw [lastG, List.length_cons]
    omega
def portA : Int → List Int → Option Int
  | n, [] => some n
  | n, c :: t => if 65535 < 10 * n + (c - 48) then none else portA (10 * n + (c - 48)) t
def portV (sch q : List Int) : Option Int := if q = [] then some (-1) else if digitsB 10 q = true then (portA 0 q).map fun n => if n = (defaultL sch).1 then -1 else n else none
def hostP (sch s : List Int) : Option (List Int × Option Int) := (hostL (s.take (upL [58] s))).map fun hh => (hh, if upL [58] s = s.length then some (-1) else portV sch (s.drop (upL [58] s + 1)))
def authW (sch s ho : List Int) (po : Int) : Bool × List Int × Int := match hostP sch s with
  | none => (false, ho, po)
  | some (hh, none) => (false, hh, -1)
  | some (hh, some n) => (true, hh, n)
def atL (s : List Int) : Int := lastG (-1) 0 s
def userL (s u : List Int) : List Int := if 0 ≤ atL s then encL 4 ((s.take (atL s).toNat).take (upL [58] (s.take (atL s).toNat))) else u
def passL (s p : List Int) : List Int := if 0 ≤ atL s then (if upL [58] (s.take (atL s).toNat) < (s.take (atL s).toNat).length then encL 4 ((s.take (atL s).toNat).drop (upL [58] (s.take (atL s).toNat) + 1)) else p) else p
def restL (s : List Int) : List Int := if 0 ≤ atL s then s.drop ((atL s).toNat + 1) else s
def urlB (sch us pa ho : List Int) (po : Int) (path : List Int) (q : Bool) (qu : List Int) (f : Bool) (fr : List Int) : Blk := ⟨2, true, [.s sch, .s us, .s pa, .s ho, .i .i64 po, .s path, .b q, .s qu, .b f, .s fr]⟩
def rAuthC : Ct := fun args h => match args with
  | [.p b 0, .s l] => match hget h b with
    | ⟨2, true, [.s sch, .s u, .s p, .s ho, .i .i64 po, .s pa, .b q, .s qu, .b f, .s fr]⟩ => if l.length ≤ 65536 ∧ b < h.length then some (.b (authW sch (restL l) ho po).1, h.set b (urlB sch (userL l u) (passL l p) (authW sch (restL l) ho po).2.1 (authW sch (restL l) ho po).2.2 pa q qu f fr)) else none
    | _ => none
  | _ => none
theorem set_same {h : Heap} {b : Nat} {x : Blk} (hb : b < h.length) (hg : hget h b = x) : h.set b x = h := by
  apply List.ext_getElem (by simp)
  intro i h1 h2
  rw [List.getElem_set]
  split
  · rename_i e
    subst e
    unfold hget at hg
    rw [List.getD_eq_getElem?_getD, List.getElem?_eq_getElem h2] at hg
    exact hg.symm
  · rfl
theorem digitsB10 {q : List Int} (h : digitsB 10 q = true) : ∀ c ∈ q, 48 ≤ c ∧ c ≤ 57 := by
  intro c hc
  have h0 := (List.all_eq_true.1 h) c hc
  obtain ⟨h1, h2⟩ := of_decide_eq_true h0
  unfold hexv at h1 h2
  by_cases a : 48 ≤ c ∧ c ≤ 57
  · exact a
  · rw [if_neg a] at h1 h2
    by_cases b : 97 ≤ c ∧ c ≤ 102
    · rw [if_pos b] at h2; omega
    · rw [if_neg b] at h1 h2
      by_cases d : 65 ≤ c ∧ c ≤ 70
      · rw [if_pos d] at h2; omega
      · rw [if_neg d] at h1; omega
end GoD
