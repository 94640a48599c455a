import Derived.Test.YtbiijfgimoelkaaGreatDoorOX
import Derived.Test.YtbiijfgimoelkaaGreatDoorVP
import Derived.Test.YtbiijfgimoelkaaGreatDoorHB
import Derived.Test.YtbiijfgimoelkaaGreatDoorOP
/-! URLs that were read, written and read again: what the texts of a URL are. -/
namespace GoD
open Go Go.Proofs
set_option linter.unusedVariables false
set_option linter.unusedSimpArgs false
set_option maxHeartbeats 4000000
set_option maxRecDepth 100000
def Vis (l : List Int) : Prop := ∀ c ∈ l, 33 ≤ c ∧ c ≤ 126
theorem Vis.app {a b : List Int} (ha : Vis a) (hb : Vis b) : Vis (a ++ b) := fun c hc => (List.mem_append.1 hc).elim (ha c) (hb c)
theorem Vis.byt {a : List Int} (ha : Vis a) : Byt a := fun c hc => by have := ha c hc; omega
theorem trimL_vis {l : List Int} (h : Vis l) : trimL l = l := by
  cases l with
  | nil => rfl
  | cons c t => rw [trimL, if_neg (by have := h c (by simp); omega)]
theorem trimR_vis {l : List Int} (h : Vis l) : trimR l = l := by
  unfold trimR
  rw [trimL_vis fun c hc => h c (by simpa using hc), List.reverse_reverse]
theorem clean_vis {l : List Int} (h : Vis l) : cleanL l = l := by
  unfold cleanL
  rw [trimL_vis h, trimR_vis h, List.filter_eq_self]
  intro c hc
  have := h c hc
  have h1 : ¬ c = 9 := by omega
  have h2 : ¬ c = 10 := by omega
  have h3 : ¬ c = 13 := by omega
  simp [keepB, h1, h2, h3]
theorem utf8_vis {l : List Int} (h : Vis l) : utf8B l = true := by
  have := utf8_end 0 [] l (by simp) (fun c hc => by simp at hc) (fun c hc => by have := h c hc; omega)
  rw [List.nil_append] at this
  rw [this]; rfl
theorem sch_of {s : List Int} (h : (defaultL s).2 = true) : s = [104, 116, 116, 112] ∨ s = [119, 115] ∨ s = [104, 116, 116, 112, 115] ∨ s = [119, 115, 115] ∨ s = [102, 116, 112] := by
  unfold defaultL at h
  split at h
  · rename_i h1; rcases h1 with h1 | h1 <;> simp [h1]
  · split at h
    · rename_i h1; rcases h1 with h1 | h1 <;> simp [h1]
    · split at h
      · rename_i h1; simp [h1]
      · cases h
theorem scheme_at {s : List Int} (h : (defaultL s).2 = true) (t : List Int) : schemeN (s ++ 58 :: t) = s.length ∧ lowerL s = s ∧ Vis s ∧ s.length ≤ 5 ∧ s ≠ [] := by
  have hv : ∀ l : List Int, (l.all fun c => decide (33 ≤ c ∧ c ≤ 126)) = true → Vis l := fun l hl c hc => of_decide_eq_true (List.all_eq_true.1 hl c hc)
  rcases sch_of h with rfl | rfl | rfl | rfl | rfl
  · exact ⟨rfl, rfl, hv _ (by decide), by decide, by simp⟩
  · exact ⟨rfl, rfl, hv _ (by decide), by decide, by simp⟩
  · exact ⟨rfl, rfl, hv _ (by decide), by decide, by simp⟩
  · exact ⟨rfl, rfl, hv _ (by decide), by decide, by simp⟩
  · exact ⟨rfl, rfl, hv _ (by decide), by decide, by simp⟩
theorem skipL_ne {c : Int} {t : List Int} (h1 : c ≠ 47) (h2 : c ≠ 92) : skipL (c :: t) = c :: t := by rw [skipL, if_neg (by omega)]
/-- a URL whose parts are cut where they are -/
theorem url1_at {s au rest : List Int} (hs : (defaultL s).2 = true) (hn : au ≠ []) (ha : ∀ c ∈ au, c ∉ ([47, 92, 63, 35] : List Int)) (hr : rest = [] ∨ ∃ c t, rest = c :: t ∧ c ∈ ([47, 92, 63, 35] : List Int)) :
    url1 (s ++ 58 :: 47 :: 47 :: (au ++ rest)) = match authW s (restL au) [] 0 with
    | (false, _, _) => none
    | (true, ho, po) => some (url3 s (au ++ rest) ho po au rest) := by
  obtain ⟨h1, h2, _, _, _⟩ := scheme_at hs (47 :: 47 :: (au ++ rest))
  have h3 : (s ++ 58 :: 47 :: 47 :: (au ++ rest)).take s.length = s := by simp
  have h4 : (s ++ 58 :: 47 :: 47 :: (au ++ rest)).drop (s.length + 1) = 47 :: 47 :: (au ++ rest) := by
    rw [show s ++ 58 :: 47 :: 47 :: (au ++ rest) = (s ++ [58]) ++ 47 :: 47 :: (au ++ rest) by simp, List.drop_append_of_le_length (by simp)]
    simp
  have h5 : skipL (47 :: 47 :: (au ++ rest)) = au ++ rest := by
    match au, hn, ha with
    | c :: t, _, ha =>
      have := ha c (by simp)
      simp only [List.mem_cons, not_or] at this
      rw [skipL, if_pos (.inl rfl), skipL, if_pos (.inl rfl), List.cons_append, skipL_ne this.1 this.2.1]
  have h6 : upL [47, 92, 63, 35] (au ++ rest) = au.length := by
    rw [upL_app ha]
    rcases hr with rfl | ⟨c, t, rfl, hc⟩
    · simp [upL]
    · rw [upL, if_pos hc]; simp
  unfold url1
  rw [h1, h3, h2, if_pos hs, h4, h5]
  unfold url2
  rw [h6, List.take_left, List.drop_left]
  rcases authW s (restL au) [] 0 with ⟨_ | _, ho, po⟩ <;> rfl
theorem lastG_none : ∀ {l : List Int} {a i : Int}, (64 : Int) ∉ l → lastG a i l = a
  | [], a, i, _ => rfl
  | c :: t, a, i, h => by
    rw [List.mem_cons, not_or] at h
    rw [lastG, if_neg fun e => h.1 e.symm, lastG_none h.2]
theorem lastG_at : ∀ {l r : List Int} {a i : Int}, (64 : Int) ∉ r → lastG a i (l ++ 64 :: r) = i + l.length
  | [], r, a, i, h => by rw [List.nil_append, lastG, if_pos rfl, lastG_none h]; simp
  | c :: t, r, a, i, h => by rw [List.cons_append, lastG, lastG_at h]; simp; omega
theorem atL_none {l : List Int} (h : (64 : Int) ∉ l) : atL l = -1 := lastG_none h
theorem atL_at {l r : List Int} (h : (64 : Int) ∉ r) : atL (l ++ 64 :: r) = l.length := by unfold atL; rw [lastG_at h]; omega
theorem restL_none {l : List Int} (h : (64 : Int) ∉ l) : restL l = l := by unfold restL; rw [atL_none h, if_neg (by omega)]
theorem restL_at {l r : List Int} (h : (64 : Int) ∉ r) : restL (l ++ 64 :: r) = r := by
  unfold restL
  rw [atL_at h, if_pos (by omega), show l ++ 64 :: r = (l ++ [64]) ++ r by simp, show ((l.length : Int)).toNat + 1 = (l ++ [64]).length by simp, List.drop_left]
theorem userL_none {l u : List Int} (h : (64 : Int) ∉ l) : userL l u = u := by unfold userL; rw [atL_none h, if_neg (by omega)]
theorem passL_none {l u : List Int} (h : (64 : Int) ∉ l) : passL l u = u := by unfold passL; rw [atL_none h, if_neg (by omega)]
theorem take_at (l r : List Int) : (l ++ 64 :: r).take ((l.length : Int)).toNat = l := by rw [Int.toNat_natCast, List.take_left]
theorem userL_at {l r u : List Int} (h : (64 : Int) ∉ r) : userL (l ++ 64 :: r) u = encL 4 (l.take (upL [58] l)) := by
  unfold userL
  rw [atL_at h, if_pos (by omega), take_at]
theorem passL_at {l r u : List Int} (h : (64 : Int) ∉ r) : passL (l ++ 64 :: r) u = if upL [58] l < l.length then encL 4 (l.drop (upL [58] l + 1)) else u := by
  unfold passL
  rw [atL_at h, if_pos (by omega), take_at]
theorem upL_all {m l : List Int} (h : ∀ c ∈ l, c ∉ m) : upL m l = l.length := by
  have := upL_app (b := []) h
  rw [List.append_nil, upL] at this
  omega
theorem upL_cut {m a b : List Int} {c : Int} (h : ∀ x ∈ a, x ∉ m) (hc : c ∈ m) : upL m (a ++ c :: b) = a.length := by
  rw [upL_app h, upL, if_pos hc]; omega
theorem upL_one {a b : List Int} {c : Int} (h : c ∉ a) : upL [c] (a ++ c :: b) = a.length := upL_cut (fun x hx e => h (by rw [List.mem_singleton] at e; rw [← e]; exact hx)) (by simp)
theorem upL_one0 {a : List Int} {c : Int} (h : c ∉ a) : upL [c] a = a.length := upL_all fun x hx e => h (by rw [List.mem_singleton] at e; rw [← e]; exact hx)
/-! what is written as percents -/
theorem hexD_in {v s : Int} (h0 : 0 ≤ v) (h1 : v < 16) (hs : s = 1 ∨ s = 2 ∨ s = 3 ∨ s = 4) : inB (hexD v) s = false := by
  have key : ∀ k : Fin 16, ∀ j : Fin 5, 1 ≤ j.val → inB (hexD (k.val : Int)) (j.val : Int) = false := by decide +kernel
  have := key ⟨v.toNat, by omega⟩
  rw [show ((v.toNat : Nat) : Int) = v by omega] at this
  rcases hs with rfl | rfl | rfl | rfl
  · exact this 1 (by decide)
  · exact this 2 (by decide)
  · exact this 3 (by decide)
  · exact this 4 (by decide)
theorem in37 {s : Int} (hs : s = 1 ∨ s = 2 ∨ s = 3 ∨ s = 4) : inB 37 s = false := by rcases hs with rfl | rfl | rfl | rfl <;> rfl
def Fre (s : Int) (l : List Int) : Prop := ∀ c ∈ l, inB c s = false
theorem encL_fre {s : Int} (hs : s = 1 ∨ s = 2 ∨ s = 3 ∨ s = 4) : ∀ {l : List Int}, Byt l → Fre s (encL s l)
  | [], _ => fun c hc => by simp [encL] at hc
  | d :: t, h => by
    have hd := h d (by simp)
    have ih := encL_fre hs (l := t) fun c hc => h c (by simp [hc])
    intro c hc
    rw [encL] at hc
    split at hc
    · simp only [List.mem_cons] at hc
      rcases hc with rfl | rfl | rfl | hc
      · exact in37 hs
      · exact hexD_in (by omega) (by omega) hs
      · exact hexD_in (by omega) (by omega) hs
      · exact ih c hc
    · rename_i hn
      rcases List.mem_cons.1 hc with rfl | hc
      · simpa using hn
      · exact ih c hc
theorem encL_id {s : Int} : ∀ {l : List Int}, Fre s l → encL s l = l
  | [], _ => rfl
  | d :: t, h => by
    rw [encL, if_neg (by rw [h d (by simp)]; simp), encL_id fun c hc => h c (by simp [hc])]
theorem Fre.vis {s : Int} (hs : s = 1 ∨ s = 2 ∨ s = 3 ∨ s = 4) {l : List Int} (h : Fre s l) : Vis l := fun c hc => by
  have := h c hc
  unfold inB at this
  rcases hs with rfl | rfl | rfl | rfl <;> simp [moreL] at this <;> omega
theorem Fre.not {s : Int} {l m : List Int} {c : Int} (h : Fre s l) (hm : moreL s = some m) (hc : c ∈ m) : c ∉ l := fun hl => by
  have := h c hl
  unfold inB at this
  rw [hm] at this
  simp [hc] at this
/-! hosts -/
theorem forb_vis {l : List Int} (h : l.any forbB = false) : Vis l := fun c hc => by
  have := List.any_eq_false.1 h c hc
  unfold forbB at this
  simp at this
  omega
theorem forb_not {l : List Int} {c : Int} (h : l.any forbB = false) (hc : forbB c = true) : c ∉ l := fun hl => List.any_eq_false.1 h c hl hc
end GoD

/-! Numbers, hosts and paths that are written and read again. -/
namespace GoD
open Go Go.Proofs
set_option linter.unusedVariables false
set_option linter.unusedSimpArgs false
set_option maxHeartbeats 4000000
set_option maxRecDepth 100000
theorem decD_wr : ∀ n : Nat, decD n = wrB 0 120 n := by
  intro n
  show decD n = digsB 10 n
  induction n using Nat.strongRecOn with
  | ind n ih =>
    by_cases h : n < 10
    · rw [decD, dif_pos h, digsB, dif_pos (.inl h), dgB, if_pos h]
    · rw [decD, dif_neg h, digsB, dif_neg (by omega), ih _ (by omega), dgB, if_pos (by omega)]
theorem dec_piece {n : Nat} (h : n < 4294967296) : pieceV (decD n) = some (n : Int) := by rw [decD_wr]; exact wr_piece (.inr rfl) h
theorem dec_nil (n : Nat) : decD n ≠ [] := by rw [decD_wr]; exact wr_ne _ _ _
theorem dec_mem {n : Nat} {c : Int} (h : c ∈ decD n) : 48 ≤ c ∧ c ≤ 57 := by
  induction n using Nat.strongRecOn with
  | ind n ih =>
    by_cases h1 : n < 10
    · rw [decD, dif_pos h1] at h
      obtain rfl := List.mem_singleton.1 h
      omega
    · rw [decD, dif_neg h1] at h
      rcases List.mem_append.1 h with h | h
      · exact ih _ (by omega) h
      · obtain rfl := List.mem_singleton.1 h
        omega
theorem dec_dot (n : Nat) : (46 : Int) ∉ decD n := fun h => by have := dec_mem h; omega
theorem dec_numeric (n : Nat) : numericB (decD n) = true := by rw [decD_wr]; exact wr_numeric
theorem dec_digits (n : Nat) : digitsB 10 (decD n) = true := by rw [decD_wr]; exact digs_all (b := 10) (by decide) (by decide)
theorem split_text (a : Int) : splitL 46 (textL a) = [decD (a / 16777216).toNat, decD (a / 65536 % 256).toNat, decD (a / 256 % 256).toNat, decD (a % 256).toNat] := by
  unfold textL
  rw [show decD (a / 16777216).toNat ++ [46] ++ decD (a / 65536 % 256).toNat ++ [46] ++ decD (a / 256 % 256).toNat ++ [46] ++ decD (a % 256).toNat = decD (a / 16777216).toNat ++ 46 :: (decD (a / 65536 % 256).toNat ++ 46 :: (decD (a / 256 % 256).toNat ++ 46 :: decD (a % 256).toNat)) by simp]
  rw [splitL_cons (dec_dot _), splitL_cons (dec_dot _), splitL_cons (dec_dot _), splitL_none (dec_dot _)]
theorem parts_text (a : Int) : partsL (textL a) = [decD (a / 16777216).toNat, decD (a / 65536 % 256).toNat, decD (a / 256 % 256).toNat, decD (a % 256).toNat] := by
  unfold partsL
  rw [split_text, if_neg]
  rintro ⟨_, h⟩
  simp at h
  exact dec_nil _ h
theorem number_text {a : Int} (h0 : 0 ≤ a) (h1 : a < 4294967296) : numberL (textL a) = some a := by
  unfold numberL
  rw [parts_text, if_neg (by simp)]
  have e1 := dec_piece (n := (a / 16777216).toNat) (by omega)
  have e2 := dec_piece (n := (a / 65536 % 256).toNat) (by omega)
  have e3 := dec_piece (n := (a / 256 % 256).toNat) (by omega)
  have e4 := dec_piece (n := (a % 256).toNat) (by omega)
  rw [numL_cons e1 (by simp) (by omega) (numL_cons e2 (by simp) (by omega) (numL_cons e3 (by simp) (by omega) (numL_one e4 (by simp; omega))))]
  simp only [p24, p16, p8, show (2 : Int) ^ (8 * (4 - 1 - 1)) = 65536 by decide, show (2 : Int) ^ (8 * (4 - 1 - 1 - 1)) = 256 by decide]
  congr 1
  omega
theorem text_mem {a c : Int} (hc : c ∈ textL a) : (48 ≤ c ∧ c ≤ 57) ∨ c = 46 := by
  unfold textL at hc
  simp only [List.mem_append, List.mem_singleton] at hc
  rcases hc with ((((((hc | hc) | hc) | hc) | hc) | hc) | hc)
  all_goals first | exact Or.inr hc | exact Or.inl (dec_mem hc)
theorem text_fix (a : Int) : textL a ≠ [] ∧ decodeL (textL a) = textL a ∧ lowerL (textL a) = textL a ∧ (textL a).any forbB = false := by
  refine ⟨by unfold textL; simp, dec_none fun m => by have := text_mem m; omega, low_same fun c m => by have := text_mem m; omega, ?_⟩
  rw [List.any_eq_false]
  intro c m
  have hc := text_mem m
  have key : ∀ k : Fin 256, ((48 ≤ (k.val : Int) ∧ (k.val : Int) ≤ 57) ∨ (k.val : Int) = 46) → forbB (k.val : Int) = false := by decide +kernel
  have q := key ⟨c.toNat, by omega⟩
  rw [show ((c.toNat : Nat) : Int) = c by omega] at q
  simp [q hc]
theorem lowB_low (c : Int) : lowB (lowB c) = lowB c := by unfold lowB; omega
theorem lowerL_low (xs : List Int) : lowerL (lowerL xs) = lowerL xs := by
  unfold lowerL
  rw [List.map_map]
  exact List.map_congr_left fun c _ => lowB_low c
theorem host_fixed {xs h : List Int} (e : hostL xs = some h) : h ≠ [] ∧ decodeL h = h ∧ lowerL h = h ∧ h.any forbB = false := by
  unfold hostL at e
  split at e
  · cases e
  · rename_i h1
    simp only [not_or, Bool.not_eq_true] at h1
    split at e
    · obtain ⟨n, hn, rfl⟩ := Option.map_eq_some_iff.1 e
      exact text_fix n
    · obtain rfl := Option.some.inj e
      refine ⟨h1.1, dec_none fun m => ?_, lowerL_low _, h1.2⟩
      exact List.any_eq_false.1 h1.2 37 m (by decide)
theorem host_back {xs h : List Int} (e : hostL xs = some h) : hostL h = some h := by
  obtain ⟨f1, f2, f3, f4⟩ := host_fixed e
  have hn : ¬ (h = [] ∨ h.any forbB = true) := by simp [f1, f4]
  unfold hostL at e ⊢
  rw [f2, f3, if_neg hn]
  split at e
  · cases e
  · split at e
    · obtain ⟨n, hnn, rfl⟩ := Option.map_eq_some_iff.1 e
      have hr := numberL_le hnn
      rw [parts_text, show List.getLastD [decD (n / 16777216).toNat, decD (n / 65536 % 256).toNat, decD (n / 256 % 256).toNat, decD (n % 256).toNat] [] = decD (n % 256).toNat from rfl, if_pos (dec_numeric _), number_text hr.1 hr.2]
      rfl
    · rename_i h3
      obtain rfl := Option.some.inj e
      rw [if_neg h3]
/-! ports -/
theorem portA_snoc : ∀ (xs : List Int) (n c : Int), portA n (xs ++ [c]) = (portA n xs).bind fun m => if 65535 < 10 * m + (c - 48) then none else some (10 * m + (c - 48))
  | [], n, c => by simp [portA]
  | x :: xs, n, c => by
    rw [List.cons_append, portA, portA]
    split
    · rfl
    · exact portA_snoc xs _ c
theorem portA_dec : ∀ n : Nat, portA 0 (decD n) = if n ≤ 65535 then some (n : Int) else none := by
  intro n
  induction n using Nat.strongRecOn with
  | ind n ih =>
    by_cases h : n < 10
    · rw [decD, dif_pos h, portA, portA, if_neg (by omega), if_pos (by omega)]
      congr 1; omega
    · rw [decD, dif_neg h, portA_snoc, ih _ (by omega)]
      by_cases h2 : n / 10 ≤ 65535
      · rw [if_pos h2, Option.bind_some]
        by_cases h3 : n ≤ 65535
        · rw [if_neg (by omega), if_pos h3]; congr 1; omega
        · rw [if_pos (by omega), if_neg h3]
      · rw [if_neg h2, if_neg (by omega)]; rfl
theorem portA_zero (l : List Int) : portA 0 (48 :: l) = portA 0 l := by rw [portA, if_neg (by omega)]; rfl
/-! paths -/
theorem hexD_not {v : Int} (h0 : 0 ≤ v) (h1 : v < 16) : hexD v ≠ 47 ∧ hexD v ≠ 92 ∧ hexD v ≠ 46 ∧ hexD v ≠ 37 ∧ (lowB (hexD v) = 50 → v = 2) ∧ (lowB (hexD v) = 101 → v = 14) := by
  have key : ∀ k : Fin 16, hexD (k.val : Int) ≠ 47 ∧ hexD (k.val : Int) ≠ 92 ∧ hexD (k.val : Int) ≠ 46 ∧ hexD (k.val : Int) ≠ 37 ∧ (lowB (hexD (k.val : Int)) = 50 → (k.val : Int) = 2) ∧ (lowB (hexD (k.val : Int)) = 101 → (k.val : Int) = 14) := by decide +kernel
  have := key ⟨v.toNat, by omega⟩
  rwa [show ((v.toNat : Nat) : Int) = v by omega] at this
theorem encL_mem {s c : Int} : ∀ {l : List Int}, Byt l → c ∈ encL s l → c = 37 ∨ (∃ v, 0 ≤ v ∧ v < 16 ∧ c = hexD v) ∨ c ∈ l
  | [], _, h => by simp [encL] at h
  | d :: t, hb, h => by
    have hd := hb d (by simp)
    have ih := fun h => encL_mem (s := s) (c := c) (l := t) (fun c hc => hb c (by simp [hc])) h
    rw [encL] at h
    split at h
    · simp only [List.mem_cons] at h
      rcases h with h | h | h | h
      · exact .inl h
      · exact .inr (.inl ⟨d / 16, by omega, by omega, h⟩)
      · exact .inr (.inl ⟨d % 16, by omega, by omega, h⟩)
      · rcases ih h with h | h | h
        · exact .inl h
        · exact .inr (.inl h)
        · exact .inr (.inr (by simp [h]))
    · rcases List.mem_cons.1 h with h | h
      · exact .inr (.inr (by simp [h]))
      · rcases ih h with h | h | h
        · exact .inl h
        · exact .inr (.inl h)
        · exact .inr (.inr (by simp [h]))
theorem lower_cons' (c : Int) (t : List Int) : lowerL (c :: t) = lowB c :: lowerL t := rfl
theorem encL_head {c : Int} {t : List Int} (h : inB c 3 = true) : encL 3 (c :: t) = 37 :: hexD (c / 16) :: hexD (c % 16) :: encL 3 t := by rw [encL, if_pos h]
theorem encL_headn {c : Int} {t : List Int} (h : inB c 3 = false) : encL 3 (c :: t) = c :: encL 3 t := by rw [encL, if_neg (by rw [h]; simp)]
theorem dots_enc : ∀ (f : Nat) (p : List Int) (n : Nat), p.length ≤ f → Byt p → dotsL (lowerL (encL 3 p)) = some n → dotsL (lowerL p) = some n
  | _, [], n, _, _, h => h
  | 0, c :: t, _, hf, _, _ => by simp at hf
  | f + 1, c :: t, n, hf, hb, h => by
    have hc := hb c (by simp)
    have ht : Byt t := fun x hx => hb x (by simp [hx])
    have hl : t.length ≤ f := by simpa using hf
    cases hi : inB c 3 with
    | true =>
      rw [encL_head hi, lower_cons', lower_cons', lower_cons', dotsL_cons, if_neg (by decide), if_pos (by decide), dotsT] at h
      have h1 := (hexD_not (v := c / 16) (by omega) (by omega)).2.2.2.2.1
      have h2 := (hexD_not (v := c % 16) (by omega) (by omega)).2.2.2.2.2
      split at h
      · rename_i h3
        have e1 := h1 h3.1
        have e2 := h2 h3.2
        have e : c = 46 := by omega
        rw [e] at hi
        exact absurd hi (by decide)
      · cases h
    | false =>
      rw [encL_headn hi, lower_cons', dotsL_cons] at h
      rw [lower_cons', dotsL_cons]
      by_cases h1 : lowB c = 46
      · rw [if_pos h1] at h ⊢
        obtain ⟨m, hm, rfl⟩ := Option.map_eq_some_iff.1 h
        rw [dots_enc f t m hl ht hm]; rfl
      · rw [if_neg h1] at h ⊢
        by_cases h2 : lowB c = 37
        · rw [if_pos h2] at h ⊢
          match t, hl, ht, h with
          | [], _, _, h => exact h
          | a :: t1, hl, ht, h =>
            cases ha : inB a 3 with
            | true =>
              rw [encL_head ha, lower_cons', lower_cons', dotsT, if_neg (fun e => absurd e.1 (by decide))] at h
              cases h
            | false =>
              rw [encL_headn ha, lower_cons'] at h
              match t1, hl, ht, h with
              | [], _, _, h => exact h
              | b :: t2, hl, ht, h =>
                cases hb2 : inB b 3 with
                | true =>
                  rw [encL_head hb2, lower_cons', dotsT, if_neg (fun e => absurd e.2 (by decide))] at h
                  cases h
                | false =>
                  rw [encL_headn hb2, lower_cons', dotsT] at h
                  rw [lower_cons', lower_cons', dotsT]
                  split at h
                  · rename_i h3
                    rw [if_pos h3]
                    obtain ⟨m, hm, rfl⟩ := Option.map_eq_some_iff.1 h
                    rw [dots_enc f t2 m (by simp at hl; omega) (fun x hx => ht x (by simp [hx])) hm]; rfl
                  · cases h
        · rw [if_neg h2] at h; cases h
theorem dotsN_enc {p : List Int} (hb : Byt p) (h : dotsN p = 0) : dotsN (encL 3 p) = 0 := by
  unfold dotsN at h ⊢
  cases e : dotsL (lowerL (encL 3 p)) with
  | none => rfl
  | some n => rw [dots_enc _ p n (Nat.le_refl _) hb e] at h; exact h
def SegOk (q : List Int) : Prop := Fre 3 q ∧ (47 : Int) ∉ q ∧ (92 : Int) ∉ q ∧ dotsN q = 0
theorem seg_nil : SegOk [] := ⟨fun c hc => by simp at hc, by simp, by simp, rfl⟩
theorem seg_step {acc : List (List Int)} {p : List Int} {b : Bool} (ha : ∀ q ∈ acc, SegOk q) (hp : Byt p) (h1 : (47 : Int) ∉ p) (h2 : (92 : Int) ∉ p) : ∀ q ∈ pathStep acc p b, SegOk q := by
  have hd : ∀ q ∈ acc.dropLast, SegOk q := fun q hq => ha q ((List.dropLast_sublist acc).mem hq)
  have he : ∀ c : Int, (∀ v, 0 ≤ v → v < 16 → hexD v ≠ c) → c ≠ 37 → c ∉ p → c ∉ encL 3 p := fun c hv h37 hc hm => by
    rcases encL_mem hp hm with h | ⟨v, v0, v1, h⟩ | h
    · exact h37 h
    · exact hv v v0 v1 h.symm
    · exact hc h
  intro q hq
  unfold pathStep at hq
  split at hq
  · rename_i h0
    rcases List.mem_append.1 hq with h | h
    · exact ha q h
    · obtain rfl := List.mem_singleton.1 h
      exact ⟨encL_fre (.inr (.inr (.inl rfl))) hp, he 47 (fun v a b => (hexD_not a b).1) (by decide) h1, he 92 (fun v a b => (hexD_not a b).2.1) (by decide) h2, dotsN_enc hp h0⟩
  · split at hq
    · rcases List.mem_append.1 hq with h | h
      · split at h
        · exact hd q h
        · exact ha q h
      · obtain rfl := List.mem_singleton.1 h; exact seg_nil
    · split at hq
      · exact hd q hq
      · exact ha q hq
theorem pathG_ok : ∀ (l : List Int) (acc : List (List Int)) (cur : List Int), (∀ q ∈ acc, SegOk q) → Byt cur → (47 : Int) ∉ cur → (92 : Int) ∉ cur → Byt l → ∀ q ∈ pathG acc cur l, SegOk q
  | [], acc, cur, ha, hc, h1, h2, _ => seg_step ha hc h1 h2
  | d :: t, acc, cur, ha, hc, h1, h2, hl => by
    have ht : Byt t := fun x hx => hl x (by simp [hx])
    rw [pathG]
    split
    · exact pathG_ok t _ [] (seg_step ha hc h1 h2) (fun x hx => by simp at hx) (by simp) (by simp) ht
    · rename_i hd
      rw [not_or] at hd
      refine pathG_ok t acc (cur ++ [d]) ha (fun x hx => ?_) (fun hx => ?_) (fun hx => ?_) ht
      · rcases List.mem_append.1 hx with h | h
        · exact hc x h
        · obtain rfl := List.mem_singleton.1 h; exact hl x (by simp)
      · rcases List.mem_append.1 hx with h | h
        · exact h1 h
        · exact hd.1 (List.mem_singleton.1 h).symm
      · rcases List.mem_append.1 hx with h | h
        · exact h2 h
        · exact hd.2 (List.mem_singleton.1 h).symm
theorem slashL_cons (q : List Int) (qs : List (List Int)) : slashL (q :: qs) = 47 :: (q ++ slashL qs) := by simp [slashL]
theorem step_same {acc : List (List Int)} {q : List Int} {b : Bool} (h : SegOk q) : pathStep acc q b = acc ++ [q] := by
  unfold pathStep
  rw [if_pos h.2.2.2, encL_id h.1]
theorem pathG_back : ∀ (qs : List (List Int)) (q : List Int) (acc : List (List Int)), SegOk q → (∀ x ∈ qs, SegOk x) → pathG acc [] (q ++ slashL qs) = acc ++ q :: qs
  | [], q, acc, h, _ => by
    rw [pathG_seg q acc [] _ fun c hc e => by rcases e with rfl | rfl; exact h.2.1 hc; exact h.2.2.1 hc]
    show pathG acc ([] ++ q) [] = _
    rw [List.nil_append, pathG, step_same h]
  | p :: ps, q, acc, h, hs => by
    rw [pathG_seg q acc [] _ fun c hc e => by rcases e with rfl | rfl; exact h.2.1 hc; exact h.2.2.1 hc, List.nil_append, slashL_cons, pathG, if_pos (.inl rfl), step_same h, pathG_back ps p (acc ++ [q]) (hs p (by simp)) fun x hx => hs x (by simp [hx])]
    simp
theorem pathL_form {s : List Int} (hb : Byt s) : ∃ q qs, pathL s = slashL (q :: qs) ∧ ∀ x ∈ q :: qs, SegOk x := by
  unfold pathL
  have h0 : ([47] : List Int) = slashL ([] :: []) := rfl
  have h1 : ∀ x ∈ ([] : List Int) :: [], SegOk x := fun x hx => by obtain rfl := List.mem_singleton.1 hx; exact seg_nil
  split
  · exact ⟨[], [], h0, h1⟩
  · split
    · exact ⟨[], [], h0, h1⟩
    · rename_i hn
      match hg : pathG [] [] s.tail, hn with
      | q :: qs, _ => exact ⟨q, qs, rfl, fun x hx => pathG_ok s.tail [] [] (fun q hq => by simp at hq) (fun x hx => by simp at hx) (by simp) (by simp) (fun x hx => hb x (List.mem_of_mem_tail hx)) x (by rw [hg]; exact hx)⟩
theorem pathL_segs {q : List Int} {qs : List (List Int)} (h : ∀ x ∈ q :: qs, SegOk x) : pathL (slashL (q :: qs)) = slashL (q :: qs) := by
  have hg : pathG [] [] (slashL (q :: qs)).tail = q :: qs := by
    rw [slashL_cons, List.tail_cons, pathG_back qs q [] (h q (by simp)) fun x hx => h x (by simp [hx])]; rfl
  unfold pathL
  rw [hg, if_neg (by rw [slashL_cons]; simp), if_neg (by simp)]
theorem slash_mem {l : List (List Int)} {c : Int} (h : c ∈ slashL l) : c = 47 ∨ ∃ q ∈ l, c ∈ q := by
  unfold slashL at h
  obtain ⟨q, hq, hc⟩ := List.mem_flatMap.1 h
  rcases List.mem_cons.1 hc with h | h
  · exact .inl h
  · exact .inr ⟨q, hq, h⟩
theorem slash_vis {l : List (List Int)} (h : ∀ x ∈ l, SegOk x) : Vis (slashL l) := fun c hc => by
  rcases slash_mem hc with rfl | ⟨q, hq, hc⟩
  · omega
  · exact Fre.vis (.inr (.inr (.inl rfl))) (h q hq).1 c hc
theorem slash_not {l : List (List Int)} {c : Int} (h : ∀ x ∈ l, SegOk x) (hc : c ∈ ([34, 35, 60, 62, 63, 94, 96, 123, 125] : List Int)) : c ∉ slashL l := fun hm => by
  rcases slash_mem hm with rfl | ⟨q, hq, hm⟩
  · exact absurd hc (by decide)
  · exact Fre.not (h q hq).1 rfl hc hm
end GoD

/-! A URL that was read, written and read again. -/
namespace GoD
open Go Go.Proofs
set_option linter.unusedVariables false
set_option linter.unusedSimpArgs false
set_option maxHeartbeats 4000000
set_option maxRecDepth 100000
structure UrlN (u : Url) : Prop where
  sch : (defaultL u.sch).2 = true
  us : Fre 4 u.us
  pa : Fre 4 u.pa
  ho : hostL u.ho = some u.ho
  po : u.po = -1 ∨ (0 ≤ u.po ∧ u.po ≤ 65535 ∧ u.po ≠ (defaultL u.sch).1)
  path : ∃ q qs, u.path = slashL (q :: qs) ∧ ∀ x ∈ q :: qs, SegOk x
  q : u.q = false → u.qu = []
  qu : Fre 2 u.qu
  f : u.f = false → u.fr = []
  fr : Fre 1 u.fr
theorem Byt.take {l : List Int} (h : Byt l) (n : Nat) : Byt (l.take n) := fun c hc => h c (List.mem_of_mem_take hc)
theorem Byt.drop {l : List Int} (h : Byt l) (n : Nat) : Byt (l.drop n) := fun c hc => h c (List.mem_of_mem_drop hc)
theorem skipL_sub : ∀ {l : List Int} {c : Int}, c ∈ skipL l → c ∈ l
  | [], c, h => h
  | d :: t, c, h => by
    rw [skipL] at h
    split at h
    · exact List.mem_cons_of_mem _ (skipL_sub h)
    · exact h
theorem clean_byt {l : List Int} (h : Byt l) : Byt (cleanL l) := fun c hc => by
  unfold cleanL trimR at hc
  have h1 := (List.mem_filter.1 hc).1
  rw [trimL_eq, trimL_eq] at h1
  exact h c ((List.dropWhile_sublist _).mem (List.mem_reverse.1 ((List.dropWhile_sublist _).mem (List.mem_reverse.1 h1))))
theorem portA_le : ∀ {q : List Int} {n m : Int}, 0 ≤ n → n ≤ 65535 → digitsB 10 q = true → portA n q = some m → 0 ≤ m ∧ m ≤ 65535
  | [], n, m, h0, h1, _, h => by rw [portA] at h; obtain rfl := Option.some.inj h; exact ⟨h0, h1⟩
  | c :: t, n, m, h0, h1, hd, h => by
    rw [digitsB_cons, Bool.and_eq_true, decide_eq_true_eq] at hd
    have hc : 48 ≤ c := by
      have := hd.1
      unfold hexv at this
      split at this
      · omega
      · split at this
        · omega
        · split at this <;> omega
    rw [portA] at h
    split at h
    · cases h
    · exact portA_le (by omega) (by omega) hd.2 h
theorem portV_le {sch q : List Int} {n : Int} (h : portV sch q = some n) : n = -1 ∨ (0 ≤ n ∧ n ≤ 65535 ∧ n ≠ (defaultL sch).1) := by
  unfold portV at h
  split at h
  · exact .inl (Option.some.inj h).symm
  · split at h
    · rename_i hd
      obtain ⟨m, hm, he⟩ := Option.map_eq_some_iff.1 h
      have := portA_le (by omega) (by omega) hd hm
      split at he
      · exact .inl he.symm
      · rename_i hne; subst he; exact .inr ⟨this.1, this.2, hne⟩
    · cases h
theorem authW_ok {sch s ho : List Int} {po : Int} (h : authW sch s [] 0 = (true, ho, po)) : hostL ho = some ho ∧ (po = -1 ∨ (0 ≤ po ∧ po ≤ 65535 ∧ po ≠ (defaultL sch).1)) := by
  unfold authW at h
  split at h
  · cases h
  · cases h
  · rename_i hh n hP
    have e1 : hh = ho := congrArg (fun x => x.2.1) h
    have e2 : n = po := congrArg (fun x => x.2.2) h
    subst e1 e2
    unfold hostP at hP
    obtain ⟨g, hg, hp⟩ := Option.map_eq_some_iff.1 hP
    have e3 : g = hh := congrArg Prod.fst hp
    have e4 := congrArg Prod.snd hp
    subst e3
    refine ⟨host_back hg, ?_⟩
    simp only at e4
    split at e4
    · exact .inl (Option.some.inj e4).symm
    · exact portV_le e4
theorem fre_nil (s : Int) : Fre s [] := fun c hc => by simp at hc
theorem urlL_n {l : List Int} {u : Url} (hb : Byt l) (h : urlL l = some u) : UrlN u := by
  unfold urlL at h
  split at h
  · cases h
  split at h
  rotate_left
  · cases h
  have hcb := clean_byt hb
  generalize cleanL l = s at hcb h
  unfold url1 at h
  split at h
  rotate_left
  · cases h
  rename_i hd
  have hsb : Byt (skipL (s.drop (schemeN s + 1))) := fun c hc => hcb.drop _ c (skipL_sub hc)
  generalize lowerL (s.take (schemeN s)) = sch at hd h
  generalize skipL (s.drop (schemeN s + 1)) = s1 at hsb h
  unfold url2 at h
  have hab := hsb.take (upL [47, 92, 63, 35] s1)
  have hrb := hsb.drop (upL [47, 92, 63, 35] s1)
  generalize s1.take (upL [47, 92, 63, 35] s1) = a at hab h
  generalize s1.drop (upL [47, 92, 63, 35] s1) = r at hrb h
  split at h
  · cases h
  · rename_i ho po hA
    obtain ⟨h1, h2⟩ := authW_ok hA
    obtain rfl := Option.some.inj h
    have hcf : Byt (cutF r) := hrb.take _
    refine ⟨hd, ?_, ?_, h1, h2, pathL_form (hcf.take _), ?_, ?_, ?_, ?_⟩
    · show Fre 4 (userL a [])
      unfold userL
      split
      · exact encL_fre (by omega) ((hab.take _).take _)
      · exact fre_nil 4
    · show Fre 4 (passL a [])
      unfold passL
      split
      · split
        · exact encL_fre (by omega) ((hab.take _).drop _)
        · exact fre_nil 4
      · exact fre_nil 4
    · show decide _ = false → (if _ then _ else _) = _
      intro hq
      rw [if_neg (of_decide_eq_false hq)]
    · show Fre 2 (if _ then _ else _)
      split
      · exact encL_fre (by omega) (hcf.drop _)
      · exact fre_nil 2
    · show decide _ = false → (if _ then _ else _) = _
      intro hq
      rw [if_neg (of_decide_eq_false hq)]
    · show Fre 1 (if _ then _ else _)
      split
      · exact encL_fre (by omega) (hrb.drop _)
      · exact fre_nil 1
/-! what was written is cut where its parts are -/
theorem url3_back {sch s1 ho a path qu fr : List Int} {po : Int} {q f : Bool} (hp35 : (35 : Int) ∉ path) (hp63 : (63 : Int) ∉ path) (hq35 : (35 : Int) ∉ qu) (hp : pathL path = path) (hq : q = false → qu = []) (hqu : encL 2 qu = qu) (hf : f = false → fr = []) (hfr : encL 1 fr = fr) :
    url3 sch s1 ho po a (path ++ (sufT 63 q qu ++ sufT 35 f fr)) = ⟨sch, userL a [], passL a [], ho, po, path, q, qu, f, fr⟩ := by
  have hX : (35 : Int) ∉ path ++ sufT 63 q qu := fun h => by
    rcases List.mem_append.1 h with h | h
    · exact hp35 h
    · unfold sufT at h
      split at h
      · rcases List.mem_cons.1 h with h | h
        · exact absurd h (by decide)
        · exact hq35 h
      · simp at h
  have key : cutF (path ++ (sufT 63 q qu ++ sufT 35 f fr)) = path ++ sufT 63 q qu ∧ decide (upL [35] (path ++ (sufT 63 q qu ++ sufT 35 f fr)) < (path ++ (sufT 63 q qu ++ sufT 35 f fr)).length) = f ∧ (if upL [35] (path ++ (sufT 63 q qu ++ sufT 35 f fr)) < (path ++ (sufT 63 q qu ++ sufT 35 f fr)).length then encL 1 ((path ++ (sufT 63 q qu ++ sufT 35 f fr)).drop (upL [35] (path ++ (sufT 63 q qu ++ sufT 35 f fr)) + 1)) else []) = fr := by
    unfold cutF
    rw [← List.append_assoc]
    generalize path ++ sufT 63 q qu = X at hX
    cases f with
    | true =>
      have e : upL [35] (X ++ sufT 35 true fr) = X.length := upL_one hX
      rw [e]
      refine ⟨List.take_left, decide_eq_true (by simp [sufT]), ?_⟩
      rw [if_pos (by simp [sufT]), show X ++ sufT 35 true fr = (X ++ [35]) ++ fr by simp [sufT], show X.length + 1 = (X ++ [35]).length by simp, List.drop_left, hfr]
    | false =>
      have e : upL [35] (X ++ sufT 35 false fr) = X.length := by
        rw [show X ++ sufT 35 false fr = X by simp [sufT], upL_one0 hX]
      rw [e, show X ++ sufT 35 false fr = X by simp [sufT], List.take_length, if_neg (by omega), hf rfl]
      exact ⟨rfl, decide_eq_false (by omega), rfl⟩
  obtain ⟨k1, k2, k3⟩ := key
  have key2 : (path ++ sufT 63 q qu).take (upL [63] (path ++ sufT 63 q qu)) = path ∧ decide (upL [63] (path ++ sufT 63 q qu) < (path ++ sufT 63 q qu).length) = q ∧ (if upL [63] (path ++ sufT 63 q qu) < (path ++ sufT 63 q qu).length then encL 2 ((path ++ sufT 63 q qu).drop (upL [63] (path ++ sufT 63 q qu) + 1)) else []) = qu := by
    cases q with
    | true =>
      have e : upL [63] (path ++ sufT 63 true qu) = path.length := upL_one hp63
      rw [e]
      refine ⟨List.take_left, decide_eq_true (by simp [sufT]), ?_⟩
      rw [if_pos (by simp [sufT]), show path ++ sufT 63 true qu = (path ++ [63]) ++ qu by simp [sufT], show path.length + 1 = (path ++ [63]).length by simp, List.drop_left, hqu]
    | false =>
      have e : upL [63] (path ++ sufT 63 false qu) = path.length := by
        rw [show path ++ sufT 63 false qu = path by simp [sufT], upL_one0 hp63]
      rw [e, show path ++ sufT 63 false qu = path by simp [sufT], List.take_length, if_neg (by omega), hq rfl]
      exact ⟨rfl, decide_eq_false (by omega), rfl⟩
  obtain ⟨k4, k5, k6⟩ := key2
  unfold url3
  rw [k1, k2, k3, k4, k5, k6, hp]
/-- a host and a port, written -/
def ptT (p : Int) : List Int := if p = -1 then [] else 58 :: decI p
theorem decI_dec {p : Int} (h : 0 ≤ p) : decI p = decD p.toNat := by unfold decI; rw [if_neg (by omega)]
theorem ptT_mem {p c : Int} (h : p = -1 ∨ 0 ≤ p) (hc : c ∈ ptT p) : c = 58 ∨ (48 ≤ c ∧ c ≤ 57) := by
  unfold ptT at hc
  split at hc
  · simp at hc
  · rename_i hn
    rcases List.mem_cons.1 hc with hc | hc
    · exact .inl hc
    · rw [decI_dec (by omega)] at hc; exact .inr (dec_mem hc)
theorem authW_at {sch ho : List Int} {po : Int} (hh : hostL ho = some ho) (hp : po = -1 ∨ (0 ≤ po ∧ po ≤ 65535 ∧ po ≠ (defaultL sch).1)) : authW sch (ho ++ ptT po) [] 0 = (true, ho, po) := by
  have hf := (host_fixed hh).2.2.2
  have h58 : (58 : Int) ∉ ho := forb_not hf (by decide)
  have hP : hostP sch (ho ++ ptT po) = some (ho, some po) := by
    unfold hostP ptT
    by_cases h : po = -1
    · rw [if_pos h, List.append_nil, upL_one0 h58, List.take_length, hh, Option.map_some, if_pos rfl, h]
    · obtain ⟨p0, p1, p2⟩ := hp.resolve_left h
      rw [if_neg h, upL_one h58, List.take_left, hh, Option.map_some, if_neg (by simp), show ho ++ 58 :: decI po = (ho ++ [58]) ++ decI po by simp, show ho.length + 1 = (ho ++ [58]).length by simp, List.drop_left]
      have : portV sch (decI po) = some po := by
        rw [decI_dec p0]
        unfold portV
        rw [if_neg (dec_nil _), if_pos (dec_digits _), portA_dec, if_pos (by omega), Option.map_some, if_neg (by omega)]
        congr 1; omega
      rw [this]
  unfold authW
  rw [hP]
theorem auth_mem {ho : List Int} {po c : Int} (hh : hostL ho = some ho) (hp : po = -1 ∨ 0 ≤ po) (hc : c ∈ ho ++ ptT po) : 33 ≤ c ∧ c ≤ 126 ∧ c ∉ ([47, 92, 63, 35, 64] : List Int) := by
  have hf := (host_fixed hh).2.2.2
  rcases List.mem_append.1 hc with h | h
  · have := forb_vis hf c h
    refine ⟨this.1, this.2, fun hm => ?_⟩
    have : ∀ d ∈ ([47, 92, 63, 35, 64] : List Int), forbB d = true := by decide
    exact forb_not hf (this c hm) h
  · have := ptT_mem hp h
    refine ⟨by omega, by omega, fun hm => ?_⟩
    simp only [List.mem_cons, List.not_mem_nil, or_false] at hm
    omega
def uiT (b c : List Int) : List Int := if b = [] ∧ c = [] then [] else b ++ (if c = [] then [] else 58 :: c) ++ [64]
theorem ui_at {b c r : List Int} (hb : Fre 4 b) (hc : Fre 4 c) (hr : (64 : Int) ∉ r) : restL (uiT b c ++ r) = r ∧ userL (uiT b c ++ r) [] = b ∧ passL (uiT b c ++ r) [] = c := by
  have b58 : (58 : Int) ∉ b := Fre.not hb rfl (by decide)
  unfold uiT
  by_cases h : b = [] ∧ c = []
  · rw [if_pos h, List.nil_append, restL_none hr, userL_none hr, passL_none hr, h.1, h.2]; exact ⟨rfl, rfl, rfl⟩
  · rw [if_neg h, List.append_assoc, show [64] ++ r = 64 :: r from rfl, restL_at hr, userL_at hr, passL_at hr]
    by_cases h2 : c = []
    · rw [if_pos h2, List.append_nil, upL_one0 b58, List.take_length, encL_id hb, if_neg (by omega), h2]; exact ⟨rfl, rfl, rfl⟩
    · rw [if_neg h2, upL_one b58, List.take_left, encL_id hb, if_pos (by simp), show b ++ 58 :: c = (b ++ [58]) ++ c by simp, show b.length + 1 = (b ++ [58]).length by simp, List.drop_left, encL_id hc]
      exact ⟨rfl, rfl, rfl⟩
theorem ui_mem {b c : List Int} {x : Int} (hb : Fre 4 b) (hc : Fre 4 c) (h : x ∈ uiT b c) : 33 ≤ x ∧ x ≤ 126 ∧ x ∉ ([47, 92, 63, 35] : List Int) := by
  have key : ∀ l, Fre 4 l → x ∈ l → 33 ≤ x ∧ x ≤ 126 ∧ x ∉ ([47, 92, 63, 35] : List Int) := fun l hl hx => by
    have := Fre.vis (by omega) hl x hx
    refine ⟨this.1, this.2, fun hm => ?_⟩
    have h4 : ∀ d ∈ ([47, 92, 63, 35] : List Int), d ∈ ([34, 35, 60, 62, 63, 94, 96, 123, 125, 47, 58, 59, 61, 64, 91, 92, 93, 124] : List Int) := by decide
    exact Fre.not hl rfl (h4 x hm) hx
  unfold uiT at h
  split at h
  · simp at h
  · rcases List.mem_append.1 h with h | h
    · rcases List.mem_append.1 h with h | h
      · exact key b hb h
      · split at h
        · simp at h
        · rcases List.mem_cons.1 h with rfl | h
          · exact ⟨by omega, by omega, by decide⟩
          · exact key c hc h
    · obtain rfl := List.mem_singleton.1 h
      exact ⟨by omega, by omega, by decide⟩
theorem text_form (u : Url) : textU u = u.sch ++ 58 :: 47 :: 47 :: ((uiT u.us u.pa ++ (u.ho ++ ptT u.po)) ++ (u.path ++ (sufT 63 u.q u.qu ++ sufT 35 u.f u.fr))) := by
  unfold textU preT midT uiT ptT
  simp
theorem suf_vis {m : Int} {q : Bool} {l : List Int} (hm : 33 ≤ m ∧ m ≤ 126) (h : Vis l) : Vis (sufT m q l) := fun c hc => by
  unfold sufT at hc
  split at hc
  · rcases List.mem_cons.1 hc with rfl | hc
    · exact hm
    · exact h c hc
  · simp at hc
theorem po_or {a d : Int} (h : a = -1 ∨ (0 ≤ a ∧ a ≤ 65535 ∧ a ≠ d)) : a = -1 ∨ 0 ≤ a := h.imp id And.left
theorem au_mem {u : Url} (h : UrlN u) {c : Int} (hc : c ∈ uiT u.us u.pa ++ (u.ho ++ ptT u.po)) : 33 ≤ c ∧ c ≤ 126 ∧ c ∉ ([47, 92, 63, 35] : List Int) := by
  rcases List.mem_append.1 hc with h1 | h1
  · exact ui_mem h.us h.pa h1
  · have := auth_mem h.ho (po_or h.po) h1
    exact ⟨this.1, this.2.1, fun hm => this.2.2 (by simp only [List.mem_cons, List.not_mem_nil, or_false] at hm ⊢; omega)⟩
theorem text_vis {u : Url} (h : UrlN u) : Vis (textU u) := by
  obtain ⟨q, qs, hp, hs⟩ := h.path
  rw [text_form]
  refine Vis.app (scheme_at h.sch []).2.2.1 ?_
  have : Vis ((uiT u.us u.pa ++ (u.ho ++ ptT u.po)) ++ (u.path ++ (sufT 63 u.q u.qu ++ sufT 35 u.f u.fr))) := by
    refine Vis.app (fun c hc => ?_) (Vis.app ?_ (Vis.app ?_ ?_))
    · have := au_mem h hc; exact ⟨this.1, this.2.1⟩
    · rw [hp]; exact slash_vis hs
    · exact suf_vis (by omega) (h.qu.vis (by omega))
    · exact suf_vis (by omega) (h.fr.vis (by omega))
  intro c hc
  rcases List.mem_cons.1 hc with rfl | hc
  · omega
  rcases List.mem_cons.1 hc with rfl | hc
  · omega
  rcases List.mem_cons.1 hc with rfl | hc
  · omega
  exact this c hc
theorem ho_ne {u : Url} (h : UrlN u) : u.ho ≠ [] := (host_fixed h.ho).1
theorem url_back {u : Url} (h : UrlN u) (hl : (textU u).length ≤ 65536) : urlL (textU u) = some u := by
  obtain ⟨q, qs, hp, hs⟩ := h.path
  have hv := text_vis h
  unfold urlL
  rw [if_neg (by omega), utf8_vis hv, if_pos rfl, clean_vis hv, text_form, url1_at h.sch (by have := ho_ne h; simp [this]) (fun c hc => (au_mem h hc).2.2) (.inr ⟨47, q ++ slashL qs ++ (sufT 63 u.q u.qu ++ sufT 35 u.f u.fr), by rw [hp, slashL_cons]; simp, by decide⟩)]
  obtain ⟨e1, e2, e3⟩ := ui_at h.us h.pa (r := u.ho ++ ptT u.po) fun hm => (auth_mem h.ho (po_or h.po) hm).2.2 (by decide)
  rw [e1, authW_at h.ho h.po]
  simp only
  have k35 : (35 : Int) ∉ u.path := by rw [hp]; exact slash_not hs (by decide)
  have k63 : (63 : Int) ∉ u.path := by rw [hp]; exact slash_not hs (by decide)
  rw [url3_back k35 k63 (Fre.not h.qu rfl (by decide)) (by rw [hp, pathL_segs hs]) h.q (encL_id h.qu) h.f (encL_id h.fr), e2, e3]
/-! how long it is -/
theorem userL_len (l : List Int) : (userL l []).length ≤ 3 * l.length := by
  unfold userL
  split
  · refine Nat.le_trans (encL_len _ _) ?_; simp; omega
  · simp
theorem passL_len (l : List Int) : (passL l []).length ≤ 3 * l.length := by
  unfold passL
  split
  · split
    · refine Nat.le_trans (encL_len _ _) ?_; simp; omega
    · simp
  · simp
theorem urlL_len2 {l : List Int} {u : Url} (h : urlL l = some u) : u.us.length ≤ 3 * l.length ∧ u.pa.length ≤ 3 * l.length ∧ u.qu.length ≤ 3 * l.length ∧ u.fr.length ≤ 3 * l.length := by
  unfold urlL at h
  split at h
  · cases h
  split at h
  rotate_left
  · cases h
  have hcl := cleanL_len l
  generalize cleanL l = s at hcl h
  unfold url1 at h
  split at h
  rotate_left
  · cases h
  have hsl := skipL_len (s.drop (schemeN s + 1))
  rw [List.length_drop] at hsl
  generalize lowerL (s.take (schemeN s)) = sch at h
  generalize skipL (s.drop (schemeN s + 1)) = s1 at hsl h
  unfold url2 at h
  split at h
  · cases h
  · obtain rfl := Option.some.inj h
    have hz : ∀ (k : Nat) (b : Prop) [Decidable b] (s : Int) (x : List Int), x.length ≤ k → (if b then encL s x else []).length ≤ 3 * k := fun k b _ s x hx => by
      split
      · exact Nat.le_trans (encL_len _ _) (by omega)
      · simp
    refine ⟨Nat.le_trans (userL_len _) (by simp; omega), Nat.le_trans (passL_len _) (by simp; omega), hz _ _ _ _ ?_, hz _ _ _ _ ?_⟩
    · simp [cutF]; omega
    · simp; omega
theorem url_sum {l : List Int} {u : Url} (hb : Byt l) (h : urlL l = some u) (hl : l.length ≤ 3000) : urlSum u ≤ 50000 ∧ (textU u).length ≤ 65536 ∧ -1 ≤ u.po ∧ u.po ≤ 65535 := by
  have hn := urlL_n hb h
  have h1 := urlL_len h
  have h2 := urlL_len2 h
  have h3 := (scheme_at hn.sch []).2.2.2.1
  have hp : -1 ≤ u.po ∧ u.po ≤ 65535 := by rcases hn.po with h | h <;> omega
  have h4 := decI_len hp
  have hs : urlSum u ≤ 50000 := by unfold urlSum; omega
  refine ⟨hs, ?_, hp⟩
  rw [text_form]
  have e1 : (uiT u.us u.pa).length ≤ u.us.length + u.pa.length + 2 := by unfold uiT; split <;> (try split) <;> simp <;> omega
  have e2 : (ptT u.po).length ≤ 11 := by unfold ptT; split <;> simp; omega
  have e3 : ∀ m q l, (sufT m q l).length ≤ l.length + 1 := fun m q l => by unfold sufT; split <;> simp
  have e4 := e3 63 u.q u.qu
  have e5 := e3 35 u.f u.fr
  unfold urlSum at hs
  simp
  omega
end GoD
