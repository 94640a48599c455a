import Derived.Test.YtknkokkgefcdbaaDoorA
import Derived.Test.YtknkokkgefcdbaaDoorPAx15
import Derived.Test.YtknkokkgefcdbaaDoorPAx16
import Derived.Test.YtknkokkgefcdbaaDoorPAx7
import Derived.Test.YtknkokkgefcdbaaDoorX
namespace Go.Proofs.YtknkokkgefcdbaaDoor.PA
open Go.RowKit Go.Proofs.YtknkokkgefcdbaaDoorW.PrintWords Go.Proofs.YtknkokkgefcdbaaDoorW.PrintLast Go.Proofs.YtknkokkgefcdbaaDoorW.PrintMore Go.Proofs.YtknkokkgefcdbaaDoorPL
open Go.Proofs.YtknkokkgefcdbaaDoorWS (lowB lowerL hexv decodeL splitL partsL digitsB hexP accV baseV restV partV numL numberL numericB decD textL forbB hostL addrL domainB)
set_option linter.unusedVariables false
set_option linter.unusedSimpArgs false
/-! What is split -/
theorem splitL_none {sep : Int} : ∀ {xs : List Int}, sep ∉ xs → splitL sep xs = [xs]
  | [], _ => rfl
  | c :: t, h => by
    rw [splitL, if_neg (fun e => h (by simp [e])), splitL_none (fun e => h (by simp [e]))]
theorem splitL_at {sep : Int} : ∀ {pre post : List Int}, sep ∉ pre → splitL sep (pre ++ sep :: post) = pre :: splitL sep post
  | [], post, _ => by rw [List.nil_append, splitL, if_pos rfl]
  | c :: t, post, h => by
    rw [List.cons_append, splitL, if_neg (fun e => h (by simp [e])), splitL_at (fun e => h (by simp [e]))]
theorem splitL_length (sep : Int) : ∀ (xs : List Int), (splitL sep xs).length = xs.count sep + 1
  | [] => rfl
  | c :: t => by
    have ih := splitL_length sep t
    rw [splitL]
    by_cases h : c = sep
    · rw [if_pos h, List.length_cons, ih, h, List.count_cons_self]
    · rw [if_neg h, List.count_cons_of_ne h]
      cases e : splitL sep t with
      | nil => rw [e] at ih; simp at ih
      | cons p ps => rw [e] at ih; simpa using ih
theorem splitL_ne (sep : Int) (xs : List Int) : splitL sep xs ≠ [] := fun e => by
  have := splitL_length sep xs
  rw [e] at this; simp at this
theorem splitL_bytes {sep : Int} : ∀ {xs : List Int}, Bytes xs → ∀ p ∈ splitL sep xs, Bytes p
  | [], _, p, hp => by rw [splitL] at hp; obtain rfl := List.mem_singleton.1 hp; exact Bytes.nil
  | c :: t, h, p, hp => by
    have ih := splitL_bytes (sep := sep) h.tail
    rw [splitL] at hp
    by_cases e : c = sep
    · rw [if_pos e] at hp
      rcases List.mem_cons.1 hp with rfl | hp
      · exact Bytes.nil
      · exact ih p hp
    · rw [if_neg e] at hp
      cases e2 : splitL sep t with
      | nil => rw [e2] at hp; obtain rfl := List.mem_singleton.1 hp; exact Bytes.cons h.head Bytes.nil
      | cons q qs =>
        rw [e2] at hp ih
        rcases List.mem_cons.1 hp with rfl | hp
        · exact Bytes.cons h.head (ih q (by simp))
        · exact ih p (List.mem_cons_of_mem _ hp)
theorem splitL_short {sep : Int} : ∀ {xs : List Int}, ∀ p ∈ splitL sep xs, p.length ≤ xs.length
  | [], p, hp => by rw [splitL] at hp; obtain rfl := List.mem_singleton.1 hp; simp
  | c :: t, p, hp => by
    have ih := @splitL_short sep t
    rw [splitL] at hp
    by_cases e : c = sep
    · rw [if_pos e] at hp
      rcases List.mem_cons.1 hp with rfl | hp
      · simp
      · exact Nat.le_trans (ih p hp) (by simp)
    · rw [if_neg e] at hp
      cases e2 : splitL sep t with
      | nil => rw [e2] at hp; obtain rfl := List.mem_singleton.1 hp; simp
      | cons q qs =>
        rw [e2] at hp ih
        rcases List.mem_cons.1 hp with rfl | hp
        · have := ih q (by simp)
          simp only [List.length_cons]; omega
        · exact Nat.le_trans (ih p (List.mem_cons_of_mem _ hp)) (by simp)
/-! The first of a byte -/
theorem index_none : ∀ (l : List UInt8) (c : UInt8), c ∉ l → Lib.indexByte l c = -1
  | [], _, _ => rfl
  | b :: l, c, h => by
    rw [Lib.indexByte, if_neg (by simp; exact fun e => h (by simp [e])), index_none l c (fun e => h (by simp [e]))]
    rfl
theorem index_at : ∀ (pre post : List UInt8) (c : UInt8), c ∉ pre → Lib.indexByte (pre ++ c :: post) c = (pre.length : Int)
  | [], post, c, _ => by rw [List.nil_append, Lib.indexByte, if_pos (by simp)]; rfl
  | b :: l, post, c, h => by
    rw [List.cons_append, Lib.indexByte, if_neg (by simp; exact fun e => h (by simp [e])), index_at l post c (fun e => h (by simp [e])), if_neg (by simp <;> omega)]
    simp
theorem first_cut {α : Type} [DecidableEq α] (c : α) : ∀ (xs : List α), c ∈ xs → ∃ pre post, xs = pre ++ c :: post ∧ c ∉ pre
  | [], h => by simp at h
  | x :: t, h => by
    by_cases e : c = x
    · exact ⟨[], t, by rw [e]; rfl, by simp⟩
    · obtain ⟨pre, post, h1, h2⟩ := first_cut c t ((List.mem_cons.1 h).resolve_left e)
      exact ⟨x :: pre, post, by rw [h1]; rfl, by simp [e, h2]⟩
theorem u8_inj {x y : Int} (hx : 0 ≤ x ∧ x < 256) (hy : 0 ≤ y ∧ y < 256) (h : UInt8.ofNat x.toNat = UInt8.ofNat y.toNat) : x = y := by
  rw [← u8_toNat hx, ← u8_toNat hy, h]
theorem mem_u8 {c : Int} {xs : List Int} (hx : Bytes xs) (hc : 0 ≤ c ∧ c < 256) (h : c ∉ xs) : UInt8.ofNat c.toNat ∉ xs.map fun x => UInt8.ofNat x.toNat := fun hm => by
  obtain ⟨y, hy, e⟩ := List.mem_map.1 hm
  rw [u8_inj (hx y hy) hc e] at hy
  exact h hy
theorem indexByte_none {c : Int} {xs : List Int} (hx : Bytes xs) (hc : 0 ≤ c ∧ c < 256) (h : c ∉ xs) : stringslite_IndexByte.f (st xs) c = some (-1) := by
  unfold stringslite_IndexByte.f
  rw [strOfNums_data, show c.toNat.toUInt8 = UInt8.ofNat c.toNat from rfl, index_none _ _ (mem_u8 hx hc h)]
theorem indexByte_at {c : Int} {pre post : List Int} (hx : Bytes (pre ++ c :: post)) (h : c ∉ pre) : stringslite_IndexByte.f (st (pre ++ c :: post)) c = some (pre.length : Int) := by
  unfold stringslite_IndexByte.f
  rw [strOfNums_data, show c.toNat.toUInt8 = UInt8.ofNat c.toNat from rfl, List.map_append, List.map_cons, index_at _ _ _ (mem_u8 (fun x m => hx x (List.mem_append_left _ m)) (hx c (by simp)) h)]
  simp
/-! strings.Index with one byte -/
theorem bt_one (c : Int) (h : 0 ≤ c ∧ c < 256) : bt (st [c]) 0 = c := by
  rw [bt_st (Bytes.cons h Bytes.nil)]; rfl
theorem Index_none {c : Int} {xs : List Int} (hx : Bytes xs) (hc : 0 ≤ c ∧ c < 256) (h : c ∉ xs) : Ev (fun k => strings_Index.f k (st xs) (st [c])) (-1) := by
  unfold strings_Index.f stringslite_Index.f
  refine Ev.bind (a := -1) ?_ (Ev.now _)
  rw [st_size]
  refine ev_neg (by simp) ?_
  rw [show ((st [c]).toList == (st xs).toList) = false by
    rw [beq_eq_false_iff_ne, ne_eq, toList_eq (Bytes.cons hc Bytes.nil) hx]
    rintro rfl; simp at h]
  refine Ev.step (fun k => by rw [stringslite_Index.j0]) ?_
  refine ev_neg (by simp) (ev_pos (by simp) (ev_pos (by rw [st_size]; simp) ?_))
  rw [bt_one c hc]
  exact ev_const (x := -1) (indexByte_none hx hc h) (Ev.now _)
theorem Index_at {c : Int} {pre post : List Int} (hx : Bytes (pre ++ c :: post)) (h : c ∉ pre) : Ev (fun k => strings_Index.f k (st (pre ++ c :: post)) (st [c])) (pre.length : Int) := by
  have hc : 0 ≤ c ∧ c < 256 := hx c (by simp)
  unfold strings_Index.f stringslite_Index.f
  refine Ev.bind (a := (pre.length : Int)) ?_ (Ev.now _)
  rw [st_size]
  refine ev_neg (by simp) ?_
  by_cases e : [c] = pre ++ c :: post
  · rw [show ((st [c]).toList == (st (pre ++ c :: post)).toList) = true by rw [beq_iff_eq, toList_eq (Bytes.cons hc Bytes.nil) hx]; exact e]
    refine Ev.step (fun k => by rw [stringslite_Index.j0]) ?_
    refine ev_pos rfl ?_
    rw [show pre = [] from List.eq_nil_of_length_eq_zero (by have := congrArg List.length e; simp at this; omega)]
    exact Ev.now _
  · rw [show ((st [c]).toList == (st (pre ++ c :: post)).toList) = false by rw [beq_eq_false_iff_ne, ne_eq, toList_eq (Bytes.cons hc Bytes.nil) hx]; exact e]
    refine Ev.step (fun k => by rw [stringslite_Index.j0]) ?_
    refine ev_neg (by simp) (ev_pos (by simp) (ev_pos (by rw [st_size]; simp) ?_))
    rw [bt_one c hc]
    exact ev_const (x := (pre.length : Int)) (indexByte_at hx h) (Ev.now _)
theorem count_u8 {c : Int} (hc : 0 ≤ c ∧ c < 256) : ∀ {xs : List Int}, Bytes xs → (xs.map fun x => UInt8.ofNat x.toNat).count (UInt8.ofNat c.toNat) = xs.count c
  | [], _ => rfl
  | x :: t, h => by
    have ih := count_u8 hc h.tail
    rw [List.map_cons]
    by_cases e : x = c
    · rw [e, List.count_cons_self, List.count_cons_self, ih]
    · rw [List.count_cons_of_ne (fun x => e (u8_inj h.head hc x)), List.count_cons_of_ne e, ih]
theorem Count_one {c : Int} {xs : List Int} (hx : Bytes xs) (hc : 0 ≤ c ∧ c < 256) : strings_Count.f (st xs) (st [c]) = some ((xs.count c : Nat) : Int) := by
  unfold strings_Count.f
  rw [if_pos (by rw [st_size]; rfl), strOfNums_data, Lib.countByte, show (st [c]).data.getD 0 0 = UInt8.ofNat c.toNat from rfl, count_u8 hc hx]
theorem set_take_one {α : Type} {l : List α} {i : Nat} (h : i < l.length) (x : α) : (l.set i x).take (i + 1) = l.take i ++ [x] := by
  rw [List.take_set, List.take_succ_eq_append_getElem h, List.set_append_right _ _ (by simp; omega)]
  simp [Nat.min_eq_left (Nat.le_of_lt h)]
theorem st_extr (xs : List Int) (n : Nat) : (st xs).extract n (st xs).size = st (xs.drop n) := by
  rw [st_ext, st_size, List.take_length]
theorem st_extl (xs : List Int) (n : Nat) : (st xs).extract 0 n = st (xs.take n) := by
  rw [st_ext, List.drop_zero]
theorem genSplit_l0 {c : Int} (hc : 0 ≤ c ∧ c < 256) (N : Nat) (hN : N < 140737488355328) : ∀ (m : Nat) (ys : List Int) (arr : List ByteArray) (i : Nat), Bytes ys → ys.length < 140737488355328 → arr.length = N + 1 → ys.count c = m → i + m = N →
    Ev (fun k => strings_genSplit.l0 k (st ys) (st [c]) 0 (N : Int) arr (i : Int)) (arr.take i ++ (splitL c ys).map st) := by
  intro m
  induction m with
  | zero =>
    intro ys arr i hy hl ha hm hi
    have hnot : c ∉ ys := fun h => by have := List.count_pos_iff.2 h; omega
    refine Ev.step (fun k => by rw [strings_genSplit.l0]) ?_
    refine ev_neg (by omega) ?_
    refine ev_pos (by omega) (ev_pos (by omega) (ev_pos (by rw [w64 (by omega) (by omega)]; omega) (ev_pos (by rw [w64 (by omega) (by omega)]; omega) ?_)))
    rw [w64 (by omega) (by omega), show ((i : Int) + 1).toNat = i + 1 by omega, show (i : Int).toNat = i by omega, set_take_one (by omega), splitL_none hnot]
    exact Ev.now _
  | succ m ih =>
    intro ys arr i hy hl ha hm hi
    obtain ⟨pre, post, rfl, hp⟩ := first_cut c ys (List.count_pos_iff.1 (by omega))
    have hlen : (pre ++ c :: post).length = pre.length + post.length + 1 := by simp; omega
    have hcnt : post.count c = m := by
      rw [List.count_append, List.count_cons_self, List.count_eq_zero_of_not_mem hp] at hm; omega
    refine Ev.step (fun k => by rw [strings_genSplit.l0]) ?_
    refine ev_pos (by omega) ?_
    refine Ev.bind (Index_at hy hp) ?_
    refine ev_neg (by omega) ?_
    rw [Int.add_zero, w64 (x := (pre.length : Int)) (by omega) (by omega), st_size [c], show ((([c] : List Int).length : Nat) : Int) = 1 from rfl, w64 (x := (pre.length : Int) + 1) (by omega) (by omega), w64 (x := (i : Int) + 1) (by omega) (by omega)]
    refine ev_pos (by omega) (ev_pos (by rw [st_size]; omega) (ev_pos (by omega) (ev_pos (by omega) (ev_pos (by omega) (ev_pos (by rw [st_size]; omega) ?_)))))
    rw [show ((pre.length : Int) + 1).toNat = pre.length + 1 by omega, show (pre.length : Int).toNat = pre.length by omega, show (i : Int).toNat = i by omega, st_extr, st_extl]
    have e1 : (pre ++ c :: post).drop (pre.length + 1) = post := by
      rw [show pre ++ c :: post = (pre ++ [c]) ++ post by simp, List.drop_left' (by simp)]
    have e2 : (pre ++ c :: post).take pre.length = pre := List.take_left' rfl
    have hpost : Bytes post := fun x hx => hy x (by simp [hx])
    rw [e1, e2]
    have := ih post (arr.set i (st pre)) (i + 1) hpost (by omega) (by rw [List.length_set]; exact ha) hcnt (by omega)
    rw [set_take_one (by omega)] at this
    rw [splitL_at hp, List.map_cons, show arr.take i ++ st pre :: (splitL c post).map st = (arr.take i ++ [st pre]) ++ (splitL c post).map st by simp]
    exact this
theorem mn_eq {a b : Int} (h : a ≤ b) : mn a b = a := by unfold mn; omega
theorem Split_f {c : Int} {xs : List Int} (hx : Bytes xs) (hc : 0 ≤ c ∧ c < 256) (hl : xs.length < 1048576) : Ev (fun k => strings_Split.f k (st xs) (st [c])) ((splitL c xs).map st) := by
  unfold strings_Split.f strings_genSplit.f
  refine Ev.bind (a := (splitL c xs).map st) ?_ (Ev.now _)
  have hcl : xs.count c ≤ xs.length := List.count_le_length
  refine ev_neg (by decide) (ev_neg (by rw [toList_nil]; simp) (ev_pos (by decide) ?_))
  refine ev_const (Count_one hx hc) ?_
  refine Ev.step (fun k => by rw [strings_genSplit.j0]) ?_
  rw [st_size, w64 (x := ((xs.count c : Nat) : Int) + 1) (by omega) (by omega), w64 (x := (xs.length : Int) + 1) (by omega) (by omega), mn_eq (by omega), w64 (by omega) (by omega)]
  refine ev_pos (by omega) (ev_pos (by omega) ?_)
  have := genSplit_l0 hc (xs.count c) (by omega) (xs.count c) xs (List.replicate (((xs.count c : Nat) : Int) + 1).toNat (⟨#[]⟩ : ByteArray)) 0 hx (by omega) (by rw [List.length_replicate]; omega) rfl (by omega)
  rw [show ((xs.count c : Nat) : Int) + 1 - 1 = ((xs.count c : Nat) : Int) by omega]
  exact this
theorem aSplit_f {c : Int} {xs : List Int} (hx : Bytes xs) (hc : 0 ≤ c ∧ c < 256) (hl : xs.length < 1048576) : Ev (fun k => ascii_Split.f k (st xs) c) ((splitL c xs).map st) := by
  unfold ascii_Split.f
  exact Ev.bind (Split_f hx hc hl) (Ev.now _)
/-! parapetref1.Split -/
theorem ext_mid {xs P cur suf : List Int} (e : xs = (P ++ cur) ++ suf) : (st xs).extract P.length (P ++ cur).length = st cur := by
  rw [st_ext, e, List.take_left' rfl, List.drop_left' rfl]
theorem rSplit_l0 {c : Int} {xs : List Int} (hx : Bytes xs) (hl : xs.length < 8796093022208) : ∀ (suf P cur : List Int) (acc : List ByteArray), xs = (P ++ cur) ++ suf → c ∉ cur → acc.length ≤ (P ++ cur).length →
    Ev (fun k => parapetref1_Split.l0 k (st xs) c acc (P.length : Int) ((P ++ cur).length : Int)) (acc ++ (splitL c (cur ++ suf)).map st)
  | [], P, cur, acc, e, hn, ha => by
    have e1 := mid_end e
    have e2 : P.length ≤ (P ++ cur).length := by simp
    have ee : (st xs).extract P.length (st xs).size = st cur := by rw [st_extr, e, List.append_nil, List.drop_left' rfl]
    refine Ev.step (fun k => by rw [parapetref1_Split.l0]) ?_
    refine ev_neg (by rw [st_size]; omega) (ev_pos (by omega) (ev_pos (by rw [st_size]; omega) (ev_pos (by omega) ?_)))
    rw [show (P.length : Int).toNat = P.length by omega, ee, List.append_nil, splitL_none hn]
    exact Ev.now _
  | x :: suf, P, cur, acc, e, hn, ha => by
    obtain ⟨e1, e2, e3⟩ := mid e
    have e4 : P.length ≤ (P ++ cur).length := by simp
    refine Ev.step (fun k => by rw [parapetref1_Split.l0]) ?_
    refine ev_pos (by rw [st_size]; omega) (ev_pos (by omega) ?_)
    rw [mid_bt hx e, w64 (x := ((P ++ cur).length : Int) + 1) (by omega) (by omega)]
    by_cases h : x = c
    · subst h
      refine ev_pos rfl (ev_pos (by omega) (ev_pos (by omega) (ev_pos (by rw [st_size]; omega) (ev_pos (by omega) ?_))))
      rw [show (P.length : Int).toNat = P.length by omega, show ((P ++ cur).length : Int).toNat = (P ++ cur).length by omega, ext_mid e, splitL_at hn, List.map_cons, show acc ++ st cur :: (splitL x suf).map st = (acc ++ [st cur]) ++ (splitL x ([] ++ suf)).map st by simp, e2]
      have := rSplit_l0 (c := x) hx hl suf (P ++ cur ++ [x]) [] (acc ++ [st cur]) (by rw [List.append_nil]; exact e3) (by simp) (by simp only [List.length_append, List.length_cons, List.length_nil] at ha ⊢; omega)
      rw [List.append_nil] at this
      exact this
    · refine ev_neg h ?_
      rw [e2, show cur ++ x :: suf = (cur ++ [x]) ++ suf by simp, List.append_assoc P cur [x]]
      exact rSplit_l0 hx hl suf P (cur ++ [x]) acc (by rw [← List.append_assoc P cur [x]]; exact e3) (by simp [hn, Ne.symm h]) (by simp only [List.length_append, List.length_cons, List.length_nil] at ha ⊢; omega)
theorem rSplit_f {c : Int} {xs : List Int} (hx : Bytes xs) (hl : xs.length < 8796093022208) : Ev (fun k => parapetref1_Split.f k (st xs) c) ((splitL c xs).map st) := by
  unfold parapetref1_Split.f
  exact rSplit_l0 hx hl xs [] [] [] rfl (by simp) (by simp)
/-! parts -/
theorem last_get {l : List (List Int)} {q : List Int} (h : l.getLast? = some q) : l.getD (l.length - 1) [] = q := by
  rw [List.getLast?_eq_getElem?] at h
  rw [List.getD_eq_getElem?_getD, h]; rfl
theorem parts_f {xs : List Int} (hx : Bytes xs) (hl : xs.length < 1048576) : Ev (fun k => host_parts.f k (st xs)) ((partsL xs).map st) := by
  unfold host_parts.f partsL
  refine Ev.bind (aSplit_f hx (by decide) hl) ?_
  have h0 := splitL_length 46 xs
  have h1 : xs.count 46 ≤ xs.length := List.count_le_length
  have hne := splitL_ne 46 xs
  generalize splitL 46 xs = l at h0 hne ⊢
  rw [List.length_map, w64 (by omega) (by omega)]
  by_cases h2 : 1 < l.length
  · refine ev_pos (by omega) (ev_pos (by omega) (ev_pos (by omega) ?_))
    rw [st_rdOf, show ((l.length : Int) - 1).toNat = l.length - 1 by omega, last_get (List.getLast?_eq_some_getLast hne)]
    by_cases h3 : l.getLast hne = []
    · rw [show (if 1 < l.length ∧ l.getLast? = some [] then l.dropLast else l) = l.dropLast from if_pos ⟨h2, by rw [List.getLast?_eq_some_getLast hne, h3]⟩]
      refine ev_pos (toList_nil.2 h3) (ev_pos (by omega) ?_)
      rw [List.dropLast_eq_take, List.map_take]
      exact Ev.now _
    · rw [show (if 1 < l.length ∧ l.getLast? = some [] then l.dropLast else l) = l from if_neg (fun x => h3 (by have := x.2; rw [List.getLast?_eq_some_getLast hne] at this; exact Option.some.inj this))]
      exact ev_neg (fun x => h3 (toList_nil.1 x)) (Ev.now _)
  · rw [show (if 1 < l.length ∧ l.getLast? = some [] then l.dropLast else l) = l from if_neg (fun x => h2 x.1)]
    exact ev_neg (by omega) (Ev.now _)
theorem rparts_f {xs : List Int} (hx : Bytes xs) (hl : xs.length < 1048576) : Ev (fun k => parapetref9_parts.f k (st xs)) ((partsL xs).map st) := by
  unfold parapetref9_parts.f partsL
  refine Ev.bind (rSplit_f hx (by omega)) ?_
  have h0 := splitL_length 46 xs
  have h1 : xs.count 46 ≤ xs.length := List.count_le_length
  have hne := splitL_ne 46 xs
  generalize splitL 46 xs = l at h0 hne ⊢
  rw [List.length_map, w64 (by omega) (by omega)]
  by_cases h2 : 1 < l.length
  · refine ev_pos (by omega) (ev_pos (by omega) (ev_pos (by omega) ?_))
    rw [st_rdOf, show ((l.length : Int) - 1).toNat = l.length - 1 by omega, last_get (List.getLast?_eq_some_getLast hne)]
    by_cases h3 : l.getLast hne = []
    · rw [show (if 1 < l.length ∧ l.getLast? = some [] then l.dropLast else l) = l.dropLast from if_pos ⟨h2, by rw [List.getLast?_eq_some_getLast hne, h3]⟩]
      refine ev_pos (toList_nil.2 h3) (ev_pos (by omega) ?_)
      rw [List.dropLast_eq_take, List.map_take]
      exact Ev.now _
    · rw [show (if 1 < l.length ∧ l.getLast? = some [] then l.dropLast else l) = l from if_neg (fun x => h3 (by have := x.2; rw [List.getLast?_eq_some_getLast hne] at this; exact Option.some.inj this))]
      exact ev_neg (fun x => h3 (toList_nil.1 x)) (Ev.now _)
  · rw [show (if 1 < l.length ∧ l.getLast? = some [] then l.dropLast else l) = l from if_neg (fun x => h2 x.1)]
    exact ev_neg (by omega) (Ev.now _)
theorem partsL_mem {xs p : List Int} (h : p ∈ partsL xs) : p ∈ splitL 46 xs := by
  unfold partsL at h
  split at h
  · exact (List.dropLast_sublist _).subset h
  · exact h
theorem partsL_ne (xs : List Int) : partsL xs ≠ [] := by
  unfold partsL
  split
  · rename_i h
    intro e
    have := congrArg List.length e
    rw [List.length_dropLast] at this
    simp only [List.length_nil] at this
    omega
  · exact splitL_ne 46 xs
theorem partsL_length (xs : List Int) : (partsL xs).length ≤ xs.length + 1 := by
  have h0 := splitL_length 46 xs
  have h1 : xs.count 46 ≤ xs.length := List.count_le_length
  unfold partsL
  split
  · rw [List.length_dropLast]; omega
  · omega
end Go.Proofs.YtknkokkgefcdbaaDoor.PA
