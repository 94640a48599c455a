import Derived.Test.YtffoolaocbgknaaDoorLB
/-! Chapter 15's laws over lists. -/
namespace GoD
open Go Go.Proofs
set_option linter.unusedVariables false
set_option linter.unusedSimpArgs false
set_option maxHeartbeats 2000000
set_option maxRecDepth 100000
def totL (m : Int) : Int → List (List Int) → Int
  | n, [] => n
  | n, p :: t => if n ≤ m then totL m (n + p.length) t else n
theorem totL_ge (m : Int) : ∀ (l : List (List Int)) (n : Int), n ≤ totL m n l
  | [], n => by simp [totL]
  | p :: t, n => by
    rw [totL]
    split
    · have := totL_ge m t (n + p.length); omega
    · omega
theorem totL_le {m : Int} : ∀ {l : List (List Int)} {n : Int}, totL m n l ≤ m → 0 ≤ n → ∀ p ∈ l, (p.length : Int) ≤ m
  | [], n, h, _ => by simp
  | p :: t, n, h, h0 => by
    rw [totL] at h
    split at h
    · have h1 := totL_ge m t (n + p.length)
      intro q hq
      rcases List.mem_cons.1 hq with rfl | hq
      · omega
      · exact totL_le h (by omega) q hq
    · omega
theorem hget_pos {h : Heap} {b st : Nat} {x : Bool} {c : List V} (hg : hget h b = ⟨st + 1, x, c⟩) : b < h.length := by
  by_cases hb : b < h.length
  · exact hb
  · unfold hget at hg
    rw [List.getD_eq_getElem?_getD, List.getElem?_eq_none (by omega)] at hg
    cases hg
def pTotalC : Ct := fun args h => match args with
  | [.sl b o n 1, .i .i64 m] => (match strsAt h b o n with | some y => if (∀ p ∈ y, p.length ≤ 281474976710656) ∧ m ≤ 1048576 ∧ 0 ≤ m then some (.i .i64 (totL m n y), h) else none | none => none)
  | _ => none
def pLaw3C : Ct := fun args h => match args with
  | [.sl b o n 1, .s s, .s d, .i .i64 rd] => (match strsAt h b o n with | some y => if (∀ p ∈ y, p.length ≤ 281474976710656) then some (.b true, h) else none | none => none)
  | _ => none
end GoD
