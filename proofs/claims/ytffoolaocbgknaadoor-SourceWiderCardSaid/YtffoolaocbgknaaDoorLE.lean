import Derived.Test.YtffoolaocbgknaaDoorLD
/-! Chapter 15's laws over lists, in any order. -/
namespace GoD
open Go Go.Proofs
set_option linter.unusedVariables false
set_option linter.unusedSimpArgs false
set_option maxHeartbeats 2000000
set_option maxRecDepth 100000
theorem strsAt_one {h : Heap} {b o n i : Nat} {y : List (List Int)} (hs : strsAt h b o n = some y) (hi : i < y.length) : strsAt h b (o + i) 1 = some [y[i]] := by
  obtain ⟨st, x, c, hg, hld, hn, hc⟩ := strsAt_eq hs
  unfold strsAt
  rw [hg]
  simp only [hc i hi, strsV, Option.map_some]
theorem listB_rev (y : List (List Int)) (a d : List Int) (p : Int) (e os oh : List Int) (op rd : Int) : listB y.reverse a d p e os oh op rd = listB y a d p e os oh op rd := by
  unfold listB
  rw [List.any_reverse]
theorem listB_snoc (y : List (List Int)) (w : List Int) (a d : List Int) (p : Int) (e os oh : List Int) (op rd : Int) : listB (y ++ [w]) a d p e os oh op rd = (listB y a d p e os oh op rd || matchB (srcL w) a d p e os oh op rd) := by
  unfold listB
  rw [List.any_append]
  simp
theorem take_snoc {y : List (List Int)} {i : Nat} (h : i < y.length) : y.take (i + 1) = y.take i ++ [y[i]] := List.take_succ_eq_append_getElem h
def pLaw7C : Ct := fun args h => match args with
  | [.sl b o n 1, .s s, .s d, .i .i64 rd] => (match strsAt h b o n with | some y => if (∀ p ∈ y, p.length ≤ 281474976710656) then some (.b true, h) else none | none => none)
  | _ => none
end GoD
