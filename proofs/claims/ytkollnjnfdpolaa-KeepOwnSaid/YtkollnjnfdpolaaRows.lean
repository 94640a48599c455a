/-
  No cell of these rows narrows 'for every input' (looked for: loops, veiled, ifaces, maps, wideKeys, modest, calm, conditions, laid).
  DERIVED. THE GIVEN ROWS OF THIS SEAT. 3 by the template 'for every input the law returns true; each argument reads behind the call as it read before'; 0 by the template 'total and deterministic' (their statements: YtkollnjnfdpolaaTotals.lean).
  GIVEN WITH THE SEED: the statements are not yours to turn. If you find one false, say at which input.
  Laid BY PROGRAM, IN A SANDBOX (cutbox-rows.mjs): the forced cells as the released guide's own fill.sh prints them over the translation 7032db2735c09391… (all of the seat's roots in one cut). By AI agents, Wed Nov 11 2026. No macro, syntax, notation, axiom, sorry.
-/
import Derived.Test.YtkollnjnfdpolaaChecked
import GoSem.Claim
import GoSem.ClaimJoined
import GoSem.ClaimMapViews
import Derived.JoinedTies
import Derived.KernelRfl
namespace Go.Proofs.Ytkollnjnfdpolaa
/- THE CELL 'sum', in the pinned program and in every row, IS THE sha256 OF THE DUMP (.gsa) THAT YtkollnjnfdpolaaProg.lean LOADS. Nothing in Lean hashes anything: it is a label: what it is worth is what the hold of that sum in a sandbox is worth. -/
noncomputable def Try.pinned : Pinned := { name := "ytkollnjnfdpolaa", sum := "7032db2735c09391d0e297886394cd9b5380e8e8155053c8c78fd028c1425c23", checked := Try.checked }
namespace Rows
def none {H : Type} : Left H := { results := [], args := [] }

/-- 'parapetlaw6.KeepNothing': WHATEVER THE INPUT: true; the input reads as it did. -/
def keepNothingSpec : ChangeSpec := { name := "keepNothing", fn := fun _ => fun
  | [d1, d2] => { results := [.lit (.bool true)], args := [d1, d2] }
  | _ => none }
def keepNothingRow : OpenClaim := { program := "ytkollnjnfdpolaa", sum := "7032db2735c09391d0e297886394cd9b5380e8e8155053c8c78fd028c1425c23", func := "parapet/parapetlaw6.KeepNothing", spec := "keepNothing", apart := false }
def KeepNothingSaid : Prop := keepNothingRow.holds Try.pinned (OpenSpec.ofChange keepNothingSpec)

/-- ITS FALSE NEIGHBOUR: 'it returns false'. Refute it at one input. -/
def keepNothingWrong : ChangeSpec := { name := "keepNothing", fn := fun _ => fun
  | [d1, d2] => { results := [.lit (.bool false)], args := [d1, d2] }
  | _ => none }
def KeepNothingWrongFalsely : Prop := keepNothingRow.holds Try.pinned (OpenSpec.ofChange keepNothingWrong)

/-- 'parapetlaw6.KeepOwn': WHATEVER THE INPUT: true; the input reads as it did. -/
def keepOwnSpec : ChangeSpec := { name := "keepOwn", fn := fun _ => fun
  | [d1, d2] => { results := [.lit (.bool true)], args := [d1, d2] }
  | _ => none }
def keepOwnRow : OpenClaim := { program := "ytkollnjnfdpolaa", sum := "7032db2735c09391d0e297886394cd9b5380e8e8155053c8c78fd028c1425c23", func := "parapet/parapetlaw6.KeepOwn", spec := "keepOwn", apart := false }
def KeepOwnSaid : Prop := keepOwnRow.holds Try.pinned (OpenSpec.ofChange keepOwnSpec)

/-- ITS FALSE NEIGHBOUR: 'it returns false'. Refute it at one input. -/
def keepOwnWrong : ChangeSpec := { name := "keepOwn", fn := fun _ => fun
  | [d1, d2] => { results := [.lit (.bool false)], args := [d1, d2] }
  | _ => none }
def KeepOwnWrongFalsely : Prop := keepOwnRow.holds Try.pinned (OpenSpec.ofChange keepOwnWrong)

/-- 'parapetlaw6.KeepLong': WHATEVER THE INPUT: true; the input reads as it did. -/
def keepLongSpec : ChangeSpec := { name := "keepLong", fn := fun _ => fun
  | [d1, d2, d3] => { results := [.lit (.bool true)], args := [d1, d2, d3] }
  | _ => none }
def keepLongRow : OpenClaim := { program := "ytkollnjnfdpolaa", sum := "7032db2735c09391d0e297886394cd9b5380e8e8155053c8c78fd028c1425c23", func := "parapet/parapetlaw6.KeepLong", spec := "keepLong", apart := false }
def KeepLongSaid : Prop := keepLongRow.holds Try.pinned (OpenSpec.ofChange keepLongSpec)

/-- ITS FALSE NEIGHBOUR: 'it returns false'. Refute it at one input. -/
def keepLongWrong : ChangeSpec := { name := "keepLong", fn := fun _ => fun
  | [d1, d2, d3] => { results := [.lit (.bool false)], args := [d1, d2, d3] }
  | _ => none }
def KeepLongWrongFalsely : Prop := keepLongRow.holds Try.pinned (OpenSpec.ofChange keepLongWrong)

/- THE SECOND FORM. 'bulk': how many values and letters a reading holds, each counted each time it is reached (what is shared counts as often as it is met; a slice's spare places count too). A statement '..UptoSaid' is the law's where the arguments, and the package variables that the reading takes, are together of bulk at most 1048576: NARROWER than '..Said'. Prove '..Said' where nothing that the law and all that it calls make is longer than what came in: it says more and counts as full. Else prove '..UptoSaid'. A law counts once. -/
mutual
def uptoBulk {H : Type} : DataW H → Nat
  | .lit (.string bytes) => bytes.length + 1
  | .lit _ => 1
  | .nil => 1
  | .ptr d => uptoBulk d + 1
  | .slice elems spare => uptoBulkAll elems + uptoBulkAll spare + 1
  | .agg parts => uptoBulkAll parts + 1
  | .iface _ d => uptoBulk d + 1
  | .map entries => uptoBulkEntries entries + 1
  | .held _ => 1
def uptoBulkAll {H : Type} : List (DataW H) → Nat
  | [] => 0
  | d :: r => uptoBulk d + uptoBulkAll r
def uptoBulkEntries {H : Type} : List (Lit × DataW H) → Nat
  | [] => 0
  | x :: r => uptoBulkEntry x + uptoBulkEntries r
def uptoBulkEntry {H : Type} : Lit × DataW H → Nat
  | (.string bytes, d) => bytes.length + uptoBulk d + 1
  | (_, d) => uptoBulk d + 1
 end
def uptoSmall : (H : Type) → List (DataW H) → Bool := fun _ ds => decide (uptoBulkAll ds ≤ 1048576)
def OpenSpec.upto (s : _root_.Go.ChangeSpec) : _root_.Go.OpenSpec := { _root_.Go.OpenSpec.ofChange s with cond := some uptoSmall }

/-- 'parapetlaw6.KeepNothing', WHERE WHAT IT READS IS OF BULK AT MOST 1048576: true; the input reads as it did. -/
def keepNothingUptoRow : OpenClaim := { program := "ytkollnjnfdpolaa", sum := "7032db2735c09391d0e297886394cd9b5380e8e8155053c8c78fd028c1425c23", func := "parapet/parapetlaw6.KeepNothing", spec := "keepNothing", apart := false, narrowed := true }
def KeepNothingUptoSaid : Prop := keepNothingUptoRow.holds Try.pinned (OpenSpec.upto keepNothingSpec)

/-- 'parapetlaw6.KeepOwn', WHERE WHAT IT READS IS OF BULK AT MOST 1048576: true; the input reads as it did. -/
def keepOwnUptoRow : OpenClaim := { program := "ytkollnjnfdpolaa", sum := "7032db2735c09391d0e297886394cd9b5380e8e8155053c8c78fd028c1425c23", func := "parapet/parapetlaw6.KeepOwn", spec := "keepOwn", apart := false, narrowed := true }
def KeepOwnUptoSaid : Prop := keepOwnUptoRow.holds Try.pinned (OpenSpec.upto keepOwnSpec)

/-- 'parapetlaw6.KeepLong', WHERE WHAT IT READS IS OF BULK AT MOST 1048576: true; the input reads as it did. -/
def keepLongUptoRow : OpenClaim := { program := "ytkollnjnfdpolaa", sum := "7032db2735c09391d0e297886394cd9b5380e8e8155053c8c78fd028c1425c23", func := "parapet/parapetlaw6.KeepLong", spec := "keepLong", apart := false, narrowed := true }
def KeepLongUptoSaid : Prop := keepLongUptoRow.holds Try.pinned (OpenSpec.upto keepLongSpec)

end Rows
end Go.Proofs.Ytkollnjnfdpolaa
