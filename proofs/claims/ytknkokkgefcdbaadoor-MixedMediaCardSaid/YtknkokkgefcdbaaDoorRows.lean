/-
  NARROWER THAN 'FOR EVERY INPUT', by the rows' own cells (each row's printed sentence says how): MixedPlain: laid · MixedSafe: laid · MixedClasses: laid · MixedUpgrades: laid · MixedMedia: laid.
  DERIVED. THE GIVEN ROWS OF THIS SEAT. 5 by the template 'for every input the law returns true; each argument reads behind the call as it read before'; 0 by the template 'total and deterministic' (their statements: YtknkokkgefcdbaaDoorTotals.lean).
  GIVEN WITH THE SEED: the statements are not yours to turn. If you find one false, say at which input.
  Laid BY PROGRAM, IN A SANDBOX (cutbox-rows.mjs): the forced cells as the released guide's own fill.sh prints them over the translation 2b47114851204d03… (all of the seat's roots in one cut). By AI agents, Wed Nov 11 2026. No macro, syntax, notation, axiom, sorry.
-/
import Derived.Test.YtknkokkgefcdbaaDoorChecked
import GoSem.PinnedTables
import GoSem.Claim
import GoSem.ClaimJoined
import GoSem.ClaimMapViews
import Derived.JoinedTies
import Derived.KernelRfl
namespace Go.Proofs.YtknkokkgefcdbaaDoor
/- THE CELL 'sum', in the pinned program and in every row, IS THE sha256 OF THE DUMP (.gsa) THAT YtknkokkgefcdbaaDoorProg.lean LOADS. Nothing in Lean hashes anything: it is a label: what it is worth is what the hold of that sum in a sandbox is worth. -/
noncomputable def Tryd.pinned : Pinned := { name := "ytknkokkgefcdbaadoor", sum := "2b47114851204d03a14f15e6bf82670b78dc48e1aeeab818b2e795bd5351446c", checked := Tryd.checked }
namespace Rows
def none {H : Type} : Left H := { results := [], args := [] }

/- WHAT THE LISTED PACKAGE-LEVEL VARIABLES READ AS WHEN THE CALL BEGINS. Each datum BY PROGRAM (the guide's laid-datum.mjs) off the statement by which the dump's own 'gosem.cut.vars' lays the variable. In a bare row this is a premise. The card (YtknkokkgefcdbaaDoorCards.lean) ties it to the program's text. -/
def laid_unicode_utf8_acceptRanges {H : Type} : DataW H := .agg [.agg [.lit (.int .u8 128), .lit (.int .u8 191)], .agg [.lit (.int .u8 160), .lit (.int .u8 191)], .agg [.lit (.int .u8 128), .lit (.int .u8 159)], .agg [.lit (.int .u8 144), .lit (.int .u8 191)], .agg [.lit (.int .u8 128), .lit (.int .u8 143)], .agg [.lit (.int .u8 0), .lit (.int .u8 0)], .agg [.lit (.int .u8 0), .lit (.int .u8 0)], .agg [.lit (.int .u8 0), .lit (.int .u8 0)], .agg [.lit (.int .u8 0), .lit (.int .u8 0)], .agg [.lit (.int .u8 0), .lit (.int .u8 0)], .agg [.lit (.int .u8 0), .lit (.int .u8 0)], .agg [.lit (.int .u8 0), .lit (.int .u8 0)], .agg [.lit (.int .u8 0), .lit (.int .u8 0)], .agg [.lit (.int .u8 0), .lit (.int .u8 0)], .agg [.lit (.int .u8 0), .lit (.int .u8 0)], .agg [.lit (.int .u8 0), .lit (.int .u8 0)]]
/-- One of Go's own tables, pinned by name: the form's constant. -/
def laid_unicode_utf8_first : DataW Unit := Go.Pinned.utf8First

/-- 'parapetlaw18.MixedPlain': WHATEVER THE INPUT: true; the input reads as it did. -/
def mixedPlainSpec : ChangeSpec := { name := "mixedPlain", fn := fun _ => fun
  | [d1, d2, d3] => { results := [.lit (.bool true)], args := [d1, d2, d3] }
  | _ => none }
def mixedPlainRow : OpenClaim := { program := "ytknkokkgefcdbaadoor", sum := "2b47114851204d03a14f15e6bf82670b78dc48e1aeeab818b2e795bd5351446c", func := "parapet/parapetlaw18.MixedPlain", spec := "mixedPlain", inPlace := ["internal/bytealg.CountString", "internal/bytealg.IndexByteString", "internal/bytealg.IndexString"], recurses := true, named := ["unicode/utf8.first", "unicode/utf8.acceptRanges", "internal/bytealg.MaxLen"], apart := false, laid := [("unicode/utf8.acceptRanges", laid_unicode_utf8_acceptRanges), ("unicode/utf8.first", laid_unicode_utf8_first)] }
def MixedPlainSaid : Prop := mixedPlainRow.holds Tryd.pinned (OpenSpec.ofChange mixedPlainSpec)

/-- ITS FALSE NEIGHBOUR: 'it returns false'. Refute it at one input. -/
def mixedPlainWrong : ChangeSpec := { name := "mixedPlain", fn := fun _ => fun
  | [d1, d2, d3] => { results := [.lit (.bool false)], args := [d1, d2, d3] }
  | _ => none }
def MixedPlainWrongFalsely : Prop := mixedPlainRow.holds Tryd.pinned (OpenSpec.ofChange mixedPlainWrong)

/-- 'parapetlaw18.MixedSafe': WHATEVER THE INPUT: true; the input reads as it did. -/
def mixedSafeSpec : ChangeSpec := { name := "mixedSafe", fn := fun _ => fun
  | [d1, d2] => { results := [.lit (.bool true)], args := [d1, d2] }
  | _ => none }
def mixedSafeRow : OpenClaim := { program := "ytknkokkgefcdbaadoor", sum := "2b47114851204d03a14f15e6bf82670b78dc48e1aeeab818b2e795bd5351446c", func := "parapet/parapetlaw18.MixedSafe", spec := "mixedSafe", inPlace := ["internal/bytealg.CountString", "internal/bytealg.IndexByteString", "internal/bytealg.IndexString"], recurses := true, named := ["unicode/utf8.first", "unicode/utf8.acceptRanges", "internal/bytealg.MaxLen"], apart := false, laid := [("unicode/utf8.acceptRanges", laid_unicode_utf8_acceptRanges), ("unicode/utf8.first", laid_unicode_utf8_first)] }
def MixedSafeSaid : Prop := mixedSafeRow.holds Tryd.pinned (OpenSpec.ofChange mixedSafeSpec)

/-- ITS FALSE NEIGHBOUR: 'it returns false'. Refute it at one input. -/
def mixedSafeWrong : ChangeSpec := { name := "mixedSafe", fn := fun _ => fun
  | [d1, d2] => { results := [.lit (.bool false)], args := [d1, d2] }
  | _ => none }
def MixedSafeWrongFalsely : Prop := mixedSafeRow.holds Tryd.pinned (OpenSpec.ofChange mixedSafeWrong)

/-- 'parapetlaw18.MixedClasses': WHATEVER THE INPUT: true; the input reads as it did. -/
def mixedClassesSpec : ChangeSpec := { name := "mixedClasses", fn := fun _ => fun
  | [d1, d2, d3] => { results := [.lit (.bool true)], args := [d1, d2, d3] }
  | _ => none }
def mixedClassesRow : OpenClaim := { program := "ytknkokkgefcdbaadoor", sum := "2b47114851204d03a14f15e6bf82670b78dc48e1aeeab818b2e795bd5351446c", func := "parapet/parapetlaw18.MixedClasses", spec := "mixedClasses", inPlace := ["internal/bytealg.CountString", "internal/bytealg.IndexByteString", "internal/bytealg.IndexString"], recurses := true, named := ["unicode/utf8.first", "unicode/utf8.acceptRanges", "internal/bytealg.MaxLen"], apart := false, laid := [("unicode/utf8.acceptRanges", laid_unicode_utf8_acceptRanges), ("unicode/utf8.first", laid_unicode_utf8_first)] }
def MixedClassesSaid : Prop := mixedClassesRow.holds Tryd.pinned (OpenSpec.ofChange mixedClassesSpec)

/-- ITS FALSE NEIGHBOUR: 'it returns false'. Refute it at one input. -/
def mixedClassesWrong : ChangeSpec := { name := "mixedClasses", fn := fun _ => fun
  | [d1, d2, d3] => { results := [.lit (.bool false)], args := [d1, d2, d3] }
  | _ => none }
def MixedClassesWrongFalsely : Prop := mixedClassesRow.holds Tryd.pinned (OpenSpec.ofChange mixedClassesWrong)

/-- 'parapetlaw18.MixedUpgrades': WHATEVER THE INPUT: true; the input reads as it did. -/
def mixedUpgradesSpec : ChangeSpec := { name := "mixedUpgrades", fn := fun _ => fun
  | [d1, d2, d3] => { results := [.lit (.bool true)], args := [d1, d2, d3] }
  | _ => none }
def mixedUpgradesRow : OpenClaim := { program := "ytknkokkgefcdbaadoor", sum := "2b47114851204d03a14f15e6bf82670b78dc48e1aeeab818b2e795bd5351446c", func := "parapet/parapetlaw18.MixedUpgrades", spec := "mixedUpgrades", inPlace := ["internal/bytealg.CountString", "internal/bytealg.IndexByteString", "internal/bytealg.IndexString"], recurses := true, named := ["unicode/utf8.first", "unicode/utf8.acceptRanges", "internal/bytealg.MaxLen"], apart := false, laid := [("unicode/utf8.acceptRanges", laid_unicode_utf8_acceptRanges), ("unicode/utf8.first", laid_unicode_utf8_first)] }
def MixedUpgradesSaid : Prop := mixedUpgradesRow.holds Tryd.pinned (OpenSpec.ofChange mixedUpgradesSpec)

/-- ITS FALSE NEIGHBOUR: 'it returns false'. Refute it at one input. -/
def mixedUpgradesWrong : ChangeSpec := { name := "mixedUpgrades", fn := fun _ => fun
  | [d1, d2, d3] => { results := [.lit (.bool false)], args := [d1, d2, d3] }
  | _ => none }
def MixedUpgradesWrongFalsely : Prop := mixedUpgradesRow.holds Tryd.pinned (OpenSpec.ofChange mixedUpgradesWrong)

/-- 'parapetlaw18.MixedMedia': WHATEVER THE INPUT: true; the input reads as it did. -/
def mixedMediaSpec : ChangeSpec := { name := "mixedMedia", fn := fun _ => fun
  | [d1, d2, d3] => { results := [.lit (.bool true)], args := [d1, d2, d3] }
  | _ => none }
def mixedMediaRow : OpenClaim := { program := "ytknkokkgefcdbaadoor", sum := "2b47114851204d03a14f15e6bf82670b78dc48e1aeeab818b2e795bd5351446c", func := "parapet/parapetlaw18.MixedMedia", spec := "mixedMedia", inPlace := ["internal/bytealg.CountString", "internal/bytealg.IndexByteString", "internal/bytealg.IndexString"], recurses := true, named := ["unicode/utf8.first", "unicode/utf8.acceptRanges", "internal/bytealg.MaxLen"], apart := false, laid := [("unicode/utf8.acceptRanges", laid_unicode_utf8_acceptRanges), ("unicode/utf8.first", laid_unicode_utf8_first)] }
def MixedMediaSaid : Prop := mixedMediaRow.holds Tryd.pinned (OpenSpec.ofChange mixedMediaSpec)

/-- ITS FALSE NEIGHBOUR: 'it returns false'. Refute it at one input. -/
def mixedMediaWrong : ChangeSpec := { name := "mixedMedia", fn := fun _ => fun
  | [d1, d2, d3] => { results := [.lit (.bool false)], args := [d1, d2, d3] }
  | _ => none }
def MixedMediaWrongFalsely : Prop := mixedMediaRow.holds Tryd.pinned (OpenSpec.ofChange mixedMediaWrong)

/- THE SECOND FORM. 'bulk': how many values and letters a reading holds, each counted each time it is reached (what is shared counts as often as it is met; a slice's spare places count too). A statement '..UptoSaid' is the law's where the arguments, and the package variables that the reading takes, are together of bulk at most 1048576: NARROWER than '..Said'. Prove '..Said' where nothing that the law and all that it calls make is longer than what came in: it says more and counts as full. Else prove '..UptoSaid'. A law counts once. -/
mutual
def uptoBulk {H : Type} : DataW H → Nat
  | .lit (.string bytes) => bytes.length + 1
  | .lit _ => 1
  | .nil => 1
  | .ptr d => uptoBulk d + 1
  | .slice elems spare => uptoBulkAll elems + uptoBulkAll spare + 1
  | .agg parts => uptoBulkAll parts + 1
  | .iface _ d => uptoBulk d + 1
  | .map entries => uptoBulkEntries entries + 1
  | .held _ => 1
def uptoBulkAll {H : Type} : List (DataW H) → Nat
  | [] => 0
  | d :: r => uptoBulk d + uptoBulkAll r
def uptoBulkEntries {H : Type} : List (Lit × DataW H) → Nat
  | [] => 0
  | x :: r => uptoBulkEntry x + uptoBulkEntries r
def uptoBulkEntry {H : Type} : Lit × DataW H → Nat
  | (.string bytes, d) => bytes.length + uptoBulk d + 1
  | (_, d) => uptoBulk d + 1
 end
def uptoSmall : (H : Type) → List (DataW H) → Bool := fun _ ds => decide (uptoBulkAll ds ≤ 1048576)
def OpenSpec.upto (s : _root_.Go.ChangeSpec) : _root_.Go.OpenSpec := { _root_.Go.OpenSpec.ofChange s with cond := some uptoSmall }

/-- 'parapetlaw18.MixedPlain', WHERE WHAT IT READS IS OF BULK AT MOST 1048576: true; the input reads as it did. -/
def mixedPlainUptoRow : OpenClaim := { program := "ytknkokkgefcdbaadoor", sum := "2b47114851204d03a14f15e6bf82670b78dc48e1aeeab818b2e795bd5351446c", func := "parapet/parapetlaw18.MixedPlain", spec := "mixedPlain", inPlace := ["internal/bytealg.CountString", "internal/bytealg.IndexByteString", "internal/bytealg.IndexString"], recurses := true, named := ["unicode/utf8.first", "unicode/utf8.acceptRanges", "internal/bytealg.MaxLen"], apart := false, laid := [("unicode/utf8.acceptRanges", laid_unicode_utf8_acceptRanges), ("unicode/utf8.first", laid_unicode_utf8_first)], narrowed := true }
def MixedPlainUptoSaid : Prop := mixedPlainUptoRow.holds Tryd.pinned (OpenSpec.upto mixedPlainSpec)

/-- 'parapetlaw18.MixedSafe', WHERE WHAT IT READS IS OF BULK AT MOST 1048576: true; the input reads as it did. -/
def mixedSafeUptoRow : OpenClaim := { program := "ytknkokkgefcdbaadoor", sum := "2b47114851204d03a14f15e6bf82670b78dc48e1aeeab818b2e795bd5351446c", func := "parapet/parapetlaw18.MixedSafe", spec := "mixedSafe", inPlace := ["internal/bytealg.CountString", "internal/bytealg.IndexByteString", "internal/bytealg.IndexString"], recurses := true, named := ["unicode/utf8.first", "unicode/utf8.acceptRanges", "internal/bytealg.MaxLen"], apart := false, laid := [("unicode/utf8.acceptRanges", laid_unicode_utf8_acceptRanges), ("unicode/utf8.first", laid_unicode_utf8_first)], narrowed := true }
def MixedSafeUptoSaid : Prop := mixedSafeUptoRow.holds Tryd.pinned (OpenSpec.upto mixedSafeSpec)

/-- 'parapetlaw18.MixedClasses', WHERE WHAT IT READS IS OF BULK AT MOST 1048576: true; the input reads as it did. -/
def mixedClassesUptoRow : OpenClaim := { program := "ytknkokkgefcdbaadoor", sum := "2b47114851204d03a14f15e6bf82670b78dc48e1aeeab818b2e795bd5351446c", func := "parapet/parapetlaw18.MixedClasses", spec := "mixedClasses", inPlace := ["internal/bytealg.CountString", "internal/bytealg.IndexByteString", "internal/bytealg.IndexString"], recurses := true, named := ["unicode/utf8.first", "unicode/utf8.acceptRanges", "internal/bytealg.MaxLen"], apart := false, laid := [("unicode/utf8.acceptRanges", laid_unicode_utf8_acceptRanges), ("unicode/utf8.first", laid_unicode_utf8_first)], narrowed := true }
def MixedClassesUptoSaid : Prop := mixedClassesUptoRow.holds Tryd.pinned (OpenSpec.upto mixedClassesSpec)

/-- 'parapetlaw18.MixedUpgrades', WHERE WHAT IT READS IS OF BULK AT MOST 1048576: true; the input reads as it did. -/
def mixedUpgradesUptoRow : OpenClaim := { program := "ytknkokkgefcdbaadoor", sum := "2b47114851204d03a14f15e6bf82670b78dc48e1aeeab818b2e795bd5351446c", func := "parapet/parapetlaw18.MixedUpgrades", spec := "mixedUpgrades", inPlace := ["internal/bytealg.CountString", "internal/bytealg.IndexByteString", "internal/bytealg.IndexString"], recurses := true, named := ["unicode/utf8.first", "unicode/utf8.acceptRanges", "internal/bytealg.MaxLen"], apart := false, laid := [("unicode/utf8.acceptRanges", laid_unicode_utf8_acceptRanges), ("unicode/utf8.first", laid_unicode_utf8_first)], narrowed := true }
def MixedUpgradesUptoSaid : Prop := mixedUpgradesUptoRow.holds Tryd.pinned (OpenSpec.upto mixedUpgradesSpec)

/-- 'parapetlaw18.MixedMedia', WHERE WHAT IT READS IS OF BULK AT MOST 1048576: true; the input reads as it did. -/
def mixedMediaUptoRow : OpenClaim := { program := "ytknkokkgefcdbaadoor", sum := "2b47114851204d03a14f15e6bf82670b78dc48e1aeeab818b2e795bd5351446c", func := "parapet/parapetlaw18.MixedMedia", spec := "mixedMedia", inPlace := ["internal/bytealg.CountString", "internal/bytealg.IndexByteString", "internal/bytealg.IndexString"], recurses := true, named := ["unicode/utf8.first", "unicode/utf8.acceptRanges", "internal/bytealg.MaxLen"], apart := false, laid := [("unicode/utf8.acceptRanges", laid_unicode_utf8_acceptRanges), ("unicode/utf8.first", laid_unicode_utf8_first)], narrowed := true }
def MixedMediaUptoSaid : Prop := mixedMediaUptoRow.holds Tryd.pinned (OpenSpec.upto mixedMediaSpec)

end Rows
end Go.Proofs.YtknkokkgefcdbaaDoor
