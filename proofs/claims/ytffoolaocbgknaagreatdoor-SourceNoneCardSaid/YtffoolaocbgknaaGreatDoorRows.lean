/-
  NARROWER THAN 'FOR EVERY INPUT', by the rows' own cells (each row's printed sentence says how): SourceParses: laid · SourceParts: laid · SourceMatches: laid · SourceNone: laid · SourceLists: laid.
  DERIVED. THE GIVEN ROWS OF THIS SEAT. 5 by the template 'for every input the law returns true; each argument reads behind the call as it read before'; 0 by the template 'total and deterministic' (their statements: YtffoolaocbgknaaGreatDoorTotals.lean).
  GIVEN WITH THE SEED: the statements are not yours to turn. If you find one false, say at which input.
  Laid BY PROGRAM, IN A SANDBOX (cutbox-rows.mjs): the forced cells as the released guide's own fill.sh prints them over the translation 3e1bff4cba773fb9… (all of the seat's roots in one cut). By AI agents, Wed Nov 11 2026. No macro, syntax, notation, axiom, sorry.
-/
import Derived.Test.YtffoolaocbgknaaGreatDoorChecked
import GoSem.PinnedTables
import GoSem.Claim
import GoSem.ClaimJoined
import GoSem.ClaimMapViews
import Derived.JoinedTies
import Derived.KernelRfl
namespace Go.Proofs.YtffoolaocbgknaaGreatDoor
/- THE CELL 'sum', in the pinned program and in every row, IS THE sha256 OF THE DUMP (.gsa) THAT YtffoolaocbgknaaGreatDoorProg.lean LOADS. Nothing in Lean hashes anything: it is a label: what it is worth is what the hold of that sum in a sandbox is worth. -/
noncomputable def Tryz.pinned : Pinned := { name := "ytffoolaocbgknaagreatdoor", sum := "3e1bff4cba773fb97de6d5ee26cc682d660df511e34158e4c17ead5463e9f898", checked := Tryz.checked }
namespace Rows
def none {H : Type} : Left H := { results := [], args := [] }

/- WHAT THE LISTED PACKAGE-LEVEL VARIABLES READ AS WHEN THE CALL BEGINS. Each datum BY PROGRAM (the guide's laid-datum.mjs) off the statement by which the dump's own 'gosem.cut.vars' lays the variable. In a bare row this is a premise. The card (YtffoolaocbgknaaGreatDoorCards.lean) ties it to the program's text. -/
def laid_unicode_utf8_acceptRanges {H : Type} : DataW H := .agg [.agg [.lit (.int .u8 128), .lit (.int .u8 191)], .agg [.lit (.int .u8 160), .lit (.int .u8 191)], .agg [.lit (.int .u8 128), .lit (.int .u8 159)], .agg [.lit (.int .u8 144), .lit (.int .u8 191)], .agg [.lit (.int .u8 128), .lit (.int .u8 143)], .agg [.lit (.int .u8 0), .lit (.int .u8 0)], .agg [.lit (.int .u8 0), .lit (.int .u8 0)], .agg [.lit (.int .u8 0), .lit (.int .u8 0)], .agg [.lit (.int .u8 0), .lit (.int .u8 0)], .agg [.lit (.int .u8 0), .lit (.int .u8 0)], .agg [.lit (.int .u8 0), .lit (.int .u8 0)], .agg [.lit (.int .u8 0), .lit (.int .u8 0)], .agg [.lit (.int .u8 0), .lit (.int .u8 0)], .agg [.lit (.int .u8 0), .lit (.int .u8 0)], .agg [.lit (.int .u8 0), .lit (.int .u8 0)], .agg [.lit (.int .u8 0), .lit (.int .u8 0)]]
/-- One of Go's own tables, pinned by name: the form's constant. -/
def laid_unicode_utf8_first : DataW Unit := Go.Pinned.utf8First

/-- 'parapetlaw15.SourceParses': WHATEVER THE INPUT: true; the input reads as it did. -/
def sourceParsesSpec : ChangeSpec := { name := "sourceParses", fn := fun _ => fun
  | [d] => { results := [.lit (.bool true)], args := [d] }
  | _ => none }
def sourceParsesRow : OpenClaim := { program := "ytffoolaocbgknaagreatdoor", sum := "3e1bff4cba773fb97de6d5ee26cc682d660df511e34158e4c17ead5463e9f898", func := "parapet/parapetlaw15.SourceParses", spec := "sourceParses", inPlace := ["internal/bytealg.IndexByteString", "internal/bytealg.CountString", "internal/bytealg.IndexString"], unfollowed := true, recurses := true, named := ["unicode/utf8.first", "unicode/utf8.acceptRanges", "internal/bytealg.MaxLen"], apart := false, laid := [("unicode/utf8.acceptRanges", laid_unicode_utf8_acceptRanges), ("unicode/utf8.first", laid_unicode_utf8_first)] }
def SourceParsesSaid : Prop := sourceParsesRow.holds Tryz.pinned (OpenSpec.ofChange sourceParsesSpec)

/-- ITS FALSE NEIGHBOUR: 'it returns false'. Refute it at one input. -/
def sourceParsesWrong : ChangeSpec := { name := "sourceParses", fn := fun _ => fun
  | [d] => { results := [.lit (.bool false)], args := [d] }
  | _ => none }
def SourceParsesWrongFalsely : Prop := sourceParsesRow.holds Tryz.pinned (OpenSpec.ofChange sourceParsesWrong)

/-- 'parapetlaw15.SourceParts': WHATEVER THE INPUT: true; the input reads as it did. -/
def sourcePartsSpec : ChangeSpec := { name := "sourceParts", fn := fun _ => fun
  | [d1, d2, d3] => { results := [.lit (.bool true)], args := [d1, d2, d3] }
  | _ => none }
def sourcePartsRow : OpenClaim := { program := "ytffoolaocbgknaagreatdoor", sum := "3e1bff4cba773fb97de6d5ee26cc682d660df511e34158e4c17ead5463e9f898", func := "parapet/parapetlaw15.SourceParts", spec := "sourceParts", inPlace := ["internal/bytealg.IndexByteString", "internal/bytealg.CountString", "internal/bytealg.IndexString"], unfollowed := true, recurses := true, named := ["unicode/utf8.first", "unicode/utf8.acceptRanges", "internal/bytealg.MaxLen"], apart := false, laid := [("unicode/utf8.acceptRanges", laid_unicode_utf8_acceptRanges), ("unicode/utf8.first", laid_unicode_utf8_first)] }
def SourcePartsSaid : Prop := sourcePartsRow.holds Tryz.pinned (OpenSpec.ofChange sourcePartsSpec)

/-- ITS FALSE NEIGHBOUR: 'it returns false'. Refute it at one input. -/
def sourcePartsWrong : ChangeSpec := { name := "sourceParts", fn := fun _ => fun
  | [d1, d2, d3] => { results := [.lit (.bool false)], args := [d1, d2, d3] }
  | _ => none }
def SourcePartsWrongFalsely : Prop := sourcePartsRow.holds Tryz.pinned (OpenSpec.ofChange sourcePartsWrong)

/-- 'parapetlaw15.SourceMatches': WHATEVER THE INPUT: true; the input reads as it did. -/
def sourceMatchesSpec : ChangeSpec := { name := "sourceMatches", fn := fun _ => fun
  | [d1, d2, d3, d4] => { results := [.lit (.bool true)], args := [d1, d2, d3, d4] }
  | _ => none }
def sourceMatchesRow : OpenClaim := { program := "ytffoolaocbgknaagreatdoor", sum := "3e1bff4cba773fb97de6d5ee26cc682d660df511e34158e4c17ead5463e9f898", func := "parapet/parapetlaw15.SourceMatches", spec := "sourceMatches", inPlace := ["internal/bytealg.IndexByteString", "internal/bytealg.CountString", "internal/bytealg.IndexString"], unfollowed := true, recurses := true, named := ["unicode/utf8.first", "unicode/utf8.acceptRanges", "internal/bytealg.MaxLen"], apart := false, laid := [("unicode/utf8.acceptRanges", laid_unicode_utf8_acceptRanges), ("unicode/utf8.first", laid_unicode_utf8_first)] }
def SourceMatchesSaid : Prop := sourceMatchesRow.holds Tryz.pinned (OpenSpec.ofChange sourceMatchesSpec)

/-- ITS FALSE NEIGHBOUR: 'it returns false'. Refute it at one input. -/
def sourceMatchesWrong : ChangeSpec := { name := "sourceMatches", fn := fun _ => fun
  | [d1, d2, d3, d4] => { results := [.lit (.bool false)], args := [d1, d2, d3, d4] }
  | _ => none }
def SourceMatchesWrongFalsely : Prop := sourceMatchesRow.holds Tryz.pinned (OpenSpec.ofChange sourceMatchesWrong)

/-- 'parapetlaw15.SourceNone': WHATEVER THE INPUT: true; the input reads as it did. -/
def sourceNoneSpec : ChangeSpec := { name := "sourceNone", fn := fun _ => fun
  | [d1, d2] => { results := [.lit (.bool true)], args := [d1, d2] }
  | _ => none }
def sourceNoneRow : OpenClaim := { program := "ytffoolaocbgknaagreatdoor", sum := "3e1bff4cba773fb97de6d5ee26cc682d660df511e34158e4c17ead5463e9f898", func := "parapet/parapetlaw15.SourceNone", spec := "sourceNone", inPlace := ["internal/bytealg.IndexByteString", "internal/bytealg.CountString", "internal/bytealg.IndexString"], unfollowed := true, recurses := true, named := ["unicode/utf8.first", "unicode/utf8.acceptRanges", "internal/bytealg.MaxLen"], apart := false, laid := [("unicode/utf8.acceptRanges", laid_unicode_utf8_acceptRanges), ("unicode/utf8.first", laid_unicode_utf8_first)] }
def SourceNoneSaid : Prop := sourceNoneRow.holds Tryz.pinned (OpenSpec.ofChange sourceNoneSpec)

/-- ITS FALSE NEIGHBOUR: 'it returns false'. Refute it at one input. -/
def sourceNoneWrong : ChangeSpec := { name := "sourceNone", fn := fun _ => fun
  | [d1, d2] => { results := [.lit (.bool false)], args := [d1, d2] }
  | _ => none }
def SourceNoneWrongFalsely : Prop := sourceNoneRow.holds Tryz.pinned (OpenSpec.ofChange sourceNoneWrong)

/-- 'parapetlaw15.SourceLists': WHATEVER THE INPUT: true; the input reads as it did. -/
def sourceListsSpec : ChangeSpec := { name := "sourceLists", fn := fun _ => fun
  | [d1, d2, d3, d4] => { results := [.lit (.bool true)], args := [d1, d2, d3, d4] }
  | _ => none }
def sourceListsRow : OpenClaim := { program := "ytffoolaocbgknaagreatdoor", sum := "3e1bff4cba773fb97de6d5ee26cc682d660df511e34158e4c17ead5463e9f898", func := "parapet/parapetlaw15.SourceLists", spec := "sourceLists", inPlace := ["internal/bytealg.IndexByteString", "internal/bytealg.CountString", "internal/bytealg.IndexString"], unfollowed := true, recurses := true, named := ["unicode/utf8.first", "unicode/utf8.acceptRanges", "internal/bytealg.MaxLen"], apart := false, laid := [("unicode/utf8.acceptRanges", laid_unicode_utf8_acceptRanges), ("unicode/utf8.first", laid_unicode_utf8_first)] }
def SourceListsSaid : Prop := sourceListsRow.holds Tryz.pinned (OpenSpec.ofChange sourceListsSpec)

/-- ITS FALSE NEIGHBOUR: 'it returns false'. Refute it at one input. -/
def sourceListsWrong : ChangeSpec := { name := "sourceLists", fn := fun _ => fun
  | [d1, d2, d3, d4] => { results := [.lit (.bool false)], args := [d1, d2, d3, d4] }
  | _ => none }
def SourceListsWrongFalsely : Prop := sourceListsRow.holds Tryz.pinned (OpenSpec.ofChange sourceListsWrong)

/- THE SECOND FORM. 'bulk': how many values and letters a reading holds, each counted each time it is reached (what is shared counts as often as it is met; a slice's spare places count too). A statement '..UptoSaid' is the law's where the arguments, and the package variables that the reading takes, are together of bulk at most 1048576: NARROWER than '..Said'. Prove '..Said' where nothing that the law and all that it calls make is longer than what came in: it says more and counts as full. Else prove '..UptoSaid'. A law counts once. -/
mutual
def uptoBulk {H : Type} : DataW H → Nat
  | .lit (.string bytes) => bytes.length + 1
  | .lit _ => 1
  | .nil => 1
  | .ptr d => uptoBulk d + 1
  | .slice elems spare => uptoBulkAll elems + uptoBulkAll spare + 1
  | .agg parts => uptoBulkAll parts + 1
  | .iface _ d => uptoBulk d + 1
  | .map entries => uptoBulkEntries entries + 1
  | .held _ => 1
def uptoBulkAll {H : Type} : List (DataW H) → Nat
  | [] => 0
  | d :: r => uptoBulk d + uptoBulkAll r
def uptoBulkEntries {H : Type} : List (Lit × DataW H) → Nat
  | [] => 0
  | x :: r => uptoBulkEntry x + uptoBulkEntries r
def uptoBulkEntry {H : Type} : Lit × DataW H → Nat
  | (.string bytes, d) => bytes.length + uptoBulk d + 1
  | (_, d) => uptoBulk d + 1
 end
def uptoSmall : (H : Type) → List (DataW H) → Bool := fun _ ds => decide (uptoBulkAll ds ≤ 1048576)
def OpenSpec.upto (s : _root_.Go.ChangeSpec) : _root_.Go.OpenSpec := { _root_.Go.OpenSpec.ofChange s with cond := some uptoSmall }

/-- 'parapetlaw15.SourceParses', WHERE WHAT IT READS IS OF BULK AT MOST 1048576: true; the input reads as it did. -/
def sourceParsesUptoRow : OpenClaim := { program := "ytffoolaocbgknaagreatdoor", sum := "3e1bff4cba773fb97de6d5ee26cc682d660df511e34158e4c17ead5463e9f898", func := "parapet/parapetlaw15.SourceParses", spec := "sourceParses", inPlace := ["internal/bytealg.IndexByteString", "internal/bytealg.CountString", "internal/bytealg.IndexString"], unfollowed := true, recurses := true, named := ["unicode/utf8.first", "unicode/utf8.acceptRanges", "internal/bytealg.MaxLen"], apart := false, laid := [("unicode/utf8.acceptRanges", laid_unicode_utf8_acceptRanges), ("unicode/utf8.first", laid_unicode_utf8_first)], narrowed := true }
def SourceParsesUptoSaid : Prop := sourceParsesUptoRow.holds Tryz.pinned (OpenSpec.upto sourceParsesSpec)

/-- 'parapetlaw15.SourceParts', WHERE WHAT IT READS IS OF BULK AT MOST 1048576: true; the input reads as it did. -/
def sourcePartsUptoRow : OpenClaim := { program := "ytffoolaocbgknaagreatdoor", sum := "3e1bff4cba773fb97de6d5ee26cc682d660df511e34158e4c17ead5463e9f898", func := "parapet/parapetlaw15.SourceParts", spec := "sourceParts", inPlace := ["internal/bytealg.IndexByteString", "internal/bytealg.CountString", "internal/bytealg.IndexString"], unfollowed := true, recurses := true, named := ["unicode/utf8.first", "unicode/utf8.acceptRanges", "internal/bytealg.MaxLen"], apart := false, laid := [("unicode/utf8.acceptRanges", laid_unicode_utf8_acceptRanges), ("unicode/utf8.first", laid_unicode_utf8_first)], narrowed := true }
def SourcePartsUptoSaid : Prop := sourcePartsUptoRow.holds Tryz.pinned (OpenSpec.upto sourcePartsSpec)

/-- 'parapetlaw15.SourceMatches', WHERE WHAT IT READS IS OF BULK AT MOST 1048576: true; the input reads as it did. -/
def sourceMatchesUptoRow : OpenClaim := { program := "ytffoolaocbgknaagreatdoor", sum := "3e1bff4cba773fb97de6d5ee26cc682d660df511e34158e4c17ead5463e9f898", func := "parapet/parapetlaw15.SourceMatches", spec := "sourceMatches", inPlace := ["internal/bytealg.IndexByteString", "internal/bytealg.CountString", "internal/bytealg.IndexString"], unfollowed := true, recurses := true, named := ["unicode/utf8.first", "unicode/utf8.acceptRanges", "internal/bytealg.MaxLen"], apart := false, laid := [("unicode/utf8.acceptRanges", laid_unicode_utf8_acceptRanges), ("unicode/utf8.first", laid_unicode_utf8_first)], narrowed := true }
def SourceMatchesUptoSaid : Prop := sourceMatchesUptoRow.holds Tryz.pinned (OpenSpec.upto sourceMatchesSpec)

/-- 'parapetlaw15.SourceNone', WHERE WHAT IT READS IS OF BULK AT MOST 1048576: true; the input reads as it did. -/
def sourceNoneUptoRow : OpenClaim := { program := "ytffoolaocbgknaagreatdoor", sum := "3e1bff4cba773fb97de6d5ee26cc682d660df511e34158e4c17ead5463e9f898", func := "parapet/parapetlaw15.SourceNone", spec := "sourceNone", inPlace := ["internal/bytealg.IndexByteString", "internal/bytealg.CountString", "internal/bytealg.IndexString"], unfollowed := true, recurses := true, named := ["unicode/utf8.first", "unicode/utf8.acceptRanges", "internal/bytealg.MaxLen"], apart := false, laid := [("unicode/utf8.acceptRanges", laid_unicode_utf8_acceptRanges), ("unicode/utf8.first", laid_unicode_utf8_first)], narrowed := true }
def SourceNoneUptoSaid : Prop := sourceNoneUptoRow.holds Tryz.pinned (OpenSpec.upto sourceNoneSpec)

/-- 'parapetlaw15.SourceLists', WHERE WHAT IT READS IS OF BULK AT MOST 1048576: true; the input reads as it did. -/
def sourceListsUptoRow : OpenClaim := { program := "ytffoolaocbgknaagreatdoor", sum := "3e1bff4cba773fb97de6d5ee26cc682d660df511e34158e4c17ead5463e9f898", func := "parapet/parapetlaw15.SourceLists", spec := "sourceLists", inPlace := ["internal/bytealg.IndexByteString", "internal/bytealg.CountString", "internal/bytealg.IndexString"], unfollowed := true, recurses := true, named := ["unicode/utf8.first", "unicode/utf8.acceptRanges", "internal/bytealg.MaxLen"], apart := false, laid := [("unicode/utf8.acceptRanges", laid_unicode_utf8_acceptRanges), ("unicode/utf8.first", laid_unicode_utf8_first)], narrowed := true }
def SourceListsUptoSaid : Prop := sourceListsUptoRow.holds Tryz.pinned (OpenSpec.upto sourceListsSpec)

end Rows
end Go.Proofs.YtffoolaocbgknaaGreatDoor
