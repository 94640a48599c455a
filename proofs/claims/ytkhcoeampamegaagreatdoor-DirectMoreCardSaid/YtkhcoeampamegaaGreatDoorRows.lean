/-
  NARROWER THAN 'FOR EVERY INPUT', by the rows' own cells (each row's printed sentence says how): DirectChains: laid · DirectOther: laid · DirectNone: laid · DirectNearest: laid · DirectAllows: laid · DirectMore: laid.
  DERIVED. THE GIVEN ROWS OF THIS SEAT. 6 by the template 'for every input the law returns true; each argument reads behind the call as it read before'; 0 by the template 'total and deterministic' (their statements: YtkhcoeampamegaaGreatDoorTotals.lean).
  GIVEN WITH THE SEED: the statements are not yours to turn. If you find one false, say at which input.
  Laid BY PROGRAM, IN A SANDBOX (cutbox-rows.mjs): the forced cells as the released guide's own fill.sh prints them over the translation df409dfe642b136d… (all of the seat's roots in one cut). By AI agents, Wed Nov 11 2026. No macro, syntax, notation, axiom, sorry.
-/
import Derived.Test.YtkhcoeampamegaaGreatDoorChecked
import GoSem.PinnedTables
import GoSem.Claim
import GoSem.ClaimJoined
import GoSem.ClaimMapViews
import Derived.JoinedTies
import Derived.KernelRfl
namespace Go.Proofs.YtkhcoeampamegaaGreatDoor
/- THE CELL 'sum', in the pinned program and in every row, IS THE sha256 OF THE DUMP (.gsa) THAT YtkhcoeampamegaaGreatDoorProg.lean LOADS. Nothing in Lean hashes anything: it is a label: what it is worth is what the hold of that sum in a sandbox is worth. -/
noncomputable def Tryz.pinned : Pinned := { name := "ytkhcoeampamegaagreatdoor", sum := "df409dfe642b136d4dfe3fa404eb1225c2c224e2ed2afc545fe0427e90cf63eb", checked := Tryz.checked }
namespace Rows
def none {H : Type} : Left H := { results := [], args := [] }

/- WHAT THE LISTED PACKAGE-LEVEL VARIABLES READ AS WHEN THE CALL BEGINS. Each datum BY PROGRAM (the guide's laid-datum.mjs) off the statement by which the dump's own 'gosem.cut.vars' lays the variable. In a bare row this is a premise. The card (YtkhcoeampamegaaGreatDoorCards.lean) ties it to the program's text. -/
def laid_unicode_utf8_acceptRanges {H : Type} : DataW H := .agg [.agg [.lit (.int .u8 128), .lit (.int .u8 191)], .agg [.lit (.int .u8 160), .lit (.int .u8 191)], .agg [.lit (.int .u8 128), .lit (.int .u8 159)], .agg [.lit (.int .u8 144), .lit (.int .u8 191)], .agg [.lit (.int .u8 128), .lit (.int .u8 143)], .agg [.lit (.int .u8 0), .lit (.int .u8 0)], .agg [.lit (.int .u8 0), .lit (.int .u8 0)], .agg [.lit (.int .u8 0), .lit (.int .u8 0)], .agg [.lit (.int .u8 0), .lit (.int .u8 0)], .agg [.lit (.int .u8 0), .lit (.int .u8 0)], .agg [.lit (.int .u8 0), .lit (.int .u8 0)], .agg [.lit (.int .u8 0), .lit (.int .u8 0)], .agg [.lit (.int .u8 0), .lit (.int .u8 0)], .agg [.lit (.int .u8 0), .lit (.int .u8 0)], .agg [.lit (.int .u8 0), .lit (.int .u8 0)], .agg [.lit (.int .u8 0), .lit (.int .u8 0)]]
/-- One of Go's own tables, pinned by name: the form's constant. -/
def laid_unicode_utf8_first : DataW Unit := Go.Pinned.utf8First

/-- 'parapetlaw16.DirectChains': WHATEVER THE INPUT: true; the input reads as it did. -/
def directChainsSpec : ChangeSpec := { name := "directChains", fn := fun _ => fun
  | [d1, d2] => { results := [.lit (.bool true)], args := [d1, d2] }
  | _ => none }
def directChainsRow : OpenClaim := { program := "ytkhcoeampamegaagreatdoor", sum := "df409dfe642b136d4dfe3fa404eb1225c2c224e2ed2afc545fe0427e90cf63eb", func := "parapet/parapetlaw16.DirectChains", spec := "directChains", inPlace := ["internal/bytealg.CountString", "internal/bytealg.IndexByteString", "internal/bytealg.IndexString"], unfollowed := true, recurses := true, named := ["unicode/utf8.first", "unicode/utf8.acceptRanges", "internal/bytealg.MaxLen"], apart := false, laid := [("unicode/utf8.acceptRanges", laid_unicode_utf8_acceptRanges), ("unicode/utf8.first", laid_unicode_utf8_first)] }
def DirectChainsSaid : Prop := directChainsRow.holds Tryz.pinned (OpenSpec.ofChange directChainsSpec)

/-- ITS FALSE NEIGHBOUR: 'it returns false'. Refute it at one input. -/
def directChainsWrong : ChangeSpec := { name := "directChains", fn := fun _ => fun
  | [d1, d2] => { results := [.lit (.bool false)], args := [d1, d2] }
  | _ => none }
def DirectChainsWrongFalsely : Prop := directChainsRow.holds Tryz.pinned (OpenSpec.ofChange directChainsWrong)

/-- 'parapetlaw16.DirectOther': WHATEVER THE INPUT: true; the input reads as it did. -/
def directOtherSpec : ChangeSpec := { name := "directOther", fn := fun _ => fun
  | [d1, d2, d3, d4] => { results := [.lit (.bool true)], args := [d1, d2, d3, d4] }
  | _ => none }
def directOtherRow : OpenClaim := { program := "ytkhcoeampamegaagreatdoor", sum := "df409dfe642b136d4dfe3fa404eb1225c2c224e2ed2afc545fe0427e90cf63eb", func := "parapet/parapetlaw16.DirectOther", spec := "directOther", inPlace := ["internal/bytealg.CountString", "internal/bytealg.IndexByteString", "internal/bytealg.IndexString"], unfollowed := true, recurses := true, named := ["unicode/utf8.first", "unicode/utf8.acceptRanges", "internal/bytealg.MaxLen"], apart := false, laid := [("unicode/utf8.acceptRanges", laid_unicode_utf8_acceptRanges), ("unicode/utf8.first", laid_unicode_utf8_first)] }
def DirectOtherSaid : Prop := directOtherRow.holds Tryz.pinned (OpenSpec.ofChange directOtherSpec)

/-- ITS FALSE NEIGHBOUR: 'it returns false'. Refute it at one input. -/
def directOtherWrong : ChangeSpec := { name := "directOther", fn := fun _ => fun
  | [d1, d2, d3, d4] => { results := [.lit (.bool false)], args := [d1, d2, d3, d4] }
  | _ => none }
def DirectOtherWrongFalsely : Prop := directOtherRow.holds Tryz.pinned (OpenSpec.ofChange directOtherWrong)

/-- 'parapetlaw16.DirectNone': WHATEVER THE INPUT: true; the input reads as it did. -/
def directNoneSpec : ChangeSpec := { name := "directNone", fn := fun _ => fun
  | [d1, d2] => { results := [.lit (.bool true)], args := [d1, d2] }
  | _ => none }
def directNoneRow : OpenClaim := { program := "ytkhcoeampamegaagreatdoor", sum := "df409dfe642b136d4dfe3fa404eb1225c2c224e2ed2afc545fe0427e90cf63eb", func := "parapet/parapetlaw16.DirectNone", spec := "directNone", inPlace := ["internal/bytealg.CountString", "internal/bytealg.IndexByteString", "internal/bytealg.IndexString"], unfollowed := true, recurses := true, named := ["unicode/utf8.first", "unicode/utf8.acceptRanges", "internal/bytealg.MaxLen"], apart := false, laid := [("unicode/utf8.acceptRanges", laid_unicode_utf8_acceptRanges), ("unicode/utf8.first", laid_unicode_utf8_first)] }
def DirectNoneSaid : Prop := directNoneRow.holds Tryz.pinned (OpenSpec.ofChange directNoneSpec)

/-- ITS FALSE NEIGHBOUR: 'it returns false'. Refute it at one input. -/
def directNoneWrong : ChangeSpec := { name := "directNone", fn := fun _ => fun
  | [d1, d2] => { results := [.lit (.bool false)], args := [d1, d2] }
  | _ => none }
def DirectNoneWrongFalsely : Prop := directNoneRow.holds Tryz.pinned (OpenSpec.ofChange directNoneWrong)

/-- 'parapetlaw16.DirectNearest': WHATEVER THE INPUT: true; the input reads as it did. -/
def directNearestSpec : ChangeSpec := { name := "directNearest", fn := fun _ => fun
  | [d1, d2, d3] => { results := [.lit (.bool true)], args := [d1, d2, d3] }
  | _ => none }
def directNearestRow : OpenClaim := { program := "ytkhcoeampamegaagreatdoor", sum := "df409dfe642b136d4dfe3fa404eb1225c2c224e2ed2afc545fe0427e90cf63eb", func := "parapet/parapetlaw16.DirectNearest", spec := "directNearest", inPlace := ["internal/bytealg.CountString", "internal/bytealg.IndexByteString", "internal/bytealg.IndexString"], unfollowed := true, recurses := true, named := ["unicode/utf8.first", "unicode/utf8.acceptRanges", "internal/bytealg.MaxLen"], apart := false, laid := [("unicode/utf8.acceptRanges", laid_unicode_utf8_acceptRanges), ("unicode/utf8.first", laid_unicode_utf8_first)] }
def DirectNearestSaid : Prop := directNearestRow.holds Tryz.pinned (OpenSpec.ofChange directNearestSpec)

/-- ITS FALSE NEIGHBOUR: 'it returns false'. Refute it at one input. -/
def directNearestWrong : ChangeSpec := { name := "directNearest", fn := fun _ => fun
  | [d1, d2, d3] => { results := [.lit (.bool false)], args := [d1, d2, d3] }
  | _ => none }
def DirectNearestWrongFalsely : Prop := directNearestRow.holds Tryz.pinned (OpenSpec.ofChange directNearestWrong)

/-- 'parapetlaw16.DirectAllows': WHATEVER THE INPUT: true; the input reads as it did. -/
def directAllowsSpec : ChangeSpec := { name := "directAllows", fn := fun _ => fun
  | [d1, d2, d3, d4, d5] => { results := [.lit (.bool true)], args := [d1, d2, d3, d4, d5] }
  | _ => none }
def directAllowsRow : OpenClaim := { program := "ytkhcoeampamegaagreatdoor", sum := "df409dfe642b136d4dfe3fa404eb1225c2c224e2ed2afc545fe0427e90cf63eb", func := "parapet/parapetlaw16.DirectAllows", spec := "directAllows", inPlace := ["internal/bytealg.CountString", "internal/bytealg.IndexByteString", "internal/bytealg.IndexString"], unfollowed := true, recurses := true, named := ["unicode/utf8.first", "unicode/utf8.acceptRanges", "internal/bytealg.MaxLen"], apart := false, laid := [("unicode/utf8.acceptRanges", laid_unicode_utf8_acceptRanges), ("unicode/utf8.first", laid_unicode_utf8_first)] }
def DirectAllowsSaid : Prop := directAllowsRow.holds Tryz.pinned (OpenSpec.ofChange directAllowsSpec)

/-- ITS FALSE NEIGHBOUR: 'it returns false'. Refute it at one input. -/
def directAllowsWrong : ChangeSpec := { name := "directAllows", fn := fun _ => fun
  | [d1, d2, d3, d4, d5] => { results := [.lit (.bool false)], args := [d1, d2, d3, d4, d5] }
  | _ => none }
def DirectAllowsWrongFalsely : Prop := directAllowsRow.holds Tryz.pinned (OpenSpec.ofChange directAllowsWrong)

/-- 'parapetlaw16.DirectMore': WHATEVER THE INPUT: true; the input reads as it did. -/
def directMoreSpec : ChangeSpec := { name := "directMore", fn := fun _ => fun
  | [d1, d2, d3, d4, d5] => { results := [.lit (.bool true)], args := [d1, d2, d3, d4, d5] }
  | _ => none }
def directMoreRow : OpenClaim := { program := "ytkhcoeampamegaagreatdoor", sum := "df409dfe642b136d4dfe3fa404eb1225c2c224e2ed2afc545fe0427e90cf63eb", func := "parapet/parapetlaw16.DirectMore", spec := "directMore", inPlace := ["internal/bytealg.CountString", "internal/bytealg.IndexByteString", "internal/bytealg.IndexString"], unfollowed := true, recurses := true, named := ["unicode/utf8.first", "unicode/utf8.acceptRanges", "internal/bytealg.MaxLen"], apart := false, laid := [("unicode/utf8.acceptRanges", laid_unicode_utf8_acceptRanges), ("unicode/utf8.first", laid_unicode_utf8_first)] }
def DirectMoreSaid : Prop := directMoreRow.holds Tryz.pinned (OpenSpec.ofChange directMoreSpec)

/-- ITS FALSE NEIGHBOUR: 'it returns false'. Refute it at one input. -/
def directMoreWrong : ChangeSpec := { name := "directMore", fn := fun _ => fun
  | [d1, d2, d3, d4, d5] => { results := [.lit (.bool false)], args := [d1, d2, d3, d4, d5] }
  | _ => none }
def DirectMoreWrongFalsely : Prop := directMoreRow.holds Tryz.pinned (OpenSpec.ofChange directMoreWrong)

/- THE SECOND FORM. 'bulk': how many values and letters a reading holds, each counted each time it is reached (what is shared counts as often as it is met; a slice's spare places count too). A statement '..UptoSaid' is the law's where the arguments, and the package variables that the reading takes, are together of bulk at most 1048576: NARROWER than '..Said'. Prove '..Said' where nothing that the law and all that it calls make is longer than what came in: it says more and counts as full. Else prove '..UptoSaid'. A law counts once. -/
mutual
def uptoBulk {H : Type} : DataW H → Nat
  | .lit (.string bytes) => bytes.length + 1
  | .lit _ => 1
  | .nil => 1
  | .ptr d => uptoBulk d + 1
  | .slice elems spare => uptoBulkAll elems + uptoBulkAll spare + 1
  | .agg parts => uptoBulkAll parts + 1
  | .iface _ d => uptoBulk d + 1
  | .map entries => uptoBulkEntries entries + 1
  | .held _ => 1
def uptoBulkAll {H : Type} : List (DataW H) → Nat
  | [] => 0
  | d :: r => uptoBulk d + uptoBulkAll r
def uptoBulkEntries {H : Type} : List (Lit × DataW H) → Nat
  | [] => 0
  | x :: r => uptoBulkEntry x + uptoBulkEntries r
def uptoBulkEntry {H : Type} : Lit × DataW H → Nat
  | (.string bytes, d) => bytes.length + uptoBulk d + 1
  | (_, d) => uptoBulk d + 1
 end
def uptoSmall : (H : Type) → List (DataW H) → Bool := fun _ ds => decide (uptoBulkAll ds ≤ 1048576)
def OpenSpec.upto (s : _root_.Go.ChangeSpec) : _root_.Go.OpenSpec := { _root_.Go.OpenSpec.ofChange s with cond := some uptoSmall }

/-- 'parapetlaw16.DirectChains', WHERE WHAT IT READS IS OF BULK AT MOST 1048576: true; the input reads as it did. -/
def directChainsUptoRow : OpenClaim := { program := "ytkhcoeampamegaagreatdoor", sum := "df409dfe642b136d4dfe3fa404eb1225c2c224e2ed2afc545fe0427e90cf63eb", func := "parapet/parapetlaw16.DirectChains", spec := "directChains", inPlace := ["internal/bytealg.CountString", "internal/bytealg.IndexByteString", "internal/bytealg.IndexString"], unfollowed := true, recurses := true, named := ["unicode/utf8.first", "unicode/utf8.acceptRanges", "internal/bytealg.MaxLen"], apart := false, laid := [("unicode/utf8.acceptRanges", laid_unicode_utf8_acceptRanges), ("unicode/utf8.first", laid_unicode_utf8_first)], narrowed := true }
def DirectChainsUptoSaid : Prop := directChainsUptoRow.holds Tryz.pinned (OpenSpec.upto directChainsSpec)

/-- 'parapetlaw16.DirectOther', WHERE WHAT IT READS IS OF BULK AT MOST 1048576: true; the input reads as it did. -/
def directOtherUptoRow : OpenClaim := { program := "ytkhcoeampamegaagreatdoor", sum := "df409dfe642b136d4dfe3fa404eb1225c2c224e2ed2afc545fe0427e90cf63eb", func := "parapet/parapetlaw16.DirectOther", spec := "directOther", inPlace := ["internal/bytealg.CountString", "internal/bytealg.IndexByteString", "internal/bytealg.IndexString"], unfollowed := true, recurses := true, named := ["unicode/utf8.first", "unicode/utf8.acceptRanges", "internal/bytealg.MaxLen"], apart := false, laid := [("unicode/utf8.acceptRanges", laid_unicode_utf8_acceptRanges), ("unicode/utf8.first", laid_unicode_utf8_first)], narrowed := true }
def DirectOtherUptoSaid : Prop := directOtherUptoRow.holds Tryz.pinned (OpenSpec.upto directOtherSpec)

/-- 'parapetlaw16.DirectNone', WHERE WHAT IT READS IS OF BULK AT MOST 1048576: true; the input reads as it did. -/
def directNoneUptoRow : OpenClaim := { program := "ytkhcoeampamegaagreatdoor", sum := "df409dfe642b136d4dfe3fa404eb1225c2c224e2ed2afc545fe0427e90cf63eb", func := "parapet/parapetlaw16.DirectNone", spec := "directNone", inPlace := ["internal/bytealg.CountString", "internal/bytealg.IndexByteString", "internal/bytealg.IndexString"], unfollowed := true, recurses := true, named := ["unicode/utf8.first", "unicode/utf8.acceptRanges", "internal/bytealg.MaxLen"], apart := false, laid := [("unicode/utf8.acceptRanges", laid_unicode_utf8_acceptRanges), ("unicode/utf8.first", laid_unicode_utf8_first)], narrowed := true }
def DirectNoneUptoSaid : Prop := directNoneUptoRow.holds Tryz.pinned (OpenSpec.upto directNoneSpec)

/-- 'parapetlaw16.DirectNearest', WHERE WHAT IT READS IS OF BULK AT MOST 1048576: true; the input reads as it did. -/
def directNearestUptoRow : OpenClaim := { program := "ytkhcoeampamegaagreatdoor", sum := "df409dfe642b136d4dfe3fa404eb1225c2c224e2ed2afc545fe0427e90cf63eb", func := "parapet/parapetlaw16.DirectNearest", spec := "directNearest", inPlace := ["internal/bytealg.CountString", "internal/bytealg.IndexByteString", "internal/bytealg.IndexString"], unfollowed := true, recurses := true, named := ["unicode/utf8.first", "unicode/utf8.acceptRanges", "internal/bytealg.MaxLen"], apart := false, laid := [("unicode/utf8.acceptRanges", laid_unicode_utf8_acceptRanges), ("unicode/utf8.first", laid_unicode_utf8_first)], narrowed := true }
def DirectNearestUptoSaid : Prop := directNearestUptoRow.holds Tryz.pinned (OpenSpec.upto directNearestSpec)

/-- 'parapetlaw16.DirectAllows', WHERE WHAT IT READS IS OF BULK AT MOST 1048576: true; the input reads as it did. -/
def directAllowsUptoRow : OpenClaim := { program := "ytkhcoeampamegaagreatdoor", sum := "df409dfe642b136d4dfe3fa404eb1225c2c224e2ed2afc545fe0427e90cf63eb", func := "parapet/parapetlaw16.DirectAllows", spec := "directAllows", inPlace := ["internal/bytealg.CountString", "internal/bytealg.IndexByteString", "internal/bytealg.IndexString"], unfollowed := true, recurses := true, named := ["unicode/utf8.first", "unicode/utf8.acceptRanges", "internal/bytealg.MaxLen"], apart := false, laid := [("unicode/utf8.acceptRanges", laid_unicode_utf8_acceptRanges), ("unicode/utf8.first", laid_unicode_utf8_first)], narrowed := true }
def DirectAllowsUptoSaid : Prop := directAllowsUptoRow.holds Tryz.pinned (OpenSpec.upto directAllowsSpec)

/-- 'parapetlaw16.DirectMore', WHERE WHAT IT READS IS OF BULK AT MOST 1048576: true; the input reads as it did. -/
def directMoreUptoRow : OpenClaim := { program := "ytkhcoeampamegaagreatdoor", sum := "df409dfe642b136d4dfe3fa404eb1225c2c224e2ed2afc545fe0427e90cf63eb", func := "parapet/parapetlaw16.DirectMore", spec := "directMore", inPlace := ["internal/bytealg.CountString", "internal/bytealg.IndexByteString", "internal/bytealg.IndexString"], unfollowed := true, recurses := true, named := ["unicode/utf8.first", "unicode/utf8.acceptRanges", "internal/bytealg.MaxLen"], apart := false, laid := [("unicode/utf8.acceptRanges", laid_unicode_utf8_acceptRanges), ("unicode/utf8.first", laid_unicode_utf8_first)], narrowed := true }
def DirectMoreUptoSaid : Prop := directMoreUptoRow.holds Tryz.pinned (OpenSpec.upto directMoreSpec)

end Rows
end Go.Proofs.YtkhcoeampamegaaGreatDoor
