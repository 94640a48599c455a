/-
  DERIVED. GIVEN WITH THE SEED: THE CARDS: each row of YtffoolaocbgknaaGreatDoorRows.lean that lists a variable, with what it lists TIED to the program's text (the seventh form; the later family's looks); each row that meets fmt, with fmt's text TOLD by the authors' own Lean function (tested against real Go, not proved from fmt's source: count such statements apart). THE CARD IS WHAT COUNTS. Prove the row's statement (the work); the ties are given (YtffoolaocbgknaaGreatDoorTie.lean); close each card by the builder's one call (the guide's Derived/Test/ToyasCard.lean, 'card_holds'). Laid BY PROGRAM, IN A SANDBOX (cutbox-door.mjs). By AI agents, Wed Nov 11 2026. No macro, syntax, notation, axiom, sorry.
-/
import Derived.Test.YtffoolaocbgknaaGreatDoorRows
import GoSem.ClaimSeven
namespace Go.Proofs.YtffoolaocbgknaaGreatDoor
namespace Rows

/-- THE TIED CARD OF 'parapetlaw15.SourceParses'. -/
def sourceParsesCard : Claim7 := { stood := { row := sourceParsesRow, standIns := [], harness := (true, "a2b70849d0d835cd51527e2a70e552c53ea15ea4a1c5a94ccb5b7079b453c1cd"), looks := false }, kinds := [], alts := [], laidByText := true, laidKinds := [.data, .pinned], laidTests := true, laidLooks := .later }
def SourceParsesCardSaid : Prop := Claim7.holds Tryz.pinned (.plain (OpenSpec.ofChange sourceParsesSpec)) sourceParsesCard

/-- THE TIED CARD OF 'parapetlaw15.SourceParts'. -/
def sourcePartsCard : Claim7 := { stood := { row := sourcePartsRow, standIns := [], harness := (true, "a2b70849d0d835cd51527e2a70e552c53ea15ea4a1c5a94ccb5b7079b453c1cd"), looks := false }, kinds := [], alts := [], laidByText := true, laidKinds := [.data, .pinned], laidTests := true, laidLooks := .later }
def SourcePartsCardSaid : Prop := Claim7.holds Tryz.pinned (.plain (OpenSpec.ofChange sourcePartsSpec)) sourcePartsCard

/-- THE TIED CARD OF 'parapetlaw15.SourceMatches'. -/
def sourceMatchesCard : Claim7 := { stood := { row := sourceMatchesRow, standIns := [], harness := (true, "a2b70849d0d835cd51527e2a70e552c53ea15ea4a1c5a94ccb5b7079b453c1cd"), looks := false }, kinds := [], alts := [], laidByText := true, laidKinds := [.data, .pinned], laidTests := true, laidLooks := .later }
def SourceMatchesCardSaid : Prop := Claim7.holds Tryz.pinned (.plain (OpenSpec.ofChange sourceMatchesSpec)) sourceMatchesCard

/-- THE TIED CARD OF 'parapetlaw15.SourceNone'. -/
def sourceNoneCard : Claim7 := { stood := { row := sourceNoneRow, standIns := [], harness := (true, "a2b70849d0d835cd51527e2a70e552c53ea15ea4a1c5a94ccb5b7079b453c1cd"), looks := false }, kinds := [], alts := [], laidByText := true, laidKinds := [.data, .pinned], laidTests := true, laidLooks := .later }
def SourceNoneCardSaid : Prop := Claim7.holds Tryz.pinned (.plain (OpenSpec.ofChange sourceNoneSpec)) sourceNoneCard

/-- THE TIED CARD OF 'parapetlaw15.SourceLists'. -/
def sourceListsCard : Claim7 := { stood := { row := sourceListsRow, standIns := [], harness := (true, "a2b70849d0d835cd51527e2a70e552c53ea15ea4a1c5a94ccb5b7079b453c1cd"), looks := false }, kinds := [], alts := [], laidByText := true, laidKinds := [.data, .pinned], laidTests := true, laidLooks := .later }
def SourceListsCardSaid : Prop := Claim7.holds Tryz.pinned (.plain (OpenSpec.ofChange sourceListsSpec)) sourceListsCard

/-- THE SECOND FORM's CARD OF 'parapetlaw15.SourceParses'. -/
def sourceParsesUptoCard : Claim7 := { stood := { row := sourceParsesUptoRow, standIns := [], harness := (true, "a2b70849d0d835cd51527e2a70e552c53ea15ea4a1c5a94ccb5b7079b453c1cd"), looks := false }, kinds := [], alts := [], laidByText := true, laidKinds := [.data, .pinned], laidTests := true, laidLooks := .later }
def SourceParsesUptoCardSaid : Prop := Claim7.holds Tryz.pinned (.plain (OpenSpec.upto sourceParsesSpec)) sourceParsesUptoCard

/-- THE SECOND FORM's CARD OF 'parapetlaw15.SourceParts'. -/
def sourcePartsUptoCard : Claim7 := { stood := { row := sourcePartsUptoRow, standIns := [], harness := (true, "a2b70849d0d835cd51527e2a70e552c53ea15ea4a1c5a94ccb5b7079b453c1cd"), looks := false }, kinds := [], alts := [], laidByText := true, laidKinds := [.data, .pinned], laidTests := true, laidLooks := .later }
def SourcePartsUptoCardSaid : Prop := Claim7.holds Tryz.pinned (.plain (OpenSpec.upto sourcePartsSpec)) sourcePartsUptoCard

/-- THE SECOND FORM's CARD OF 'parapetlaw15.SourceMatches'. -/
def sourceMatchesUptoCard : Claim7 := { stood := { row := sourceMatchesUptoRow, standIns := [], harness := (true, "a2b70849d0d835cd51527e2a70e552c53ea15ea4a1c5a94ccb5b7079b453c1cd"), looks := false }, kinds := [], alts := [], laidByText := true, laidKinds := [.data, .pinned], laidTests := true, laidLooks := .later }
def SourceMatchesUptoCardSaid : Prop := Claim7.holds Tryz.pinned (.plain (OpenSpec.upto sourceMatchesSpec)) sourceMatchesUptoCard

/-- THE SECOND FORM's CARD OF 'parapetlaw15.SourceNone'. -/
def sourceNoneUptoCard : Claim7 := { stood := { row := sourceNoneUptoRow, standIns := [], harness := (true, "a2b70849d0d835cd51527e2a70e552c53ea15ea4a1c5a94ccb5b7079b453c1cd"), looks := false }, kinds := [], alts := [], laidByText := true, laidKinds := [.data, .pinned], laidTests := true, laidLooks := .later }
def SourceNoneUptoCardSaid : Prop := Claim7.holds Tryz.pinned (.plain (OpenSpec.upto sourceNoneSpec)) sourceNoneUptoCard

/-- THE SECOND FORM's CARD OF 'parapetlaw15.SourceLists'. -/
def sourceListsUptoCard : Claim7 := { stood := { row := sourceListsUptoRow, standIns := [], harness := (true, "a2b70849d0d835cd51527e2a70e552c53ea15ea4a1c5a94ccb5b7079b453c1cd"), looks := false }, kinds := [], alts := [], laidByText := true, laidKinds := [.data, .pinned], laidTests := true, laidLooks := .later }
def SourceListsUptoCardSaid : Prop := Claim7.holds Tryz.pinned (.plain (OpenSpec.upto sourceListsSpec)) sourceListsUptoCard
end Rows
end Go.Proofs.YtffoolaocbgknaaGreatDoor
