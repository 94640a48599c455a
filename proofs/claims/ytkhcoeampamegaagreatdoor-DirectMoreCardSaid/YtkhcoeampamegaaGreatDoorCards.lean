/-
  DERIVED. GIVEN WITH THE SEED: THE CARDS: each row of YtkhcoeampamegaaGreatDoorRows.lean that lists a variable, with what it lists TIED to the program's text (the seventh form; the later family's looks); each row that meets fmt, with fmt's text TOLD by the authors' own Lean function (tested against real Go, not proved from fmt's source: count such statements apart). THE CARD IS WHAT COUNTS. Prove the row's statement (the work); the ties are given (YtkhcoeampamegaaGreatDoorTie.lean); close each card by the builder's one call (the guide's Derived/Test/ToyasCard.lean, 'card_holds'). Laid BY PROGRAM, IN A SANDBOX (cutbox-door.mjs). By AI agents, Wed Nov 11 2026. No macro, syntax, notation, axiom, sorry.
-/
import Derived.Test.YtkhcoeampamegaaGreatDoorRows
import GoSem.ClaimSeven
namespace Go.Proofs.YtkhcoeampamegaaGreatDoor
namespace Rows

/-- THE TIED CARD OF 'parapetlaw16.DirectChains'. -/
def directChainsCard : Claim7 := { stood := { row := directChainsRow, standIns := [], harness := (true, "71bd58f018d9f8a34bd6b531d5bd09e0ff78d1376f6760f837f0e1b4b4d8389a"), looks := false }, kinds := [], alts := [], laidByText := true, laidKinds := [.data, .pinned], laidTests := true, laidLooks := .later }
def DirectChainsCardSaid : Prop := Claim7.holds Tryz.pinned (.plain (OpenSpec.ofChange directChainsSpec)) directChainsCard

/-- THE TIED CARD OF 'parapetlaw16.DirectOther'. -/
def directOtherCard : Claim7 := { stood := { row := directOtherRow, standIns := [], harness := (true, "71bd58f018d9f8a34bd6b531d5bd09e0ff78d1376f6760f837f0e1b4b4d8389a"), looks := false }, kinds := [], alts := [], laidByText := true, laidKinds := [.data, .pinned], laidTests := true, laidLooks := .later }
def DirectOtherCardSaid : Prop := Claim7.holds Tryz.pinned (.plain (OpenSpec.ofChange directOtherSpec)) directOtherCard

/-- THE TIED CARD OF 'parapetlaw16.DirectNone'. -/
def directNoneCard : Claim7 := { stood := { row := directNoneRow, standIns := [], harness := (true, "71bd58f018d9f8a34bd6b531d5bd09e0ff78d1376f6760f837f0e1b4b4d8389a"), looks := false }, kinds := [], alts := [], laidByText := true, laidKinds := [.data, .pinned], laidTests := true, laidLooks := .later }
def DirectNoneCardSaid : Prop := Claim7.holds Tryz.pinned (.plain (OpenSpec.ofChange directNoneSpec)) directNoneCard

/-- THE TIED CARD OF 'parapetlaw16.DirectNearest'. -/
def directNearestCard : Claim7 := { stood := { row := directNearestRow, standIns := [], harness := (true, "71bd58f018d9f8a34bd6b531d5bd09e0ff78d1376f6760f837f0e1b4b4d8389a"), looks := false }, kinds := [], alts := [], laidByText := true, laidKinds := [.data, .pinned], laidTests := true, laidLooks := .later }
def DirectNearestCardSaid : Prop := Claim7.holds Tryz.pinned (.plain (OpenSpec.ofChange directNearestSpec)) directNearestCard

/-- THE TIED CARD OF 'parapetlaw16.DirectAllows'. -/
def directAllowsCard : Claim7 := { stood := { row := directAllowsRow, standIns := [], harness := (true, "71bd58f018d9f8a34bd6b531d5bd09e0ff78d1376f6760f837f0e1b4b4d8389a"), looks := false }, kinds := [], alts := [], laidByText := true, laidKinds := [.data, .pinned], laidTests := true, laidLooks := .later }
def DirectAllowsCardSaid : Prop := Claim7.holds Tryz.pinned (.plain (OpenSpec.ofChange directAllowsSpec)) directAllowsCard

/-- THE TIED CARD OF 'parapetlaw16.DirectMore'. -/
def directMoreCard : Claim7 := { stood := { row := directMoreRow, standIns := [], harness := (true, "71bd58f018d9f8a34bd6b531d5bd09e0ff78d1376f6760f837f0e1b4b4d8389a"), looks := false }, kinds := [], alts := [], laidByText := true, laidKinds := [.data, .pinned], laidTests := true, laidLooks := .later }
def DirectMoreCardSaid : Prop := Claim7.holds Tryz.pinned (.plain (OpenSpec.ofChange directMoreSpec)) directMoreCard

/-- THE SECOND FORM's CARD OF 'parapetlaw16.DirectChains'. -/
def directChainsUptoCard : Claim7 := { stood := { row := directChainsUptoRow, standIns := [], harness := (true, "71bd58f018d9f8a34bd6b531d5bd09e0ff78d1376f6760f837f0e1b4b4d8389a"), looks := false }, kinds := [], alts := [], laidByText := true, laidKinds := [.data, .pinned], laidTests := true, laidLooks := .later }
def DirectChainsUptoCardSaid : Prop := Claim7.holds Tryz.pinned (.plain (OpenSpec.upto directChainsSpec)) directChainsUptoCard

/-- THE SECOND FORM's CARD OF 'parapetlaw16.DirectOther'. -/
def directOtherUptoCard : Claim7 := { stood := { row := directOtherUptoRow, standIns := [], harness := (true, "71bd58f018d9f8a34bd6b531d5bd09e0ff78d1376f6760f837f0e1b4b4d8389a"), looks := false }, kinds := [], alts := [], laidByText := true, laidKinds := [.data, .pinned], laidTests := true, laidLooks := .later }
def DirectOtherUptoCardSaid : Prop := Claim7.holds Tryz.pinned (.plain (OpenSpec.upto directOtherSpec)) directOtherUptoCard

/-- THE SECOND FORM's CARD OF 'parapetlaw16.DirectNone'. -/
def directNoneUptoCard : Claim7 := { stood := { row := directNoneUptoRow, standIns := [], harness := (true, "71bd58f018d9f8a34bd6b531d5bd09e0ff78d1376f6760f837f0e1b4b4d8389a"), looks := false }, kinds := [], alts := [], laidByText := true, laidKinds := [.data, .pinned], laidTests := true, laidLooks := .later }
def DirectNoneUptoCardSaid : Prop := Claim7.holds Tryz.pinned (.plain (OpenSpec.upto directNoneSpec)) directNoneUptoCard

/-- THE SECOND FORM's CARD OF 'parapetlaw16.DirectNearest'. -/
def directNearestUptoCard : Claim7 := { stood := { row := directNearestUptoRow, standIns := [], harness := (true, "71bd58f018d9f8a34bd6b531d5bd09e0ff78d1376f6760f837f0e1b4b4d8389a"), looks := false }, kinds := [], alts := [], laidByText := true, laidKinds := [.data, .pinned], laidTests := true, laidLooks := .later }
def DirectNearestUptoCardSaid : Prop := Claim7.holds Tryz.pinned (.plain (OpenSpec.upto directNearestSpec)) directNearestUptoCard

/-- THE SECOND FORM's CARD OF 'parapetlaw16.DirectAllows'. -/
def directAllowsUptoCard : Claim7 := { stood := { row := directAllowsUptoRow, standIns := [], harness := (true, "71bd58f018d9f8a34bd6b531d5bd09e0ff78d1376f6760f837f0e1b4b4d8389a"), looks := false }, kinds := [], alts := [], laidByText := true, laidKinds := [.data, .pinned], laidTests := true, laidLooks := .later }
def DirectAllowsUptoCardSaid : Prop := Claim7.holds Tryz.pinned (.plain (OpenSpec.upto directAllowsSpec)) directAllowsUptoCard

/-- THE SECOND FORM's CARD OF 'parapetlaw16.DirectMore'. -/
def directMoreUptoCard : Claim7 := { stood := { row := directMoreUptoRow, standIns := [], harness := (true, "71bd58f018d9f8a34bd6b531d5bd09e0ff78d1376f6760f837f0e1b4b4d8389a"), looks := false }, kinds := [], alts := [], laidByText := true, laidKinds := [.data, .pinned], laidTests := true, laidLooks := .later }
def DirectMoreUptoCardSaid : Prop := Claim7.holds Tryz.pinned (.plain (OpenSpec.upto directMoreSpec)) directMoreUptoCard
end Rows
end Go.Proofs.YtkhcoeampamegaaGreatDoor
