/-
  DERIVED. GIVEN WITH THE SEED: THE CARDS: each row of YtknkokkgefcdbaaDoorRows.lean that lists a variable, with what it lists TIED to the program's text (the seventh form; the later family's looks); each row that meets fmt, with fmt's text TOLD by the authors' own Lean function (tested against real Go, not proved from fmt's source: count such statements apart). THE CARD IS WHAT COUNTS. Prove the row's statement (the work); the ties are given (YtknkokkgefcdbaaDoorTie.lean); close each card by the builder's one call (the guide's Derived/Test/ToyasCard.lean, 'card_holds'). Laid BY PROGRAM, IN A SANDBOX (cutbox-door.mjs). By AI agents, Wed Nov 11 2026. No macro, syntax, notation, axiom, sorry.
-/
import Derived.Test.YtknkokkgefcdbaaDoorRows
import GoSem.ClaimSeven
namespace Go.Proofs.YtknkokkgefcdbaaDoor
namespace Rows

/-- THE TIED CARD OF 'parapetlaw18.MixedPlain'. -/
def mixedPlainCard : Claim7 := { stood := { row := mixedPlainRow, standIns := [], harness := (true, "ff46f1dd29bbb785c9659ab63e2243e812bd98d63b48a6f021e3c52555dde326"), looks := false }, kinds := [], alts := [], laidByText := true, laidKinds := [.data, .pinned], laidTests := true, laidLooks := .later }
def MixedPlainCardSaid : Prop := Claim7.holds Tryd.pinned (.plain (OpenSpec.ofChange mixedPlainSpec)) mixedPlainCard

/-- THE TIED CARD OF 'parapetlaw18.MixedSafe'. -/
def mixedSafeCard : Claim7 := { stood := { row := mixedSafeRow, standIns := [], harness := (true, "ff46f1dd29bbb785c9659ab63e2243e812bd98d63b48a6f021e3c52555dde326"), looks := false }, kinds := [], alts := [], laidByText := true, laidKinds := [.data, .pinned], laidTests := true, laidLooks := .later }
def MixedSafeCardSaid : Prop := Claim7.holds Tryd.pinned (.plain (OpenSpec.ofChange mixedSafeSpec)) mixedSafeCard

/-- THE TIED CARD OF 'parapetlaw18.MixedClasses'. -/
def mixedClassesCard : Claim7 := { stood := { row := mixedClassesRow, standIns := [], harness := (true, "ff46f1dd29bbb785c9659ab63e2243e812bd98d63b48a6f021e3c52555dde326"), looks := false }, kinds := [], alts := [], laidByText := true, laidKinds := [.data, .pinned], laidTests := true, laidLooks := .later }
def MixedClassesCardSaid : Prop := Claim7.holds Tryd.pinned (.plain (OpenSpec.ofChange mixedClassesSpec)) mixedClassesCard

/-- THE TIED CARD OF 'parapetlaw18.MixedUpgrades'. -/
def mixedUpgradesCard : Claim7 := { stood := { row := mixedUpgradesRow, standIns := [], harness := (true, "ff46f1dd29bbb785c9659ab63e2243e812bd98d63b48a6f021e3c52555dde326"), looks := false }, kinds := [], alts := [], laidByText := true, laidKinds := [.data, .pinned], laidTests := true, laidLooks := .later }
def MixedUpgradesCardSaid : Prop := Claim7.holds Tryd.pinned (.plain (OpenSpec.ofChange mixedUpgradesSpec)) mixedUpgradesCard

/-- THE TIED CARD OF 'parapetlaw18.MixedMedia'. -/
def mixedMediaCard : Claim7 := { stood := { row := mixedMediaRow, standIns := [], harness := (true, "ff46f1dd29bbb785c9659ab63e2243e812bd98d63b48a6f021e3c52555dde326"), looks := false }, kinds := [], alts := [], laidByText := true, laidKinds := [.data, .pinned], laidTests := true, laidLooks := .later }
def MixedMediaCardSaid : Prop := Claim7.holds Tryd.pinned (.plain (OpenSpec.ofChange mixedMediaSpec)) mixedMediaCard

/-- THE SECOND FORM's CARD OF 'parapetlaw18.MixedPlain'. -/
def mixedPlainUptoCard : Claim7 := { stood := { row := mixedPlainUptoRow, standIns := [], harness := (true, "ff46f1dd29bbb785c9659ab63e2243e812bd98d63b48a6f021e3c52555dde326"), looks := false }, kinds := [], alts := [], laidByText := true, laidKinds := [.data, .pinned], laidTests := true, laidLooks := .later }
def MixedPlainUptoCardSaid : Prop := Claim7.holds Tryd.pinned (.plain (OpenSpec.upto mixedPlainSpec)) mixedPlainUptoCard

/-- THE SECOND FORM's CARD OF 'parapetlaw18.MixedSafe'. -/
def mixedSafeUptoCard : Claim7 := { stood := { row := mixedSafeUptoRow, standIns := [], harness := (true, "ff46f1dd29bbb785c9659ab63e2243e812bd98d63b48a6f021e3c52555dde326"), looks := false }, kinds := [], alts := [], laidByText := true, laidKinds := [.data, .pinned], laidTests := true, laidLooks := .later }
def MixedSafeUptoCardSaid : Prop := Claim7.holds Tryd.pinned (.plain (OpenSpec.upto mixedSafeSpec)) mixedSafeUptoCard

/-- THE SECOND FORM's CARD OF 'parapetlaw18.MixedClasses'. -/
def mixedClassesUptoCard : Claim7 := { stood := { row := mixedClassesUptoRow, standIns := [], harness := (true, "ff46f1dd29bbb785c9659ab63e2243e812bd98d63b48a6f021e3c52555dde326"), looks := false }, kinds := [], alts := [], laidByText := true, laidKinds := [.data, .pinned], laidTests := true, laidLooks := .later }
def MixedClassesUptoCardSaid : Prop := Claim7.holds Tryd.pinned (.plain (OpenSpec.upto mixedClassesSpec)) mixedClassesUptoCard

/-- THE SECOND FORM's CARD OF 'parapetlaw18.MixedUpgrades'. -/
def mixedUpgradesUptoCard : Claim7 := { stood := { row := mixedUpgradesUptoRow, standIns := [], harness := (true, "ff46f1dd29bbb785c9659ab63e2243e812bd98d63b48a6f021e3c52555dde326"), looks := false }, kinds := [], alts := [], laidByText := true, laidKinds := [.data, .pinned], laidTests := true, laidLooks := .later }
def MixedUpgradesUptoCardSaid : Prop := Claim7.holds Tryd.pinned (.plain (OpenSpec.upto mixedUpgradesSpec)) mixedUpgradesUptoCard

/-- THE SECOND FORM's CARD OF 'parapetlaw18.MixedMedia'. -/
def mixedMediaUptoCard : Claim7 := { stood := { row := mixedMediaUptoRow, standIns := [], harness := (true, "ff46f1dd29bbb785c9659ab63e2243e812bd98d63b48a6f021e3c52555dde326"), looks := false }, kinds := [], alts := [], laidByText := true, laidKinds := [.data, .pinned], laidTests := true, laidLooks := .later }
def MixedMediaUptoCardSaid : Prop := Claim7.holds Tryd.pinned (.plain (OpenSpec.upto mixedMediaSpec)) mixedMediaUptoCard
end Rows
end Go.Proofs.YtknkokkgefcdbaaDoor
