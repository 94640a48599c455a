/-
  DERIVED. GIVEN WITH THE SEED: THE CARDS: each row of YtopejcaiabebpaaDoorRows.lean that lists a variable, with what it lists TIED to the program's text (the seventh form; the later family's looks); each row that meets fmt, with fmt's text TOLD by the authors' own Lean function (tested against real Go, not proved from fmt's source: count such statements apart). THE CARD IS WHAT COUNTS. Prove the row's statement (the work); the ties are given (YtopejcaiabebpaaDoorTie.lean); close each card by the builder's one call (the guide's Derived/Test/ToyasCard.lean, 'card_holds'). Laid BY PROGRAM, IN A SANDBOX (cutbox-door.mjs). By AI agents, Wed Nov 11 2026. No macro, syntax, notation, axiom, sorry.
-/
import Derived.Test.YtopejcaiabebpaaDoorRows
import GoSem.ClaimSeven
namespace Go.Proofs.YtopejcaiabebpaaDoor
namespace Rows

/-- THE TIED CARD OF 'parapetlaw14.CspParses'. -/
def cspParsesCard : Claim7 := { stood := { row := cspParsesRow, standIns := [], harness := (true, "aea079993d6d1717d43ff603112de9688fb9bf589a0a6073981553b427d16bc2"), looks := false }, kinds := [], alts := [], laidByText := true, laidKinds := [.data, .pinned], laidTests := true, laidLooks := .later }
def CspParsesCardSaid : Prop := Claim7.holds Tryd.pinned (.plain (OpenSpec.ofChange cspParsesSpec)) cspParsesCard

/-- THE TIED CARD OF 'parapetlaw14.CspFirst'. -/
def cspFirstCard : Claim7 := { stood := { row := cspFirstRow, standIns := [], harness := (true, "aea079993d6d1717d43ff603112de9688fb9bf589a0a6073981553b427d16bc2"), looks := false }, kinds := [], alts := [], laidByText := true, laidKinds := [.data, .pinned], laidTests := true, laidLooks := .later }
def CspFirstCardSaid : Prop := Claim7.holds Tryd.pinned (.plain (OpenSpec.ofChange cspFirstSpec)) cspFirstCard

/-- THE TIED CARD OF 'parapetlaw14.CspMany'. -/
def cspManyCard : Claim7 := { stood := { row := cspManyRow, standIns := [], harness := (true, "aea079993d6d1717d43ff603112de9688fb9bf589a0a6073981553b427d16bc2"), looks := false }, kinds := [], alts := [], laidByText := true, laidKinds := [.data, .pinned], laidTests := true, laidLooks := .later }
def CspManyCardSaid : Prop := Claim7.holds Tryd.pinned (.plain (OpenSpec.ofChange cspManySpec)) cspManyCard

/-- THE TIED CARD OF 'parapetlaw14.CspFinds'. -/
def cspFindsCard : Claim7 := { stood := { row := cspFindsRow, standIns := [], harness := (true, "aea079993d6d1717d43ff603112de9688fb9bf589a0a6073981553b427d16bc2"), looks := false }, kinds := [], alts := [], laidByText := true, laidKinds := [.data, .pinned], laidTests := true, laidLooks := .later }
def CspFindsCardSaid : Prop := Claim7.holds Tryd.pinned (.plain (OpenSpec.ofChange cspFindsSpec)) cspFindsCard

/-- THE TIED CARD OF 'parapetlaw14.CspBack'. -/
def cspBackCard : Claim7 := { stood := { row := cspBackRow, standIns := [], harness := (true, "aea079993d6d1717d43ff603112de9688fb9bf589a0a6073981553b427d16bc2"), looks := false }, kinds := [], alts := [], laidByText := true, laidKinds := [.data, .pinned], laidTests := true, laidLooks := .later }
def CspBackCardSaid : Prop := Claim7.holds Tryd.pinned (.plain (OpenSpec.ofChange cspBackSpec)) cspBackCard

/-- THE SECOND FORM's CARD OF 'parapetlaw14.CspParses'. -/
def cspParsesUptoCard : Claim7 := { stood := { row := cspParsesUptoRow, standIns := [], harness := (true, "aea079993d6d1717d43ff603112de9688fb9bf589a0a6073981553b427d16bc2"), looks := false }, kinds := [], alts := [], laidByText := true, laidKinds := [.data, .pinned], laidTests := true, laidLooks := .later }
def CspParsesUptoCardSaid : Prop := Claim7.holds Tryd.pinned (.plain (OpenSpec.upto cspParsesSpec)) cspParsesUptoCard

/-- THE SECOND FORM's CARD OF 'parapetlaw14.CspFirst'. -/
def cspFirstUptoCard : Claim7 := { stood := { row := cspFirstUptoRow, standIns := [], harness := (true, "aea079993d6d1717d43ff603112de9688fb9bf589a0a6073981553b427d16bc2"), looks := false }, kinds := [], alts := [], laidByText := true, laidKinds := [.data, .pinned], laidTests := true, laidLooks := .later }
def CspFirstUptoCardSaid : Prop := Claim7.holds Tryd.pinned (.plain (OpenSpec.upto cspFirstSpec)) cspFirstUptoCard

/-- THE SECOND FORM's CARD OF 'parapetlaw14.CspMany'. -/
def cspManyUptoCard : Claim7 := { stood := { row := cspManyUptoRow, standIns := [], harness := (true, "aea079993d6d1717d43ff603112de9688fb9bf589a0a6073981553b427d16bc2"), looks := false }, kinds := [], alts := [], laidByText := true, laidKinds := [.data, .pinned], laidTests := true, laidLooks := .later }
def CspManyUptoCardSaid : Prop := Claim7.holds Tryd.pinned (.plain (OpenSpec.upto cspManySpec)) cspManyUptoCard

/-- THE SECOND FORM's CARD OF 'parapetlaw14.CspFinds'. -/
def cspFindsUptoCard : Claim7 := { stood := { row := cspFindsUptoRow, standIns := [], harness := (true, "aea079993d6d1717d43ff603112de9688fb9bf589a0a6073981553b427d16bc2"), looks := false }, kinds := [], alts := [], laidByText := true, laidKinds := [.data, .pinned], laidTests := true, laidLooks := .later }
def CspFindsUptoCardSaid : Prop := Claim7.holds Tryd.pinned (.plain (OpenSpec.upto cspFindsSpec)) cspFindsUptoCard

/-- THE SECOND FORM's CARD OF 'parapetlaw14.CspBack'. -/
def cspBackUptoCard : Claim7 := { stood := { row := cspBackUptoRow, standIns := [], harness := (true, "aea079993d6d1717d43ff603112de9688fb9bf589a0a6073981553b427d16bc2"), looks := false }, kinds := [], alts := [], laidByText := true, laidKinds := [.data, .pinned], laidTests := true, laidLooks := .later }
def CspBackUptoCardSaid : Prop := Claim7.holds Tryd.pinned (.plain (OpenSpec.upto cspBackSpec)) cspBackUptoCard
end Rows
end Go.Proofs.YtopejcaiabebpaaDoor
