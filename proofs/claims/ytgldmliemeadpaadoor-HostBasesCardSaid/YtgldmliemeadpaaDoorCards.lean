/-
  DERIVED. GIVEN WITH THE SEED: THE CARDS: each row of YtgldmliemeadpaaDoorRows.lean that lists a variable, with what it lists TIED to the program's text (the seventh form; the later family's looks); each row that meets fmt, with fmt's text TOLD by the authors' own Lean function (tested against real Go, not proved from fmt's source: count such statements apart). THE CARD IS WHAT COUNTS. Prove the row's statement (the work); the ties are given (YtgldmliemeadpaaDoorTie.lean); close each card by the builder's one call (the guide's Derived/Test/ToyasCard.lean, 'card_holds'). Laid BY PROGRAM, IN A SANDBOX (cutbox-door.mjs). By AI agents, Wed Nov 11 2026. No macro, syntax, notation, axiom, sorry.
-/
import Derived.Test.YtgldmliemeadpaaDoorRows
import GoSem.ClaimSeven
namespace Go.Proofs.YtgldmliemeadpaaDoor
namespace Rows

/-- THE TIED CARD OF 'parapetlaw10.HostBases'. -/
def hostBasesCard : Claim7 := { stood := { row := hostBasesRow, standIns := [], harness := (true, "ccf384e44133881d1db5ff2743beb9951df44e0a4f7ebeedf98958957f2d0dcb"), looks := false }, kinds := [], alts := [], laidByText := true, laidKinds := [.data, .pinned], laidTests := true, laidLooks := .later }
def HostBasesCardSaid : Prop := Claim7.holds Tryd.pinned (.plain (OpenSpec.ofChange hostBasesSpec)) hostBasesCard

/-- THE TIED CARD OF 'parapetlaw10.HostCases'. -/
def hostCasesCard : Claim7 := { stood := { row := hostCasesRow, standIns := [], harness := (true, "ccf384e44133881d1db5ff2743beb9951df44e0a4f7ebeedf98958957f2d0dcb"), looks := false }, kinds := [], alts := [], laidByText := true, laidKinds := [.data, .pinned], laidTests := true, laidLooks := .later }
def HostCasesCardSaid : Prop := Claim7.holds Tryd.pinned (.plain (OpenSpec.ofChange hostCasesSpec)) hostCasesCard

/-- THE TIED CARD OF 'parapetlaw10.HostParts'. -/
def hostPartsCard : Claim7 := { stood := { row := hostPartsRow, standIns := [], harness := (true, "ccf384e44133881d1db5ff2743beb9951df44e0a4f7ebeedf98958957f2d0dcb"), looks := false }, kinds := [], alts := [], laidByText := true, laidKinds := [.data, .pinned], laidTests := true, laidLooks := .later }
def HostPartsCardSaid : Prop := Claim7.holds Tryd.pinned (.plain (OpenSpec.ofChange hostPartsSpec)) hostPartsCard

/-- THE TIED CARD OF 'parapetlaw10.HostNumbers'. -/
def hostNumbersCard : Claim7 := { stood := { row := hostNumbersRow, standIns := [], harness := (true, "ccf384e44133881d1db5ff2743beb9951df44e0a4f7ebeedf98958957f2d0dcb"), looks := false }, kinds := [], alts := [], laidByText := true, laidKinds := [.data, .pinned], laidTests := true, laidLooks := .later }
def HostNumbersCardSaid : Prop := Claim7.holds Tryd.pinned (.plain (OpenSpec.ofChange hostNumbersSpec)) hostNumbersCard

/-- THE TIED CARD OF 'parapetlaw10.HostParses'. -/
def hostParsesCard : Claim7 := { stood := { row := hostParsesRow, standIns := [], harness := (true, "ccf384e44133881d1db5ff2743beb9951df44e0a4f7ebeedf98958957f2d0dcb"), looks := false }, kinds := [], alts := [], laidByText := true, laidKinds := [.data, .pinned], laidTests := true, laidLooks := .later }
def HostParsesCardSaid : Prop := Claim7.holds Tryd.pinned (.plain (OpenSpec.ofChange hostParsesSpec)) hostParsesCard

/-- THE TIED CARD OF 'parapetlaw10.HostBack'. -/
def hostBackCard : Claim7 := { stood := { row := hostBackRow, standIns := [], harness := (true, "ccf384e44133881d1db5ff2743beb9951df44e0a4f7ebeedf98958957f2d0dcb"), looks := false }, kinds := [], alts := [], laidByText := true, laidKinds := [.data, .pinned], laidTests := true, laidLooks := .later }
def HostBackCardSaid : Prop := Claim7.holds Tryd.pinned (.plain (OpenSpec.ofChange hostBackSpec)) hostBackCard

/-- THE SECOND FORM's CARD OF 'parapetlaw10.HostBases'. -/
def hostBasesUptoCard : Claim7 := { stood := { row := hostBasesUptoRow, standIns := [], harness := (true, "ccf384e44133881d1db5ff2743beb9951df44e0a4f7ebeedf98958957f2d0dcb"), looks := false }, kinds := [], alts := [], laidByText := true, laidKinds := [.data, .pinned], laidTests := true, laidLooks := .later }
def HostBasesUptoCardSaid : Prop := Claim7.holds Tryd.pinned (.plain (OpenSpec.upto hostBasesSpec)) hostBasesUptoCard

/-- THE SECOND FORM's CARD OF 'parapetlaw10.HostCases'. -/
def hostCasesUptoCard : Claim7 := { stood := { row := hostCasesUptoRow, standIns := [], harness := (true, "ccf384e44133881d1db5ff2743beb9951df44e0a4f7ebeedf98958957f2d0dcb"), looks := false }, kinds := [], alts := [], laidByText := true, laidKinds := [.data, .pinned], laidTests := true, laidLooks := .later }
def HostCasesUptoCardSaid : Prop := Claim7.holds Tryd.pinned (.plain (OpenSpec.upto hostCasesSpec)) hostCasesUptoCard

/-- THE SECOND FORM's CARD OF 'parapetlaw10.HostParts'. -/
def hostPartsUptoCard : Claim7 := { stood := { row := hostPartsUptoRow, standIns := [], harness := (true, "ccf384e44133881d1db5ff2743beb9951df44e0a4f7ebeedf98958957f2d0dcb"), looks := false }, kinds := [], alts := [], laidByText := true, laidKinds := [.data, .pinned], laidTests := true, laidLooks := .later }
def HostPartsUptoCardSaid : Prop := Claim7.holds Tryd.pinned (.plain (OpenSpec.upto hostPartsSpec)) hostPartsUptoCard

/-- THE SECOND FORM's CARD OF 'parapetlaw10.HostNumbers'. -/
def hostNumbersUptoCard : Claim7 := { stood := { row := hostNumbersUptoRow, standIns := [], harness := (true, "ccf384e44133881d1db5ff2743beb9951df44e0a4f7ebeedf98958957f2d0dcb"), looks := false }, kinds := [], alts := [], laidByText := true, laidKinds := [.data, .pinned], laidTests := true, laidLooks := .later }
def HostNumbersUptoCardSaid : Prop := Claim7.holds Tryd.pinned (.plain (OpenSpec.upto hostNumbersSpec)) hostNumbersUptoCard

/-- THE SECOND FORM's CARD OF 'parapetlaw10.HostParses'. -/
def hostParsesUptoCard : Claim7 := { stood := { row := hostParsesUptoRow, standIns := [], harness := (true, "ccf384e44133881d1db5ff2743beb9951df44e0a4f7ebeedf98958957f2d0dcb"), looks := false }, kinds := [], alts := [], laidByText := true, laidKinds := [.data, .pinned], laidTests := true, laidLooks := .later }
def HostParsesUptoCardSaid : Prop := Claim7.holds Tryd.pinned (.plain (OpenSpec.upto hostParsesSpec)) hostParsesUptoCard

/-- THE SECOND FORM's CARD OF 'parapetlaw10.HostBack'. -/
def hostBackUptoCard : Claim7 := { stood := { row := hostBackUptoRow, standIns := [], harness := (true, "ccf384e44133881d1db5ff2743beb9951df44e0a4f7ebeedf98958957f2d0dcb"), looks := false }, kinds := [], alts := [], laidByText := true, laidKinds := [.data, .pinned], laidTests := true, laidLooks := .later }
def HostBackUptoCardSaid : Prop := Claim7.holds Tryd.pinned (.plain (OpenSpec.upto hostBackSpec)) hostBackUptoCard
end Rows
end Go.Proofs.YtgldmliemeadpaaDoor
