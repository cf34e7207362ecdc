/-
  DERIVED. GIVEN WITH THE SEED: THE CARDS: each row of YtdhhdjnhjlomkaaGreatDoorRows.lean that lists a variable, with what it lists TIED to the program's text (the seventh form; the later family's looks); each row that meets fmt, with fmt's text TOLD by the authors' own Lean function (tested against real Go, not proved from fmt's source: count such statements apart). THE CARD IS WHAT COUNTS. Prove the row's statement (the work); the ties are given (YtdhhdjnhjlomkaaGreatDoorTie.lean); close each card by the builder's one call (the guide's Derived/Test/ToyasCard.lean, 'card_holds'). Laid BY PROGRAM, IN A SANDBOX (cutbox-door.mjs). By AI agents, Wed Nov 11 2026. No macro, syntax, notation, axiom, sorry.
-/
import Derived.Test.YtdhhdjnhjlomkaaGreatDoorRows
import GoSem.ClaimSeven
namespace Go.Proofs.YtdhhdjnhjlomkaaGreatDoor
namespace Rows

/-- THE TIED CARD OF 'victuallerlaw1.NatText'. -/
def natTextCard : Claim7 := { stood := { row := natTextRow, standIns := [], harness := (true, "91f9a3598aae83fa27b3e10dead8290308ed310b10e3be65998c1b9dbcf2eb27"), looks := true }, kinds := [], alts := [], laidByText := true, laidKinds := [.data, .data, .data, .data, .sentinel, .sentinel, .pinned], laidTests := true, laidLooks := .later }
def NatTextCardSaid : Prop := Claim7.holds Tryz.pinned (.plain (OpenSpec.ofChange natTextSpec)) natTextCard

/-- THE TIED CARD OF 'victuallerlaw1.FracText'. -/
def fracTextCard : Claim7 := { stood := { row := fracTextRow, standIns := [], harness := (true, "91f9a3598aae83fa27b3e10dead8290308ed310b10e3be65998c1b9dbcf2eb27"), looks := true }, kinds := [], alts := [], laidByText := true, laidKinds := [.data, .data, .data, .data, .sentinel, .sentinel, .pinned], laidTests := true, laidLooks := .later }
def FracTextCardSaid : Prop := Claim7.holds Tryz.pinned (.plain (OpenSpec.ofChange fracTextSpec)) fracTextCard

/-- THE TIED CARD OF 'victuallerlaw1.NatLong'. -/
def natLongCard : Claim7 := { stood := { row := natLongRow, standIns := [], harness := (true, "91f9a3598aae83fa27b3e10dead8290308ed310b10e3be65998c1b9dbcf2eb27"), looks := true }, kinds := [], alts := [], laidByText := true, laidKinds := [.data, .data, .data, .data, .sentinel, .sentinel, .pinned], laidTests := true, laidLooks := .later }
def NatLongCardSaid : Prop := Claim7.holds Tryz.pinned (.plain (OpenSpec.ofChange natLongSpec)) natLongCard

/-- THE TIED CARD OF 'victuallerlaw1.NatDiv'. -/
def natDivCard : Claim7 := { stood := { row := natDivRow, standIns := [], harness := (true, "91f9a3598aae83fa27b3e10dead8290308ed310b10e3be65998c1b9dbcf2eb27"), looks := true }, kinds := [], alts := [], laidByText := true, laidKinds := [.data, .data, .data, .data, .sentinel, .sentinel, .pinned], laidTests := true, laidLooks := .later }
def NatDivCardSaid : Prop := Claim7.holds Tryz.pinned (.plain (OpenSpec.ofChange natDivSpec)) natDivCard

/-- THE TIED CARD OF 'victuallerlaw1.NatGcd'. -/
def natGcdCard : Claim7 := { stood := { row := natGcdRow, standIns := [], harness := (true, "91f9a3598aae83fa27b3e10dead8290308ed310b10e3be65998c1b9dbcf2eb27"), looks := true }, kinds := [], alts := [], laidByText := true, laidKinds := [.data, .data, .data, .data, .sentinel, .sentinel, .pinned], laidTests := true, laidLooks := .later }
def NatGcdCardSaid : Prop := Claim7.holds Tryz.pinned (.plain (OpenSpec.ofChange natGcdSpec)) natGcdCard

/-- THE TIED CARD OF 'victuallerlaw1.NatOwn'. -/
def natOwnCard : Claim7 := { stood := { row := natOwnRow, standIns := [], harness := (true, "91f9a3598aae83fa27b3e10dead8290308ed310b10e3be65998c1b9dbcf2eb27"), looks := true }, kinds := [], alts := [], laidByText := true, laidKinds := [.data, .data, .data, .data, .sentinel, .sentinel, .pinned], laidTests := true, laidLooks := .later }
def NatOwnCardSaid : Prop := Claim7.holds Tryz.pinned (.plain (OpenSpec.ofChange natOwnSpec)) natOwnCard

/-- THE TIED CARD OF 'victuallerlaw1.NatFar'. -/
def natFarCard : Claim7 := { stood := { row := natFarRow, standIns := [], harness := (true, "91f9a3598aae83fa27b3e10dead8290308ed310b10e3be65998c1b9dbcf2eb27"), looks := true }, kinds := [], alts := [], laidByText := true, laidKinds := [.data, .data, .data, .data, .sentinel, .sentinel, .pinned], laidTests := true, laidLooks := .later }
def NatFarCardSaid : Prop := Claim7.holds Tryz.pinned (.plain (OpenSpec.ofChange natFarSpec)) natFarCard

/-- THE TIED CARD OF 'victuallerlaw1.LitTurn'. -/
def litTurnCard : Claim7 := { stood := { row := litTurnRow, standIns := [], harness := (true, "91f9a3598aae83fa27b3e10dead8290308ed310b10e3be65998c1b9dbcf2eb27"), looks := true }, kinds := [], alts := [], laidByText := true, laidKinds := [.data, .data, .data, .data, .sentinel, .sentinel, .pinned], laidTests := true, laidLooks := .later }
def LitTurnCardSaid : Prop := Claim7.holds Tryz.pinned (.plain (OpenSpec.ofChange litTurnSpec)) litTurnCard

/-- THE TIED CARD OF 'victuallerlaw1.LitForms'. -/
def litFormsCard : Claim7 := { stood := { row := litFormsRow, standIns := [], harness := (true, "91f9a3598aae83fa27b3e10dead8290308ed310b10e3be65998c1b9dbcf2eb27"), looks := true }, kinds := [], alts := [], laidByText := true, laidKinds := [.data, .data, .data, .data, .sentinel, .sentinel, .pinned], laidTests := true, laidLooks := .later }
def LitFormsCardSaid : Prop := Claim7.holds Tryz.pinned (.plain (OpenSpec.ofChange litFormsSpec)) litFormsCard

/-- THE TIED CARD OF 'victuallerlaw1.FracOwn'. -/
def fracOwnCard : Claim7 := { stood := { row := fracOwnRow, standIns := [], harness := (true, "91f9a3598aae83fa27b3e10dead8290308ed310b10e3be65998c1b9dbcf2eb27"), looks := true }, kinds := [], alts := [], laidByText := true, laidKinds := [.data, .data, .data, .data, .sentinel, .sentinel, .pinned], laidTests := true, laidLooks := .later }
def FracOwnCardSaid : Prop := Claim7.holds Tryz.pinned (.plain (OpenSpec.ofChange fracOwnSpec)) fracOwnCard

/-- THE SECOND FORM's CARD OF 'victuallerlaw1.NatText'. -/
def natTextUptoCard : Claim7 := { stood := { row := natTextUptoRow, standIns := [], harness := (true, "91f9a3598aae83fa27b3e10dead8290308ed310b10e3be65998c1b9dbcf2eb27"), looks := true }, kinds := [], alts := [], laidByText := true, laidKinds := [.data, .data, .data, .data, .sentinel, .sentinel, .pinned], laidTests := true, laidLooks := .later }
def NatTextUptoCardSaid : Prop := Claim7.holds Tryz.pinned (.plain (OpenSpec.upto natTextSpec)) natTextUptoCard

/-- THE SECOND FORM's CARD OF 'victuallerlaw1.FracText'. -/
def fracTextUptoCard : Claim7 := { stood := { row := fracTextUptoRow, standIns := [], harness := (true, "91f9a3598aae83fa27b3e10dead8290308ed310b10e3be65998c1b9dbcf2eb27"), looks := true }, kinds := [], alts := [], laidByText := true, laidKinds := [.data, .data, .data, .data, .sentinel, .sentinel, .pinned], laidTests := true, laidLooks := .later }
def FracTextUptoCardSaid : Prop := Claim7.holds Tryz.pinned (.plain (OpenSpec.upto fracTextSpec)) fracTextUptoCard

/-- THE SECOND FORM's CARD OF 'victuallerlaw1.NatLong'. -/
def natLongUptoCard : Claim7 := { stood := { row := natLongUptoRow, standIns := [], harness := (true, "91f9a3598aae83fa27b3e10dead8290308ed310b10e3be65998c1b9dbcf2eb27"), looks := true }, kinds := [], alts := [], laidByText := true, laidKinds := [.data, .data, .data, .data, .sentinel, .sentinel, .pinned], laidTests := true, laidLooks := .later }
def NatLongUptoCardSaid : Prop := Claim7.holds Tryz.pinned (.plain (OpenSpec.upto natLongSpec)) natLongUptoCard

/-- THE SECOND FORM's CARD OF 'victuallerlaw1.NatDiv'. -/
def natDivUptoCard : Claim7 := { stood := { row := natDivUptoRow, standIns := [], harness := (true, "91f9a3598aae83fa27b3e10dead8290308ed310b10e3be65998c1b9dbcf2eb27"), looks := true }, kinds := [], alts := [], laidByText := true, laidKinds := [.data, .data, .data, .data, .sentinel, .sentinel, .pinned], laidTests := true, laidLooks := .later }
def NatDivUptoCardSaid : Prop := Claim7.holds Tryz.pinned (.plain (OpenSpec.upto natDivSpec)) natDivUptoCard

/-- THE SECOND FORM's CARD OF 'victuallerlaw1.NatGcd'. -/
def natGcdUptoCard : Claim7 := { stood := { row := natGcdUptoRow, standIns := [], harness := (true, "91f9a3598aae83fa27b3e10dead8290308ed310b10e3be65998c1b9dbcf2eb27"), looks := true }, kinds := [], alts := [], laidByText := true, laidKinds := [.data, .data, .data, .data, .sentinel, .sentinel, .pinned], laidTests := true, laidLooks := .later }
def NatGcdUptoCardSaid : Prop := Claim7.holds Tryz.pinned (.plain (OpenSpec.upto natGcdSpec)) natGcdUptoCard

/-- THE SECOND FORM's CARD OF 'victuallerlaw1.NatOwn'. -/
def natOwnUptoCard : Claim7 := { stood := { row := natOwnUptoRow, standIns := [], harness := (true, "91f9a3598aae83fa27b3e10dead8290308ed310b10e3be65998c1b9dbcf2eb27"), looks := true }, kinds := [], alts := [], laidByText := true, laidKinds := [.data, .data, .data, .data, .sentinel, .sentinel, .pinned], laidTests := true, laidLooks := .later }
def NatOwnUptoCardSaid : Prop := Claim7.holds Tryz.pinned (.plain (OpenSpec.upto natOwnSpec)) natOwnUptoCard

/-- THE SECOND FORM's CARD OF 'victuallerlaw1.NatFar'. -/
def natFarUptoCard : Claim7 := { stood := { row := natFarUptoRow, standIns := [], harness := (true, "91f9a3598aae83fa27b3e10dead8290308ed310b10e3be65998c1b9dbcf2eb27"), looks := true }, kinds := [], alts := [], laidByText := true, laidKinds := [.data, .data, .data, .data, .sentinel, .sentinel, .pinned], laidTests := true, laidLooks := .later }
def NatFarUptoCardSaid : Prop := Claim7.holds Tryz.pinned (.plain (OpenSpec.upto natFarSpec)) natFarUptoCard

/-- THE SECOND FORM's CARD OF 'victuallerlaw1.LitTurn'. -/
def litTurnUptoCard : Claim7 := { stood := { row := litTurnUptoRow, standIns := [], harness := (true, "91f9a3598aae83fa27b3e10dead8290308ed310b10e3be65998c1b9dbcf2eb27"), looks := true }, kinds := [], alts := [], laidByText := true, laidKinds := [.data, .data, .data, .data, .sentinel, .sentinel, .pinned], laidTests := true, laidLooks := .later }
def LitTurnUptoCardSaid : Prop := Claim7.holds Tryz.pinned (.plain (OpenSpec.upto litTurnSpec)) litTurnUptoCard

/-- THE SECOND FORM's CARD OF 'victuallerlaw1.LitForms'. -/
def litFormsUptoCard : Claim7 := { stood := { row := litFormsUptoRow, standIns := [], harness := (true, "91f9a3598aae83fa27b3e10dead8290308ed310b10e3be65998c1b9dbcf2eb27"), looks := true }, kinds := [], alts := [], laidByText := true, laidKinds := [.data, .data, .data, .data, .sentinel, .sentinel, .pinned], laidTests := true, laidLooks := .later }
def LitFormsUptoCardSaid : Prop := Claim7.holds Tryz.pinned (.plain (OpenSpec.upto litFormsSpec)) litFormsUptoCard

/-- THE SECOND FORM's CARD OF 'victuallerlaw1.FracOwn'. -/
def fracOwnUptoCard : Claim7 := { stood := { row := fracOwnUptoRow, standIns := [], harness := (true, "91f9a3598aae83fa27b3e10dead8290308ed310b10e3be65998c1b9dbcf2eb27"), looks := true }, kinds := [], alts := [], laidByText := true, laidKinds := [.data, .data, .data, .data, .sentinel, .sentinel, .pinned], laidTests := true, laidLooks := .later }
def FracOwnUptoCardSaid : Prop := Claim7.holds Tryz.pinned (.plain (OpenSpec.upto fracOwnSpec)) fracOwnUptoCard
end Rows
end Go.Proofs.YtdhhdjnhjlomkaaGreatDoor
