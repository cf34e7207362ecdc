/-
  DERIVED. GIVEN WITH THE SEED: THE CARDS: each row of YtflfgjhdofphnabGreatDoorRows.lean that lists a variable, with what it lists TIED to the program's text (the seventh form; the later family's looks); each row that meets fmt, with fmt's text TOLD by the authors' own Lean function (tested against real Go, not proved from fmt's source: count such statements apart). THE CARD IS WHAT COUNTS. Prove the row's statement (the work); the ties are given (YtflfgjhdofphnabGreatDoorTie.lean); close each card by the builder's one call (the guide's Derived/Test/ToyasCard.lean, 'card_holds'). Laid BY PROGRAM, IN A SANDBOX (cutbox-door.mjs). By AI agents, Wed Nov 11 2026. No macro, syntax, notation, axiom, sorry.
-/
import Derived.Test.YtflfgjhdofphnabGreatDoorRows
import GoSem.ClaimSeven
namespace Go.Proofs.YtflfgjhdofphnabGreatDoor
namespace Rows

/-- THE TIED CARD OF 'victuallerlaw1.BitsSigned'. -/
def bitsSignedCard : Claim7 := { stood := { row := bitsSignedRow, standIns := [], harness := (true, "4e2e242abf340230a50c987167b28f649843ab9759a87f26d6c4988280fab737"), looks := true }, kinds := [], alts := [], laidByText := true, laidKinds := [.data, .data, .data, .data, .sentinel, .sentinel, .pinned], laidTests := true, laidLooks := .later }
def BitsSignedCardSaid : Prop := Claim7.holds Tryz.pinned (.plain (OpenSpec.ofChange bitsSignedSpec)) bitsSignedCard

/-- THE TIED CARD OF 'victuallerlaw1.BitsNarrow'. -/
def bitsNarrowCard : Claim7 := { stood := { row := bitsNarrowRow, standIns := [], harness := (true, "4e2e242abf340230a50c987167b28f649843ab9759a87f26d6c4988280fab737"), looks := true }, kinds := [], alts := [], laidByText := true, laidKinds := [.data, .data, .data, .data, .sentinel, .sentinel, .pinned], laidTests := true, laidLooks := .later }
def BitsNarrowCardSaid : Prop := Claim7.holds Tryz.pinned (.plain (OpenSpec.ofChange bitsNarrowSpec)) bitsNarrowCard

/-- THE TIED CARD OF 'victuallerlaw1.BitsCarry'. -/
def bitsCarryCard : Claim7 := { stood := { row := bitsCarryRow, standIns := [], harness := (true, "4e2e242abf340230a50c987167b28f649843ab9759a87f26d6c4988280fab737"), looks := true }, kinds := [], alts := [], laidByText := true, laidKinds := [.data, .data, .data, .data, .sentinel, .sentinel, .pinned], laidTests := true, laidLooks := .later }
def BitsCarryCardSaid : Prop := Claim7.holds Tryz.pinned (.plain (OpenSpec.ofChange bitsCarrySpec)) bitsCarryCard

/-- THE TIED CARD OF 'victuallerlaw1.NatOwn'. -/
def natOwnCard : Claim7 := { stood := { row := natOwnRow, standIns := [], harness := (true, "4e2e242abf340230a50c987167b28f649843ab9759a87f26d6c4988280fab737"), looks := true }, kinds := [], alts := [], laidByText := true, laidKinds := [.data, .data, .data, .data, .sentinel, .sentinel, .pinned], laidTests := true, laidLooks := .later }
def NatOwnCardSaid : Prop := Claim7.holds Tryz.pinned (.plain (OpenSpec.ofChange natOwnSpec)) natOwnCard

/-- THE TIED CARD OF 'victuallerlaw1.NatFar'. -/
def natFarCard : Claim7 := { stood := { row := natFarRow, standIns := [], harness := (true, "4e2e242abf340230a50c987167b28f649843ab9759a87f26d6c4988280fab737"), looks := true }, kinds := [], alts := [], laidByText := true, laidKinds := [.data, .data, .data, .data, .sentinel, .sentinel, .pinned], laidTests := true, laidLooks := .later }
def NatFarCardSaid : Prop := Claim7.holds Tryz.pinned (.plain (OpenSpec.ofChange natFarSpec)) natFarCard

/-- THE TIED CARD OF 'victuallerlaw1.MatTall'. -/
def matTallCard : Claim7 := { stood := { row := matTallRow, standIns := [], harness := (true, "4e2e242abf340230a50c987167b28f649843ab9759a87f26d6c4988280fab737"), looks := true }, kinds := [], alts := [], laidByText := true, laidKinds := [.data, .data, .data, .data, .sentinel, .sentinel, .pinned], laidTests := true, laidLooks := .later }
def MatTallCardSaid : Prop := Claim7.holds Tryz.pinned (.plain (OpenSpec.ofChange matTallSpec)) matTallCard

/-- THE TIED CARD OF 'victuallerlaw1.MatNone'. -/
def matNoneCard : Claim7 := { stood := { row := matNoneRow, standIns := [], harness := (true, "4e2e242abf340230a50c987167b28f649843ab9759a87f26d6c4988280fab737"), looks := true }, kinds := [], alts := [], laidByText := true, laidKinds := [.data, .data, .data, .data, .sentinel, .sentinel, .pinned], laidTests := true, laidLooks := .later }
def MatNoneCardSaid : Prop := Claim7.holds Tryz.pinned (.plain (OpenSpec.ofChange matNoneSpec)) matNoneCard

/-- THE TIED CARD OF 'victuallerlaw1.VecOwn'. -/
def vecOwnCard : Claim7 := { stood := { row := vecOwnRow, standIns := [], harness := (true, "4e2e242abf340230a50c987167b28f649843ab9759a87f26d6c4988280fab737"), looks := true }, kinds := [], alts := [], laidByText := true, laidKinds := [.data, .data, .data, .data, .sentinel, .sentinel, .pinned], laidTests := true, laidLooks := .later }
def VecOwnCardSaid : Prop := Claim7.holds Tryz.pinned (.plain (OpenSpec.ofChange vecOwnSpec)) vecOwnCard

/-- THE TIED CARD OF 'victuallerlaw1.VecMat'. -/
def vecMatCard : Claim7 := { stood := { row := vecMatRow, standIns := [], harness := (true, "4e2e242abf340230a50c987167b28f649843ab9759a87f26d6c4988280fab737"), looks := true }, kinds := [], alts := [], laidByText := true, laidKinds := [.data, .data, .data, .data, .sentinel, .sentinel, .pinned], laidTests := true, laidLooks := .later }
def VecMatCardSaid : Prop := Claim7.holds Tryz.pinned (.plain (OpenSpec.ofChange vecMatSpec)) vecMatCard

/-- THE TIED CARD OF 'victuallerlaw1.VecAll'. -/
def vecAllCard : Claim7 := { stood := { row := vecAllRow, standIns := [], harness := (true, "4e2e242abf340230a50c987167b28f649843ab9759a87f26d6c4988280fab737"), looks := true }, kinds := [], alts := [], laidByText := true, laidKinds := [.data, .data, .data, .data, .sentinel, .sentinel, .pinned], laidTests := true, laidLooks := .later }
def VecAllCardSaid : Prop := Claim7.holds Tryz.pinned (.plain (OpenSpec.ofChange vecAllSpec)) vecAllCard

/-- THE TIED CARD OF 'victuallerlaw1.VecLaws'. -/
def vecLawsCard : Claim7 := { stood := { row := vecLawsRow, standIns := [], harness := (true, "4e2e242abf340230a50c987167b28f649843ab9759a87f26d6c4988280fab737"), looks := true }, kinds := [], alts := [], laidByText := true, laidKinds := [.data, .data, .data, .data, .sentinel, .sentinel, .pinned], laidTests := true, laidLooks := .later }
def VecLawsCardSaid : Prop := Claim7.holds Tryz.pinned (.plain (OpenSpec.ofChange vecLawsSpec)) vecLawsCard

/-- THE TIED CARD OF 'victuallerlaw1.BitsEdges'. -/
def bitsEdgesCard : Claim7 := { stood := { row := bitsEdgesRow, standIns := [], harness := (true, "4e2e242abf340230a50c987167b28f649843ab9759a87f26d6c4988280fab737"), looks := true }, kinds := [], alts := [], laidByText := true, laidKinds := [.data, .data, .data, .data, .sentinel, .sentinel, .pinned], laidTests := true, laidLooks := .later }
def BitsEdgesCardSaid : Prop := Claim7.holds Tryz.pinned (.plain (OpenSpec.ofChange bitsEdgesSpec)) bitsEdgesCard

/-- THE SECOND FORM's CARD OF 'victuallerlaw1.BitsSigned'. -/
def bitsSignedUptoCard : Claim7 := { stood := { row := bitsSignedUptoRow, standIns := [], harness := (true, "4e2e242abf340230a50c987167b28f649843ab9759a87f26d6c4988280fab737"), looks := true }, kinds := [], alts := [], laidByText := true, laidKinds := [.data, .data, .data, .data, .sentinel, .sentinel, .pinned], laidTests := true, laidLooks := .later }
def BitsSignedUptoCardSaid : Prop := Claim7.holds Tryz.pinned (.plain (OpenSpec.upto bitsSignedSpec)) bitsSignedUptoCard

/-- THE SECOND FORM's CARD OF 'victuallerlaw1.BitsNarrow'. -/
def bitsNarrowUptoCard : Claim7 := { stood := { row := bitsNarrowUptoRow, standIns := [], harness := (true, "4e2e242abf340230a50c987167b28f649843ab9759a87f26d6c4988280fab737"), looks := true }, kinds := [], alts := [], laidByText := true, laidKinds := [.data, .data, .data, .data, .sentinel, .sentinel, .pinned], laidTests := true, laidLooks := .later }
def BitsNarrowUptoCardSaid : Prop := Claim7.holds Tryz.pinned (.plain (OpenSpec.upto bitsNarrowSpec)) bitsNarrowUptoCard

/-- THE SECOND FORM's CARD OF 'victuallerlaw1.BitsCarry'. -/
def bitsCarryUptoCard : Claim7 := { stood := { row := bitsCarryUptoRow, standIns := [], harness := (true, "4e2e242abf340230a50c987167b28f649843ab9759a87f26d6c4988280fab737"), looks := true }, kinds := [], alts := [], laidByText := true, laidKinds := [.data, .data, .data, .data, .sentinel, .sentinel, .pinned], laidTests := true, laidLooks := .later }
def BitsCarryUptoCardSaid : Prop := Claim7.holds Tryz.pinned (.plain (OpenSpec.upto bitsCarrySpec)) bitsCarryUptoCard

/-- THE SECOND FORM's CARD OF 'victuallerlaw1.NatOwn'. -/
def natOwnUptoCard : Claim7 := { stood := { row := natOwnUptoRow, standIns := [], harness := (true, "4e2e242abf340230a50c987167b28f649843ab9759a87f26d6c4988280fab737"), looks := true }, kinds := [], alts := [], laidByText := true, laidKinds := [.data, .data, .data, .data, .sentinel, .sentinel, .pinned], laidTests := true, laidLooks := .later }
def NatOwnUptoCardSaid : Prop := Claim7.holds Tryz.pinned (.plain (OpenSpec.upto natOwnSpec)) natOwnUptoCard

/-- THE SECOND FORM's CARD OF 'victuallerlaw1.NatFar'. -/
def natFarUptoCard : Claim7 := { stood := { row := natFarUptoRow, standIns := [], harness := (true, "4e2e242abf340230a50c987167b28f649843ab9759a87f26d6c4988280fab737"), looks := true }, kinds := [], alts := [], laidByText := true, laidKinds := [.data, .data, .data, .data, .sentinel, .sentinel, .pinned], laidTests := true, laidLooks := .later }
def NatFarUptoCardSaid : Prop := Claim7.holds Tryz.pinned (.plain (OpenSpec.upto natFarSpec)) natFarUptoCard

/-- THE SECOND FORM's CARD OF 'victuallerlaw1.MatTall'. -/
def matTallUptoCard : Claim7 := { stood := { row := matTallUptoRow, standIns := [], harness := (true, "4e2e242abf340230a50c987167b28f649843ab9759a87f26d6c4988280fab737"), looks := true }, kinds := [], alts := [], laidByText := true, laidKinds := [.data, .data, .data, .data, .sentinel, .sentinel, .pinned], laidTests := true, laidLooks := .later }
def MatTallUptoCardSaid : Prop := Claim7.holds Tryz.pinned (.plain (OpenSpec.upto matTallSpec)) matTallUptoCard

/-- THE SECOND FORM's CARD OF 'victuallerlaw1.MatNone'. -/
def matNoneUptoCard : Claim7 := { stood := { row := matNoneUptoRow, standIns := [], harness := (true, "4e2e242abf340230a50c987167b28f649843ab9759a87f26d6c4988280fab737"), looks := true }, kinds := [], alts := [], laidByText := true, laidKinds := [.data, .data, .data, .data, .sentinel, .sentinel, .pinned], laidTests := true, laidLooks := .later }
def MatNoneUptoCardSaid : Prop := Claim7.holds Tryz.pinned (.plain (OpenSpec.upto matNoneSpec)) matNoneUptoCard

/-- THE SECOND FORM's CARD OF 'victuallerlaw1.VecOwn'. -/
def vecOwnUptoCard : Claim7 := { stood := { row := vecOwnUptoRow, standIns := [], harness := (true, "4e2e242abf340230a50c987167b28f649843ab9759a87f26d6c4988280fab737"), looks := true }, kinds := [], alts := [], laidByText := true, laidKinds := [.data, .data, .data, .data, .sentinel, .sentinel, .pinned], laidTests := true, laidLooks := .later }
def VecOwnUptoCardSaid : Prop := Claim7.holds Tryz.pinned (.plain (OpenSpec.upto vecOwnSpec)) vecOwnUptoCard

/-- THE SECOND FORM's CARD OF 'victuallerlaw1.VecMat'. -/
def vecMatUptoCard : Claim7 := { stood := { row := vecMatUptoRow, standIns := [], harness := (true, "4e2e242abf340230a50c987167b28f649843ab9759a87f26d6c4988280fab737"), looks := true }, kinds := [], alts := [], laidByText := true, laidKinds := [.data, .data, .data, .data, .sentinel, .sentinel, .pinned], laidTests := true, laidLooks := .later }
def VecMatUptoCardSaid : Prop := Claim7.holds Tryz.pinned (.plain (OpenSpec.upto vecMatSpec)) vecMatUptoCard

/-- THE SECOND FORM's CARD OF 'victuallerlaw1.VecAll'. -/
def vecAllUptoCard : Claim7 := { stood := { row := vecAllUptoRow, standIns := [], harness := (true, "4e2e242abf340230a50c987167b28f649843ab9759a87f26d6c4988280fab737"), looks := true }, kinds := [], alts := [], laidByText := true, laidKinds := [.data, .data, .data, .data, .sentinel, .sentinel, .pinned], laidTests := true, laidLooks := .later }
def VecAllUptoCardSaid : Prop := Claim7.holds Tryz.pinned (.plain (OpenSpec.upto vecAllSpec)) vecAllUptoCard

/-- THE SECOND FORM's CARD OF 'victuallerlaw1.VecLaws'. -/
def vecLawsUptoCard : Claim7 := { stood := { row := vecLawsUptoRow, standIns := [], harness := (true, "4e2e242abf340230a50c987167b28f649843ab9759a87f26d6c4988280fab737"), looks := true }, kinds := [], alts := [], laidByText := true, laidKinds := [.data, .data, .data, .data, .sentinel, .sentinel, .pinned], laidTests := true, laidLooks := .later }
def VecLawsUptoCardSaid : Prop := Claim7.holds Tryz.pinned (.plain (OpenSpec.upto vecLawsSpec)) vecLawsUptoCard

/-- THE SECOND FORM's CARD OF 'victuallerlaw1.BitsEdges'. -/
def bitsEdgesUptoCard : Claim7 := { stood := { row := bitsEdgesUptoRow, standIns := [], harness := (true, "4e2e242abf340230a50c987167b28f649843ab9759a87f26d6c4988280fab737"), looks := true }, kinds := [], alts := [], laidByText := true, laidKinds := [.data, .data, .data, .data, .sentinel, .sentinel, .pinned], laidTests := true, laidLooks := .later }
def BitsEdgesUptoCardSaid : Prop := Claim7.holds Tryz.pinned (.plain (OpenSpec.upto bitsEdgesSpec)) bitsEdgesUptoCard
end Rows
end Go.Proofs.YtflfgjhdofphnabGreatDoor
