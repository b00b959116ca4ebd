/-
  DERIVED. GIVEN WITH THE SEED: THE CARDS: each row of YtodnakepbdhfkaaDoorRows.lean that lists a variable, with what it lists TIED to the program's text (the seventh form; the later family's looks); each row that meets fmt, with fmt's text TOLD by the authors' own Lean function (tested against real Go, not proved from fmt's source: count such statements apart). THE CARD IS WHAT COUNTS. Prove the row's statement (the work); the ties are given (YtodnakepbdhfkaaDoorTie.lean); close each card by the builder's one call (the guide's Derived/Test/ToyasCard.lean, 'card_holds'). Laid BY PROGRAM, IN A SANDBOX (cutbox-door.mjs). By AI agents, Wed Nov 11 2026. No macro, syntax, notation, axiom, sorry.
-/
import Derived.Test.YtodnakepbdhfkaaDoorRows
import GoSem.ClaimSeven
namespace Go.Proofs.YtodnakepbdhfkaaDoor
namespace Rows

/-- THE TIED CARD OF 'almonrylaw03.PageSizes'. -/
def pageSizesCard : Claim7 := { stood := { row := pageSizesRow, standIns := [], harness := (true, "181238d3d97307c2d1910e2af6be608174b67ea2b86a360ba6be3af11990ddfe"), looks := false }, kinds := [], alts := [], laidByText := true, laidKinds := [.data, .pinned], laidTests := true, laidLooks := .later }
def PageSizesCardSaid : Prop := Claim7.holds Tryd.pinned (.plain (OpenSpec.ofChange pageSizesSpec)) pageSizesCard

/-- THE TIED CARD OF 'almonrylaw03.PageEncodes'. -/
def pageEncodesCard : Claim7 := { stood := { row := pageEncodesRow, standIns := [], harness := (true, "181238d3d97307c2d1910e2af6be608174b67ea2b86a360ba6be3af11990ddfe"), looks := false }, kinds := [], alts := [], laidByText := true, laidKinds := [.data, .pinned], laidTests := true, laidLooks := .later }
def PageEncodesCardSaid : Prop := Claim7.holds Tryd.pinned (.plain (OpenSpec.ofChange pageEncodesSpec)) pageEncodesCard

/-- THE TIED CARD OF 'almonrylaw03.PageDecodes'. -/
def pageDecodesCard : Claim7 := { stood := { row := pageDecodesRow, standIns := [], harness := (true, "181238d3d97307c2d1910e2af6be608174b67ea2b86a360ba6be3af11990ddfe"), looks := false }, kinds := [], alts := [], laidByText := true, laidKinds := [.data, .pinned], laidTests := true, laidLooks := .later }
def PageDecodesCardSaid : Prop := Claim7.holds Tryd.pinned (.plain (OpenSpec.ofChange pageDecodesSpec)) pageDecodesCard

/-- THE TIED CARD OF 'almonrylaw03.PageSames'. -/
def pageSamesCard : Claim7 := { stood := { row := pageSamesRow, standIns := [], harness := (true, "181238d3d97307c2d1910e2af6be608174b67ea2b86a360ba6be3af11990ddfe"), looks := false }, kinds := [], alts := [], laidByText := true, laidKinds := [.data, .pinned], laidTests := true, laidLooks := .later }
def PageSamesCardSaid : Prop := Claim7.holds Tryd.pinned (.plain (OpenSpec.ofChange pageSamesSpec)) pageSamesCard

/-- THE TIED CARD OF 'almonrylaw03.PageBack'. -/
def pageBackCard : Claim7 := { stood := { row := pageBackRow, standIns := [], harness := (true, "181238d3d97307c2d1910e2af6be608174b67ea2b86a360ba6be3af11990ddfe"), looks := false }, kinds := [], alts := [], laidByText := true, laidKinds := [.data, .pinned], laidTests := true, laidLooks := .later }
def PageBackCardSaid : Prop := Claim7.holds Tryd.pinned (.plain (OpenSpec.ofChange pageBackSpec)) pageBackCard

/-- THE TIED CARD OF 'almonrylaw03.PageTorn'. -/
def pageTornCard : Claim7 := { stood := { row := pageTornRow, standIns := [], harness := (true, "181238d3d97307c2d1910e2af6be608174b67ea2b86a360ba6be3af11990ddfe"), looks := false }, kinds := [], alts := [], laidByText := true, laidKinds := [.data, .pinned], laidTests := true, laidLooks := .later }
def PageTornCardSaid : Prop := Claim7.holds Tryd.pinned (.plain (OpenSpec.ofChange pageTornSpec)) pageTornCard

/-- THE TIED CARD OF 'almonrylaw03.PageFits'. -/
def pageFitsCard : Claim7 := { stood := { row := pageFitsRow, standIns := [], harness := (true, "181238d3d97307c2d1910e2af6be608174b67ea2b86a360ba6be3af11990ddfe"), looks := false }, kinds := [], alts := [], laidByText := true, laidKinds := [.data, .pinned], laidTests := true, laidLooks := .later }
def PageFitsCardSaid : Prop := Claim7.holds Tryd.pinned (.plain (OpenSpec.ofChange pageFitsSpec)) pageFitsCard

/-- THE TIED CARD OF 'almonrylaw03.PageChanges'. -/
def pageChangesCard : Claim7 := { stood := { row := pageChangesRow, standIns := [], harness := (true, "181238d3d97307c2d1910e2af6be608174b67ea2b86a360ba6be3af11990ddfe"), looks := false }, kinds := [], alts := [], laidByText := true, laidKinds := [.data, .pinned], laidTests := true, laidLooks := .later }
def PageChangesCardSaid : Prop := Claim7.holds Tryd.pinned (.plain (OpenSpec.ofChange pageChangesSpec)) pageChangesCard

/-- THE TIED CARD OF 'almonrylaw04.RecEncodes'. -/
def recEncodesCard : Claim7 := { stood := { row := recEncodesRow, standIns := [], harness := (true, "181238d3d97307c2d1910e2af6be608174b67ea2b86a360ba6be3af11990ddfe"), looks := false }, kinds := [], alts := [], laidByText := true, laidKinds := [.data, .pinned], laidTests := true, laidLooks := .later }
def RecEncodesCardSaid : Prop := Claim7.holds Tryd.pinned (.plain (OpenSpec.ofChange recEncodesSpec)) recEncodesCard

/-- THE TIED CARD OF 'almonrylaw04.RecBack'. -/
def recBackCard : Claim7 := { stood := { row := recBackRow, standIns := [], harness := (true, "181238d3d97307c2d1910e2af6be608174b67ea2b86a360ba6be3af11990ddfe"), looks := false }, kinds := [], alts := [], laidByText := true, laidKinds := [.data, .pinned], laidTests := true, laidLooks := .later }
def RecBackCardSaid : Prop := Claim7.holds Tryd.pinned (.plain (OpenSpec.ofChange recBackSpec)) recBackCard

/-- THE TIED CARD OF 'almonrylaw04.RecThere'. -/
def recThereCard : Claim7 := { stood := { row := recThereRow, standIns := [], harness := (true, "181238d3d97307c2d1910e2af6be608174b67ea2b86a360ba6be3af11990ddfe"), looks := false }, kinds := [], alts := [], laidByText := true, laidKinds := [.data, .pinned], laidTests := true, laidLooks := .later }
def RecThereCardSaid : Prop := Claim7.holds Tryd.pinned (.plain (OpenSpec.ofChange recThereSpec)) recThereCard

/-- THE TIED CARD OF 'almonrylaw04.RecTorn'. -/
def recTornCard : Claim7 := { stood := { row := recTornRow, standIns := [], harness := (true, "181238d3d97307c2d1910e2af6be608174b67ea2b86a360ba6be3af11990ddfe"), looks := false }, kinds := [], alts := [], laidByText := true, laidKinds := [.data, .pinned], laidTests := true, laidLooks := .later }
def RecTornCardSaid : Prop := Claim7.holds Tryd.pinned (.plain (OpenSpec.ofChange recTornSpec)) recTornCard

/-- THE TIED CARD OF 'almonrylaw04.RecSame'. -/
def recSameCard : Claim7 := { stood := { row := recSameRow, standIns := [], harness := (true, "181238d3d97307c2d1910e2af6be608174b67ea2b86a360ba6be3af11990ddfe"), looks := false }, kinds := [], alts := [], laidByText := true, laidKinds := [.data, .pinned], laidTests := true, laidLooks := .later }
def RecSameCardSaid : Prop := Claim7.holds Tryd.pinned (.plain (OpenSpec.ofChange recSameSpec)) recSameCard

/-- THE TIED CARD OF 'almonrylaw04.RecRow'. -/
def recRowCard : Claim7 := { stood := { row := recRowRow, standIns := [], harness := (true, "181238d3d97307c2d1910e2af6be608174b67ea2b86a360ba6be3af11990ddfe"), looks := false }, kinds := [], alts := [], laidByText := true, laidKinds := [.data, .pinned], laidTests := true, laidLooks := .later }
def RecRowCardSaid : Prop := Claim7.holds Tryd.pinned (.plain (OpenSpec.ofChange recRowSpec)) recRowCard

/-- THE SECOND FORM's CARD OF 'almonrylaw03.PageSizes'. -/
def pageSizesUptoCard : Claim7 := { stood := { row := pageSizesUptoRow, standIns := [], harness := (true, "181238d3d97307c2d1910e2af6be608174b67ea2b86a360ba6be3af11990ddfe"), looks := false }, kinds := [], alts := [], laidByText := true, laidKinds := [.data, .pinned], laidTests := true, laidLooks := .later }
def PageSizesUptoCardSaid : Prop := Claim7.holds Tryd.pinned (.plain (OpenSpec.upto pageSizesSpec)) pageSizesUptoCard

/-- THE SECOND FORM's CARD OF 'almonrylaw03.PageEncodes'. -/
def pageEncodesUptoCard : Claim7 := { stood := { row := pageEncodesUptoRow, standIns := [], harness := (true, "181238d3d97307c2d1910e2af6be608174b67ea2b86a360ba6be3af11990ddfe"), looks := false }, kinds := [], alts := [], laidByText := true, laidKinds := [.data, .pinned], laidTests := true, laidLooks := .later }
def PageEncodesUptoCardSaid : Prop := Claim7.holds Tryd.pinned (.plain (OpenSpec.upto pageEncodesSpec)) pageEncodesUptoCard

/-- THE SECOND FORM's CARD OF 'almonrylaw03.PageDecodes'. -/
def pageDecodesUptoCard : Claim7 := { stood := { row := pageDecodesUptoRow, standIns := [], harness := (true, "181238d3d97307c2d1910e2af6be608174b67ea2b86a360ba6be3af11990ddfe"), looks := false }, kinds := [], alts := [], laidByText := true, laidKinds := [.data, .pinned], laidTests := true, laidLooks := .later }
def PageDecodesUptoCardSaid : Prop := Claim7.holds Tryd.pinned (.plain (OpenSpec.upto pageDecodesSpec)) pageDecodesUptoCard

/-- THE SECOND FORM's CARD OF 'almonrylaw03.PageSames'. -/
def pageSamesUptoCard : Claim7 := { stood := { row := pageSamesUptoRow, standIns := [], harness := (true, "181238d3d97307c2d1910e2af6be608174b67ea2b86a360ba6be3af11990ddfe"), looks := false }, kinds := [], alts := [], laidByText := true, laidKinds := [.data, .pinned], laidTests := true, laidLooks := .later }
def PageSamesUptoCardSaid : Prop := Claim7.holds Tryd.pinned (.plain (OpenSpec.upto pageSamesSpec)) pageSamesUptoCard

/-- THE SECOND FORM's CARD OF 'almonrylaw03.PageBack'. -/
def pageBackUptoCard : Claim7 := { stood := { row := pageBackUptoRow, standIns := [], harness := (true, "181238d3d97307c2d1910e2af6be608174b67ea2b86a360ba6be3af11990ddfe"), looks := false }, kinds := [], alts := [], laidByText := true, laidKinds := [.data, .pinned], laidTests := true, laidLooks := .later }
def PageBackUptoCardSaid : Prop := Claim7.holds Tryd.pinned (.plain (OpenSpec.upto pageBackSpec)) pageBackUptoCard

/-- THE SECOND FORM's CARD OF 'almonrylaw03.PageTorn'. -/
def pageTornUptoCard : Claim7 := { stood := { row := pageTornUptoRow, standIns := [], harness := (true, "181238d3d97307c2d1910e2af6be608174b67ea2b86a360ba6be3af11990ddfe"), looks := false }, kinds := [], alts := [], laidByText := true, laidKinds := [.data, .pinned], laidTests := true, laidLooks := .later }
def PageTornUptoCardSaid : Prop := Claim7.holds Tryd.pinned (.plain (OpenSpec.upto pageTornSpec)) pageTornUptoCard

/-- THE SECOND FORM's CARD OF 'almonrylaw03.PageFits'. -/
def pageFitsUptoCard : Claim7 := { stood := { row := pageFitsUptoRow, standIns := [], harness := (true, "181238d3d97307c2d1910e2af6be608174b67ea2b86a360ba6be3af11990ddfe"), looks := false }, kinds := [], alts := [], laidByText := true, laidKinds := [.data, .pinned], laidTests := true, laidLooks := .later }
def PageFitsUptoCardSaid : Prop := Claim7.holds Tryd.pinned (.plain (OpenSpec.upto pageFitsSpec)) pageFitsUptoCard

/-- THE SECOND FORM's CARD OF 'almonrylaw03.PageChanges'. -/
def pageChangesUptoCard : Claim7 := { stood := { row := pageChangesUptoRow, standIns := [], harness := (true, "181238d3d97307c2d1910e2af6be608174b67ea2b86a360ba6be3af11990ddfe"), looks := false }, kinds := [], alts := [], laidByText := true, laidKinds := [.data, .pinned], laidTests := true, laidLooks := .later }
def PageChangesUptoCardSaid : Prop := Claim7.holds Tryd.pinned (.plain (OpenSpec.upto pageChangesSpec)) pageChangesUptoCard

/-- THE SECOND FORM's CARD OF 'almonrylaw04.RecEncodes'. -/
def recEncodesUptoCard : Claim7 := { stood := { row := recEncodesUptoRow, standIns := [], harness := (true, "181238d3d97307c2d1910e2af6be608174b67ea2b86a360ba6be3af11990ddfe"), looks := false }, kinds := [], alts := [], laidByText := true, laidKinds := [.data, .pinned], laidTests := true, laidLooks := .later }
def RecEncodesUptoCardSaid : Prop := Claim7.holds Tryd.pinned (.plain (OpenSpec.upto recEncodesSpec)) recEncodesUptoCard

/-- THE SECOND FORM's CARD OF 'almonrylaw04.RecBack'. -/
def recBackUptoCard : Claim7 := { stood := { row := recBackUptoRow, standIns := [], harness := (true, "181238d3d97307c2d1910e2af6be608174b67ea2b86a360ba6be3af11990ddfe"), looks := false }, kinds := [], alts := [], laidByText := true, laidKinds := [.data, .pinned], laidTests := true, laidLooks := .later }
def RecBackUptoCardSaid : Prop := Claim7.holds Tryd.pinned (.plain (OpenSpec.upto recBackSpec)) recBackUptoCard

/-- THE SECOND FORM's CARD OF 'almonrylaw04.RecThere'. -/
def recThereUptoCard : Claim7 := { stood := { row := recThereUptoRow, standIns := [], harness := (true, "181238d3d97307c2d1910e2af6be608174b67ea2b86a360ba6be3af11990ddfe"), looks := false }, kinds := [], alts := [], laidByText := true, laidKinds := [.data, .pinned], laidTests := true, laidLooks := .later }
def RecThereUptoCardSaid : Prop := Claim7.holds Tryd.pinned (.plain (OpenSpec.upto recThereSpec)) recThereUptoCard

/-- THE SECOND FORM's CARD OF 'almonrylaw04.RecTorn'. -/
def recTornUptoCard : Claim7 := { stood := { row := recTornUptoRow, standIns := [], harness := (true, "181238d3d97307c2d1910e2af6be608174b67ea2b86a360ba6be3af11990ddfe"), looks := false }, kinds := [], alts := [], laidByText := true, laidKinds := [.data, .pinned], laidTests := true, laidLooks := .later }
def RecTornUptoCardSaid : Prop := Claim7.holds Tryd.pinned (.plain (OpenSpec.upto recTornSpec)) recTornUptoCard

/-- THE SECOND FORM's CARD OF 'almonrylaw04.RecSame'. -/
def recSameUptoCard : Claim7 := { stood := { row := recSameUptoRow, standIns := [], harness := (true, "181238d3d97307c2d1910e2af6be608174b67ea2b86a360ba6be3af11990ddfe"), looks := false }, kinds := [], alts := [], laidByText := true, laidKinds := [.data, .pinned], laidTests := true, laidLooks := .later }
def RecSameUptoCardSaid : Prop := Claim7.holds Tryd.pinned (.plain (OpenSpec.upto recSameSpec)) recSameUptoCard

/-- THE SECOND FORM's CARD OF 'almonrylaw04.RecRow'. -/
def recRowUptoCard : Claim7 := { stood := { row := recRowUptoRow, standIns := [], harness := (true, "181238d3d97307c2d1910e2af6be608174b67ea2b86a360ba6be3af11990ddfe"), looks := false }, kinds := [], alts := [], laidByText := true, laidKinds := [.data, .pinned], laidTests := true, laidLooks := .later }
def RecRowUptoCardSaid : Prop := Claim7.holds Tryd.pinned (.plain (OpenSpec.upto recRowSpec)) recRowUptoCard
end Rows
end Go.Proofs.YtodnakepbdhfkaaDoor
