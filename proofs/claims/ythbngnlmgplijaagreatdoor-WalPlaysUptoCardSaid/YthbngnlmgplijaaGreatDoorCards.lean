/-
  DERIVED. GIVEN WITH THE SEED: THE CARDS: each row of YthbngnlmgplijaaGreatDoorRows.lean that lists a variable, with what it lists TIED to the program's text (the seventh form; the later family's looks); each row that meets fmt, with fmt's text TOLD by the authors' own Lean function (tested against real Go, not proved from fmt's source: count such statements apart). THE CARD IS WHAT COUNTS. Prove the row's statement (the work); the ties are given (YthbngnlmgplijaaGreatDoorTie.lean); close each card by the builder's one call (the guide's Derived/Test/ToyasCard.lean, 'card_holds'). Laid BY PROGRAM, IN A SANDBOX (cutbox-door.mjs). By AI agents, Wed Nov 11 2026. No macro, syntax, notation, axiom, sorry.
-/
import Derived.Test.YthbngnlmgplijaaGreatDoorRows
import GoSem.ClaimSeven
namespace Go.Proofs.YthbngnlmgplijaaGreatDoor
namespace Rows

/-- THE TIED CARD OF 'almonrylaw04.RecDecodes'. -/
def recDecodesCard : Claim7 := { stood := { row := recDecodesRow, standIns := [], harness := (true, "4d091618edec5184c4138f1cf1ff2973e570d43ab83e6dd0aa00b01229ac5ccc"), looks := false }, kinds := [], alts := [], laidByText := true, laidKinds := [.data, .pinned], laidTests := true, laidLooks := .later }
def RecDecodesCardSaid : Prop := Claim7.holds Tryz.pinned (.plain (OpenSpec.ofChange recDecodesSpec)) recDecodesCard

/-- THE TIED CARD OF 'almonrylaw05.WalRoom'. -/
def walRoomCard : Claim7 := { stood := { row := walRoomRow, standIns := [], harness := (true, "4d091618edec5184c4138f1cf1ff2973e570d43ab83e6dd0aa00b01229ac5ccc"), looks := false }, kinds := [], alts := [], laidByText := true, laidKinds := [.data, .pinned], laidTests := true, laidLooks := .later }
def WalRoomCardSaid : Prop := Claim7.holds Tryz.pinned (.plain (OpenSpec.ofChange walRoomSpec)) walRoomCard

/-- THE TIED CARD OF 'almonrylaw05.WalGets'. -/
def walGetsCard : Claim7 := { stood := { row := walGetsRow, standIns := [], harness := (true, "4d091618edec5184c4138f1cf1ff2973e570d43ab83e6dd0aa00b01229ac5ccc"), looks := false }, kinds := [], alts := [], laidByText := true, laidKinds := [.data, .pinned], laidTests := true, laidLooks := .later }
def WalGetsCardSaid : Prop := Claim7.holds Tryz.pinned (.plain (OpenSpec.ofChange walGetsSpec)) walGetsCard

/-- THE TIED CARD OF 'almonrylaw06.PoolPicks'. -/
def poolPicksCard : Claim7 := { stood := { row := poolPicksRow, standIns := [], harness := (true, "4d091618edec5184c4138f1cf1ff2973e570d43ab83e6dd0aa00b01229ac5ccc"), looks := false }, kinds := [], alts := [], laidByText := true, laidKinds := [.data, .pinned], laidTests := true, laidLooks := .later }
def PoolPicksCardSaid : Prop := Claim7.holds Tryz.pinned (.plain (OpenSpec.ofChange poolPicksSpec)) poolPicksCard

/-- THE TIED CARD OF 'almonrylaw06.PoolKeeps'. -/
def poolKeepsCard : Claim7 := { stood := { row := poolKeepsRow, standIns := [], harness := (true, "4d091618edec5184c4138f1cf1ff2973e570d43ab83e6dd0aa00b01229ac5ccc"), looks := false }, kinds := [], alts := [], laidByText := true, laidKinds := [.data, .pinned], laidTests := true, laidLooks := .later }
def PoolKeepsCardSaid : Prop := Claim7.holds Tryz.pinned (.plain (OpenSpec.ofChange poolKeepsSpec)) poolKeepsCard

/-- THE TIED CARD OF 'almonrylaw05.WalNil'. -/
def walNilCard : Claim7 := { stood := { row := walNilRow, standIns := [], harness := (true, "4d091618edec5184c4138f1cf1ff2973e570d43ab83e6dd0aa00b01229ac5ccc"), looks := false }, kinds := [], alts := [], laidByText := true, laidKinds := [.data, .pinned], laidTests := true, laidLooks := .later }
def WalNilCardSaid : Prop := Claim7.holds Tryz.pinned (.plain (OpenSpec.ofChange walNilSpec)) walNilCard

/-- THE TIED CARD OF 'almonrylaw06.PoolNil'. -/
def poolNilCard : Claim7 := { stood := { row := poolNilRow, standIns := [], harness := (true, "4d091618edec5184c4138f1cf1ff2973e570d43ab83e6dd0aa00b01229ac5ccc"), looks := false }, kinds := [], alts := [], laidByText := true, laidKinds := [.data, .pinned], laidTests := true, laidLooks := .later }
def PoolNilCardSaid : Prop := Claim7.holds Tryz.pinned (.plain (OpenSpec.ofChange poolNilSpec)) poolNilCard

/-- THE TIED CARD OF 'almonrylaw06.PoolOwes'. -/
def poolOwesCard : Claim7 := { stood := { row := poolOwesRow, standIns := [], harness := (true, "4d091618edec5184c4138f1cf1ff2973e570d43ab83e6dd0aa00b01229ac5ccc"), looks := false }, kinds := [], alts := [], laidByText := true, laidKinds := [.data, .pinned], laidTests := true, laidLooks := .later }
def PoolOwesCardSaid : Prop := Claim7.holds Tryz.pinned (.plain (OpenSpec.ofChange poolOwesSpec)) poolOwesCard

/-- THE TIED CARD OF 'almonrylaw06.PoolPlays'. -/
def poolPlaysCard : Claim7 := { stood := { row := poolPlaysRow, standIns := [], harness := (true, "4d091618edec5184c4138f1cf1ff2973e570d43ab83e6dd0aa00b01229ac5ccc"), looks := false }, kinds := [], alts := [], laidByText := true, laidKinds := [.data, .pinned], laidTests := true, laidLooks := .later }
def PoolPlaysCardSaid : Prop := Claim7.holds Tryz.pinned (.plain (OpenSpec.ofChange poolPlaysSpec)) poolPlaysCard

/-- THE TIED CARD OF 'almonrylaw05.WalPlays'. -/
def walPlaysCard : Claim7 := { stood := { row := walPlaysRow, standIns := [], harness := (true, "4d091618edec5184c4138f1cf1ff2973e570d43ab83e6dd0aa00b01229ac5ccc"), looks := false }, kinds := [], alts := [], laidByText := true, laidKinds := [.data, .pinned], laidTests := true, laidLooks := .later }
def WalPlaysCardSaid : Prop := Claim7.holds Tryz.pinned (.plain (OpenSpec.ofChange walPlaysSpec)) walPlaysCard

/-- THE SECOND FORM's CARD OF 'almonrylaw04.RecDecodes'. -/
def recDecodesUptoCard : Claim7 := { stood := { row := recDecodesUptoRow, standIns := [], harness := (true, "4d091618edec5184c4138f1cf1ff2973e570d43ab83e6dd0aa00b01229ac5ccc"), looks := false }, kinds := [], alts := [], laidByText := true, laidKinds := [.data, .pinned], laidTests := true, laidLooks := .later }
def RecDecodesUptoCardSaid : Prop := Claim7.holds Tryz.pinned (.plain (OpenSpec.upto recDecodesSpec)) recDecodesUptoCard

/-- THE SECOND FORM's CARD OF 'almonrylaw05.WalRoom'. -/
def walRoomUptoCard : Claim7 := { stood := { row := walRoomUptoRow, standIns := [], harness := (true, "4d091618edec5184c4138f1cf1ff2973e570d43ab83e6dd0aa00b01229ac5ccc"), looks := false }, kinds := [], alts := [], laidByText := true, laidKinds := [.data, .pinned], laidTests := true, laidLooks := .later }
def WalRoomUptoCardSaid : Prop := Claim7.holds Tryz.pinned (.plain (OpenSpec.upto walRoomSpec)) walRoomUptoCard

/-- THE SECOND FORM's CARD OF 'almonrylaw05.WalGets'. -/
def walGetsUptoCard : Claim7 := { stood := { row := walGetsUptoRow, standIns := [], harness := (true, "4d091618edec5184c4138f1cf1ff2973e570d43ab83e6dd0aa00b01229ac5ccc"), looks := false }, kinds := [], alts := [], laidByText := true, laidKinds := [.data, .pinned], laidTests := true, laidLooks := .later }
def WalGetsUptoCardSaid : Prop := Claim7.holds Tryz.pinned (.plain (OpenSpec.upto walGetsSpec)) walGetsUptoCard

/-- THE SECOND FORM's CARD OF 'almonrylaw06.PoolPicks'. -/
def poolPicksUptoCard : Claim7 := { stood := { row := poolPicksUptoRow, standIns := [], harness := (true, "4d091618edec5184c4138f1cf1ff2973e570d43ab83e6dd0aa00b01229ac5ccc"), looks := false }, kinds := [], alts := [], laidByText := true, laidKinds := [.data, .pinned], laidTests := true, laidLooks := .later }
def PoolPicksUptoCardSaid : Prop := Claim7.holds Tryz.pinned (.plain (OpenSpec.upto poolPicksSpec)) poolPicksUptoCard

/-- THE SECOND FORM's CARD OF 'almonrylaw06.PoolKeeps'. -/
def poolKeepsUptoCard : Claim7 := { stood := { row := poolKeepsUptoRow, standIns := [], harness := (true, "4d091618edec5184c4138f1cf1ff2973e570d43ab83e6dd0aa00b01229ac5ccc"), looks := false }, kinds := [], alts := [], laidByText := true, laidKinds := [.data, .pinned], laidTests := true, laidLooks := .later }
def PoolKeepsUptoCardSaid : Prop := Claim7.holds Tryz.pinned (.plain (OpenSpec.upto poolKeepsSpec)) poolKeepsUptoCard

/-- THE SECOND FORM's CARD OF 'almonrylaw05.WalNil'. -/
def walNilUptoCard : Claim7 := { stood := { row := walNilUptoRow, standIns := [], harness := (true, "4d091618edec5184c4138f1cf1ff2973e570d43ab83e6dd0aa00b01229ac5ccc"), looks := false }, kinds := [], alts := [], laidByText := true, laidKinds := [.data, .pinned], laidTests := true, laidLooks := .later }
def WalNilUptoCardSaid : Prop := Claim7.holds Tryz.pinned (.plain (OpenSpec.upto walNilSpec)) walNilUptoCard

/-- THE SECOND FORM's CARD OF 'almonrylaw06.PoolNil'. -/
def poolNilUptoCard : Claim7 := { stood := { row := poolNilUptoRow, standIns := [], harness := (true, "4d091618edec5184c4138f1cf1ff2973e570d43ab83e6dd0aa00b01229ac5ccc"), looks := false }, kinds := [], alts := [], laidByText := true, laidKinds := [.data, .pinned], laidTests := true, laidLooks := .later }
def PoolNilUptoCardSaid : Prop := Claim7.holds Tryz.pinned (.plain (OpenSpec.upto poolNilSpec)) poolNilUptoCard

/-- THE SECOND FORM's CARD OF 'almonrylaw06.PoolOwes'. -/
def poolOwesUptoCard : Claim7 := { stood := { row := poolOwesUptoRow, standIns := [], harness := (true, "4d091618edec5184c4138f1cf1ff2973e570d43ab83e6dd0aa00b01229ac5ccc"), looks := false }, kinds := [], alts := [], laidByText := true, laidKinds := [.data, .pinned], laidTests := true, laidLooks := .later }
def PoolOwesUptoCardSaid : Prop := Claim7.holds Tryz.pinned (.plain (OpenSpec.upto poolOwesSpec)) poolOwesUptoCard

/-- THE SECOND FORM's CARD OF 'almonrylaw06.PoolPlays'. -/
def poolPlaysUptoCard : Claim7 := { stood := { row := poolPlaysUptoRow, standIns := [], harness := (true, "4d091618edec5184c4138f1cf1ff2973e570d43ab83e6dd0aa00b01229ac5ccc"), looks := false }, kinds := [], alts := [], laidByText := true, laidKinds := [.data, .pinned], laidTests := true, laidLooks := .later }
def PoolPlaysUptoCardSaid : Prop := Claim7.holds Tryz.pinned (.plain (OpenSpec.upto poolPlaysSpec)) poolPlaysUptoCard

/-- THE SECOND FORM's CARD OF 'almonrylaw05.WalPlays'. -/
def walPlaysUptoCard : Claim7 := { stood := { row := walPlaysUptoRow, standIns := [], harness := (true, "4d091618edec5184c4138f1cf1ff2973e570d43ab83e6dd0aa00b01229ac5ccc"), looks := false }, kinds := [], alts := [], laidByText := true, laidKinds := [.data, .pinned], laidTests := true, laidLooks := .later }
def WalPlaysUptoCardSaid : Prop := Claim7.holds Tryz.pinned (.plain (OpenSpec.upto walPlaysSpec)) walPlaysUptoCard
end Rows
end Go.Proofs.YthbngnlmgplijaaGreatDoor
