/-
  DERIVED. GIVEN WITH THE SEED: THE CARDS: each row of YtmdmffeoehfjgaaGreatDoorRows.lean that lists a variable, with what it lists TIED to the program's text (the seventh form; the later family's looks); each row that meets fmt, with fmt's text TOLD by the authors' own Lean function (tested against real Go, not proved from fmt's source: count such statements apart). THE CARD IS WHAT COUNTS. Prove the row's statement (the work); the ties are given (YtmdmffeoehfjgaaGreatDoorTie.lean); close each card by the builder's one call (the guide's Derived/Test/ToyasCard.lean, 'card_holds'). Laid BY PROGRAM, IN A SANDBOX (cutbox-door.mjs). By AI agents, Wed Nov 11 2026. No macro, syntax, notation, axiom, sorry.
-/
import Derived.Test.YtmdmffeoehfjgaaGreatDoorRows
import GoSem.ClaimSeven
namespace Go.Proofs.YtmdmffeoehfjgaaGreatDoor
namespace Rows

/-- THE TIED CARD OF 'almonrytop.TopWinner'. -/
def topWinnerCard : Claim7 := { stood := { row := topWinnerRow, standIns := [], harness := (true, "be00219eb11080d62d20997b78a4b2fe3d80d4eff38f2253dcb9a30b8cbeeee0"), looks := false }, kinds := [], alts := [], laidByText := true, laidKinds := [.data, .pinned], laidTests := true, laidLooks := .later }
def TopWinnerCardSaid : Prop := Claim7.holds Tryz.pinned (.plain (OpenSpec.ofChange topWinnerSpec)) topWinnerCard

/-- THE TIED CARD OF 'almonrytop.TopRings'. -/
def topRingsCard : Claim7 := { stood := { row := topRingsRow, standIns := [], harness := (true, "be00219eb11080d62d20997b78a4b2fe3d80d4eff38f2253dcb9a30b8cbeeee0"), looks := false }, kinds := [], alts := [], laidByText := true, laidKinds := [.data, .pinned], laidTests := true, laidLooks := .later }
def TopRingsCardSaid : Prop := Claim7.holds Tryz.pinned (.plain (OpenSpec.ofChange topRingsSpec)) topRingsCard

/-- THE SECOND FORM's CARD OF 'almonrytop.TopWinner'. -/
def topWinnerUptoCard : Claim7 := { stood := { row := topWinnerUptoRow, standIns := [], harness := (true, "be00219eb11080d62d20997b78a4b2fe3d80d4eff38f2253dcb9a30b8cbeeee0"), looks := false }, kinds := [], alts := [], laidByText := true, laidKinds := [.data, .pinned], laidTests := true, laidLooks := .later }
def TopWinnerUptoCardSaid : Prop := Claim7.holds Tryz.pinned (.plain (OpenSpec.upto topWinnerSpec)) topWinnerUptoCard

/-- THE SECOND FORM's CARD OF 'almonrytop.TopRings'. -/
def topRingsUptoCard : Claim7 := { stood := { row := topRingsUptoRow, standIns := [], harness := (true, "be00219eb11080d62d20997b78a4b2fe3d80d4eff38f2253dcb9a30b8cbeeee0"), looks := false }, kinds := [], alts := [], laidByText := true, laidKinds := [.data, .pinned], laidTests := true, laidLooks := .later }
def TopRingsUptoCardSaid : Prop := Claim7.holds Tryz.pinned (.plain (OpenSpec.upto topRingsSpec)) topRingsUptoCard
end Rows
end Go.Proofs.YtmdmffeoehfjgaaGreatDoor
