/-
  No cell of these rows narrows 'for every input' (looked for: loops, veiled, ifaces, maps, wideKeys, modest, calm, conditions, laid).
  DERIVED. THE GIVEN ROWS OF THIS SEAT. 12 by the template 'for every input the law returns true; each argument reads behind the call as it read before'; 0 by the template 'total and deterministic' (their statements: YthgdinjgdjiknaaTotals.lean).
  GIVEN WITH THE SEED: the statements are not yours to turn. If you find one false, say at which input.
  Laid BY PROGRAM, IN A SANDBOX (cutbox-rows.mjs): the forced cells as the released guide's own fill.sh prints them over the translation 82ec82daaa12a4be… (all of the seat's roots in one cut). By AI agents, Wed Nov 11 2026. No macro, syntax, notation, axiom, sorry.
-/
import Derived.Test.YthgdinjgdjiknaaChecked
import GoSem.Claim
import GoSem.ClaimJoined
import GoSem.ClaimMapViews
import Derived.JoinedTies
import Derived.KernelRfl
namespace Go.Proofs.Ythgdinjgdjiknaa
/- THE CELL 'sum', in the pinned program and in every row, IS THE sha256 OF THE DUMP (.gsa) THAT YthgdinjgdjiknaaProg.lean LOADS. Nothing in Lean hashes anything: it is a label: what it is worth is what the hold of that sum in a sandbox is worth. -/
noncomputable def Try.pinned : Pinned := { name := "ythgdinjgdjiknaa", sum := "82ec82daaa12a4bead08c4c60a6127b9a388873d3ab10b1926f5287e8552a055", checked := Try.checked }
namespace Rows
def none {H : Type} : Left H := { results := [], args := [] }

/-- 'almonrylaw02.DiskPlays': WHATEVER THE INPUT: true; the input reads as it did. -/
def diskPlaysSpec : ChangeSpec := { name := "diskPlays", fn := fun _ => fun
  | [d1, d2, d3] => { results := [.lit (.bool true)], args := [d1, d2, d3] }
  | _ => none }
def diskPlaysRow : OpenClaim := { program := "ythgdinjgdjiknaa", sum := "82ec82daaa12a4bead08c4c60a6127b9a388873d3ab10b1926f5287e8552a055", func := "almonry/almonrylaw02.DiskPlays", spec := "diskPlays", unfollowed := true, recurses := true, apart := false }
def DiskPlaysSaid : Prop := diskPlaysRow.holds Try.pinned (OpenSpec.ofChange diskPlaysSpec)

/-- ITS FALSE NEIGHBOUR: 'it returns false'. Refute it at one input. -/
def diskPlaysWrong : ChangeSpec := { name := "diskPlays", fn := fun _ => fun
  | [d1, d2, d3] => { results := [.lit (.bool false)], args := [d1, d2, d3] }
  | _ => none }
def DiskPlaysWrongFalsely : Prop := diskPlaysRow.holds Try.pinned (OpenSpec.ofChange diskPlaysWrong)

/-- 'almonrylaw02.DiskLasts': WHATEVER THE INPUT: true; the input reads as it did. -/
def diskLastsSpec : ChangeSpec := { name := "diskLasts", fn := fun _ => fun
  | [d1, d2, d3] => { results := [.lit (.bool true)], args := [d1, d2, d3] }
  | _ => none }
def diskLastsRow : OpenClaim := { program := "ythgdinjgdjiknaa", sum := "82ec82daaa12a4bead08c4c60a6127b9a388873d3ab10b1926f5287e8552a055", func := "almonry/almonrylaw02.DiskLasts", spec := "diskLasts", unfollowed := true, recurses := true, apart := false }
def DiskLastsSaid : Prop := diskLastsRow.holds Try.pinned (OpenSpec.ofChange diskLastsSpec)

/-- ITS FALSE NEIGHBOUR: 'it returns false'. Refute it at one input. -/
def diskLastsWrong : ChangeSpec := { name := "diskLasts", fn := fun _ => fun
  | [d1, d2, d3] => { results := [.lit (.bool false)], args := [d1, d2, d3] }
  | _ => none }
def DiskLastsWrongFalsely : Prop := diskLastsRow.holds Try.pinned (OpenSpec.ofChange diskLastsWrong)

/-- 'almonrylaw02.DiskDies': WHATEVER THE INPUT: true; the input reads as it did. -/
def diskDiesSpec : ChangeSpec := { name := "diskDies", fn := fun _ => fun
  | [d1, d2] => { results := [.lit (.bool true)], args := [d1, d2] }
  | _ => none }
def diskDiesRow : OpenClaim := { program := "ythgdinjgdjiknaa", sum := "82ec82daaa12a4bead08c4c60a6127b9a388873d3ab10b1926f5287e8552a055", func := "almonry/almonrylaw02.DiskDies", spec := "diskDies", unfollowed := true, recurses := true, apart := false }
def DiskDiesSaid : Prop := diskDiesRow.holds Try.pinned (OpenSpec.ofChange diskDiesSpec)

/-- ITS FALSE NEIGHBOUR: 'it returns false'. Refute it at one input. -/
def diskDiesWrong : ChangeSpec := { name := "diskDies", fn := fun _ => fun
  | [d1, d2] => { results := [.lit (.bool false)], args := [d1, d2] }
  | _ => none }
def DiskDiesWrongFalsely : Prop := diskDiesRow.holds Try.pinned (OpenSpec.ofChange diskDiesWrong)

/-- 'almonrylaw02.DiskTwice': WHATEVER THE INPUT: true; the input reads as it did. -/
def diskTwiceSpec : ChangeSpec := { name := "diskTwice", fn := fun _ => fun
  | [d1, d2, d3] => { results := [.lit (.bool true)], args := [d1, d2, d3] }
  | _ => none }
def diskTwiceRow : OpenClaim := { program := "ythgdinjgdjiknaa", sum := "82ec82daaa12a4bead08c4c60a6127b9a388873d3ab10b1926f5287e8552a055", func := "almonry/almonrylaw02.DiskTwice", spec := "diskTwice", unfollowed := true, recurses := true, apart := false }
def DiskTwiceSaid : Prop := diskTwiceRow.holds Try.pinned (OpenSpec.ofChange diskTwiceSpec)

/-- ITS FALSE NEIGHBOUR: 'it returns false'. Refute it at one input. -/
def diskTwiceWrong : ChangeSpec := { name := "diskTwice", fn := fun _ => fun
  | [d1, d2, d3] => { results := [.lit (.bool false)], args := [d1, d2, d3] }
  | _ => none }
def DiskTwiceWrongFalsely : Prop := diskTwiceRow.holds Try.pinned (OpenSpec.ofChange diskTwiceWrong)

/-- 'almonrylaw02.DiskNil': WHATEVER THE INPUT: true; the input reads as it did. -/
def diskNilSpec : ChangeSpec := { name := "diskNil", fn := fun _ => fun
  | [d] => { results := [.lit (.bool true)], args := [d] }
  | _ => none }
def diskNilRow : OpenClaim := { program := "ythgdinjgdjiknaa", sum := "82ec82daaa12a4bead08c4c60a6127b9a388873d3ab10b1926f5287e8552a055", func := "almonry/almonrylaw02.DiskNil", spec := "diskNil", unfollowed := true, recurses := true, apart := false }
def DiskNilSaid : Prop := diskNilRow.holds Try.pinned (OpenSpec.ofChange diskNilSpec)

/-- ITS FALSE NEIGHBOUR: 'it returns false'. Refute it at one input. -/
def diskNilWrong : ChangeSpec := { name := "diskNil", fn := fun _ => fun
  | [d] => { results := [.lit (.bool false)], args := [d] }
  | _ => none }
def DiskNilWrongFalsely : Prop := diskNilRow.holds Try.pinned (OpenSpec.ofChange diskNilWrong)

/-- 'almonrylaw21.RestartWins': WHATEVER THE INPUT: true; the input reads as it did. -/
def restartWinsSpec : ChangeSpec := { name := "restartWins", fn := fun _ => fun
  | [d1, d2, d3] => { results := [.lit (.bool true)], args := [d1, d2, d3] }
  | _ => none }
def restartWinsRow : OpenClaim := { program := "ythgdinjgdjiknaa", sum := "82ec82daaa12a4bead08c4c60a6127b9a388873d3ab10b1926f5287e8552a055", func := "almonry/almonrylaw21.RestartWins", spec := "restartWins", unfollowed := true, recurses := true, apart := false }
def RestartWinsSaid : Prop := restartWinsRow.holds Try.pinned (OpenSpec.ofChange restartWinsSpec)

/-- ITS FALSE NEIGHBOUR: 'it returns false'. Refute it at one input. -/
def restartWinsWrong : ChangeSpec := { name := "restartWins", fn := fun _ => fun
  | [d1, d2, d3] => { results := [.lit (.bool false)], args := [d1, d2, d3] }
  | _ => none }
def RestartWinsWrongFalsely : Prop := restartWinsRow.holds Try.pinned (OpenSpec.ofChange restartWinsWrong)

/-- 'almonrylaw21.RestartUndoes': WHATEVER THE INPUT: true; the input reads as it did. -/
def restartUndoesSpec : ChangeSpec := { name := "restartUndoes", fn := fun _ => fun
  | [d] => { results := [.lit (.bool true)], args := [d] }
  | _ => none }
def restartUndoesRow : OpenClaim := { program := "ythgdinjgdjiknaa", sum := "82ec82daaa12a4bead08c4c60a6127b9a388873d3ab10b1926f5287e8552a055", func := "almonry/almonrylaw21.RestartUndoes", spec := "restartUndoes", unfollowed := true, recurses := true, apart := false }
def RestartUndoesSaid : Prop := restartUndoesRow.holds Try.pinned (OpenSpec.ofChange restartUndoesSpec)

/-- ITS FALSE NEIGHBOUR: 'it returns false'. Refute it at one input. -/
def restartUndoesWrong : ChangeSpec := { name := "restartUndoes", fn := fun _ => fun
  | [d] => { results := [.lit (.bool false)], args := [d] }
  | _ => none }
def RestartUndoesWrongFalsely : Prop := restartUndoesRow.holds Try.pinned (OpenSpec.ofChange restartUndoesWrong)

/-- 'almonrylaw09.SnapOwn': WHATEVER THE INPUT: true; the input reads as it did. -/
def snapOwnSpec : ChangeSpec := { name := "snapOwn", fn := fun _ => fun
  | [d1, d2, d3] => { results := [.lit (.bool true)], args := [d1, d2, d3] }
  | _ => none }
def snapOwnRow : OpenClaim := { program := "ythgdinjgdjiknaa", sum := "82ec82daaa12a4bead08c4c60a6127b9a388873d3ab10b1926f5287e8552a055", func := "almonry/almonrylaw09.SnapOwn", spec := "snapOwn", unfollowed := true, recurses := true, apart := false }
def SnapOwnSaid : Prop := snapOwnRow.holds Try.pinned (OpenSpec.ofChange snapOwnSpec)

/-- ITS FALSE NEIGHBOUR: 'it returns false'. Refute it at one input. -/
def snapOwnWrong : ChangeSpec := { name := "snapOwn", fn := fun _ => fun
  | [d1, d2, d3] => { results := [.lit (.bool false)], args := [d1, d2, d3] }
  | _ => none }
def SnapOwnWrongFalsely : Prop := snapOwnRow.holds Try.pinned (OpenSpec.ofChange snapOwnWrong)

/-- 'almonrylaw09.SnapOne': WHATEVER THE INPUT: true; the input reads as it did. -/
def snapOneSpec : ChangeSpec := { name := "snapOne", fn := fun _ => fun
  | [d1, d2, d3] => { results := [.lit (.bool true)], args := [d1, d2, d3] }
  | _ => none }
def snapOneRow : OpenClaim := { program := "ythgdinjgdjiknaa", sum := "82ec82daaa12a4bead08c4c60a6127b9a388873d3ab10b1926f5287e8552a055", func := "almonry/almonrylaw09.SnapOne", spec := "snapOne", unfollowed := true, recurses := true, apart := false }
def SnapOneSaid : Prop := snapOneRow.holds Try.pinned (OpenSpec.ofChange snapOneSpec)

/-- ITS FALSE NEIGHBOUR: 'it returns false'. Refute it at one input. -/
def snapOneWrong : ChangeSpec := { name := "snapOne", fn := fun _ => fun
  | [d1, d2, d3] => { results := [.lit (.bool false)], args := [d1, d2, d3] }
  | _ => none }
def SnapOneWrongFalsely : Prop := snapOneRow.holds Try.pinned (OpenSpec.ofChange snapOneWrong)

/-- 'almonrylaw09.SnapFirst': WHATEVER THE INPUT: true; the input reads as it did. -/
def snapFirstSpec : ChangeSpec := { name := "snapFirst", fn := fun _ => fun
  | [d1, d2, d3] => { results := [.lit (.bool true)], args := [d1, d2, d3] }
  | _ => none }
def snapFirstRow : OpenClaim := { program := "ythgdinjgdjiknaa", sum := "82ec82daaa12a4bead08c4c60a6127b9a388873d3ab10b1926f5287e8552a055", func := "almonry/almonrylaw09.SnapFirst", spec := "snapFirst", unfollowed := true, recurses := true, apart := false }
def SnapFirstSaid : Prop := snapFirstRow.holds Try.pinned (OpenSpec.ofChange snapFirstSpec)

/-- ITS FALSE NEIGHBOUR: 'it returns false'. Refute it at one input. -/
def snapFirstWrong : ChangeSpec := { name := "snapFirst", fn := fun _ => fun
  | [d1, d2, d3] => { results := [.lit (.bool false)], args := [d1, d2, d3] }
  | _ => none }
def SnapFirstWrongFalsely : Prop := snapFirstRow.holds Try.pinned (OpenSpec.ofChange snapFirstWrong)

/-- 'almonrylaw09.SnapLater': WHATEVER THE INPUT: true; the input reads as it did. -/
def snapLaterSpec : ChangeSpec := { name := "snapLater", fn := fun _ => fun
  | [d1, d2, d3] => { results := [.lit (.bool true)], args := [d1, d2, d3] }
  | _ => none }
def snapLaterRow : OpenClaim := { program := "ythgdinjgdjiknaa", sum := "82ec82daaa12a4bead08c4c60a6127b9a388873d3ab10b1926f5287e8552a055", func := "almonry/almonrylaw09.SnapLater", spec := "snapLater", unfollowed := true, recurses := true, apart := false }
def SnapLaterSaid : Prop := snapLaterRow.holds Try.pinned (OpenSpec.ofChange snapLaterSpec)

/-- ITS FALSE NEIGHBOUR: 'it returns false'. Refute it at one input. -/
def snapLaterWrong : ChangeSpec := { name := "snapLater", fn := fun _ => fun
  | [d1, d2, d3] => { results := [.lit (.bool false)], args := [d1, d2, d3] }
  | _ => none }
def SnapLaterWrongFalsely : Prop := snapLaterRow.holds Try.pinned (OpenSpec.ofChange snapLaterWrong)

/-- 'almonrylaw09.SnapSees': WHATEVER THE INPUT: true; the input reads as it did. -/
def snapSeesSpec : ChangeSpec := { name := "snapSees", fn := fun _ => fun
  | [d1, d2, d3] => { results := [.lit (.bool true)], args := [d1, d2, d3] }
  | _ => none }
def snapSeesRow : OpenClaim := { program := "ythgdinjgdjiknaa", sum := "82ec82daaa12a4bead08c4c60a6127b9a388873d3ab10b1926f5287e8552a055", func := "almonry/almonrylaw09.SnapSees", spec := "snapSees", unfollowed := true, recurses := true, apart := false }
def SnapSeesSaid : Prop := snapSeesRow.holds Try.pinned (OpenSpec.ofChange snapSeesSpec)

/-- ITS FALSE NEIGHBOUR: 'it returns false'. Refute it at one input. -/
def snapSeesWrong : ChangeSpec := { name := "snapSees", fn := fun _ => fun
  | [d1, d2, d3] => { results := [.lit (.bool false)], args := [d1, d2, d3] }
  | _ => none }
def SnapSeesWrongFalsely : Prop := snapSeesRow.holds Try.pinned (OpenSpec.ofChange snapSeesWrong)

/- THE SECOND FORM. 'bulk': how many values and letters a reading holds, each counted each time it is reached (what is shared counts as often as it is met; a slice's spare places count too). A statement '..UptoSaid' is the law's where the arguments, and the package variables that the reading takes, are together of bulk at most 1048576: NARROWER than '..Said'. Prove '..Said' where nothing that the law and all that it calls make is longer than what came in: it says more and counts as full. Else prove '..UptoSaid'. A law counts once. -/
mutual
def uptoBulk {H : Type} : DataW H → Nat
  | .lit (.string bytes) => bytes.length + 1
  | .lit _ => 1
  | .nil => 1
  | .ptr d => uptoBulk d + 1
  | .slice elems spare => uptoBulkAll elems + uptoBulkAll spare + 1
  | .agg parts => uptoBulkAll parts + 1
  | .iface _ d => uptoBulk d + 1
  | .map entries => uptoBulkEntries entries + 1
  | .held _ => 1
def uptoBulkAll {H : Type} : List (DataW H) → Nat
  | [] => 0
  | d :: r => uptoBulk d + uptoBulkAll r
def uptoBulkEntries {H : Type} : List (Lit × DataW H) → Nat
  | [] => 0
  | x :: r => uptoBulkEntry x + uptoBulkEntries r
def uptoBulkEntry {H : Type} : Lit × DataW H → Nat
  | (.string bytes, d) => bytes.length + uptoBulk d + 1
  | (_, d) => uptoBulk d + 1
 end
def uptoSmall : (H : Type) → List (DataW H) → Bool := fun _ ds => decide (uptoBulkAll ds ≤ 1048576)
def OpenSpec.upto (s : _root_.Go.ChangeSpec) : _root_.Go.OpenSpec := { _root_.Go.OpenSpec.ofChange s with cond := some uptoSmall }

/-- 'almonrylaw02.DiskPlays', WHERE WHAT IT READS IS OF BULK AT MOST 1048576: true; the input reads as it did. -/
def diskPlaysUptoRow : OpenClaim := { program := "ythgdinjgdjiknaa", sum := "82ec82daaa12a4bead08c4c60a6127b9a388873d3ab10b1926f5287e8552a055", func := "almonry/almonrylaw02.DiskPlays", spec := "diskPlays", unfollowed := true, recurses := true, apart := false, narrowed := true }
def DiskPlaysUptoSaid : Prop := diskPlaysUptoRow.holds Try.pinned (OpenSpec.upto diskPlaysSpec)

/-- 'almonrylaw02.DiskLasts', WHERE WHAT IT READS IS OF BULK AT MOST 1048576: true; the input reads as it did. -/
def diskLastsUptoRow : OpenClaim := { program := "ythgdinjgdjiknaa", sum := "82ec82daaa12a4bead08c4c60a6127b9a388873d3ab10b1926f5287e8552a055", func := "almonry/almonrylaw02.DiskLasts", spec := "diskLasts", unfollowed := true, recurses := true, apart := false, narrowed := true }
def DiskLastsUptoSaid : Prop := diskLastsUptoRow.holds Try.pinned (OpenSpec.upto diskLastsSpec)

/-- 'almonrylaw02.DiskDies', WHERE WHAT IT READS IS OF BULK AT MOST 1048576: true; the input reads as it did. -/
def diskDiesUptoRow : OpenClaim := { program := "ythgdinjgdjiknaa", sum := "82ec82daaa12a4bead08c4c60a6127b9a388873d3ab10b1926f5287e8552a055", func := "almonry/almonrylaw02.DiskDies", spec := "diskDies", unfollowed := true, recurses := true, apart := false, narrowed := true }
def DiskDiesUptoSaid : Prop := diskDiesUptoRow.holds Try.pinned (OpenSpec.upto diskDiesSpec)

/-- 'almonrylaw02.DiskTwice', WHERE WHAT IT READS IS OF BULK AT MOST 1048576: true; the input reads as it did. -/
def diskTwiceUptoRow : OpenClaim := { program := "ythgdinjgdjiknaa", sum := "82ec82daaa12a4bead08c4c60a6127b9a388873d3ab10b1926f5287e8552a055", func := "almonry/almonrylaw02.DiskTwice", spec := "diskTwice", unfollowed := true, recurses := true, apart := false, narrowed := true }
def DiskTwiceUptoSaid : Prop := diskTwiceUptoRow.holds Try.pinned (OpenSpec.upto diskTwiceSpec)

/-- 'almonrylaw02.DiskNil', WHERE WHAT IT READS IS OF BULK AT MOST 1048576: true; the input reads as it did. -/
def diskNilUptoRow : OpenClaim := { program := "ythgdinjgdjiknaa", sum := "82ec82daaa12a4bead08c4c60a6127b9a388873d3ab10b1926f5287e8552a055", func := "almonry/almonrylaw02.DiskNil", spec := "diskNil", unfollowed := true, recurses := true, apart := false, narrowed := true }
def DiskNilUptoSaid : Prop := diskNilUptoRow.holds Try.pinned (OpenSpec.upto diskNilSpec)

/-- 'almonrylaw21.RestartWins', WHERE WHAT IT READS IS OF BULK AT MOST 1048576: true; the input reads as it did. -/
def restartWinsUptoRow : OpenClaim := { program := "ythgdinjgdjiknaa", sum := "82ec82daaa12a4bead08c4c60a6127b9a388873d3ab10b1926f5287e8552a055", func := "almonry/almonrylaw21.RestartWins", spec := "restartWins", unfollowed := true, recurses := true, apart := false, narrowed := true }
def RestartWinsUptoSaid : Prop := restartWinsUptoRow.holds Try.pinned (OpenSpec.upto restartWinsSpec)

/-- 'almonrylaw21.RestartUndoes', WHERE WHAT IT READS IS OF BULK AT MOST 1048576: true; the input reads as it did. -/
def restartUndoesUptoRow : OpenClaim := { program := "ythgdinjgdjiknaa", sum := "82ec82daaa12a4bead08c4c60a6127b9a388873d3ab10b1926f5287e8552a055", func := "almonry/almonrylaw21.RestartUndoes", spec := "restartUndoes", unfollowed := true, recurses := true, apart := false, narrowed := true }
def RestartUndoesUptoSaid : Prop := restartUndoesUptoRow.holds Try.pinned (OpenSpec.upto restartUndoesSpec)

/-- 'almonrylaw09.SnapOwn', WHERE WHAT IT READS IS OF BULK AT MOST 1048576: true; the input reads as it did. -/
def snapOwnUptoRow : OpenClaim := { program := "ythgdinjgdjiknaa", sum := "82ec82daaa12a4bead08c4c60a6127b9a388873d3ab10b1926f5287e8552a055", func := "almonry/almonrylaw09.SnapOwn", spec := "snapOwn", unfollowed := true, recurses := true, apart := false, narrowed := true }
def SnapOwnUptoSaid : Prop := snapOwnUptoRow.holds Try.pinned (OpenSpec.upto snapOwnSpec)

/-- 'almonrylaw09.SnapOne', WHERE WHAT IT READS IS OF BULK AT MOST 1048576: true; the input reads as it did. -/
def snapOneUptoRow : OpenClaim := { program := "ythgdinjgdjiknaa", sum := "82ec82daaa12a4bead08c4c60a6127b9a388873d3ab10b1926f5287e8552a055", func := "almonry/almonrylaw09.SnapOne", spec := "snapOne", unfollowed := true, recurses := true, apart := false, narrowed := true }
def SnapOneUptoSaid : Prop := snapOneUptoRow.holds Try.pinned (OpenSpec.upto snapOneSpec)

/-- 'almonrylaw09.SnapFirst', WHERE WHAT IT READS IS OF BULK AT MOST 1048576: true; the input reads as it did. -/
def snapFirstUptoRow : OpenClaim := { program := "ythgdinjgdjiknaa", sum := "82ec82daaa12a4bead08c4c60a6127b9a388873d3ab10b1926f5287e8552a055", func := "almonry/almonrylaw09.SnapFirst", spec := "snapFirst", unfollowed := true, recurses := true, apart := false, narrowed := true }
def SnapFirstUptoSaid : Prop := snapFirstUptoRow.holds Try.pinned (OpenSpec.upto snapFirstSpec)

/-- 'almonrylaw09.SnapLater', WHERE WHAT IT READS IS OF BULK AT MOST 1048576: true; the input reads as it did. -/
def snapLaterUptoRow : OpenClaim := { program := "ythgdinjgdjiknaa", sum := "82ec82daaa12a4bead08c4c60a6127b9a388873d3ab10b1926f5287e8552a055", func := "almonry/almonrylaw09.SnapLater", spec := "snapLater", unfollowed := true, recurses := true, apart := false, narrowed := true }
def SnapLaterUptoSaid : Prop := snapLaterUptoRow.holds Try.pinned (OpenSpec.upto snapLaterSpec)

/-- 'almonrylaw09.SnapSees', WHERE WHAT IT READS IS OF BULK AT MOST 1048576: true; the input reads as it did. -/
def snapSeesUptoRow : OpenClaim := { program := "ythgdinjgdjiknaa", sum := "82ec82daaa12a4bead08c4c60a6127b9a388873d3ab10b1926f5287e8552a055", func := "almonry/almonrylaw09.SnapSees", spec := "snapSees", unfollowed := true, recurses := true, apart := false, narrowed := true }
def SnapSeesUptoSaid : Prop := snapSeesUptoRow.holds Try.pinned (OpenSpec.upto snapSeesSpec)

end Rows
end Go.Proofs.Ythgdinjgdjiknaa
