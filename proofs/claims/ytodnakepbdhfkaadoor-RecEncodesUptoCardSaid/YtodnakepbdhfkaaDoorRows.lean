/-
  NARROWER THAN 'FOR EVERY INPUT', by the rows' own cells (each row's printed sentence says how): PageSizes: laid · PageEncodes: laid · PageDecodes: laid · PageSames: laid · PageBack: laid · PageTorn: laid · PageFits: laid · PageChanges: laid · RecEncodes: laid · RecBack: laid · RecThere: laid · RecTorn: laid · RecSame: laid · RecRow: laid.
  DERIVED. THE GIVEN ROWS OF THIS SEAT. 14 by the template 'for every input the law returns true; each argument reads behind the call as it read before'; 0 by the template 'total and deterministic' (their statements: YtodnakepbdhfkaaDoorTotals.lean).
  GIVEN WITH THE SEED: the statements are not yours to turn. If you find one false, say at which input.
  Laid BY PROGRAM, IN A SANDBOX (cutbox-rows.mjs): the forced cells as the released guide's own fill.sh prints them over the translation 7e030918ffcdfbfe… (all of the seat's roots in one cut). By AI agents, Wed Nov 11 2026. No macro, syntax, notation, axiom, sorry.
-/
import Derived.Test.YtodnakepbdhfkaaDoorChecked
import GoSem.PinnedTables
import GoSem.Claim
import GoSem.ClaimJoined
import GoSem.ClaimMapViews
import Derived.JoinedTies
import Derived.KernelRfl
namespace Go.Proofs.YtodnakepbdhfkaaDoor
/- THE CELL 'sum', in the pinned program and in every row, IS THE sha256 OF THE DUMP (.gsa) THAT YtodnakepbdhfkaaDoorProg.lean LOADS. Nothing in Lean hashes anything: it is a label: what it is worth is what the hold of that sum in a sandbox is worth. -/
noncomputable def Tryd.pinned : Pinned := { name := "ytodnakepbdhfkaadoor", sum := "7e030918ffcdfbfe4677571bf35b12e0d89344cf03e8a23bf88f1b4cf24d67c2", checked := Tryd.checked }
namespace Rows
def none {H : Type} : Left H := { results := [], args := [] }

/- WHAT THE LISTED PACKAGE-LEVEL VARIABLES READ AS WHEN THE CALL BEGINS. Each datum BY PROGRAM (the guide's laid-datum.mjs) off the statement by which the dump's own 'gosem.cut.vars' lays the variable. In a bare row this is a premise. The card (YtodnakepbdhfkaaDoorCards.lean) ties it to the program's text. -/
def laid_unicode_utf8_acceptRanges {H : Type} : DataW H := .agg [.agg [.lit (.int .u8 128), .lit (.int .u8 191)], .agg [.lit (.int .u8 160), .lit (.int .u8 191)], .agg [.lit (.int .u8 128), .lit (.int .u8 159)], .agg [.lit (.int .u8 144), .lit (.int .u8 191)], .agg [.lit (.int .u8 128), .lit (.int .u8 143)], .agg [.lit (.int .u8 0), .lit (.int .u8 0)], .agg [.lit (.int .u8 0), .lit (.int .u8 0)], .agg [.lit (.int .u8 0), .lit (.int .u8 0)], .agg [.lit (.int .u8 0), .lit (.int .u8 0)], .agg [.lit (.int .u8 0), .lit (.int .u8 0)], .agg [.lit (.int .u8 0), .lit (.int .u8 0)], .agg [.lit (.int .u8 0), .lit (.int .u8 0)], .agg [.lit (.int .u8 0), .lit (.int .u8 0)], .agg [.lit (.int .u8 0), .lit (.int .u8 0)], .agg [.lit (.int .u8 0), .lit (.int .u8 0)], .agg [.lit (.int .u8 0), .lit (.int .u8 0)]]
/-- One of Go's own tables, pinned by name: the form's constant. -/
def laid_unicode_utf8_first : DataW Unit := Go.Pinned.utf8First

/-- 'almonrylaw03.PageSizes': WHATEVER THE INPUT: true; the input reads as it did. -/
def pageSizesSpec : ChangeSpec := { name := "pageSizes", fn := fun _ => fun
  | [d] => { results := [.lit (.bool true)], args := [d] }
  | _ => none }
def pageSizesRow : OpenClaim := { program := "ytodnakepbdhfkaadoor", sum := "7e030918ffcdfbfe4677571bf35b12e0d89344cf03e8a23bf88f1b4cf24d67c2", func := "almonry/almonrylaw03.PageSizes", spec := "pageSizes", inPlace := ["slices.overlaps[string]", "internal/abi.NoEscape", "internal/bytealg.MakeNoZero", "internal/bytealg.IndexByteString", "internal/bytealg.IndexString"], named := ["unicode/utf8.first", "unicode/utf8.acceptRanges", "internal/bytealg.MaxLen"], apart := false, laid := [("unicode/utf8.acceptRanges", laid_unicode_utf8_acceptRanges), ("unicode/utf8.first", laid_unicode_utf8_first)] }
def PageSizesSaid : Prop := pageSizesRow.holds Tryd.pinned (OpenSpec.ofChange pageSizesSpec)

/-- ITS FALSE NEIGHBOUR: 'it returns false'. Refute it at one input. -/
def pageSizesWrong : ChangeSpec := { name := "pageSizes", fn := fun _ => fun
  | [d] => { results := [.lit (.bool false)], args := [d] }
  | _ => none }
def PageSizesWrongFalsely : Prop := pageSizesRow.holds Tryd.pinned (OpenSpec.ofChange pageSizesWrong)

/-- 'almonrylaw03.PageEncodes': WHATEVER THE INPUT: true; the input reads as it did. -/
def pageEncodesSpec : ChangeSpec := { name := "pageEncodes", fn := fun _ => fun
  | [d] => { results := [.lit (.bool true)], args := [d] }
  | _ => none }
def pageEncodesRow : OpenClaim := { program := "ytodnakepbdhfkaadoor", sum := "7e030918ffcdfbfe4677571bf35b12e0d89344cf03e8a23bf88f1b4cf24d67c2", func := "almonry/almonrylaw03.PageEncodes", spec := "pageEncodes", inPlace := ["internal/abi.NoEscape", "internal/bytealg.MakeNoZero", "slices.overlaps[string]", "internal/bytealg.IndexByteString", "internal/bytealg.IndexString"], named := ["unicode/utf8.first", "unicode/utf8.acceptRanges", "internal/bytealg.MaxLen"], apart := false, laid := [("unicode/utf8.acceptRanges", laid_unicode_utf8_acceptRanges), ("unicode/utf8.first", laid_unicode_utf8_first)] }
def PageEncodesSaid : Prop := pageEncodesRow.holds Tryd.pinned (OpenSpec.ofChange pageEncodesSpec)

/-- ITS FALSE NEIGHBOUR: 'it returns false'. Refute it at one input. -/
def pageEncodesWrong : ChangeSpec := { name := "pageEncodes", fn := fun _ => fun
  | [d] => { results := [.lit (.bool false)], args := [d] }
  | _ => none }
def PageEncodesWrongFalsely : Prop := pageEncodesRow.holds Tryd.pinned (OpenSpec.ofChange pageEncodesWrong)

/-- 'almonrylaw03.PageDecodes': WHATEVER THE INPUT: true; the input reads as it did. -/
def pageDecodesSpec : ChangeSpec := { name := "pageDecodes", fn := fun _ => fun
  | [d1, d2] => { results := [.lit (.bool true)], args := [d1, d2] }
  | _ => none }
def pageDecodesRow : OpenClaim := { program := "ytodnakepbdhfkaadoor", sum := "7e030918ffcdfbfe4677571bf35b12e0d89344cf03e8a23bf88f1b4cf24d67c2", func := "almonry/almonrylaw03.PageDecodes", spec := "pageDecodes", inPlace := ["internal/bytealg.IndexByteString", "internal/bytealg.IndexString", "slices.overlaps[string]", "internal/abi.NoEscape", "internal/bytealg.MakeNoZero"], named := ["unicode/utf8.first", "unicode/utf8.acceptRanges", "internal/bytealg.MaxLen"], apart := false, laid := [("unicode/utf8.acceptRanges", laid_unicode_utf8_acceptRanges), ("unicode/utf8.first", laid_unicode_utf8_first)] }
def PageDecodesSaid : Prop := pageDecodesRow.holds Tryd.pinned (OpenSpec.ofChange pageDecodesSpec)

/-- ITS FALSE NEIGHBOUR: 'it returns false'. Refute it at one input. -/
def pageDecodesWrong : ChangeSpec := { name := "pageDecodes", fn := fun _ => fun
  | [d1, d2] => { results := [.lit (.bool false)], args := [d1, d2] }
  | _ => none }
def PageDecodesWrongFalsely : Prop := pageDecodesRow.holds Tryd.pinned (OpenSpec.ofChange pageDecodesWrong)

/-- 'almonrylaw03.PageSames': WHATEVER THE INPUT: true; the input reads as it did. -/
def pageSamesSpec : ChangeSpec := { name := "pageSames", fn := fun _ => fun
  | [d1, d2] => { results := [.lit (.bool true)], args := [d1, d2] }
  | _ => none }
def pageSamesRow : OpenClaim := { program := "ytodnakepbdhfkaadoor", sum := "7e030918ffcdfbfe4677571bf35b12e0d89344cf03e8a23bf88f1b4cf24d67c2", func := "almonry/almonrylaw03.PageSames", spec := "pageSames", inPlace := ["slices.overlaps[string]", "internal/abi.NoEscape", "internal/bytealg.MakeNoZero", "internal/bytealg.IndexByteString", "internal/bytealg.IndexString"], named := ["unicode/utf8.first", "unicode/utf8.acceptRanges", "internal/bytealg.MaxLen"], apart := false, laid := [("unicode/utf8.acceptRanges", laid_unicode_utf8_acceptRanges), ("unicode/utf8.first", laid_unicode_utf8_first)] }
def PageSamesSaid : Prop := pageSamesRow.holds Tryd.pinned (OpenSpec.ofChange pageSamesSpec)

/-- ITS FALSE NEIGHBOUR: 'it returns false'. Refute it at one input. -/
def pageSamesWrong : ChangeSpec := { name := "pageSames", fn := fun _ => fun
  | [d1, d2] => { results := [.lit (.bool false)], args := [d1, d2] }
  | _ => none }
def PageSamesWrongFalsely : Prop := pageSamesRow.holds Tryd.pinned (OpenSpec.ofChange pageSamesWrong)

/-- 'almonrylaw03.PageBack': WHATEVER THE INPUT: true; the input reads as it did. -/
def pageBackSpec : ChangeSpec := { name := "pageBack", fn := fun _ => fun
  | [d1, d2] => { results := [.lit (.bool true)], args := [d1, d2] }
  | _ => none }
def pageBackRow : OpenClaim := { program := "ytodnakepbdhfkaadoor", sum := "7e030918ffcdfbfe4677571bf35b12e0d89344cf03e8a23bf88f1b4cf24d67c2", func := "almonry/almonrylaw03.PageBack", spec := "pageBack", inPlace := ["internal/abi.NoEscape", "internal/bytealg.MakeNoZero", "internal/bytealg.IndexByteString", "internal/bytealg.IndexString", "slices.overlaps[string]"], named := ["unicode/utf8.first", "unicode/utf8.acceptRanges", "internal/bytealg.MaxLen"], apart := false, laid := [("unicode/utf8.acceptRanges", laid_unicode_utf8_acceptRanges), ("unicode/utf8.first", laid_unicode_utf8_first)] }
def PageBackSaid : Prop := pageBackRow.holds Tryd.pinned (OpenSpec.ofChange pageBackSpec)

/-- ITS FALSE NEIGHBOUR: 'it returns false'. Refute it at one input. -/
def pageBackWrong : ChangeSpec := { name := "pageBack", fn := fun _ => fun
  | [d1, d2] => { results := [.lit (.bool false)], args := [d1, d2] }
  | _ => none }
def PageBackWrongFalsely : Prop := pageBackRow.holds Tryd.pinned (OpenSpec.ofChange pageBackWrong)

/-- 'almonrylaw03.PageTorn': WHATEVER THE INPUT: true; the input reads as it did. -/
def pageTornSpec : ChangeSpec := { name := "pageTorn", fn := fun _ => fun
  | [d1, d2, d3] => { results := [.lit (.bool true)], args := [d1, d2, d3] }
  | _ => none }
def pageTornRow : OpenClaim := { program := "ytodnakepbdhfkaadoor", sum := "7e030918ffcdfbfe4677571bf35b12e0d89344cf03e8a23bf88f1b4cf24d67c2", func := "almonry/almonrylaw03.PageTorn", spec := "pageTorn", inPlace := ["internal/abi.NoEscape", "internal/bytealg.MakeNoZero", "slices.overlaps[string]", "internal/bytealg.IndexByteString", "internal/bytealg.IndexString"], named := ["unicode/utf8.first", "unicode/utf8.acceptRanges", "internal/bytealg.MaxLen"], apart := false, laid := [("unicode/utf8.acceptRanges", laid_unicode_utf8_acceptRanges), ("unicode/utf8.first", laid_unicode_utf8_first)] }
def PageTornSaid : Prop := pageTornRow.holds Tryd.pinned (OpenSpec.ofChange pageTornSpec)

/-- ITS FALSE NEIGHBOUR: 'it returns false'. Refute it at one input. -/
def pageTornWrong : ChangeSpec := { name := "pageTorn", fn := fun _ => fun
  | [d1, d2, d3] => { results := [.lit (.bool false)], args := [d1, d2, d3] }
  | _ => none }
def PageTornWrongFalsely : Prop := pageTornRow.holds Tryd.pinned (OpenSpec.ofChange pageTornWrong)

/-- 'almonrylaw03.PageFits': WHATEVER THE INPUT: true; the input reads as it did. -/
def pageFitsSpec : ChangeSpec := { name := "pageFits", fn := fun _ => fun
  | [d1, d2] => { results := [.lit (.bool true)], args := [d1, d2] }
  | _ => none }
def pageFitsRow : OpenClaim := { program := "ytodnakepbdhfkaadoor", sum := "7e030918ffcdfbfe4677571bf35b12e0d89344cf03e8a23bf88f1b4cf24d67c2", func := "almonry/almonrylaw03.PageFits", spec := "pageFits", inPlace := ["internal/abi.NoEscape", "internal/bytealg.MakeNoZero", "slices.overlaps[string]", "internal/bytealg.IndexByteString", "internal/bytealg.IndexString"], named := ["unicode/utf8.first", "unicode/utf8.acceptRanges", "internal/bytealg.MaxLen"], apart := false, laid := [("unicode/utf8.acceptRanges", laid_unicode_utf8_acceptRanges), ("unicode/utf8.first", laid_unicode_utf8_first)] }
def PageFitsSaid : Prop := pageFitsRow.holds Tryd.pinned (OpenSpec.ofChange pageFitsSpec)

/-- ITS FALSE NEIGHBOUR: 'it returns false'. Refute it at one input. -/
def pageFitsWrong : ChangeSpec := { name := "pageFits", fn := fun _ => fun
  | [d1, d2] => { results := [.lit (.bool false)], args := [d1, d2] }
  | _ => none }
def PageFitsWrongFalsely : Prop := pageFitsRow.holds Tryd.pinned (OpenSpec.ofChange pageFitsWrong)

/-- 'almonrylaw03.PageChanges': WHATEVER THE INPUT: true; the input reads as it did. -/
def pageChangesSpec : ChangeSpec := { name := "pageChanges", fn := fun _ => fun
  | [d1, d2] => { results := [.lit (.bool true)], args := [d1, d2] }
  | _ => none }
def pageChangesRow : OpenClaim := { program := "ytodnakepbdhfkaadoor", sum := "7e030918ffcdfbfe4677571bf35b12e0d89344cf03e8a23bf88f1b4cf24d67c2", func := "almonry/almonrylaw03.PageChanges", spec := "pageChanges", inPlace := ["slices.overlaps[string]", "internal/abi.NoEscape", "internal/bytealg.MakeNoZero", "internal/bytealg.IndexByteString", "internal/bytealg.IndexString"], named := ["unicode/utf8.first", "unicode/utf8.acceptRanges", "internal/bytealg.MaxLen"], apart := false, laid := [("unicode/utf8.acceptRanges", laid_unicode_utf8_acceptRanges), ("unicode/utf8.first", laid_unicode_utf8_first)] }
def PageChangesSaid : Prop := pageChangesRow.holds Tryd.pinned (OpenSpec.ofChange pageChangesSpec)

/-- ITS FALSE NEIGHBOUR: 'it returns false'. Refute it at one input. -/
def pageChangesWrong : ChangeSpec := { name := "pageChanges", fn := fun _ => fun
  | [d1, d2] => { results := [.lit (.bool false)], args := [d1, d2] }
  | _ => none }
def PageChangesWrongFalsely : Prop := pageChangesRow.holds Tryd.pinned (OpenSpec.ofChange pageChangesWrong)

/-- 'almonrylaw04.RecEncodes': WHATEVER THE INPUT: true; the input reads as it did. -/
def recEncodesSpec : ChangeSpec := { name := "recEncodes", fn := fun _ => fun
  | [d1, d2] => { results := [.lit (.bool true)], args := [d1, d2] }
  | _ => none }
def recEncodesRow : OpenClaim := { program := "ytodnakepbdhfkaadoor", sum := "7e030918ffcdfbfe4677571bf35b12e0d89344cf03e8a23bf88f1b4cf24d67c2", func := "almonry/almonrylaw04.RecEncodes", spec := "recEncodes", inPlace := ["internal/abi.NoEscape", "internal/bytealg.MakeNoZero", "internal/bytealg.IndexByteString", "internal/bytealg.IndexString"], unfollowed := true, recurses := true, named := ["unicode/utf8.first", "unicode/utf8.acceptRanges", "internal/bytealg.MaxLen"], apart := false, laid := [("unicode/utf8.acceptRanges", laid_unicode_utf8_acceptRanges), ("unicode/utf8.first", laid_unicode_utf8_first)] }
def RecEncodesSaid : Prop := recEncodesRow.holds Tryd.pinned (OpenSpec.ofChange recEncodesSpec)

/-- ITS FALSE NEIGHBOUR: 'it returns false'. Refute it at one input. -/
def recEncodesWrong : ChangeSpec := { name := "recEncodes", fn := fun _ => fun
  | [d1, d2] => { results := [.lit (.bool false)], args := [d1, d2] }
  | _ => none }
def RecEncodesWrongFalsely : Prop := recEncodesRow.holds Tryd.pinned (OpenSpec.ofChange recEncodesWrong)

/-- 'almonrylaw04.RecBack': WHATEVER THE INPUT: true; the input reads as it did. -/
def recBackSpec : ChangeSpec := { name := "recBack", fn := fun _ => fun
  | [d1, d2, d3] => { results := [.lit (.bool true)], args := [d1, d2, d3] }
  | _ => none }
def recBackRow : OpenClaim := { program := "ytodnakepbdhfkaadoor", sum := "7e030918ffcdfbfe4677571bf35b12e0d89344cf03e8a23bf88f1b4cf24d67c2", func := "almonry/almonrylaw04.RecBack", spec := "recBack", inPlace := ["internal/abi.NoEscape", "internal/bytealg.MakeNoZero", "internal/bytealg.IndexByteString", "internal/bytealg.IndexString"], unfollowed := true, recurses := true, named := ["unicode/utf8.first", "unicode/utf8.acceptRanges", "internal/bytealg.MaxLen"], apart := false, laid := [("unicode/utf8.acceptRanges", laid_unicode_utf8_acceptRanges), ("unicode/utf8.first", laid_unicode_utf8_first)] }
def RecBackSaid : Prop := recBackRow.holds Tryd.pinned (OpenSpec.ofChange recBackSpec)

/-- ITS FALSE NEIGHBOUR: 'it returns false'. Refute it at one input. -/
def recBackWrong : ChangeSpec := { name := "recBack", fn := fun _ => fun
  | [d1, d2, d3] => { results := [.lit (.bool false)], args := [d1, d2, d3] }
  | _ => none }
def RecBackWrongFalsely : Prop := recBackRow.holds Tryd.pinned (OpenSpec.ofChange recBackWrong)

/-- 'almonrylaw04.RecThere': WHATEVER THE INPUT: true; the input reads as it did. -/
def recThereSpec : ChangeSpec := { name := "recThere", fn := fun _ => fun
  | [d] => { results := [.lit (.bool true)], args := [d] }
  | _ => none }
def recThereRow : OpenClaim := { program := "ytodnakepbdhfkaadoor", sum := "7e030918ffcdfbfe4677571bf35b12e0d89344cf03e8a23bf88f1b4cf24d67c2", func := "almonry/almonrylaw04.RecThere", spec := "recThere", inPlace := ["internal/abi.NoEscape", "internal/bytealg.MakeNoZero", "internal/bytealg.IndexByteString", "internal/bytealg.IndexString"], unfollowed := true, recurses := true, named := ["unicode/utf8.first", "unicode/utf8.acceptRanges", "internal/bytealg.MaxLen"], apart := false, laid := [("unicode/utf8.acceptRanges", laid_unicode_utf8_acceptRanges), ("unicode/utf8.first", laid_unicode_utf8_first)] }
def RecThereSaid : Prop := recThereRow.holds Tryd.pinned (OpenSpec.ofChange recThereSpec)

/-- ITS FALSE NEIGHBOUR: 'it returns false'. Refute it at one input. -/
def recThereWrong : ChangeSpec := { name := "recThere", fn := fun _ => fun
  | [d] => { results := [.lit (.bool false)], args := [d] }
  | _ => none }
def RecThereWrongFalsely : Prop := recThereRow.holds Tryd.pinned (OpenSpec.ofChange recThereWrong)

/-- 'almonrylaw04.RecTorn': WHATEVER THE INPUT: true; the input reads as it did. -/
def recTornSpec : ChangeSpec := { name := "recTorn", fn := fun _ => fun
  | [d1, d2, d3] => { results := [.lit (.bool true)], args := [d1, d2, d3] }
  | _ => none }
def recTornRow : OpenClaim := { program := "ytodnakepbdhfkaadoor", sum := "7e030918ffcdfbfe4677571bf35b12e0d89344cf03e8a23bf88f1b4cf24d67c2", func := "almonry/almonrylaw04.RecTorn", spec := "recTorn", inPlace := ["internal/abi.NoEscape", "internal/bytealg.MakeNoZero", "internal/bytealg.IndexByteString", "internal/bytealg.IndexString"], unfollowed := true, recurses := true, named := ["unicode/utf8.first", "unicode/utf8.acceptRanges", "internal/bytealg.MaxLen"], apart := false, laid := [("unicode/utf8.acceptRanges", laid_unicode_utf8_acceptRanges), ("unicode/utf8.first", laid_unicode_utf8_first)] }
def RecTornSaid : Prop := recTornRow.holds Tryd.pinned (OpenSpec.ofChange recTornSpec)

/-- ITS FALSE NEIGHBOUR: 'it returns false'. Refute it at one input. -/
def recTornWrong : ChangeSpec := { name := "recTorn", fn := fun _ => fun
  | [d1, d2, d3] => { results := [.lit (.bool false)], args := [d1, d2, d3] }
  | _ => none }
def RecTornWrongFalsely : Prop := recTornRow.holds Tryd.pinned (OpenSpec.ofChange recTornWrong)

/-- 'almonrylaw04.RecSame': WHATEVER THE INPUT: true; the input reads as it did. -/
def recSameSpec : ChangeSpec := { name := "recSame", fn := fun _ => fun
  | [d1, d2] => { results := [.lit (.bool true)], args := [d1, d2] }
  | _ => none }
def recSameRow : OpenClaim := { program := "ytodnakepbdhfkaadoor", sum := "7e030918ffcdfbfe4677571bf35b12e0d89344cf03e8a23bf88f1b4cf24d67c2", func := "almonry/almonrylaw04.RecSame", spec := "recSame", inPlace := ["internal/abi.NoEscape", "internal/bytealg.MakeNoZero", "internal/bytealg.IndexByteString", "internal/bytealg.IndexString"], unfollowed := true, recurses := true, named := ["unicode/utf8.first", "unicode/utf8.acceptRanges", "internal/bytealg.MaxLen"], apart := false, laid := [("unicode/utf8.acceptRanges", laid_unicode_utf8_acceptRanges), ("unicode/utf8.first", laid_unicode_utf8_first)] }
def RecSameSaid : Prop := recSameRow.holds Tryd.pinned (OpenSpec.ofChange recSameSpec)

/-- ITS FALSE NEIGHBOUR: 'it returns false'. Refute it at one input. -/
def recSameWrong : ChangeSpec := { name := "recSame", fn := fun _ => fun
  | [d1, d2] => { results := [.lit (.bool false)], args := [d1, d2] }
  | _ => none }
def RecSameWrongFalsely : Prop := recSameRow.holds Tryd.pinned (OpenSpec.ofChange recSameWrong)

/-- 'almonrylaw04.RecRow': WHATEVER THE INPUT: true; the input reads as it did. -/
def recRowSpec : ChangeSpec := { name := "recRow", fn := fun _ => fun
  | [d] => { results := [.lit (.bool true)], args := [d] }
  | _ => none }
def recRowRow : OpenClaim := { program := "ytodnakepbdhfkaadoor", sum := "7e030918ffcdfbfe4677571bf35b12e0d89344cf03e8a23bf88f1b4cf24d67c2", func := "almonry/almonrylaw04.RecRow", spec := "recRow", inPlace := ["internal/abi.NoEscape", "internal/bytealg.MakeNoZero", "internal/bytealg.IndexByteString", "internal/bytealg.IndexString"], unfollowed := true, recurses := true, named := ["unicode/utf8.first", "unicode/utf8.acceptRanges", "internal/bytealg.MaxLen"], apart := false, laid := [("unicode/utf8.acceptRanges", laid_unicode_utf8_acceptRanges), ("unicode/utf8.first", laid_unicode_utf8_first)] }
def RecRowSaid : Prop := recRowRow.holds Tryd.pinned (OpenSpec.ofChange recRowSpec)

/-- ITS FALSE NEIGHBOUR: 'it returns false'. Refute it at one input. -/
def recRowWrong : ChangeSpec := { name := "recRow", fn := fun _ => fun
  | [d] => { results := [.lit (.bool false)], args := [d] }
  | _ => none }
def RecRowWrongFalsely : Prop := recRowRow.holds Tryd.pinned (OpenSpec.ofChange recRowWrong)

/- THE SECOND FORM. 'bulk': how many values and letters a reading holds, each counted each time it is reached (what is shared counts as often as it is met; a slice's spare places count too). A statement '..UptoSaid' is the law's where the arguments, and the package variables that the reading takes, are together of bulk at most 1048576: NARROWER than '..Said'. Prove '..Said' where nothing that the law and all that it calls make is longer than what came in: it says more and counts as full. Else prove '..UptoSaid'. A law counts once. -/
mutual
def uptoBulk {H : Type} : DataW H → Nat
  | .lit (.string bytes) => bytes.length + 1
  | .lit _ => 1
  | .nil => 1
  | .ptr d => uptoBulk d + 1
  | .slice elems spare => uptoBulkAll elems + uptoBulkAll spare + 1
  | .agg parts => uptoBulkAll parts + 1
  | .iface _ d => uptoBulk d + 1
  | .map entries => uptoBulkEntries entries + 1
  | .held _ => 1
def uptoBulkAll {H : Type} : List (DataW H) → Nat
  | [] => 0
  | d :: r => uptoBulk d + uptoBulkAll r
def uptoBulkEntries {H : Type} : List (Lit × DataW H) → Nat
  | [] => 0
  | x :: r => uptoBulkEntry x + uptoBulkEntries r
def uptoBulkEntry {H : Type} : Lit × DataW H → Nat
  | (.string bytes, d) => bytes.length + uptoBulk d + 1
  | (_, d) => uptoBulk d + 1
 end
def uptoSmall : (H : Type) → List (DataW H) → Bool := fun _ ds => decide (uptoBulkAll ds ≤ 1048576)
def OpenSpec.upto (s : _root_.Go.ChangeSpec) : _root_.Go.OpenSpec := { _root_.Go.OpenSpec.ofChange s with cond := some uptoSmall }

/-- 'almonrylaw03.PageSizes', WHERE WHAT IT READS IS OF BULK AT MOST 1048576: true; the input reads as it did. -/
def pageSizesUptoRow : OpenClaim := { program := "ytodnakepbdhfkaadoor", sum := "7e030918ffcdfbfe4677571bf35b12e0d89344cf03e8a23bf88f1b4cf24d67c2", func := "almonry/almonrylaw03.PageSizes", spec := "pageSizes", inPlace := ["slices.overlaps[string]", "internal/abi.NoEscape", "internal/bytealg.MakeNoZero", "internal/bytealg.IndexByteString", "internal/bytealg.IndexString"], named := ["unicode/utf8.first", "unicode/utf8.acceptRanges", "internal/bytealg.MaxLen"], apart := false, laid := [("unicode/utf8.acceptRanges", laid_unicode_utf8_acceptRanges), ("unicode/utf8.first", laid_unicode_utf8_first)], narrowed := true }
def PageSizesUptoSaid : Prop := pageSizesUptoRow.holds Tryd.pinned (OpenSpec.upto pageSizesSpec)

/-- 'almonrylaw03.PageEncodes', WHERE WHAT IT READS IS OF BULK AT MOST 1048576: true; the input reads as it did. -/
def pageEncodesUptoRow : OpenClaim := { program := "ytodnakepbdhfkaadoor", sum := "7e030918ffcdfbfe4677571bf35b12e0d89344cf03e8a23bf88f1b4cf24d67c2", func := "almonry/almonrylaw03.PageEncodes", spec := "pageEncodes", inPlace := ["internal/abi.NoEscape", "internal/bytealg.MakeNoZero", "slices.overlaps[string]", "internal/bytealg.IndexByteString", "internal/bytealg.IndexString"], named := ["unicode/utf8.first", "unicode/utf8.acceptRanges", "internal/bytealg.MaxLen"], apart := false, laid := [("unicode/utf8.acceptRanges", laid_unicode_utf8_acceptRanges), ("unicode/utf8.first", laid_unicode_utf8_first)], narrowed := true }
def PageEncodesUptoSaid : Prop := pageEncodesUptoRow.holds Tryd.pinned (OpenSpec.upto pageEncodesSpec)

/-- 'almonrylaw03.PageDecodes', WHERE WHAT IT READS IS OF BULK AT MOST 1048576: true; the input reads as it did. -/
def pageDecodesUptoRow : OpenClaim := { program := "ytodnakepbdhfkaadoor", sum := "7e030918ffcdfbfe4677571bf35b12e0d89344cf03e8a23bf88f1b4cf24d67c2", func := "almonry/almonrylaw03.PageDecodes", spec := "pageDecodes", inPlace := ["internal/bytealg.IndexByteString", "internal/bytealg.IndexString", "slices.overlaps[string]", "internal/abi.NoEscape", "internal/bytealg.MakeNoZero"], named := ["unicode/utf8.first", "unicode/utf8.acceptRanges", "internal/bytealg.MaxLen"], apart := false, laid := [("unicode/utf8.acceptRanges", laid_unicode_utf8_acceptRanges), ("unicode/utf8.first", laid_unicode_utf8_first)], narrowed := true }
def PageDecodesUptoSaid : Prop := pageDecodesUptoRow.holds Tryd.pinned (OpenSpec.upto pageDecodesSpec)

/-- 'almonrylaw03.PageSames', WHERE WHAT IT READS IS OF BULK AT MOST 1048576: true; the input reads as it did. -/
def pageSamesUptoRow : OpenClaim := { program := "ytodnakepbdhfkaadoor", sum := "7e030918ffcdfbfe4677571bf35b12e0d89344cf03e8a23bf88f1b4cf24d67c2", func := "almonry/almonrylaw03.PageSames", spec := "pageSames", inPlace := ["slices.overlaps[string]", "internal/abi.NoEscape", "internal/bytealg.MakeNoZero", "internal/bytealg.IndexByteString", "internal/bytealg.IndexString"], named := ["unicode/utf8.first", "unicode/utf8.acceptRanges", "internal/bytealg.MaxLen"], apart := false, laid := [("unicode/utf8.acceptRanges", laid_unicode_utf8_acceptRanges), ("unicode/utf8.first", laid_unicode_utf8_first)], narrowed := true }
def PageSamesUptoSaid : Prop := pageSamesUptoRow.holds Tryd.pinned (OpenSpec.upto pageSamesSpec)

/-- 'almonrylaw03.PageBack', WHERE WHAT IT READS IS OF BULK AT MOST 1048576: true; the input reads as it did. -/
def pageBackUptoRow : OpenClaim := { program := "ytodnakepbdhfkaadoor", sum := "7e030918ffcdfbfe4677571bf35b12e0d89344cf03e8a23bf88f1b4cf24d67c2", func := "almonry/almonrylaw03.PageBack", spec := "pageBack", inPlace := ["internal/abi.NoEscape", "internal/bytealg.MakeNoZero", "internal/bytealg.IndexByteString", "internal/bytealg.IndexString", "slices.overlaps[string]"], named := ["unicode/utf8.first", "unicode/utf8.acceptRanges", "internal/bytealg.MaxLen"], apart := false, laid := [("unicode/utf8.acceptRanges", laid_unicode_utf8_acceptRanges), ("unicode/utf8.first", laid_unicode_utf8_first)], narrowed := true }
def PageBackUptoSaid : Prop := pageBackUptoRow.holds Tryd.pinned (OpenSpec.upto pageBackSpec)

/-- 'almonrylaw03.PageTorn', WHERE WHAT IT READS IS OF BULK AT MOST 1048576: true; the input reads as it did. -/
def pageTornUptoRow : OpenClaim := { program := "ytodnakepbdhfkaadoor", sum := "7e030918ffcdfbfe4677571bf35b12e0d89344cf03e8a23bf88f1b4cf24d67c2", func := "almonry/almonrylaw03.PageTorn", spec := "pageTorn", inPlace := ["internal/abi.NoEscape", "internal/bytealg.MakeNoZero", "slices.overlaps[string]", "internal/bytealg.IndexByteString", "internal/bytealg.IndexString"], named := ["unicode/utf8.first", "unicode/utf8.acceptRanges", "internal/bytealg.MaxLen"], apart := false, laid := [("unicode/utf8.acceptRanges", laid_unicode_utf8_acceptRanges), ("unicode/utf8.first", laid_unicode_utf8_first)], narrowed := true }
def PageTornUptoSaid : Prop := pageTornUptoRow.holds Tryd.pinned (OpenSpec.upto pageTornSpec)

/-- 'almonrylaw03.PageFits', WHERE WHAT IT READS IS OF BULK AT MOST 1048576: true; the input reads as it did. -/
def pageFitsUptoRow : OpenClaim := { program := "ytodnakepbdhfkaadoor", sum := "7e030918ffcdfbfe4677571bf35b12e0d89344cf03e8a23bf88f1b4cf24d67c2", func := "almonry/almonrylaw03.PageFits", spec := "pageFits", inPlace := ["internal/abi.NoEscape", "internal/bytealg.MakeNoZero", "slices.overlaps[string]", "internal/bytealg.IndexByteString", "internal/bytealg.IndexString"], named := ["unicode/utf8.first", "unicode/utf8.acceptRanges", "internal/bytealg.MaxLen"], apart := false, laid := [("unicode/utf8.acceptRanges", laid_unicode_utf8_acceptRanges), ("unicode/utf8.first", laid_unicode_utf8_first)], narrowed := true }
def PageFitsUptoSaid : Prop := pageFitsUptoRow.holds Tryd.pinned (OpenSpec.upto pageFitsSpec)

/-- 'almonrylaw03.PageChanges', WHERE WHAT IT READS IS OF BULK AT MOST 1048576: true; the input reads as it did. -/
def pageChangesUptoRow : OpenClaim := { program := "ytodnakepbdhfkaadoor", sum := "7e030918ffcdfbfe4677571bf35b12e0d89344cf03e8a23bf88f1b4cf24d67c2", func := "almonry/almonrylaw03.PageChanges", spec := "pageChanges", inPlace := ["slices.overlaps[string]", "internal/abi.NoEscape", "internal/bytealg.MakeNoZero", "internal/bytealg.IndexByteString", "internal/bytealg.IndexString"], named := ["unicode/utf8.first", "unicode/utf8.acceptRanges", "internal/bytealg.MaxLen"], apart := false, laid := [("unicode/utf8.acceptRanges", laid_unicode_utf8_acceptRanges), ("unicode/utf8.first", laid_unicode_utf8_first)], narrowed := true }
def PageChangesUptoSaid : Prop := pageChangesUptoRow.holds Tryd.pinned (OpenSpec.upto pageChangesSpec)

/-- 'almonrylaw04.RecEncodes', WHERE WHAT IT READS IS OF BULK AT MOST 1048576: true; the input reads as it did. -/
def recEncodesUptoRow : OpenClaim := { program := "ytodnakepbdhfkaadoor", sum := "7e030918ffcdfbfe4677571bf35b12e0d89344cf03e8a23bf88f1b4cf24d67c2", func := "almonry/almonrylaw04.RecEncodes", spec := "recEncodes", inPlace := ["internal/abi.NoEscape", "internal/bytealg.MakeNoZero", "internal/bytealg.IndexByteString", "internal/bytealg.IndexString"], unfollowed := true, recurses := true, named := ["unicode/utf8.first", "unicode/utf8.acceptRanges", "internal/bytealg.MaxLen"], apart := false, laid := [("unicode/utf8.acceptRanges", laid_unicode_utf8_acceptRanges), ("unicode/utf8.first", laid_unicode_utf8_first)], narrowed := true }
def RecEncodesUptoSaid : Prop := recEncodesUptoRow.holds Tryd.pinned (OpenSpec.upto recEncodesSpec)

/-- 'almonrylaw04.RecBack', WHERE WHAT IT READS IS OF BULK AT MOST 1048576: true; the input reads as it did. -/
def recBackUptoRow : OpenClaim := { program := "ytodnakepbdhfkaadoor", sum := "7e030918ffcdfbfe4677571bf35b12e0d89344cf03e8a23bf88f1b4cf24d67c2", func := "almonry/almonrylaw04.RecBack", spec := "recBack", inPlace := ["internal/abi.NoEscape", "internal/bytealg.MakeNoZero", "internal/bytealg.IndexByteString", "internal/bytealg.IndexString"], unfollowed := true, recurses := true, named := ["unicode/utf8.first", "unicode/utf8.acceptRanges", "internal/bytealg.MaxLen"], apart := false, laid := [("unicode/utf8.acceptRanges", laid_unicode_utf8_acceptRanges), ("unicode/utf8.first", laid_unicode_utf8_first)], narrowed := true }
def RecBackUptoSaid : Prop := recBackUptoRow.holds Tryd.pinned (OpenSpec.upto recBackSpec)

/-- 'almonrylaw04.RecThere', WHERE WHAT IT READS IS OF BULK AT MOST 1048576: true; the input reads as it did. -/
def recThereUptoRow : OpenClaim := { program := "ytodnakepbdhfkaadoor", sum := "7e030918ffcdfbfe4677571bf35b12e0d89344cf03e8a23bf88f1b4cf24d67c2", func := "almonry/almonrylaw04.RecThere", spec := "recThere", inPlace := ["internal/abi.NoEscape", "internal/bytealg.MakeNoZero", "internal/bytealg.IndexByteString", "internal/bytealg.IndexString"], unfollowed := true, recurses := true, named := ["unicode/utf8.first", "unicode/utf8.acceptRanges", "internal/bytealg.MaxLen"], apart := false, laid := [("unicode/utf8.acceptRanges", laid_unicode_utf8_acceptRanges), ("unicode/utf8.first", laid_unicode_utf8_first)], narrowed := true }
def RecThereUptoSaid : Prop := recThereUptoRow.holds Tryd.pinned (OpenSpec.upto recThereSpec)

/-- 'almonrylaw04.RecTorn', WHERE WHAT IT READS IS OF BULK AT MOST 1048576: true; the input reads as it did. -/
def recTornUptoRow : OpenClaim := { program := "ytodnakepbdhfkaadoor", sum := "7e030918ffcdfbfe4677571bf35b12e0d89344cf03e8a23bf88f1b4cf24d67c2", func := "almonry/almonrylaw04.RecTorn", spec := "recTorn", inPlace := ["internal/abi.NoEscape", "internal/bytealg.MakeNoZero", "internal/bytealg.IndexByteString", "internal/bytealg.IndexString"], unfollowed := true, recurses := true, named := ["unicode/utf8.first", "unicode/utf8.acceptRanges", "internal/bytealg.MaxLen"], apart := false, laid := [("unicode/utf8.acceptRanges", laid_unicode_utf8_acceptRanges), ("unicode/utf8.first", laid_unicode_utf8_first)], narrowed := true }
def RecTornUptoSaid : Prop := recTornUptoRow.holds Tryd.pinned (OpenSpec.upto recTornSpec)

/-- 'almonrylaw04.RecSame', WHERE WHAT IT READS IS OF BULK AT MOST 1048576: true; the input reads as it did. -/
def recSameUptoRow : OpenClaim := { program := "ytodnakepbdhfkaadoor", sum := "7e030918ffcdfbfe4677571bf35b12e0d89344cf03e8a23bf88f1b4cf24d67c2", func := "almonry/almonrylaw04.RecSame", spec := "recSame", inPlace := ["internal/abi.NoEscape", "internal/bytealg.MakeNoZero", "internal/bytealg.IndexByteString", "internal/bytealg.IndexString"], unfollowed := true, recurses := true, named := ["unicode/utf8.first", "unicode/utf8.acceptRanges", "internal/bytealg.MaxLen"], apart := false, laid := [("unicode/utf8.acceptRanges", laid_unicode_utf8_acceptRanges), ("unicode/utf8.first", laid_unicode_utf8_first)], narrowed := true }
def RecSameUptoSaid : Prop := recSameUptoRow.holds Tryd.pinned (OpenSpec.upto recSameSpec)

/-- 'almonrylaw04.RecRow', WHERE WHAT IT READS IS OF BULK AT MOST 1048576: true; the input reads as it did. -/
def recRowUptoRow : OpenClaim := { program := "ytodnakepbdhfkaadoor", sum := "7e030918ffcdfbfe4677571bf35b12e0d89344cf03e8a23bf88f1b4cf24d67c2", func := "almonry/almonrylaw04.RecRow", spec := "recRow", inPlace := ["internal/abi.NoEscape", "internal/bytealg.MakeNoZero", "internal/bytealg.IndexByteString", "internal/bytealg.IndexString"], unfollowed := true, recurses := true, named := ["unicode/utf8.first", "unicode/utf8.acceptRanges", "internal/bytealg.MaxLen"], apart := false, laid := [("unicode/utf8.acceptRanges", laid_unicode_utf8_acceptRanges), ("unicode/utf8.first", laid_unicode_utf8_first)], narrowed := true }
def RecRowUptoSaid : Prop := recRowUptoRow.holds Tryd.pinned (OpenSpec.upto recRowSpec)

end Rows
end Go.Proofs.YtodnakepbdhfkaaDoor
