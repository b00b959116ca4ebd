/- How layer 2's inputs are read. -/
import Derived.Test.YthgdinjgdjiknaaAlView
import Derived.Test.YthgdinjgdjiknaaRows
namespace Go.Proofs.Ythgdinjgdjiknaa
open Go.Al Go.Proofs
def vI : Vw Try.prog 3 Int := vInt .i64 Try.underlying3 (by kernel_rfl)
def vB : Vw Try.prog 4 Bool := vBool Try.underlying4 (by kernel_rfl)
def vBools : Vw Try.prog 57 (List Bool) := vSlice Try.underlying57 (by kernel_rfl) vB
def vInts : Vw Try.prog 34 (List Int) := vSlice Try.underlying34 (by kernel_rfl) vI
end Go.Proofs.Ythgdinjgdjiknaa
