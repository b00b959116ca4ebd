/- How what comes in is read: a control block. -/
import Derived.Test.YthgdinjgdjiknaaRest5
import Derived.Test.YthgdinjgdjiknaaAlLaw
namespace Go.Proofs.Ythgdinjgdjiknaa
open Go.Al Go.Proofs
set_option maxRecDepth 100000
def vCfg : Vw Try.prog 63 (Int × Int × Int × Int × Unit) := vStruct Try.underlying63 (fvCons rfl 1 (by kernel_rfl) vI (fvCons rfl 1 (by kernel_rfl) vI (fvCons rfl 1 (by kernel_rfl) vI (fvCons rfl 1 (by kernel_rfl) vI fvNil)))) (by kernel_rfl)
abbrev CtlT := (Int × Int × Int × Int × Unit) × Int × Int × Int × Unit
def vCtl : Vw Try.prog 65 CtlT := vStruct Try.underlying65 (fvCons rfl 4 (by kernel_rfl) vCfg (fvCons rfl 1 (by kernel_rfl) vI (fvCons rfl 1 (by kernel_rfl) vI (fvCons rfl 1 (by kernel_rfl) vI fvNil)))) (by kernel_rfl)
theorem ctl_of {w : World} {cs : List Value} {x : CtlT} (h : vCtl.rel w cs x) : ∃ a0 a1 a2 a3 a4 start chk, Value.agg cs.toArray = .agg (ctl a0 a1 a2 a3 a4 start chk) := by
  obtain ⟨⟨a, b, c, d, u⟩, e, f, g, u'⟩ := x
  obtain ⟨c0, r0, rfl, ⟨d0, q0, rfl, ⟨rfl, _⟩, d1, q1, rfl, ⟨rfl, _⟩, d2, q2, rfl, ⟨rfl, _⟩, d3, q3, rfl, ⟨rfl, _⟩, h4⟩, c1, r1, rfl, ⟨rfl, _⟩, c2, r2, rfl, ⟨rfl, _⟩, c3, r3, rfl, ⟨rfl, _⟩, h7⟩ := h
  cases h4
  cases h7
  exact ⟨a, b, c, d, e, f, g, rfl⟩
theorem wins_in {w : World} {cs : Array Value} {x : CtlT} (h : vCtl.rel w cs.toList x) {v : Value} {rs : List Rc} (hv : SliceAs vRc w v rs) {who : Int} (hwho : (Lit.int .i64 who).wf = true) :
    Cl Try.prog 8 [.agg cs, v, iv who] w fun r w' => r = .bool true ∧ Fm (fun _ => False) w w' := by
  obtain ⟨a0, a1, a2, a3, a4, start, chk, he⟩ := ctl_of h
  rw [Array.toArray_toList] at he
  rw [he]
  exact wins_spec a0 a1 a2 a3 a4 start chk hv (i64_of_wf hwho)
end Go.Proofs.Ythgdinjgdjiknaa
