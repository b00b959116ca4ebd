/- How layer 9's inputs are read. -/
import Derived.Test.YthgdinjgdjiknaaSnapAwake
namespace Go.Proofs.Ythgdinjgdjiknaa
open Go.Al Go.Proofs
set_option linter.unusedVariables false
set_option linter.unusedSimpArgs false
set_option linter.unusedSectionVars false
set_option maxRecDepth 100000

abbrev PgT := Int × Int × Int × Int × Bs × List Bs × Unit
def vPg : Vw Try.prog 95 PgT := vStruct Try.underlying95 (fvCons rfl 1 (by kernel_rfl) vI (fvCons rfl 1 (by kernel_rfl) vI (fvCons rfl 1 (by kernel_rfl) vI (fvCons rfl 1 (by kernel_rfl) vI (fvCons rfl 1 (by kernel_rfl) vS (fvCons rfl 1 (by kernel_rfl) vStrs fvNil)))))) (by kernel_rfl)
abbrev VwT := Int × SnT × Int × List Int × PgT × Unit
def vVw : Vw Try.prog 97 VwT := vStruct Try.underlying97 (fvCons rfl 1 (by kernel_rfl) vI (fvCons rfl 2 (by kernel_rfl) vSnap (fvCons rfl 1 (by kernel_rfl) vI (fvCons rfl 1 (by kernel_rfl) vInts (fvCons rfl 6 (by kernel_rfl) vPg fvNil))))) (by kernel_rfl)
abbrev TxT := Int × Int × Bool × Bs × Bs × Unit
def vTx : Vw Try.prog 99 TxT := vStruct Try.underlying99 (fvCons rfl 1 (by kernel_rfl) vI (fvCons rfl 1 (by kernel_rfl) vI (fvCons rfl 1 (by kernel_rfl) vB (fvCons rfl 1 (by kernel_rfl) vS (fvCons rfl 1 (by kernel_rfl) vS fvNil))))) (by kernel_rfl)
abbrev PageT := Int × Int × List SaidT × Unit
def vPage : Vw Try.prog 91 PageT := vStruct Try.underlying91 (fvCons rfl 1 (by kernel_rfl) vI (fvCons rfl 1 (by kernel_rfl) vI (fvCons rfl 1 (by kernel_rfl) vSaids fvNil))) (by kernel_rfl)

def toPg (p : PgT) : Pg := ⟨p.1, p.2.1, p.2.2.1, p.2.2.2.1, p.2.2.2.2.1, p.2.2.2.2.2.1⟩
def toVx (v : VwT) : Vx := ⟨v.1, v.2.1.1, v.2.1.2.1, v.2.2.1, v.2.2.2.1, toPg v.2.2.2.2.1⟩
def toTx (t : TxT) : Tx := ⟨t.1, t.2.1, t.2.2.1, t.2.2.2.1, t.2.2.2.2.1⟩

theorem view_in {w : World} {cs : Array Value} {x : VwT} (h : vVw.rel w cs.toList x) : VwAs w cs (toVx x) := by
  obtain ⟨m, ⟨nx, act, u1⟩, own, run, ⟨lsn, kind, level, right, high, items, u2⟩, u3⟩ := x
  obtain ⟨c0, r0, h0, ⟨rfl, hm⟩, c1, r1, rfl, ⟨c2, r2, rfl, ⟨rfl, _⟩, c3, r3, rfl, ⟨av, rfl, hav⟩, h4⟩, c5, r5, rfl, ⟨rfl, _⟩, c6, r6, rfl, ⟨rv, rfl, hrv⟩, c7, r7, rfl, ⟨c8, r8, rfl, ⟨rfl, _⟩, c9, r9, rfl, ⟨rfl, _⟩, c10, r10, rfl, ⟨rfl, _⟩, c11, r11, rfl, ⟨rfl, _⟩, c12, r12, rfl, ⟨rfl, _⟩, c13, r13, rfl, ⟨iv0, rfl, hit⟩, h14⟩, h15⟩ := h
  cases h4
  cases h14
  cases h15
  obtain ⟨hi1, hi2⟩ := strs_in hit
  refine ⟨⟨av, rv, iv0, ?_, (ints_in hav).1, (ints_in hrv).1, hi1⟩, hi2, i64_of_wf hm⟩
  apply Array.ext'
  rw [h0]; rfl
theorem tx_in {w : World} {cs : Array Value} {x : TxT} (h : vTx.rel w cs.toList x) : cs = txc (toTx x) ∧ In x.1 ∧ In x.2.1 := by
  obtain ⟨xmin, xmax, fz, key, val, u⟩ := x
  obtain ⟨c0, r0, h0, ⟨rfl, h1⟩, c1, r1, rfl, ⟨rfl, h2⟩, c2, r2, rfl, h3, c4, r4, rfl, ⟨rfl, _⟩, c5, r5, rfl, ⟨rfl, _⟩, h6⟩ := h
  cases h3
  cases h6
  refine ⟨?_, i64_of_wf h1, i64_of_wf h2⟩
  apply Array.ext'
  rw [h0]; rfl
theorem page_in {w : World} {cs : Array Value} {x : PageT} (h : vPage.rel w cs.toList x) : ∃ sv, cs = #[iv x.1, iv x.2.1, sv] ∧ SliceAs vSaid w sv x.2.2.1 ∧ In x.1 := by
  obtain ⟨m, f, l, u⟩ := x
  obtain ⟨c0, r0, h0, ⟨rfl, h1⟩, c1, r1, rfl, ⟨rfl, h2⟩, c2, r2, rfl, ⟨sv, rfl, hs⟩, h6⟩ := h
  cases h6
  refine ⟨sv, ?_, hs, i64_of_wf h1⟩
  apply Array.ext'
  rw [h0]; rfl

end Go.Proofs.Ythgdinjgdjiknaa
