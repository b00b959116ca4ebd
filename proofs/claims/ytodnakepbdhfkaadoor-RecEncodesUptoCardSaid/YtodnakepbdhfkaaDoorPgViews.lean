/- How what comes in is read: a page, a text, a number. -/
import Derived.Test.YtodnakepbdhfkaaDoorPgLaws1
namespace Go.Proofs.YtodnakepbdhfkaaDoor
open Go.Al Go.Proofs
set_option linter.unusedVariables false
set_option maxRecDepth 100000
def vI : Vw Tryd.prog 3 Int := vInt .i64 Tryd.underlying3 (by kernel_rfl)
def vB : Vw Tryd.prog 4 Bool := vBool Tryd.underlying4 (by kernel_rfl)
def vU8 : Vw Tryd.prog 5 Int := vInt .u8 Tryd.underlying5 (by kernel_rfl)
def vS : Vw Tryd.prog 9 Bs := vStr Tryd.underlying9 (by kernel_rfl)
def vSs : Vw Tryd.prog 22 (List Bs) := vSlice Tryd.underlying22 (by kernel_rfl) vS
abbrev PgT := Int × Int × Int × Int × Bs × List Bs × Unit
def vPage : Vw Tryd.prog 24 PgT := vStruct Tryd.underlying24 (fvCons rfl 1 (by kernel_rfl) vI (fvCons rfl 1 (by kernel_rfl) vI (fvCons rfl 1 (by kernel_rfl) vI (fvCons rfl 1 (by kernel_rfl) vI (fvCons rfl 1 (by kernel_rfl) vS (fvCons rfl 1 (by kernel_rfl) vSs fvNil)))))) (by kernel_rfl)
def pgOf (x : PgT) : Pg := ⟨x.1, x.2.1, x.2.2.1, x.2.2.2.1, x.2.2.2.2.1, x.2.2.2.2.2.1⟩
/-- A page that came in. -/
structure PgIn (w : World) (cs : Array Value) (p : Pg) : Prop where
  isA : PgAs w cs p
  many : p.items.length * 16 ≤ 140737488351232
  small : (∀ x ∈ p.items, x.length ≤ 140737488351232) ∧ p.high.length ≤ 140737488351232
theorem page_of {w : World} {cs : Array Value} {x : PgT} (h : vPage.rel w cs.toList x) : PgIn w cs (pgOf x) := by
  obtain ⟨lsn, kind, level, right, high, items, u⟩ := x
  obtain ⟨c0, r0, he, ⟨rfl, h0⟩, c1, r1, rfl, ⟨rfl, h1⟩, c2, r2, rfl, ⟨rfl, h2⟩, c3, r3, rfl, ⟨rfl, h3⟩, c4, r4, rfl, ⟨rfl, h4⟩, c5, r5, rfl, ⟨im, rfl, him⟩, h6⟩ := h
  cases h6
  simp only at h0 h1 h2 h3 h4 him
  have hc := him.cells (f := stv) (by kernel_rfl) (fun cs x hx => hx.1)
  have hsm := him.small
  rw [show Tryd.prog.bytesOf 9 = 16 by kernel_rfl] at hsm
  unfold reachBytes at hsm h4
  have hone : im.oneCell' = true := by obtain ⟨⟨a, cap, rfl, _⟩, _⟩ := him; rfl
  have hit : ∀ x ∈ items, x.length ≤ 140737488351232 := by
    intro x hx
    obtain ⟨i, hi⟩ := List.getElem?_of_mem hx
    obtain ⟨ad, cs', _, hr, _⟩ := him.at hi (c := 1) (by kernel_rfl) .i64
    have := hr.2
    unfold reachBytes at this
    omega
  have hcs : cs = pcs (pgOf (lsn, kind, level, right, high, items, u)) im := by
    apply Array.ext'
    rw [he]; rfl
  refine ⟨⟨⟨im, hcs, hone, hc⟩, fun x hx => by have := hit x hx; omega, i64_of_wf h0, i64_of_wf h1, i64_of_wf h2, i64_of_wf h3, by show high.length ≤ _; omega, by show items.length * 16 ≤ _; omega⟩, by show items.length * 16 ≤ _; omega, hit, by show high.length ≤ _; omega⟩
end Go.Proofs.YtodnakepbdhfkaaDoor
