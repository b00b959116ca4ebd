/- RestartUndoes: how its acts are read. -/
import Derived.Test.YthgdinjgdjiknaaUndo4
import Derived.Test.YthgdinjgdjiknaaAlUpto
namespace Go.Proofs.Ythgdinjgdjiknaa
open Go.Al Go.Proofs
set_option linter.unusedVariables false
set_option maxRecDepth 100000
abbrev ActT := Int × Int × Unit
def vAct : Vw Try.prog 81 ActT := vStruct Try.underlying81 (fvCons rfl 1 (by kernel_rfl) vI (fvCons rfl 1 (by kernel_rfl) vI fvNil)) (by kernel_rfl)
def vActs : Vw Try.prog 79 (List ActT) := vSlice Try.underlying79 (by kernel_rfl) vAct
theorem act_in {w : World} {cs : List Value} {x : ActT} (h : vAct.rel w cs x) : cs = [iv x.1, iv x.2.1] ∧ In x.1 ∧ In x.2.1 := by
  obtain ⟨a, b, u⟩ := x
  obtain ⟨c0, r0, he, ⟨rfl, h0⟩, c1, r1, rfl, ⟨rfl, h1⟩, h6⟩ := h
  cases h6
  exact ⟨he, i64_of_wf h0, i64_of_wf h1⟩
theorem acts_cells {w : World} {v : Value} {xs : List ActT} (h : SliceAs vAct w v xs) : CellsAt w v (xs.map fun x => ((x.1, x.2.1) : Act)).length 2 (bcs (xs.map fun x => ((x.1, x.2.1) : Act))) := by
  obtain ⟨⟨a, cap, rfl, h1, h2, h3, h4⟩, _⟩ := h
  rw [List.length_map]
  refine ⟨⟨a, cap, rfl, h1, h2, h3, fun j u hj => ?_⟩, by rw [bcs_len, List.length_map]⟩
  have hlt := (List.getElem?_eq_some_iff.1 hj).1
  rw [bcs_len, List.length_map] at hlt
  have hx : xs[j / 2]? = some xs[j / 2] := List.getElem?_eq_getElem (by omega)
  obtain ⟨ad, cs', g1, g2, g3⟩ := h4 (j / 2) _ hx
  obtain ⟨rfl, _⟩ := act_in g2
  have hm : (xs.map fun x => ((x.1, x.2.1) : Act))[j / 2]? = some (xs[j / 2].1, xs[j / 2].2.1) := by rw [List.getElem?_map, hx]; rfl
  obtain ⟨e1, e2⟩ := bcs_get hm
  refine ⟨ad, g1, ?_⟩
  have hc : Try.prog.cellsOf 81 = 2 := by kernel_rfl
  rcases Nat.mod_two_eq_zero_or_one j with hj2 | hj2
  · have := g3 0 (by rw [hc]; omega)
    rw [hc, show j / 2 * 2 + 0 = j by omega] at this
    rw [show j / 2 * 2 + 0 = j by omega, hj] at e1
    rw [this, e1]; rfl
  · have := g3 1 (by rw [hc]; omega)
    rw [hc, show j / 2 * 2 + 1 = j by omega] at this
    rw [show j / 2 * 2 + 1 = j by omega, hj] at e2
    rw [this, e2]; rfl
theorem undoes_in {w : World} {v : Value} {xs : List ActT} (h : SliceAs vAct w v xs) : Cl Try.prog 9 [v] w fun r w' => r = .bool true ∧ Fm (fun _ => False) w w' := by
  refine undoes_law (acts_cells h) (fun a ha => ?_)
  obtain ⟨x, hx, rfl⟩ := List.mem_map.1 ha
  obtain ⟨i, hi⟩ := List.getElem?_of_mem hx
  obtain ⟨⟨a, cap, rfl, h1, h2, h3, h4⟩, _⟩ := h
  obtain ⟨ad, cs', g1, g2, g3⟩ := h4 i x hi
  exact (act_in g2).2
end Go.Proofs.Ythgdinjgdjiknaa
