/- RestartWins, the row: true at every input. No condition. -/
import Derived.Test.YthgdinjgdjiknaaRestViews
import Derived.Test.YthgdinjgdjiknaaRows
namespace Go.Proofs.Ythgdinjgdjiknaa
open Go.Al Go.Proofs
open Go.ChangeShapes Go.WideShapes Go.ChangeAt Go.RowKit
set_option linter.unusedVariables false
set_option linter.unusedSimpArgs false

theorem own_rwins : ownKnob Try.prog.godebug = none := by kernel_rfl
theorem laid_rwins : laidOutB Try.prog = true := by kernel_rfl

set_option maxRecDepth 100000 in
theorem rwins_in {H : Type} {enc : TypeId × Value → H} (W : World) (args : List Value) (ds : List (DataW H)) (p : List MemPlace) (h : LawIn enc Try.prog Try.f8.params.toList W args ds p) : Cl Try.prog 8 args W fun v w' => v = .bool true ∧ Fm (fun _ => False) W w' := by
  rw [Try.params8] at h
  have hl := h.len
  obtain ⟨v0, x0, b0, g0, r0, o0⟩ := h.arg (j := 0) rfl vCtl
  obtain ⟨v1, x1, b1, g1, r1, o1⟩ := h.arg (j := 1) rfl vRcs
  obtain ⟨v2, x2, b2, g2, r2, o2⟩ := h.arg (j := 2) rfl vI
  match args, hl with
  | [a0, a1, a2], _ =>
  obtain rfl : a0 = v0 := by simpa using g0
  obtain ⟨cs0, rfl, s0⟩ := arg_struct r0 o0
  obtain rfl : a1 = v1 := by simpa using g1
  have s1 := arg_slice r1 o1
  obtain rfl : a2 = v2 := by simpa using g2
  obtain ⟨rfl, w2⟩ := arg_int r2 o2
  exact wins_in s0 s1 w2

set_option maxRecDepth 100000 in
theorem rwins_lifted (os : Os) (started : os.Started) (H : Type) (enc : TypeId × Value → H) :
    ReturnsInHanded {} Try.checked os 8 .any (Rows.restartWinsSpec.pre6 enc Try.prog Try.f8 Rows.restartWinsRow.domain false) (Rows.restartWinsSpec.post enc Try.prog Try.f8 false true false false) :=
  law_lifted (C := Try.checked) (tb := 4) own_rwins started (by kernel_rfl) Try.func8 laid_rwins
    (ChangeSpec.witness6 (enc := enc) (C := Try.checked) false ⟨#[], #[.agg #[.int .i64 0, .int .i64 0, .int .i64 0, .int .i64 0, .int .i64 0, .int .i64 0, .int .i64 0], .slice none 0 0, .int .i64 0], []⟩ 8 (by kernel_rfl) (by kernel_rfl) (by kernel_rfl) (by kernel_rfl))
    rfl Try.underlying4 rfl (of_decide_eq_true (by kernel_rfl))
    (fun ds hl => match ds, hl with | [_, _, _], _ => rfl)
    (fun W args ds p h => rwins_in W args ds p h)

theorem restartWins_holds : Rows.RestartWinsSaid :=
  OpenClaim.holds_of_wide 8 Try.f8 rfl rfl rfl rfl rfl rfl rfl ⟨rfl, rfl, rfl, rfl, rfl⟩ rfl rfl rfl rfl rfl (by kernel_rfl) Try.func8 (by kernel_rfl)
    (of_decide_eq_true (by kernel_rfl)) (by unfold Func.isWrapper; first | (rw [if_pos (by decide +kernel)]; kernel_rfl) | (rw [if_neg (by decide +kernel)]; exact ⟨rfl, rfl⟩))
    (fun os started H enc _ => rwins_lifted os started H enc)

end Go.Proofs.Ythgdinjgdjiknaa
