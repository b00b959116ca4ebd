/- RestartUndoes, the row: true at every input of small bulk. -/
import Derived.Test.YthgdinjgdjiknaaUndoViews
import Derived.Test.YthgdinjgdjiknaaAlUpto
import Derived.Test.YthgdinjgdjiknaaRows
namespace Go.Proofs.Ythgdinjgdjiknaa
open Go.Al Go.Proofs
open Go.ChangeShapes Go.WideShapes Go.ChangeAt Go.RowKit
set_option linter.unusedVariables false
set_option linter.unusedSimpArgs false

theorem own_rsund : ownKnob Try.prog.godebug = none := by kernel_rfl
theorem laid_rsund : laidOutB Try.prog = true := by kernel_rfl

set_option maxRecDepth 100000 in
theorem rsund_in {H : Type} {enc : TypeId × Value → H} (W : World) (args : List Value) (ds : List (DataW H)) (p : List MemPlace) (h : LawIn enc Try.prog Try.f9.params.toList W args ds p) (hk : Rows.uptoSmall H ds = true) : Cl Try.prog 9 args W fun v w' => v = .bool true ∧ Fm (fun _ => False) W w' := by
  rw [Try.params9] at h
  have hl := h.len
  obtain ⟨v0, x0, b0, g0, r0, o0⟩ := h.arg (j := 0) rfl vActs
  match args, hl with
  | [a0], _ =>
  obtain rfl : a0 = v0 := by simpa using g0
  have s0 := arg_slice r0 o0
  exact undoes_in s0

set_option maxRecDepth 100000 in
theorem rsund_lifted (os : Os) (started : os.Started) (H : Type) (enc : TypeId × Value → H) (F : Stop.Interp) :
    ReturnsInHanded {} Try.checked os 9 .any ((Rows.OpenSpec.upto Rows.restartUndoesSpec).pre6 enc Try.prog Try.f9 Rows.restartUndoesUptoRow.domain false) (((Rows.OpenSpec.upto Rows.restartUndoesSpec).at F).post enc Try.prog Try.f9 false true false false) :=
  law_upto (C := Try.checked) (tb := 4) (s := Rows.OpenSpec.upto Rows.restartUndoesSpec) (k := Rows.uptoSmall) rfl own_rsund started (by kernel_rfl) Try.func9 laid_rsund
    (OpenSpec.witness (enc := enc) (C := Try.checked) (s := Rows.OpenSpec.upto Rows.restartUndoesSpec) (k := Rows.uptoSmall) rfl false ⟨#[], #[.slice none 0 0], []⟩ 8 (by kernel_rfl) (by kernel_rfl) (by kernel_rfl)
      (x := ([.nil], [], [])) (by kernel_rfl) (by kernel_rfl) (by kernel_rfl) (by kernel_rfl))
    rfl Try.underlying4 rfl (of_decide_eq_true (by kernel_rfl))
    (fun ds hl => match ds, hl with | [_], _ => rfl)
    (fun W args ds p h hk => rsund_in W args ds p h hk)

theorem restartUndoes_holds : Rows.RestartUndoesUptoSaid :=
  OpenClaim.holds_of_cond 9 Try.f9 rfl rfl rfl rfl rfl rfl rfl ⟨rfl, rfl, rfl, rfl, rfl⟩ rfl rfl rfl rfl rfl (by kernel_rfl) Try.func9 (by kernel_rfl)
    (of_decide_eq_true (by kernel_rfl)) (by unfold Func.isWrapper; first | (rw [if_pos (by decide +kernel)]; kernel_rfl) | (rw [if_neg (by decide +kernel)]; exact ⟨rfl, rfl⟩))
    (fun os started H enc _ F => rsund_lifted os started H enc F)

end Go.Proofs.Ythgdinjgdjiknaa
