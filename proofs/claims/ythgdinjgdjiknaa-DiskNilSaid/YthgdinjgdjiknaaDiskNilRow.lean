/- DiskNil, the row: true at every input. No condition. -/
import Derived.Test.YthgdinjgdjiknaaDiskLaws1
import Derived.Test.YthgdinjgdjiknaaDiskViews
namespace Go.Proofs.Ythgdinjgdjiknaa
open Go.Al Go.Proofs
open Go.ChangeShapes Go.WideShapes Go.ChangeAt Go.RowKit
set_option linter.unusedVariables false
set_option linter.unusedSimpArgs false

theorem own_dnil : ownKnob Try.prog.godebug = none := by kernel_rfl
theorem laid_dnil : laidOutB Try.prog = true := by kernel_rfl

set_option maxRecDepth 100000 in
theorem dnil_in {H : Type} {enc : TypeId × Value → H} (W : World) (args : List Value) (ds : List (DataW H)) (p : List MemPlace) (h : LawIn enc Try.prog Try.f7.params.toList W args ds p) : Cl Try.prog 7 args W fun v w' => v = .bool true ∧ Fm (fun _ => False) W w' := by
  rw [Try.params7] at h
  have hl := h.len
  obtain ⟨v0, x0, b0, g0, r0, o0⟩ := h.arg (j := 0) rfl vI
  match args, hl with
  | [a0], _ =>
  obtain rfl : a0 = v0 := by simpa using g0
  obtain ⟨rfl, w0⟩ := arg_int r0 o0
  exact dnil_law W x0

set_option maxRecDepth 100000 in
theorem dnil_lifted (os : Os) (started : os.Started) (H : Type) (enc : TypeId × Value → H) :
    ReturnsInHanded {} Try.checked os 7 .any (Rows.diskNilSpec.pre6 enc Try.prog Try.f7 Rows.diskNilRow.domain false) (Rows.diskNilSpec.post enc Try.prog Try.f7 false true false false) :=
  law_lifted (C := Try.checked) (tb := 4) own_dnil started (by kernel_rfl) Try.func7 laid_dnil
    (ChangeSpec.witness6 (enc := enc) (C := Try.checked) false ⟨#[], #[.int .i64 0], []⟩ 8 (by kernel_rfl) (by kernel_rfl) (by kernel_rfl) (by kernel_rfl))
    rfl Try.underlying4 rfl (of_decide_eq_true (by kernel_rfl))
    (fun ds hl => match ds, hl with | [_], _ => rfl)
    (fun W args ds p h => dnil_in W args ds p h)

theorem diskNil_holds : Rows.DiskNilSaid :=
  OpenClaim.holds_of_wide 7 Try.f7 rfl rfl rfl rfl rfl rfl rfl ⟨rfl, rfl, rfl, rfl, rfl⟩ rfl rfl rfl rfl rfl (by kernel_rfl) Try.func7 (by kernel_rfl)
    (of_decide_eq_true (by kernel_rfl)) (by unfold Func.isWrapper; first | (rw [if_pos (by decide +kernel)]; kernel_rfl) | (rw [if_neg (by decide +kernel)]; exact ⟨rfl, rfl⟩))
    (fun os started H enc _ => dnil_lifted os started H enc)

end Go.Proofs.Ythgdinjgdjiknaa
