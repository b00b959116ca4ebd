/- SnapSees, the row: true at every input. No condition. -/
import Derived.Test.YthgdinjgdjiknaaSnapSees
import Derived.Test.YthgdinjgdjiknaaRows
namespace Go.Proofs.Ythgdinjgdjiknaa
open Go.Al Go.Proofs
open Go.ChangeShapes Go.WideShapes Go.ChangeAt Go.RowKit
set_option linter.unusedVariables false
set_option linter.unusedSimpArgs false

theorem own_snsee : ownKnob Try.prog.godebug = none := by kernel_rfl
theorem laid_snsee : laidOutB Try.prog = true := by kernel_rfl

set_option maxRecDepth 100000 in
theorem snsee_in {H : Type} {enc : TypeId × Value → H} (W : World) (args : List Value) (ds : List (DataW H)) (p : List MemPlace) (h : LawIn enc Try.prog Try.f14.params.toList W args ds p) : Cl Try.prog 14 args W fun v w' => v = .bool true ∧ Fm (fun _ => False) W w' := by
  rw [Try.params14] at h
  have hl := h.len
  obtain ⟨v0, x0, b0, g0, r0, o0⟩ := h.arg (j := 0) rfl vPage
  obtain ⟨v1, x1, b1, g1, r1, o1⟩ := h.arg (j := 1) rfl vVw
  obtain ⟨v2, x2, b2, g2, r2, o2⟩ := h.arg (j := 2) rfl vTx
  match args, hl with
  | [a0, a1, a2], _ =>
  obtain rfl : a0 = v0 := by simpa using g0
  obtain ⟨cs0, rfl, s0⟩ := arg_struct r0 o0
  obtain rfl : a1 = v1 := by simpa using g1
  obtain ⟨cs1, rfl, s1⟩ := arg_struct r1 o1
  obtain rfl : a2 = v2 := by simpa using g2
  obtain ⟨cs2, rfl, s2⟩ := arg_struct r2 o2
  exact snapSees_law s0 s1 s2

set_option maxRecDepth 100000 in
theorem snsee_lifted (os : Os) (started : os.Started) (H : Type) (enc : TypeId × Value → H) :
    ReturnsInHanded {} Try.checked os 14 .any (Rows.snapSeesSpec.pre6 enc Try.prog Try.f14 Rows.snapSeesRow.domain false) (Rows.snapSeesSpec.post enc Try.prog Try.f14 false true false false) :=
  law_lifted (C := Try.checked) (tb := 4) own_snsee started (by kernel_rfl) Try.func14 laid_snsee
    (ChangeSpec.witness6 (enc := enc) (C := Try.checked) false ⟨#[], #[.agg #[.int .i64 0, .int .i64 0, .slice none 0 0], .agg #[.int .i64 0, .int .i64 0, .slice none 0 0, .int .i64 0, .slice none 0 0, .int .i64 0, .int .i64 0, .int .i64 0, .int .i64 0, .string ByteArray.empty, .slice none 0 0], .agg #[.int .i64 0, .int .i64 0, .bool false, .string ByteArray.empty, .string ByteArray.empty]], []⟩ 8 (by kernel_rfl) (by kernel_rfl) (by kernel_rfl) (by kernel_rfl))
    rfl Try.underlying4 rfl (of_decide_eq_true (by kernel_rfl))
    (fun ds hl => match ds, hl with | [_, _, _], _ => rfl)
    (fun W args ds p h => snsee_in W args ds p h)

theorem snapSees_holds : Rows.SnapSeesSaid :=
  OpenClaim.holds_of_wide 14 Try.f14 rfl rfl rfl rfl rfl rfl rfl ⟨rfl, rfl, rfl, rfl, rfl⟩ rfl rfl rfl rfl rfl (by kernel_rfl) Try.func14 (by kernel_rfl)
    (of_decide_eq_true (by kernel_rfl)) (by unfold Func.isWrapper; first | (rw [if_pos (by decide +kernel)]; kernel_rfl) | (rw [if_neg (by decide +kernel)]; exact ⟨rfl, rfl⟩))
    (fun os started H enc _ => snsee_lifted os started H enc)

end Go.Proofs.Ythgdinjgdjiknaa
