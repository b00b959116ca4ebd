/- DiskDies, the row: true at every input. No condition. -/
import Derived.Test.YthgdinjgdjiknaaDiskLaws1
import Derived.Test.YthgdinjgdjiknaaDiskViews
namespace Go.Proofs.Ythgdinjgdjiknaa
open Go.Al Go.Proofs
open Go.ChangeShapes Go.WideShapes Go.ChangeAt Go.RowKit
set_option linter.unusedVariables false
set_option linter.unusedSimpArgs false

theorem own_ddies : ownKnob Try.prog.godebug = none := by kernel_rfl
theorem laid_ddies : laidOutB Try.prog = true := by kernel_rfl

set_option maxRecDepth 100000 in
theorem ddies_in {H : Type} {enc : TypeId × Value → H} (W : World) (args : List Value) (ds : List (DataW H)) (p : List MemPlace) (h : LawIn enc Try.prog Try.f5.params.toList W args ds p) : Cl Try.prog 5 args W fun v w' => v = .bool true ∧ Fm (fun _ => False) W w' := by
  rw [Try.params5] at h
  have hl := h.len
  obtain ⟨v0, x0, b0, g0, r0, o0⟩ := h.arg (j := 0) rfl vI
  obtain ⟨v1, x1, b1, g1, r1, o1⟩ := h.arg (j := 1) rfl vBools
  match args, hl with
  | [a0, a1], _ =>
  obtain rfl : a0 = v0 := by simpa using g0
  obtain ⟨rfl, w0⟩ := arg_int r0 o0
  obtain rfl : a1 = v1 := by simpa using g1
  have s1 := arg_slice r1 o1
  exact dies_law W x0 (i64_of_wf w0) _ x1 (s1.cells (by kernel_rfl) (fun _ _ h => h))

set_option maxRecDepth 100000 in
theorem ddies_lifted (os : Os) (started : os.Started) (H : Type) (enc : TypeId × Value → H) :
    ReturnsInHanded {} Try.checked os 5 .any (Rows.diskDiesSpec.pre6 enc Try.prog Try.f5 Rows.diskDiesRow.domain false) (Rows.diskDiesSpec.post enc Try.prog Try.f5 false true false false) :=
  law_lifted (C := Try.checked) (tb := 4) own_ddies started (by kernel_rfl) Try.func5 laid_ddies
    (ChangeSpec.witness6 (enc := enc) (C := Try.checked) false ⟨#[], #[.int .i64 0, .slice none 0 0], []⟩ 8 (by kernel_rfl) (by kernel_rfl) (by kernel_rfl) (by kernel_rfl))
    rfl Try.underlying4 rfl (of_decide_eq_true (by kernel_rfl))
    (fun ds hl => match ds, hl with | [_, _], _ => rfl)
    (fun W args ds p h => ddies_in W args ds p h)

theorem diskDies_holds : Rows.DiskDiesSaid :=
  OpenClaim.holds_of_wide 5 Try.f5 rfl rfl rfl rfl rfl rfl rfl ⟨rfl, rfl, rfl, rfl, rfl⟩ rfl rfl rfl rfl rfl (by kernel_rfl) Try.func5 (by kernel_rfl)
    (of_decide_eq_true (by kernel_rfl)) (by unfold Func.isWrapper; first | (rw [if_pos (by decide +kernel)]; kernel_rfl) | (rw [if_neg (by decide +kernel)]; exact ⟨rfl, rfl⟩))
    (fun os started H enc _ => ddies_lifted os started H enc)

end Go.Proofs.Ythgdinjgdjiknaa
