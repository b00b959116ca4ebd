/- SnapFirst, the row: true at every input of small bulk. -/
import Derived.Test.YthgdinjgdjiknaaSnapFirst
import Derived.Test.YthgdinjgdjiknaaRows
namespace Go.Proofs.Ythgdinjgdjiknaa
open Go.Al Go.Proofs
open Go.ChangeShapes Go.WideShapes Go.ChangeAt Go.RowKit
set_option linter.unusedVariables false
set_option linter.unusedSimpArgs false

theorem own_snfir : ownKnob Try.prog.godebug = none := by kernel_rfl
theorem laid_snfir : laidOutB Try.prog = true := by kernel_rfl

set_option maxRecDepth 100000 in
theorem snfir_in {H : Type} {enc : TypeId × Value → H} (W : World) (args : List Value) (ds : List (DataW H)) (p : List MemPlace) (h : LawIn enc Try.prog Try.f12.params.toList W args ds p) (hk : Rows.uptoSmall H ds = true) : Cl Try.prog 12 args W fun v w' => v = .bool true ∧ Fm (fun _ => False) W w' := by
  rw [Try.params12] at h
  have hl := h.len
  obtain ⟨v0, x0, b0, g0, r0, o0⟩ := h.arg (j := 0) rfl vI
  obtain ⟨v1, x1, b1, g1, r1, o1⟩ := h.arg (j := 1) rfl vI
  obtain ⟨v2, x2, b2, g2, r2, o2, z2⟩ := h.argU hk (j := 2) rfl vRuns vRuns_szd
  match args, hl with
  | [a0, a1, a2], _ =>
  obtain rfl : a0 = v0 := by simpa using g0
  obtain ⟨rfl, w0⟩ := arg_int r0 o0
  obtain rfl : a1 = v1 := by simpa using g1
  obtain ⟨rfl, w1⟩ := arg_int r1 o1
  obtain rfl : a2 = v2 := by simpa using g2
  obtain ⟨cs2, rfl, s2⟩ := arg_struct r2 o2
  exact snapFirst_law (i64_of_wf w0) s2 (runs_len z2)

set_option maxRecDepth 100000 in
theorem snfir_lifted (os : Os) (started : os.Started) (H : Type) (enc : TypeId × Value → H) (F : Stop.Interp) :
    ReturnsInHanded {} Try.checked os 12 .any ((Rows.OpenSpec.upto Rows.snapFirstSpec).pre6 enc Try.prog Try.f12 Rows.snapFirstUptoRow.domain false) (((Rows.OpenSpec.upto Rows.snapFirstSpec).at F).post enc Try.prog Try.f12 false true false false) :=
  law_upto (C := Try.checked) (tb := 4) (s := Rows.OpenSpec.upto Rows.snapFirstSpec) (k := Rows.uptoSmall) rfl own_snfir started (by kernel_rfl) Try.func12 laid_snfir
    (OpenSpec.witness (enc := enc) (C := Try.checked) (s := Rows.OpenSpec.upto Rows.snapFirstSpec) (k := Rows.uptoSmall) rfl false ⟨#[], #[.int .i64 0, .int .i64 0, .agg #[.slice none 0 0, .slice none 0 0]], []⟩ 8 (by kernel_rfl) (by kernel_rfl) (by kernel_rfl)
      (x := ([.lit (.int .i64 0), .lit (.int .i64 0), .agg [.nil, .nil]], [], [])) (by kernel_rfl) (by kernel_rfl) (by kernel_rfl) (by kernel_rfl))
    rfl Try.underlying4 rfl (of_decide_eq_true (by kernel_rfl))
    (fun ds hl => match ds, hl with | [_, _, _], _ => rfl)
    (fun W args ds p h hk => snfir_in W args ds p h hk)

theorem snapFirst_holds : Rows.SnapFirstUptoSaid :=
  OpenClaim.holds_of_cond 12 Try.f12 rfl rfl rfl rfl rfl rfl rfl ⟨rfl, rfl, rfl, rfl, rfl⟩ rfl rfl rfl rfl rfl (by kernel_rfl) Try.func12 (by kernel_rfl)
    (of_decide_eq_true (by kernel_rfl)) (by unfold Func.isWrapper; first | (rw [if_pos (by decide +kernel)]; kernel_rfl) | (rw [if_neg (by decide +kernel)]; exact ⟨rfl, rfl⟩))
    (fun os started H enc _ F => snfir_lifted os started H enc F)

end Go.Proofs.Ythgdinjgdjiknaa
