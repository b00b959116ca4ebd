/- LocksNil, the row: true at every input. No condition. -/
import Derived.Test.YtgknklnbcjjlkaaLocksOne
namespace Go.Proofs.Ytgknklnbcjjlkaa
open Go.Al Go.Proofs
open Go.ChangeShapes Go.WideShapes Go.ChangeAt Go.RowKit
set_option linter.unusedVariables false
set_option linter.unusedSimpArgs false

theorem own_lnil : ownKnob Try.prog.godebug = none := by kernel_rfl
theorem laid_lnil : laidOutB Try.prog = true := by kernel_rfl

set_option maxRecDepth 100000 in
theorem lnil_in {H : Type} {enc : TypeId × Value → H} (W : World) (args : List Value) (ds : List (DataW H)) (p : List MemPlace) (h : LawIn enc Try.prog Try.f11.params.toList W args ds p) : Cl Try.prog 11 args W fun v w' => v = .bool true ∧ Fm (fun _ => False) W w' := by
  obtain ⟨hA, ⟨base, hval⟩, hsz, -⟩ := h
  rw [Try.params11] at hA hval hsz
  obtain ⟨v0, vs0, d0, ds0, p0, q0, rfl, rfl, rfl, h0, r0⟩ := trodAll_cons hA
  obtain ⟨v1, vs1, d1, ds1, p1, q1, rfl, rfl, rfl, h1, r1⟩ := trodAll_cons r0
  obtain ⟨rfl, rfl, rfl⟩ := trodAll_nil r1
  obtain ⟨x0, rfl, rfl, rfl, w0⟩ := open_int Try.underlying3 (hval 0 3 v0 rfl rfl) h0
  obtain ⟨x1, rfl, rfl, rfl, w1⟩ := Go.ChangeMaps.open_string Try.underlying9 (hval 1 9 v1 rfl rfl) h1
  exact lnil_law W x0 _

set_option maxRecDepth 100000 in
theorem lnil_lifted (os : Os) (started : os.Started) (H : Type) (enc : TypeId × Value → H) :
    ReturnsInHanded {} Try.checked os 11 .any (Rows.locksNilSpec.pre6 enc Try.prog Try.f11 Rows.locksNilRow.domain false) (Rows.locksNilSpec.post enc Try.prog Try.f11 false true false false) :=
  law_lifted (C := Try.checked) (tb := 4) own_lnil started (by kernel_rfl) Try.func11 laid_lnil
    (ChangeSpec.witness6 (enc := enc) (C := Try.checked) false ⟨#[], #[.int .i64 0, .string ByteArray.empty], []⟩ 8 (by kernel_rfl) (by kernel_rfl) (by kernel_rfl) (by kernel_rfl))
    rfl Try.underlying4 rfl (of_decide_eq_true (by kernel_rfl))
    (fun ds hl => match ds, hl with | [_, _], _ => rfl)
    (fun W args ds p h => lnil_in W args ds p h)

theorem locksNil_holds : Rows.LocksNilSaid :=
  OpenClaim.holds_of_wide 11 Try.f11 rfl rfl rfl rfl rfl rfl rfl ⟨rfl, rfl, rfl, rfl, rfl⟩ rfl rfl rfl rfl rfl (by kernel_rfl) Try.func11 (by kernel_rfl)
    (of_decide_eq_true (by kernel_rfl)) (by unfold Func.isWrapper; first | (rw [if_pos (by decide +kernel)]; kernel_rfl) | (rw [if_neg (by decide +kernel)]; exact ⟨rfl, rfl⟩))
    (fun os started H enc _ => lnil_lifted os started H enc)

end Go.Proofs.Ytgknklnbcjjlkaa
