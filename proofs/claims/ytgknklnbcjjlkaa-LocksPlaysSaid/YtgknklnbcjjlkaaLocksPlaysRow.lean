/- LocksPlays, the row: true at every input. No condition. -/
import Derived.Test.YtgknklnbcjjlkaaLocksPlays
namespace Go.Proofs.Ytgknklnbcjjlkaa
open Go.Al Go.Proofs
open Go.ChangeShapes Go.WideShapes Go.ChangeAt Go.RowKit
set_option linter.unusedVariables false
set_option linter.unusedSimpArgs false

theorem own_lplay : ownKnob Try.prog.godebug = none := by kernel_rfl
theorem laid_lplay : laidOutB Try.prog = true := by kernel_rfl

set_option maxRecDepth 100000 in
theorem lplay_in {H : Type} {enc : TypeId × Value → H} (W : World) (args : List Value) (ds : List (DataW H)) (p : List MemPlace) (h : LawIn enc Try.prog Try.f8.params.toList W args ds p) : Cl Try.prog 8 args W fun v w' => v = .bool true ∧ Fm (fun _ => False) W w' := by
  obtain ⟨hA, ⟨base, hval⟩, hsz, -⟩ := h
  rw [Try.params8] at hA hval hsz
  obtain ⟨v0, vs0, d0, ds0, p0, q0, rfl, rfl, rfl, h0, r0⟩ := trodAll_cons hA
  obtain ⟨rfl, rfl, rfl⟩ := trodAll_nil r0
  obtain ⟨a0, c0, ops0, rfl, ho0, hd0⟩ := open_lops (hval 0 41 v0 rfl rfl) h0
  exact lplays_law W a0 c0 ops0 ho0 (lops_small hsz (j := 0) rfl rfl hd0)

set_option maxRecDepth 100000 in
theorem lplay_lifted (os : Os) (started : os.Started) (H : Type) (enc : TypeId × Value → H) :
    ReturnsInHanded {} Try.checked os 8 .any (Rows.locksPlaysSpec.pre6 enc Try.prog Try.f8 Rows.locksPlaysRow.domain false) (Rows.locksPlaysSpec.post enc Try.prog Try.f8 false true false false) :=
  law_lifted (C := Try.checked) (tb := 4) own_lplay started (by kernel_rfl) Try.func8 laid_lplay
    (ChangeSpec.witness6 (enc := enc) (C := Try.checked) false ⟨#[], #[.slice none 0 0], []⟩ 8 (by kernel_rfl) (by kernel_rfl) (by kernel_rfl) (by kernel_rfl))
    rfl Try.underlying4 rfl (of_decide_eq_true (by kernel_rfl))
    (fun ds hl => match ds, hl with | [_], _ => rfl)
    (fun W args ds p h => lplay_in W args ds p h)

theorem locksPlays_holds : Rows.LocksPlaysSaid :=
  OpenClaim.holds_of_wide 8 Try.f8 rfl rfl rfl rfl rfl rfl rfl ⟨rfl, rfl, rfl, rfl, rfl⟩ rfl rfl rfl rfl rfl (by kernel_rfl) Try.func8 (by kernel_rfl)
    (of_decide_eq_true (by kernel_rfl)) (by unfold Func.isWrapper; first | (rw [if_pos (by decide +kernel)]; kernel_rfl) | (rw [if_neg (by decide +kernel)]; exact ⟨rfl, rfl⟩))
    (fun os started H enc _ => lplay_lifted os started H enc)

end Go.Proofs.Ytgknklnbcjjlkaa
