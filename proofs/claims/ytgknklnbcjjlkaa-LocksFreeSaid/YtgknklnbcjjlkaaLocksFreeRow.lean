/- LocksFree, the row: true at every input. No condition. -/
import Derived.Test.YtgknklnbcjjlkaaLocksFree
namespace Go.Proofs.Ytgknklnbcjjlkaa
open Go.Al Go.Proofs
open Go.ChangeShapes Go.WideShapes Go.ChangeAt Go.RowKit
set_option linter.unusedVariables false
set_option linter.unusedSimpArgs false

theorem own_lfree : ownKnob Try.prog.godebug = none := by kernel_rfl
theorem laid_lfree : laidOutB Try.prog = true := by kernel_rfl

set_option maxRecDepth 100000 in
theorem lfree_in {H : Type} {enc : TypeId × Value → H} (W : World) (args : List Value) (ds : List (DataW H)) (p : List MemPlace) (h : LawIn enc Try.prog Try.f10.params.toList W args ds p) : Cl Try.prog 10 args W fun v w' => v = .bool true ∧ Fm (fun _ => False) W w' := by
  obtain ⟨hA, ⟨base, hval⟩, hsz, -⟩ := h
  rw [Try.params10] at hA hval hsz
  obtain ⟨v0, vs0, d0, ds0, p0, q0, rfl, rfl, rfl, h0, r0⟩ := trodAll_cons hA
  obtain ⟨v1, vs1, d1, ds1, p1, q1, rfl, rfl, rfl, h1, r1⟩ := trodAll_cons r0
  obtain ⟨rfl, rfl, rfl⟩ := trodAll_nil r1
  obtain ⟨a0, c0, ops0, rfl, ho0, hd0⟩ := open_lops (hval 0 41 v0 rfl rfl) h0
  obtain ⟨x1, rfl, rfl, rfl, w1⟩ := open_int Try.underlying3 (hval 1 3 v1 rfl rfl) h1
  exact free_law W a0 c0 ops0 x1 ho0 (lops_small hsz (j := 0) rfl rfl hd0)

set_option maxRecDepth 100000 in
theorem lfree_lifted (os : Os) (started : os.Started) (H : Type) (enc : TypeId × Value → H) :
    ReturnsInHanded {} Try.checked os 10 .any (Rows.locksFreeSpec.pre6 enc Try.prog Try.f10 Rows.locksFreeRow.domain false) (Rows.locksFreeSpec.post enc Try.prog Try.f10 false true false false) :=
  law_lifted (C := Try.checked) (tb := 4) own_lfree started (by kernel_rfl) Try.func10 laid_lfree
    (ChangeSpec.witness6 (enc := enc) (C := Try.checked) false ⟨#[], #[.slice none 0 0, .int .i64 0], []⟩ 8 (by kernel_rfl) (by kernel_rfl) (by kernel_rfl) (by kernel_rfl))
    rfl Try.underlying4 rfl (of_decide_eq_true (by kernel_rfl))
    (fun ds hl => match ds, hl with | [_, _], _ => rfl)
    (fun W args ds p h => lfree_in W args ds p h)

theorem locksFree_holds : Rows.LocksFreeSaid :=
  OpenClaim.holds_of_wide 10 Try.f10 rfl rfl rfl rfl rfl rfl rfl ⟨rfl, rfl, rfl, rfl, rfl⟩ rfl rfl rfl rfl rfl (by kernel_rfl) Try.func10 (by kernel_rfl)
    (of_decide_eq_true (by kernel_rfl)) (by unfold Func.isWrapper; first | (rw [if_pos (by decide +kernel)]; kernel_rfl) | (rw [if_neg (by decide +kernel)]; exact ⟨rfl, rfl⟩))
    (fun os started H enc _ => lfree_lifted os started H enc)

end Go.Proofs.Ytgknklnbcjjlkaa
