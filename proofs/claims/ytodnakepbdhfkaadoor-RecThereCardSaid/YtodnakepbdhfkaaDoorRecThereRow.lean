/- RecThere, the tied card: true at every input. The listed variables (utf8's tables) start as Go's library lays them; no other condition. -/
import Derived.Test.YtodnakepbdhfkaaDoorRcThere
import Derived.Test.YtodnakepbdhfkaaDoorAlCard
import Derived.Test.YtodnakepbdhfkaaDoorRows
import Derived.Test.YtodnakepbdhfkaaDoorCards
import Derived.Test.YtodnakepbdhfkaaDoorTie
import Derived.ProofKit
import Derived.OpenShut
import Derived.LaidMore
import Derived.Lay
import Derived.SevenTiedAt
import Derived.Stop.Joined
namespace Go.Proofs.YtodnakepbdhfkaaDoor
open Go.Al Go.Proofs
open Go.ChangeShapes Go.WideShapes Go.ChangeAt Go.RowKit
set_option linter.unusedVariables false
set_option linter.unusedSimpArgs false

theorem own_rcthr : ownKnob Tryd.prog.godebug = none := by kernel_rfl
theorem laid_rcthr : laidOutB Tryd.prog = true := by kernel_rfl

set_option maxRecDepth 100000 in
theorem rcthr_in {H : Type} {enc : TypeId × Value → H} (W : World) (args : List Value) (ds : List (DataW H)) (p : List MemPlace) (h : LawIn enc Tryd.prog Tryd.f13.params.toList W args ds p) : Cl Tryd.prog 13 args W fun v w' => v = .bool true ∧ Fm (fun _ => False) W w' := by
  rw [Tryd.params13] at h
  have hl := h.len
  obtain ⟨v0, x0, b0, g0, r0, o0⟩ := h.arg (j := 0) rfl vS
  match args, hl with
  | [a0], _ =>
  obtain rfl : a0 = v0 := by simpa using g0
  obtain ⟨rfl, w0⟩ := arg_str r0 o0
  exact there_law x0 (by unfold reachBytes at w0; omega)

set_option maxRecDepth 100000 in
theorem rcthr_lifted (os : Os) (started : os.Started) (H : Type) (enc : TypeId × Value → H) :
    ReturnsInHanded {} Tryd.checked os 13 .any (fun w args => (Rows.recThereSpec.pre enc Tryd.prog Tryd.f13 Rows.recThereRow.domain false w args ∧ laidMetH Tryd.prog Rows.recThereRow.laid w) ∧ sizedMet enc Tryd.prog Tryd.f13 (OpenSpec.ofChange Rows.recThereSpec) false w args)
      (Rows.recThereSpec.post enc Tryd.prog Tryd.f13 false true false false) :=
  law_laid (C := Tryd.checked) (tb := 4) (X := fun w _ => laidMetH Tryd.prog Rows.recThereRow.laid w) (fun _ _ _ hh h => h.of_heap hh) own_rcthr started (by kernel_rfl) Tryd.func13 laid_rcthr
    (ChangeSpec.witness_shaped (enc := enc) (C := Tryd.checked) (os := os) (X := fun w _ => laidMetH Tryd.prog Rows.recThereRow.laid w) false (World.laidAll Tryd.prog os Rows.recThereRow.laid) #[.string ByteArray.empty] 8 (World.laidAll_os _ _ _)
      (World.shaped_of_ZipB (by kernel_rfl) (by kernel_rfl)) (by kernel_rfl) (by kernel_rfl) (by kernel_rfl)
      (by rw [MakeChecks.laidMetH_plain _ _ _ (by kernel_rfl)]; exact laidMet_laidAll _ (by kernel_rfl) (by kernel_rfl)))
    rfl Tryd.underlying4 rfl (of_decide_eq_true (by kernel_rfl))
    (fun ds hl => match ds, hl with | [_], _ => rfl)
    (fun W args ds p h => rcthr_in W args ds p h)

theorem recThere_row : Rows.RecThereSaid :=
  OpenClaim.holds_of_wide 13 Tryd.f13 rfl rfl rfl rfl rfl rfl rfl ⟨rfl, rfl, rfl, rfl, rfl⟩ rfl rfl rfl rfl rfl (by kernel_rfl) Tryd.func13 (by kernel_rfl)
    (of_decide_eq_true (by kernel_rfl)) (by unfold Func.isWrapper; first | (rw [if_pos (by decide +kernel)]; kernel_rfl) | (rw [if_neg (by decide +kernel)]; exact ⟨rfl, rfl⟩))
    (fun os started H enc _ => rcthr_lifted os started H enc)
set_option maxRecDepth 100000 in
theorem recThere_holds : Rows.RecThereCardSaid :=
  Claim7.holds_tied_plain_at .later [] [.data, .pinned] true (true, "181238d3d97307c2d1910e2af6be608174b67ea2b86a360ba6be3af11990ddfe") false recThere_row (fun _ h => by cases h) (by kernel_rfl) (fun _ h => by cases h) recThere_row_tie rfl ⟨rfl, rfl⟩ (by kernel_rfl) rfl
    (fun f fn hf hfn => by
      obtain rfl : f = 13 := Option.some.inj ((show Tryd.prog.funcNamed "almonry/almonrylaw04.RecThere" = some 13 by kernel_rfl).symm.trans hf) |>.symm
      obtain rfl : fn = Tryd.f13 := (Option.some.inj (Tryd.func13.symm.trans hfn)).symm
      exact ⟨by kernel_rfl, fun j t ht => by
        rw [Tryd.params13] at ht
        have hm : t ∈ [9] := by simpa using Array.mem_of_getElem? ht
        have hall : ([9].all fun u => !Tryd.prog.wantsStandIn u) = true := by kernel_rfl
        exact (show Tryd.prog.wantsStandIn t = false by simpa using List.all_eq_true.1 hall t hm)⟩)
    (by kernel_rfl)

end Go.Proofs.YtodnakepbdhfkaaDoor
