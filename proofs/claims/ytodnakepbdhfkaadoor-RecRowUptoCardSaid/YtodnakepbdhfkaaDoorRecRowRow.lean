/- RecRow, the tied card: true at every input of small bulk. The listed variables (utf8's tables) start as Go's library lays them; no other condition. -/
import Derived.Test.YtodnakepbdhfkaaDoorRcRow
import Derived.Test.YtodnakepbdhfkaaDoorAlCardU
import Derived.Test.YtodnakepbdhfkaaDoorRows
import Derived.Test.YtodnakepbdhfkaaDoorCards
import Derived.Test.YtodnakepbdhfkaaDoorTie
import Derived.ProofKit
import Derived.OpenShut
import Derived.LaidMore
import Derived.Lay
import Derived.SevenTiedAt
import Derived.Stop.Joined
namespace Go.Proofs.YtodnakepbdhfkaaDoor
open Go.Al Go.Proofs
open Go.ChangeShapes Go.WideShapes Go.ChangeAt Go.RowKit
set_option linter.unusedVariables false
set_option linter.unusedSimpArgs false

theorem own_rcrow : ownKnob Tryd.prog.godebug = none := by kernel_rfl
theorem laid_rcrow : laidOutB Tryd.prog = true := by kernel_rfl

set_option maxRecDepth 100000 in
theorem rcrow_in {H : Type} {enc : TypeId × Value → H} (W : World) (args : List Value) (ds : List (DataW H)) (p : List MemPlace) (h : LawIn enc Tryd.prog Tryd.f16.params.toList W args ds p) (hk : Rows.uptoSmall H ds = true) : Cl Tryd.prog 16 args W fun v w' => v = .bool true ∧ Fm (fun _ => False) W w' := by
  rw [Tryd.params16] at h
  have hl := h.len
  obtain ⟨v0, x0, b0, g0, r0, o0, z0⟩ := h.argU hk (j := 0) rfl vRecs vRecs_szd
  match args, hl with
  | [a0], _ =>
  obtain rfl : a0 = v0 := by simpa using g0
  have s0 := arg_slice r0 o0
  exact recrow_law s0 z0

set_option maxRecDepth 100000 in
theorem rcrow_lifted (os : Os) (started : os.Started) (H : Type) (enc : TypeId × Value → H) (F : Stop.Interp) :
    ReturnsInHanded {} Tryd.checked os 16 .any (fun w args => ((Rows.OpenSpec.upto Rows.recRowSpec).pre enc Tryd.prog Tryd.f16 Rows.recRowUptoRow.domain false w args ∧ laidMetH Tryd.prog Rows.recRowUptoRow.laid w) ∧ sizedMet enc Tryd.prog Tryd.f16 (Rows.OpenSpec.upto Rows.recRowSpec) false w args)
      (((Rows.OpenSpec.upto Rows.recRowSpec).at F).post enc Tryd.prog Tryd.f16 false true false false) :=
  law_laid_upto (C := Tryd.checked) (tb := 4) (s := (Rows.OpenSpec.upto Rows.recRowSpec)) (k := Rows.uptoSmall) (X := fun w _ => laidMetH Tryd.prog Rows.recRowUptoRow.laid w) rfl own_rcrow started (by kernel_rfl) Tryd.func16 laid_rcrow
    (witness_u (enc := enc) (C := Tryd.checked) (os := os) (s := (Rows.OpenSpec.upto Rows.recRowSpec)) (k := Rows.uptoSmall) rfl (X := fun w _ => laidMetH Tryd.prog Rows.recRowUptoRow.laid w) false (World.laidAll Tryd.prog os Rows.recRowUptoRow.laid) #[.slice none 0 0] 8 (World.laidAll_os _ _ _)
      (World.shaped_of_ZipB (by kernel_rfl) (by kernel_rfl)) (by kernel_rfl) (x := ([.nil], [], [])) (by kernel_rfl) (by kernel_rfl) (by kernel_rfl) (by kernel_rfl)
      (by rw [MakeChecks.laidMetH_plain _ _ _ (by kernel_rfl)]; exact laidMet_laidAll _ (by kernel_rfl) (by kernel_rfl)))
    rfl Tryd.underlying4 rfl (of_decide_eq_true (by kernel_rfl))
    (fun ds hl => match ds, hl with | [_], _ => rfl)
    (fun W args ds p h hk => rcrow_in W args ds p h hk)

theorem recRow_row : Rows.RecRowUptoSaid :=
  OpenClaim.holds_of_cond 16 Tryd.f16 rfl rfl rfl rfl rfl rfl rfl ⟨rfl, rfl, rfl, rfl, rfl⟩ rfl rfl rfl rfl rfl (by kernel_rfl) Tryd.func16 (by kernel_rfl)
    (of_decide_eq_true (by kernel_rfl)) (by unfold Func.isWrapper; first | (rw [if_pos (by decide +kernel)]; kernel_rfl) | (rw [if_neg (by decide +kernel)]; exact ⟨rfl, rfl⟩))
    (fun os started H enc _ F => rcrow_lifted os started H enc F)
set_option maxRecDepth 100000 in
theorem recRow_holds : Rows.RecRowUptoCardSaid :=
  Claim7.holds_tied_plain_at .later [] [.data, .pinned] true (true, "181238d3d97307c2d1910e2af6be608174b67ea2b86a360ba6be3af11990ddfe") false recRow_row (fun _ h => by cases h) (by kernel_rfl) (fun _ h => by cases h) recRowUpto_row_tie rfl ⟨rfl, rfl⟩ (by kernel_rfl) rfl
    (fun f fn hf hfn => by
      obtain rfl : f = 16 := Option.some.inj ((show Tryd.prog.funcNamed "almonry/almonrylaw04.RecRow" = some 16 by kernel_rfl).symm.trans hf) |>.symm
      obtain rfl : fn = Tryd.f16 := (Option.some.inj (Tryd.func16.symm.trans hfn)).symm
      exact ⟨by kernel_rfl, fun j t ht => by
        rw [Tryd.params16] at ht
        have hm : t ∈ [61] := by simpa using Array.mem_of_getElem? ht
        have hall : ([61].all fun u => !Tryd.prog.wantsStandIn u) = true := by kernel_rfl
        exact (show Tryd.prog.wantsStandIn t = false by simpa using List.all_eq_true.1 hall t hm)⟩)
    (by kernel_rfl)

end Go.Proofs.YtodnakepbdhfkaaDoor
