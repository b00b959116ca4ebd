/- WalRoom, the tied card: true at every input of small bulk. The listed variables (utf8's tables) start as Go's library lays them; no other condition. -/
import Derived.Test.YthbngnlmgplijaaGreatDoorWalE2
import Derived.Test.YthbngnlmgplijaaGreatDoorAlCardU
import Derived.Test.YthbngnlmgplijaaGreatDoorRows
import Derived.Test.YthbngnlmgplijaaGreatDoorCards
import Derived.Test.YthbngnlmgplijaaGreatDoorTie
import Derived.ProofKit
import Derived.OpenShut
import Derived.LaidMore
import Derived.Lay
import Derived.SevenTiedAt
import Derived.Stop.Joined
namespace Go.Proofs.YthbngnlmgplijaaGreatDoor
open Go.Al Go.Proofs
open Go.ChangeShapes Go.WideShapes Go.ChangeAt Go.RowKit
set_option linter.unusedVariables false
set_option linter.unusedSimpArgs false

theorem own_wroom : ownKnob Tryz.prog.godebug = none := by kernel_rfl
theorem laid_wroom : laidOutB Tryz.prog = true := by kernel_rfl

set_option maxRecDepth 100000 in
theorem wroom_in {H : Type} {enc : TypeId × Value → H} (W : World) (args : List Value) (ds : List (DataW H)) (p : List MemPlace) (h : LawIn enc Tryz.prog Tryz.f4.params.toList W args ds p) (hk : Rows.uptoSmall H ds = true) : Cl Tryz.prog 4 args W fun v w' => v = .bool true ∧ Fm (fun _ => False) W w' := by
  rw [Tryz.params4] at h
  have hl := h.len
  obtain ⟨v0, x0, b0, g0, r0, o0, z0⟩ := h.argU hk (j := 0) rfl vOps vOps_szd
  match args, hl with
  | [a0], _ =>
  obtain rfl : a0 = v0 := by simpa using g0
  have s0 := arg_slice r0 o0
  exact wroom_law s0 z0

set_option maxRecDepth 100000 in
theorem wroom_lifted (os : Os) (started : os.Started) (H : Type) (enc : TypeId × Value → H) (F : Stop.Interp) :
    ReturnsInHanded {} Tryz.checked os 4 .any (fun w args => ((Rows.OpenSpec.upto Rows.walRoomSpec).pre enc Tryz.prog Tryz.f4 Rows.walRoomUptoRow.domain false w args ∧ laidMetH Tryz.prog Rows.walRoomUptoRow.laid w) ∧ sizedMet enc Tryz.prog Tryz.f4 (Rows.OpenSpec.upto Rows.walRoomSpec) false w args)
      (((Rows.OpenSpec.upto Rows.walRoomSpec).at F).post enc Tryz.prog Tryz.f4 false true false false) :=
  law_laid_upto (C := Tryz.checked) (tb := 4) (s := (Rows.OpenSpec.upto Rows.walRoomSpec)) (k := Rows.uptoSmall) (X := fun w _ => laidMetH Tryz.prog Rows.walRoomUptoRow.laid w) rfl own_wroom started (by kernel_rfl) Tryz.func4 laid_wroom
    (witness_u (enc := enc) (C := Tryz.checked) (os := os) (s := (Rows.OpenSpec.upto Rows.walRoomSpec)) (k := Rows.uptoSmall) rfl (X := fun w _ => laidMetH Tryz.prog Rows.walRoomUptoRow.laid w) false (World.laidAll Tryz.prog os Rows.walRoomUptoRow.laid) #[.slice none 0 0] 8 (World.laidAll_os _ _ _)
      (World.shaped_of_ZipB (by kernel_rfl) (by kernel_rfl)) (by kernel_rfl) (x := ([.nil], [], [])) (by kernel_rfl) (by kernel_rfl) (by kernel_rfl) (by kernel_rfl)
      (by rw [MakeChecks.laidMetH_plain _ _ _ (by kernel_rfl)]; exact laidMet_laidAll _ (by kernel_rfl) (by kernel_rfl)))
    rfl Tryz.underlying4 rfl (of_decide_eq_true (by kernel_rfl))
    (fun ds hl => match ds, hl with | [_], _ => rfl)
    (fun W args ds p h hk => wroom_in W args ds p h hk)

theorem walRoom_row : Rows.WalRoomUptoSaid :=
  OpenClaim.holds_of_cond 4 Tryz.f4 rfl rfl rfl rfl rfl rfl rfl ⟨rfl, rfl, rfl, rfl, rfl⟩ rfl rfl rfl rfl rfl (by kernel_rfl) Tryz.func4 (by kernel_rfl)
    (of_decide_eq_true (by kernel_rfl)) (by unfold Func.isWrapper; first | (rw [if_pos (by decide +kernel)]; kernel_rfl) | (rw [if_neg (by decide +kernel)]; exact ⟨rfl, rfl⟩))
    (fun os started H enc _ F => wroom_lifted os started H enc F)
set_option maxRecDepth 100000 in
theorem walRoom_holds : Rows.WalRoomUptoCardSaid :=
  Claim7.holds_tied_plain_at .later [] [.data, .pinned] true (true, "4d091618edec5184c4138f1cf1ff2973e570d43ab83e6dd0aa00b01229ac5ccc") false walRoom_row (fun _ h => by cases h) (by kernel_rfl) (fun _ h => by cases h) walRoomUpto_row_tie rfl ⟨rfl, rfl⟩ (by kernel_rfl) rfl
    (fun f fn hf hfn => by
      obtain rfl : f = 4 := Option.some.inj ((show Tryz.prog.funcNamed "almonry/almonrylaw05.WalRoom" = some 4 by kernel_rfl).symm.trans hf) |>.symm
      obtain rfl : fn = Tryz.f4 := (Option.some.inj (Tryz.func4.symm.trans hfn)).symm
      exact ⟨by kernel_rfl, fun j t ht => by
        rw [Tryz.params4] at ht
        have hm : t ∈ [35] := by simpa using Array.mem_of_getElem? ht
        have hall : ([35].all fun u => !Tryz.prog.wantsStandIn u) = true := by kernel_rfl
        exact (show Tryz.prog.wantsStandIn t = false by simpa using List.all_eq_true.1 hall t hm)⟩)
    (by kernel_rfl)

end Go.Proofs.YthbngnlmgplijaaGreatDoor
