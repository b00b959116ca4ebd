/- RecEncodes, the tied card: true at every input of small bulk. The listed variables (utf8's tables) start as Go's library lays them; no other condition. -/
import Derived.Test.YtodnakepbdhfkaaDoorRcRef5
import Derived.Test.YtodnakepbdhfkaaDoorRcViews
import Derived.Test.YtodnakepbdhfkaaDoorAlCardU
import Derived.Test.YtodnakepbdhfkaaDoorRows
import Derived.Test.YtodnakepbdhfkaaDoorCards
import Derived.Test.YtodnakepbdhfkaaDoorTie
import Derived.ProofKit
import Derived.OpenShut
import Derived.LaidMore
import Derived.Lay
import Derived.SevenTiedAt
import Derived.Stop.Joined
namespace Go.Proofs.YtodnakepbdhfkaaDoor
open Go.Al Go.Proofs
open Go.ChangeShapes Go.WideShapes Go.ChangeAt Go.RowKit
set_option linter.unusedVariables false
set_option linter.unusedSimpArgs false

theorem own_rcenc : ownKnob Tryd.prog.godebug = none := by kernel_rfl
theorem laid_rcenc : laidOutB Tryd.prog = true := by kernel_rfl

set_option maxRecDepth 100000 in
theorem rcenc_in {H : Type} {enc : TypeId × Value → H} (W : World) (args : List Value) (ds : List (DataW H)) (p : List MemPlace) (h : LawIn enc Tryd.prog Tryd.f11.params.toList W args ds p) (hk : Rows.uptoSmall H ds = true) : Cl Tryd.prog 11 args W fun v w' => v = .bool true ∧ Fm (fun _ => False) W w' := by
  rw [Tryd.params11] at h
  have hl := h.len
  obtain ⟨v0, x0, b0, g0, r0, o0, z0⟩ := h.argU hk (j := 0) rfl vRec vRec_szd
  obtain ⟨v1, x1, b1, g1, r1, o1, z1⟩ := h.argU hk (j := 1) rfl vRec vRec_szd
  match args, hl with
  | [a0, a1], _ =>
  obtain rfl : a0 = v0 := by simpa using g0
  obtain ⟨cs0, rfl, s0⟩ := arg_struct r0 o0
  obtain rfl : a1 = v1 := by simpa using g1
  obtain ⟨cs1, rfl, s1⟩ := arg_struct r1 o1
  exact recenc_law (rec_of s0 z0) (rec_of s1 z1)

set_option maxRecDepth 100000 in
theorem rcenc_lifted (os : Os) (started : os.Started) (H : Type) (enc : TypeId × Value → H) (F : Stop.Interp) :
    ReturnsInHanded {} Tryd.checked os 11 .any (fun w args => ((Rows.OpenSpec.upto Rows.recEncodesSpec).pre enc Tryd.prog Tryd.f11 Rows.recEncodesUptoRow.domain false w args ∧ laidMetH Tryd.prog Rows.recEncodesUptoRow.laid w) ∧ sizedMet enc Tryd.prog Tryd.f11 (Rows.OpenSpec.upto Rows.recEncodesSpec) false w args)
      (((Rows.OpenSpec.upto Rows.recEncodesSpec).at F).post enc Tryd.prog Tryd.f11 false true false false) :=
  law_laid_upto (C := Tryd.checked) (tb := 4) (s := (Rows.OpenSpec.upto Rows.recEncodesSpec)) (k := Rows.uptoSmall) (X := fun w _ => laidMetH Tryd.prog Rows.recEncodesUptoRow.laid w) rfl own_rcenc started (by kernel_rfl) Tryd.func11 laid_rcenc
    (witness_u (enc := enc) (C := Tryd.checked) (os := os) (s := (Rows.OpenSpec.upto Rows.recEncodesSpec)) (k := Rows.uptoSmall) rfl (X := fun w _ => laidMetH Tryd.prog Rows.recEncodesUptoRow.laid w) false (World.laidAll Tryd.prog os Rows.recEncodesUptoRow.laid) #[.agg #[.int .i64 0, .int .i64 0, .int .i64 0, .int .u8 0, .int .i64 0, .int .i64 0, .int .i64 0, .int .i64 0, .int .i64 0, .int .i64 0, .string ByteArray.empty, .slice none 0 0, .slice none 0 0, .slice none 0 0, .slice none 0 0, .slice none 0 0], .agg #[.int .i64 0, .int .i64 0, .int .i64 0, .int .u8 0, .int .i64 0, .int .i64 0, .int .i64 0, .int .i64 0, .int .i64 0, .int .i64 0, .string ByteArray.empty, .slice none 0 0, .slice none 0 0, .slice none 0 0, .slice none 0 0, .slice none 0 0]] 8 (World.laidAll_os _ _ _)
      (World.shaped_of_ZipB (by kernel_rfl) (by kernel_rfl)) (by kernel_rfl) (x := ([.agg [.lit (.int .i64 0), .lit (.int .i64 0), .lit (.int .i64 0), .lit (.int .u8 0), .lit (.int .i64 0), .lit (.int .i64 0), .lit (.int .i64 0), .lit (.int .i64 0), .lit (.int .i64 0), .lit (.int .i64 0), .lit (.string []), .nil, .nil, .nil, .nil, .nil], .agg [.lit (.int .i64 0), .lit (.int .i64 0), .lit (.int .i64 0), .lit (.int .u8 0), .lit (.int .i64 0), .lit (.int .i64 0), .lit (.int .i64 0), .lit (.int .i64 0), .lit (.int .i64 0), .lit (.int .i64 0), .lit (.string []), .nil, .nil, .nil, .nil, .nil]], [], [])) (by kernel_rfl) (by kernel_rfl) (by kernel_rfl) (by kernel_rfl)
      (by rw [MakeChecks.laidMetH_plain _ _ _ (by kernel_rfl)]; exact laidMet_laidAll _ (by kernel_rfl) (by kernel_rfl)))
    rfl Tryd.underlying4 rfl (of_decide_eq_true (by kernel_rfl))
    (fun ds hl => match ds, hl with | [_, _], _ => rfl)
    (fun W args ds p h hk => rcenc_in W args ds p h hk)

theorem recEncodes_row : Rows.RecEncodesUptoSaid :=
  OpenClaim.holds_of_cond 11 Tryd.f11 rfl rfl rfl rfl rfl rfl rfl ⟨rfl, rfl, rfl, rfl, rfl⟩ rfl rfl rfl rfl rfl (by kernel_rfl) Tryd.func11 (by kernel_rfl)
    (of_decide_eq_true (by kernel_rfl)) (by unfold Func.isWrapper; first | (rw [if_pos (by decide +kernel)]; kernel_rfl) | (rw [if_neg (by decide +kernel)]; exact ⟨rfl, rfl⟩))
    (fun os started H enc _ F => rcenc_lifted os started H enc F)
set_option maxRecDepth 100000 in
theorem recEncodes_holds : Rows.RecEncodesUptoCardSaid :=
  Claim7.holds_tied_plain_at .later [] [.data, .pinned] true (true, "181238d3d97307c2d1910e2af6be608174b67ea2b86a360ba6be3af11990ddfe") false recEncodes_row (fun _ h => by cases h) (by kernel_rfl) (fun _ h => by cases h) recEncodesUpto_row_tie rfl ⟨rfl, rfl⟩ (by kernel_rfl) rfl
    (fun f fn hf hfn => by
      obtain rfl : f = 11 := Option.some.inj ((show Tryd.prog.funcNamed "almonry/almonrylaw04.RecEncodes" = some 11 by kernel_rfl).symm.trans hf) |>.symm
      obtain rfl : fn = Tryd.f11 := (Option.some.inj (Tryd.func11.symm.trans hfn)).symm
      exact ⟨by kernel_rfl, fun j t ht => by
        rw [Tryd.params11] at ht
        have hm : t ∈ [52, 52] := by simpa using Array.mem_of_getElem? ht
        have hall : ([52, 52].all fun u => !Tryd.prog.wantsStandIn u) = true := by kernel_rfl
        exact (show Tryd.prog.wantsStandIn t = false by simpa using List.all_eq_true.1 hall t hm)⟩)
    (by kernel_rfl)

end Go.Proofs.YtodnakepbdhfkaaDoor
