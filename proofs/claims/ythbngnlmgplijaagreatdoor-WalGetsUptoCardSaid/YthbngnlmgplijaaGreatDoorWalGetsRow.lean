/- WalGets, the tied card: true at every input of small bulk. The listed variables (utf8's tables) start as Go's library lays them; no other condition. -/
import Derived.Test.YthbngnlmgplijaaGreatDoorWalE3
import Derived.Test.YthbngnlmgplijaaGreatDoorAlCardU
import Derived.Test.YthbngnlmgplijaaGreatDoorRows
import Derived.Test.YthbngnlmgplijaaGreatDoorCards
import Derived.Test.YthbngnlmgplijaaGreatDoorTie
import Derived.ProofKit
import Derived.OpenShut
import Derived.LaidMore
import Derived.Lay
import Derived.SevenTiedAt
import Derived.Stop.Joined
namespace Go.Proofs.YthbngnlmgplijaaGreatDoor
open Go.Al Go.Proofs
open Go.ChangeShapes Go.WideShapes Go.ChangeAt Go.RowKit
set_option linter.unusedVariables false
set_option linter.unusedSimpArgs false

theorem own_wgets : ownKnob Tryz.prog.godebug = none := by kernel_rfl
theorem laid_wgets : laidOutB Tryz.prog = true := by kernel_rfl

set_option maxRecDepth 100000 in
theorem wgets_in {H : Type} {enc : TypeId × Value → H} (W : World) (args : List Value) (ds : List (DataW H)) (p : List MemPlace) (h : LawIn enc Tryz.prog Tryz.f5.params.toList W args ds p) (hk : Rows.uptoSmall H ds = true) : Cl Tryz.prog 5 args W fun v w' => v = .bool true ∧ Fm (fun _ => False) W w' := by
  rw [Tryz.params5] at h
  have hl := h.len
  obtain ⟨v0, x0, b0, g0, r0, o0, z0⟩ := h.argU hk (j := 0) rfl vRecs vRecs_szd
  obtain ⟨v1, x1, b1, g1, r1, o1⟩ := h.arg (j := 1) rfl vI
  obtain ⟨v2, x2, b2, g2, r2, o2⟩ := h.arg (j := 2) rfl vI
  match args, hl with
  | [a0, a1, a2], _ =>
  obtain rfl : a0 = v0 := by simpa using g0
  have s0 := arg_slice r0 o0
  obtain rfl : a1 = v1 := by simpa using g1
  obtain ⟨rfl, w1⟩ := arg_int r1 o1
  obtain rfl : a2 = v2 := by simpa using g2
  obtain ⟨rfl, w2⟩ := arg_int r2 o2
  exact wgets_law x1 x2 s0 z0

set_option maxRecDepth 100000 in
theorem wgets_lifted (os : Os) (started : os.Started) (H : Type) (enc : TypeId × Value → H) (F : Stop.Interp) :
    ReturnsInHanded {} Tryz.checked os 5 .any (fun w args => ((Rows.OpenSpec.upto Rows.walGetsSpec).pre enc Tryz.prog Tryz.f5 Rows.walGetsUptoRow.domain false w args ∧ laidMetH Tryz.prog Rows.walGetsUptoRow.laid w) ∧ sizedMet enc Tryz.prog Tryz.f5 (Rows.OpenSpec.upto Rows.walGetsSpec) false w args)
      (((Rows.OpenSpec.upto Rows.walGetsSpec).at F).post enc Tryz.prog Tryz.f5 false true false false) :=
  law_laid_upto (C := Tryz.checked) (tb := 4) (s := (Rows.OpenSpec.upto Rows.walGetsSpec)) (k := Rows.uptoSmall) (X := fun w _ => laidMetH Tryz.prog Rows.walGetsUptoRow.laid w) rfl own_wgets started (by kernel_rfl) Tryz.func5 laid_wgets
    (witness_u (enc := enc) (C := Tryz.checked) (os := os) (s := (Rows.OpenSpec.upto Rows.walGetsSpec)) (k := Rows.uptoSmall) rfl (X := fun w _ => laidMetH Tryz.prog Rows.walGetsUptoRow.laid w) false (World.laidAll Tryz.prog os Rows.walGetsUptoRow.laid) #[.slice none 0 0, .int .i64 0, .int .i64 0] 8 (World.laidAll_os _ _ _)
      (World.shaped_of_ZipB (by kernel_rfl) (by kernel_rfl)) (by kernel_rfl) (x := ([.nil, .lit (.int .i64 0), .lit (.int .i64 0)], [], [])) (by kernel_rfl) (by kernel_rfl) (by kernel_rfl) (by kernel_rfl)
      (by rw [MakeChecks.laidMetH_plain _ _ _ (by kernel_rfl)]; exact laidMet_laidAll _ (by kernel_rfl) (by kernel_rfl)))
    rfl Tryz.underlying4 rfl (of_decide_eq_true (by kernel_rfl))
    (fun ds hl => match ds, hl with | [_, _, _], _ => rfl)
    (fun W args ds p h hk => wgets_in W args ds p h hk)

theorem walGets_row : Rows.WalGetsUptoSaid :=
  OpenClaim.holds_of_cond 5 Tryz.f5 rfl rfl rfl rfl rfl rfl rfl ⟨rfl, rfl, rfl, rfl, rfl⟩ rfl rfl rfl rfl rfl (by kernel_rfl) Tryz.func5 (by kernel_rfl)
    (of_decide_eq_true (by kernel_rfl)) (by unfold Func.isWrapper; first | (rw [if_pos (by decide +kernel)]; kernel_rfl) | (rw [if_neg (by decide +kernel)]; exact ⟨rfl, rfl⟩))
    (fun os started H enc _ F => wgets_lifted os started H enc F)
set_option maxRecDepth 100000 in
theorem walGets_holds : Rows.WalGetsUptoCardSaid :=
  Claim7.holds_tied_plain_at .later [] [.data, .pinned] true (true, "4d091618edec5184c4138f1cf1ff2973e570d43ab83e6dd0aa00b01229ac5ccc") false walGets_row (fun _ h => by cases h) (by kernel_rfl) (fun _ h => by cases h) walGetsUpto_row_tie rfl ⟨rfl, rfl⟩ (by kernel_rfl) rfl
    (fun f fn hf hfn => by
      obtain rfl : f = 5 := Option.some.inj ((show Tryz.prog.funcNamed "almonry/almonrylaw05.WalGets" = some 5 by kernel_rfl).symm.trans hf) |>.symm
      obtain rfl : fn = Tryz.f5 := (Option.some.inj (Tryz.func5.symm.trans hfn)).symm
      exact ⟨by kernel_rfl, fun j t ht => by
        rw [Tryz.params5] at ht
        have hm : t ∈ [49,3] := by simpa using Array.mem_of_getElem? ht
        have hall : ([49,3].all fun u => !Tryz.prog.wantsStandIn u) = true := by kernel_rfl
        exact (show Tryz.prog.wantsStandIn t = false by simpa using List.all_eq_true.1 hall t hm)⟩)
    (by kernel_rfl)

end Go.Proofs.YthbngnlmgplijaaGreatDoor
