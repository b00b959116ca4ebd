/- WalPlays, the tied card: true at every input of small bulk. The listed variables (utf8's tables) start as Go's library lays them; no other condition. -/
import Derived.Test.YthbngnlmgplijaaGreatDoorWplF
import Derived.Test.YthbngnlmgplijaaGreatDoorRows
import Derived.Test.YthbngnlmgplijaaGreatDoorCards
import Derived.Test.YthbngnlmgplijaaGreatDoorTie
import Derived.ProofKit
import Derived.OpenShut
import Derived.LaidMore
import Derived.Lay
import Derived.SevenTiedAt
import Derived.Stop.Joined
namespace Go.Proofs.YthbngnlmgplijaaGreatDoor
open Go.Al Go.Proofs
open Go.ChangeShapes Go.WideShapes Go.ChangeAt Go.RowKit
set_option linter.unusedVariables false
set_option linter.unusedSimpArgs false

theorem own_wPl : ownKnob Tryz.prog.godebug = none := by kernel_rfl
theorem laid_wPl : laidOutB Tryz.prog = true := by kernel_rfl

set_option maxRecDepth 100000
theorem wPl_fa : (Rows.walPlaysUptoRow.inPlace == Tryz.pinned.checked.prog.inPlace 12) = true := by kernel_rfl
theorem wPl_fb : (Rows.walPlaysUptoRow.unfollowed == Tryz.pinned.checked.prog.unfollowed 12) = true := by kernel_rfl
theorem wPl_fc : (Rows.walPlaysUptoRow.recurses == Tryz.pinned.checked.prog.recurses 12) = true := by kernel_rfl
theorem wPl_fd : (Rows.walPlaysUptoRow.named == Tryz.pinned.checked.prog.varsNamed 12) = true := by kernel_rfl
theorem wPl_ff : Tryz.pinned.checked.prog.mayEnter = true := by kernel_rfl
theorem wPl_fg : (Rows.walPlaysUptoRow.lifted == Tryz.pinned.checked.prog.liftsFinal) = true := by kernel_rfl
theorem wPl_closed : joinedFacts Tryz.pinned.checked.prog 12 Tryz.f12 (Rows.OpenSpec.upto Rows.walPlaysSpec).bare Rows.walPlaysUptoRow = true := by
  unfold joinedFacts
  rw [wPl_fa, wPl_fb, wPl_fc, wPl_fd, wPl_ff, wPl_fg]
  kernel_rfl
set_option maxRecDepth 100000 in
theorem wPl_in {H : Type} {enc : TypeId × Value → H} (W : World) (args : List Value) (ds : List (DataW H)) (p : List MemPlace) (h : LawIn enc Tryz.prog Tryz.f12.params.toList W args ds p) (hk : Rows.uptoSmall H ds = true) : Cl Tryz.prog 12 args W fun v w' => v = .bool true ∧ Fm (fun _ => False) W w' := by
  rw [Tryz.params12] at h
  have hl := h.len
  obtain ⟨v0, x0, b0, g0, r0, o0⟩ := h.arg (j := 0) rfl vI
  obtain ⟨v1, x1, b1, g1, r1, o1⟩ := h.arg (j := 1) rfl vI
  obtain ⟨v2, x2, b2, g2, r2, o2, z2⟩ := h.argU hk (j := 2) rfl vRing vRing_szd
  match args, hl with
  | [a0, a1, a2], _ =>
  obtain rfl : a0 = v0 := by simpa using g0
  obtain ⟨rfl, w0⟩ := arg_int r0 o0
  obtain rfl : a1 = v1 := by simpa using g1
  obtain ⟨rfl, w1⟩ := arg_int r1 o1
  obtain rfl : a2 = v2 := by simpa using g2
  obtain ⟨cs2, rfl, s2⟩ := arg_struct r2 o2
  exact wplays_law x0 x1 s2 z2

set_option maxRecDepth 100000 in
theorem wPl_lifted (os : Os) (started : os.Started) (H : Type) (enc : TypeId × Value → H) (F : Stop.Interp) :
    ReturnsInHanded {} Tryz.checked os 12 .any (fun w args => ((Rows.OpenSpec.upto Rows.walPlaysSpec).pre enc Tryz.prog Tryz.f12 Rows.walPlaysUptoRow.domain false w args ∧ laidMetH Tryz.prog Rows.walPlaysUptoRow.laid w) ∧ sizedMet enc Tryz.prog Tryz.f12 (Rows.OpenSpec.upto Rows.walPlaysSpec) false w args)
      (((Rows.OpenSpec.upto Rows.walPlaysSpec).at F).post enc Tryz.prog Tryz.f12 false true false false) :=
  law_laid_upto (C := Tryz.checked) (tb := 4) (s := (Rows.OpenSpec.upto Rows.walPlaysSpec)) (k := Rows.uptoSmall) (X := fun w _ => laidMetH Tryz.prog Rows.walPlaysUptoRow.laid w) rfl own_wPl started (by kernel_rfl) Tryz.func12 laid_wPl
    (witness_u (enc := enc) (C := Tryz.checked) (os := os) (s := (Rows.OpenSpec.upto Rows.walPlaysSpec)) (k := Rows.uptoSmall) rfl (X := fun w _ => laidMetH Tryz.prog Rows.walPlaysUptoRow.laid w) false (World.laidAll Tryz.prog os Rows.walPlaysUptoRow.laid) #[.int .i64 0, .int .i64 0, .agg #[.int .i64 0, .slice none 0 0]] 8 (World.laidAll_os _ _ _)
      (World.shaped_of_ZipB (by kernel_rfl) (by kernel_rfl)) (by kernel_rfl) (x := ([.lit (.int .i64 0), .lit (.int .i64 0), .agg [.lit (.int .i64 0), .nil]], [], [])) (by kernel_rfl) (by kernel_rfl) (by kernel_rfl) (by kernel_rfl)
      (by rw [MakeChecks.laidMetH_plain _ _ _ (by kernel_rfl)]; exact laidMet_laidAll _ (by kernel_rfl) (by kernel_rfl)))
    rfl Tryz.underlying4 rfl (of_decide_eq_true (by kernel_rfl))
    (fun ds hl => match ds, hl with | [_, _, _], _ => rfl)
    (fun W args ds p h hk => wPl_in W args ds p h hk)

theorem walPlays_row : Rows.WalPlaysUptoSaid :=
  OpenClaim.holds_of_cond 12 Tryz.f12 rfl rfl rfl rfl rfl rfl rfl ⟨rfl, rfl, rfl, rfl, rfl⟩ rfl rfl rfl rfl rfl (by kernel_rfl) Tryz.func12 wPl_closed
    (of_decide_eq_true (by kernel_rfl)) (by unfold Func.isWrapper; first | (rw [if_pos (by decide +kernel)]; kernel_rfl) | (rw [if_neg (by decide +kernel)]; exact ⟨rfl, rfl⟩))
    (fun os started H enc _ F => wPl_lifted os started H enc F)
set_option maxRecDepth 100000 in
theorem walPlays_holds : Rows.WalPlaysUptoCardSaid :=
  Claim7.holds_tied_plain_at .later [] [.data, .pinned] true (true, "4d091618edec5184c4138f1cf1ff2973e570d43ab83e6dd0aa00b01229ac5ccc") false walPlays_row (fun _ h => by cases h) (by kernel_rfl) (fun _ h => by cases h) walPlaysUpto_row_tie rfl ⟨rfl, rfl⟩ (by kernel_rfl) rfl
    (fun f fn hf hfn => by
      obtain rfl : f = 12 := Option.some.inj ((show Tryz.prog.funcNamed "almonry/almonrylaw05.WalPlays" = some 12 by kernel_rfl).symm.trans hf) |>.symm
      obtain rfl : fn = Tryz.f12 := (Option.some.inj (Tryz.func12.symm.trans hfn)).symm
      exact ⟨by kernel_rfl, fun j t ht => by
        rw [Tryz.params12] at ht
        have hm : t ∈ [3,3,98] := by simpa using Array.mem_of_getElem? ht
        have hall : ([3,3,98].all fun u => !Tryz.prog.wantsStandIn u) = true := by kernel_rfl
        exact (show Tryz.prog.wantsStandIn t = false by simpa using List.all_eq_true.1 hall t hm)⟩)
    (by kernel_rfl)

end Go.Proofs.YthbngnlmgplijaaGreatDoor
