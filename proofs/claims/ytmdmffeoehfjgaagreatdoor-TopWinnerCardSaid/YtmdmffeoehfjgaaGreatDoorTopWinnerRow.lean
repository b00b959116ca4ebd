/- TopWinner, the tied card: true at every input. The listed variables (utf8's tables) start as Go's library lays them; no other condition. -/
import Derived.Test.YtmdmffeoehfjgaaGreatDoorTwsH
import Derived.Test.YtmdmffeoehfjgaaGreatDoorRows
import Derived.Test.YtmdmffeoehfjgaaGreatDoorCards
import Derived.Test.YtmdmffeoehfjgaaGreatDoorTie
import Derived.ProofKit
import Derived.OpenShut
import Derived.LaidMore
import Derived.Lay
import Derived.SevenTiedAt
import Derived.Stop.Joined
namespace Go.Proofs.YtmdmffeoehfjgaaGreatDoor
open Go.Al Go.Proofs
open Go.ChangeShapes Go.WideShapes Go.ChangeAt Go.RowKit
set_option linter.unusedVariables false
set_option linter.unusedSimpArgs false

set_option maxRecDepth 100000
theorem tWi_fa : (Rows.topWinnerRow.inPlace == Tryz.pinned.checked.prog.inPlace 3) = true := by kernel_rfl
theorem tWi_fb : (Rows.topWinnerRow.unfollowed == Tryz.pinned.checked.prog.unfollowed 3) = true := by kernel_rfl
theorem tWi_fc : (Rows.topWinnerRow.recurses == Tryz.pinned.checked.prog.recurses 3) = true := by kernel_rfl
theorem tWi_fd : (Rows.topWinnerRow.named == Tryz.pinned.checked.prog.varsNamed 3) = true := by kernel_rfl
theorem tWi_ff : Tryz.pinned.checked.prog.mayEnter = true := by kernel_rfl
theorem tWi_fg : (Rows.topWinnerRow.lifted == Tryz.pinned.checked.prog.liftsFinal) = true := by kernel_rfl

theorem tWi_closed : joinedFacts Tryz.pinned.checked.prog 3 Tryz.f3 Rows.topWinnerSpec Rows.topWinnerRow = true := by
  unfold joinedFacts
  rw [tWi_fa, tWi_fb, tWi_fc, tWi_fd, tWi_ff, tWi_fg]
  kernel_rfl
theorem tWi_fh : (Tryz.pinned.checked.prog.funcs.toList.all fun fn => !fn.goes) = true := by kernel_rfl
theorem tWi_named : Tryz.pinned.checked.prog.funcNamed Rows.topWinnerRow.func = some 3 := by kernel_rfl
theorem tWi_goes : false = Rows.topWinnerRow.goesBy Tryz.pinned.checked.prog := by
  have h0 : ∀ fn ∈ Tryz.pinned.checked.prog.funcs.toList, Func.goes fn = false := fun fn hm => by simpa using List.all_eq_true.1 tWi_fh fn hm
  have h1 : Tryz.pinned.checked.prog.funcs.any Func.goes = false := by
    rw [Bool.eq_false_iff, ne_eq, Array.any_eq_true]
    rintro ⟨i, hi, hg⟩
    have := h0 _ (Array.getElem_mem_toList hi)
    rw [this] at hg; cases hg
  have h2 : Tryz.pinned.checked.prog.goes 3 = false := by
    unfold Program.goes
    rw [h1, Bool.and_false, Bool.or_false, Bool.eq_false_iff, ne_eq, List.any_eq_true]
    rintro ⟨g, _, hg⟩
    rw [Option.any_eq_true] at hg
    obtain ⟨fn, hf, hq⟩ := hg
    have := h0 fn (Array.mem_toList_iff.2 (Array.mem_of_getElem? hf))
    rw [this] at hq; cases hq
  unfold OpenClaim.goesBy Program.goesAt Program.goesFrom
  rw [tWi_named, Option.any_some, h2]
  rfl

theorem own_tWi : ownKnob Tryz.prog.godebug = none := by kernel_rfl
theorem laid_tWi : laidOutB Tryz.prog = true := by kernel_rfl

set_option maxRecDepth 100000 in
theorem tWi_in {H : Type} {enc : TypeId × Value → H} (W : World) (args : List Value) (ds : List (DataW H)) (p : List MemPlace) (h : LawIn enc Tryz.prog Tryz.f3.params.toList W args ds p) : Cl Tryz.prog 3 args W fun v w' => v = .bool true ∧ Fm (fun _ => False) W w' := by
  rw [Tryz.params3] at h
  have hl := h.len
  obtain ⟨v0, x0, b0, g0, r0, o0⟩ := h.arg (j := 0) rfl vRow
  obtain ⟨v1, x1, b1, g1, r1, o1⟩ := h.arg (j := 1) rfl vPair
  obtain ⟨v2, x2, b2, g2, r2, o2⟩ := h.arg (j := 2) rfl vInts
  match args, hl with
  | [a0, a1, a2], _ =>
  obtain rfl : a0 = v0 := by simpa using g0
  obtain ⟨cs0, rfl, s0⟩ := arg_struct r0 o0
  obtain rfl : a1 = v1 := by simpa using g1
  obtain ⟨cs1, rfl⟩ := arg_arr o1
  obtain rfl : a2 = v2 := by simpa using g2
  have s2 := arg_slice r2 o2
  exact win_law s0 r1 s2

set_option maxRecDepth 100000 in
theorem tWi_lifted (os : Os) (started : os.Started) (H : Type) (enc : TypeId × Value → H) :
    ReturnsInHanded {} Tryz.checked os 3 .any (fun w args => (Rows.topWinnerSpec.pre enc Tryz.prog Tryz.f3 Rows.topWinnerRow.domain false w args ∧ laidMetH Tryz.prog Rows.topWinnerRow.laid w) ∧ sizedMet enc Tryz.prog Tryz.f3 (OpenSpec.ofChange Rows.topWinnerSpec) false w args)
      (Rows.topWinnerSpec.post enc Tryz.prog Tryz.f3 false true false false) :=
  law_laid (C := Tryz.checked) (tb := 4) (X := fun w _ => laidMetH Tryz.prog Rows.topWinnerRow.laid w) (fun _ _ _ hh h => h.of_heap hh) own_tWi started (by kernel_rfl) Tryz.func3 laid_tWi
    (ChangeSpec.witness_shaped (enc := enc) (C := Tryz.checked) (os := os) (X := fun w _ => laidMetH Tryz.prog Rows.topWinnerRow.laid w) false (World.laidAll Tryz.prog os Rows.topWinnerRow.laid) #[.agg #[.string ByteArray.empty, .string ByteArray.empty], .agg #[.string ByteArray.empty, .string ByteArray.empty], .slice none 0 0] 8 (World.laidAll_os _ _ _)
      (World.shaped_of_ZipB (by kernel_rfl) (by kernel_rfl)) (by kernel_rfl) (by kernel_rfl) (by kernel_rfl)
      (by rw [MakeChecks.laidMetH_plain _ _ _ (by kernel_rfl)]; exact laidMet_laidAll _ (by kernel_rfl) (by kernel_rfl)))
    rfl Tryz.underlying4 rfl (of_decide_eq_true (by kernel_rfl))
    (fun ds hl => match ds, hl with | [_, _, _], _ => rfl)
    (fun W args ds p h => tWi_in W args ds p h)

theorem topWinner_row : Rows.TopWinnerSaid :=
  OpenClaim.holds_of_wide 3 Tryz.f3 rfl rfl rfl rfl rfl rfl rfl ⟨rfl, rfl, rfl, rfl, rfl⟩ rfl rfl rfl rfl rfl tWi_named Tryz.func3 tWi_closed
    (of_decide_eq_true (by kernel_rfl)) (by unfold Func.isWrapper; first | (rw [if_pos (by decide +kernel)]; kernel_rfl) | (rw [if_neg (by decide +kernel)]; exact ⟨rfl, rfl⟩))
    (fun os started H enc _ => tWi_lifted os started H enc)
set_option maxRecDepth 100000 in
theorem topWinner_holds : Rows.TopWinnerCardSaid :=
  Claim7.holds_tied_plain_at .later [] [.data, .pinned] true (true, "be00219eb11080d62d20997b78a4b2fe3d80d4eff38f2253dcb9a30b8cbeeee0") false topWinner_row (fun _ h => by cases h) (by kernel_rfl) (fun _ h => by cases h) topWinner_row_tie rfl ⟨rfl, rfl⟩ (by kernel_rfl) rfl
    (fun f fn hf hfn => by
      obtain rfl : f = 3 := Option.some.inj ((show Tryz.prog.funcNamed "almonry/almonrytop.TopWinner" = some 3 by kernel_rfl).symm.trans hf) |>.symm
      obtain rfl : fn = Tryz.f3 := (Option.some.inj (Tryz.func3.symm.trans hfn)).symm
      exact ⟨by kernel_rfl, fun j t ht => by
        rw [Tryz.params3] at ht
        have hm : t ∈ [23, 24, 25] := by simpa using Array.mem_of_getElem? ht
        have hall : ([23, 24, 25].all fun u => !Tryz.prog.wantsStandIn u) = true := by kernel_rfl
        exact (show Tryz.prog.wantsStandIn t = false by simpa using List.all_eq_true.1 hall t hm)⟩)
    tWi_goes

end Go.Proofs.YtmdmffeoehfjgaaGreatDoor
