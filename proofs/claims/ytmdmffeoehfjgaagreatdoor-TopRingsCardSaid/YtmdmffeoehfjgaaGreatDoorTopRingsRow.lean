/- TopRings, the tied card: true at every input. The listed variables (utf8's tables) start as Go's library lays them; no other condition. -/
import Derived.Test.YtmdmffeoehfjgaaGreatDoorTgsG
import Derived.Test.YtmdmffeoehfjgaaGreatDoorRows
import Derived.Test.YtmdmffeoehfjgaaGreatDoorCards
import Derived.Test.YtmdmffeoehfjgaaGreatDoorTie
import Derived.ProofKit
import Derived.OpenShut
import Derived.LaidMore
import Derived.Lay
import Derived.SevenTiedAt
import Derived.Stop.Joined
namespace Go.Proofs.YtmdmffeoehfjgaaGreatDoor
open Go.Al Go.Proofs
open Go.ChangeShapes Go.WideShapes Go.ChangeAt Go.RowKit
set_option linter.unusedVariables false
set_option linter.unusedSimpArgs false

set_option maxRecDepth 100000
theorem tRi_fa : (Rows.topRingsRow.inPlace == Tryz.pinned.checked.prog.inPlace 4) = true := by kernel_rfl
theorem tRi_fb : (Rows.topRingsRow.unfollowed == Tryz.pinned.checked.prog.unfollowed 4) = true := by kernel_rfl
theorem tRi_fc : (Rows.topRingsRow.recurses == Tryz.pinned.checked.prog.recurses 4) = true := by kernel_rfl
theorem tRi_fd : (Rows.topRingsRow.named == Tryz.pinned.checked.prog.varsNamed 4) = true := by kernel_rfl
theorem tRi_ff : Tryz.pinned.checked.prog.mayEnter = true := by kernel_rfl
theorem tRi_fg : (Rows.topRingsRow.lifted == Tryz.pinned.checked.prog.liftsFinal) = true := by kernel_rfl

theorem tRi_closed : joinedFacts Tryz.pinned.checked.prog 4 Tryz.f4 Rows.topRingsSpec Rows.topRingsRow = true := by
  unfold joinedFacts
  rw [tRi_fa, tRi_fb, tRi_fc, tRi_fd, tRi_ff, tRi_fg]
  kernel_rfl
theorem tRi_fh : (Tryz.pinned.checked.prog.funcs.toList.all fun fn => !fn.goes) = true := by kernel_rfl
theorem tRi_named : Tryz.pinned.checked.prog.funcNamed Rows.topRingsRow.func = some 4 := by kernel_rfl
theorem tRi_goes : false = Rows.topRingsRow.goesBy Tryz.pinned.checked.prog := by
  have h0 : ∀ fn ∈ Tryz.pinned.checked.prog.funcs.toList, Func.goes fn = false := fun fn hm => by simpa using List.all_eq_true.1 tRi_fh fn hm
  have h1 : Tryz.pinned.checked.prog.funcs.any Func.goes = false := by
    rw [Bool.eq_false_iff, ne_eq, Array.any_eq_true]
    rintro ⟨i, hi, hg⟩
    have := h0 _ (Array.getElem_mem_toList hi)
    rw [this] at hg; cases hg
  have h2 : Tryz.pinned.checked.prog.goes 4 = false := by
    unfold Program.goes
    rw [h1, Bool.and_false, Bool.or_false, Bool.eq_false_iff, ne_eq, List.any_eq_true]
    rintro ⟨g, _, hg⟩
    rw [Option.any_eq_true] at hg
    obtain ⟨fn, hf, hq⟩ := hg
    have := h0 fn (Array.mem_toList_iff.2 (Array.mem_of_getElem? hf))
    rw [this] at hq; cases hq
  unfold OpenClaim.goesBy Program.goesAt Program.goesFrom
  rw [tRi_named, Option.any_some, h2]
  rfl

theorem own_tRi : ownKnob Tryz.prog.godebug = none := by kernel_rfl
theorem laid_tRi : laidOutB Tryz.prog = true := by kernel_rfl

theorem tRi_z {n : Int} (h : (Lit.int .i64 n).wf = true) : In n := by
  have h1 : (decide (-9223372036854775808 ≤ n) && decide (n ≤ 9223372036854775807)) = true := h
  simpa using h1
set_option maxRecDepth 100000 in
theorem tRi_in {H : Type} {enc : TypeId × Value → H} (W : World) (args : List Value) (ds : List (DataW H)) (p : List MemPlace) (h : LawIn enc Tryz.prog Tryz.f4.params.toList W args ds p) : Cl Tryz.prog 4 args W fun v w' => v = .bool true ∧ Fm (fun _ => False) W w' := by
  rw [Tryz.params4] at h
  have hl := h.len
  obtain ⟨v0, x0, b0, g0, r0, o0⟩ := h.arg (j := 0) rfl vI
  obtain ⟨v1, x1, b1, g1, r1, o1⟩ := h.arg (j := 1) rfl vInts
  match args, hl with
  | [a0, a1], _ =>
  obtain rfl : a0 = v0 := by simpa using g0
  obtain ⟨rfl, w0⟩ := arg_int r0 o0
  obtain rfl : a1 = v1 := by simpa using g1
  have s1 := arg_slice r1 o1
  exact trings_law (tRi_z w0) s1

set_option maxRecDepth 100000 in
theorem tRi_lifted (os : Os) (started : os.Started) (H : Type) (enc : TypeId × Value → H) :
    ReturnsInHanded {} Tryz.checked os 4 .any (fun w args => (Rows.topRingsSpec.pre enc Tryz.prog Tryz.f4 Rows.topRingsRow.domain false w args ∧ laidMetH Tryz.prog Rows.topRingsRow.laid w) ∧ sizedMet enc Tryz.prog Tryz.f4 (OpenSpec.ofChange Rows.topRingsSpec) false w args)
      (Rows.topRingsSpec.post enc Tryz.prog Tryz.f4 false true false false) :=
  law_laid (C := Tryz.checked) (tb := 4) (X := fun w _ => laidMetH Tryz.prog Rows.topRingsRow.laid w) (fun _ _ _ hh h => h.of_heap hh) own_tRi started (by kernel_rfl) Tryz.func4 laid_tRi
    (ChangeSpec.witness_shaped (enc := enc) (C := Tryz.checked) (os := os) (X := fun w _ => laidMetH Tryz.prog Rows.topRingsRow.laid w) false (World.laidAll Tryz.prog os Rows.topRingsRow.laid) #[.int .i64 0, .slice none 0 0] 8 (World.laidAll_os _ _ _)
      (World.shaped_of_ZipB (by kernel_rfl) (by kernel_rfl)) (by kernel_rfl) (by kernel_rfl) (by kernel_rfl)
      (by rw [MakeChecks.laidMetH_plain _ _ _ (by kernel_rfl)]; exact laidMet_laidAll _ (by kernel_rfl) (by kernel_rfl)))
    rfl Tryz.underlying4 rfl (of_decide_eq_true (by kernel_rfl))
    (fun ds hl => match ds, hl with | [_, _], _ => rfl)
    (fun W args ds p h => tRi_in W args ds p h)

theorem topRings_row : Rows.TopRingsSaid :=
  OpenClaim.holds_of_wide 4 Tryz.f4 rfl rfl rfl rfl rfl rfl rfl ⟨rfl, rfl, rfl, rfl, rfl⟩ rfl rfl rfl rfl rfl tRi_named Tryz.func4 tRi_closed
    (of_decide_eq_true (by kernel_rfl)) (by unfold Func.isWrapper; first | (rw [if_pos (by decide +kernel)]; kernel_rfl) | (rw [if_neg (by decide +kernel)]; exact ⟨rfl, rfl⟩))
    (fun os started H enc _ => tRi_lifted os started H enc)
set_option maxRecDepth 100000 in
theorem topRings_holds : Rows.TopRingsCardSaid :=
  Claim7.holds_tied_plain_at .later [] [.data, .pinned] true (true, "be00219eb11080d62d20997b78a4b2fe3d80d4eff38f2253dcb9a30b8cbeeee0") false topRings_row (fun _ h => by cases h) (by kernel_rfl) (fun _ h => by cases h) topRings_row_tie rfl ⟨rfl, rfl⟩ (by kernel_rfl) rfl
    (fun f fn hf hfn => by
      obtain rfl : f = 4 := Option.some.inj ((show Tryz.prog.funcNamed "almonry/almonrytop.TopRings" = some 4 by kernel_rfl).symm.trans hf) |>.symm
      obtain rfl : fn = Tryz.f4 := (Option.some.inj (Tryz.func4.symm.trans hfn)).symm
      exact ⟨by kernel_rfl, fun j t ht => by
        rw [Tryz.params4] at ht
        have hm : t ∈ [3, 25] := by simpa using Array.mem_of_getElem? ht
        have hall : ([3, 25].all fun u => !Tryz.prog.wantsStandIn u) = true := by kernel_rfl
        exact (show Tryz.prog.wantsStandIn t = false by simpa using List.all_eq_true.1 hall t hm)⟩)
    tRi_goes

end Go.Proofs.YtmdmffeoehfjgaaGreatDoor
