/- PoolPlays, the tied card: true at every input. The listed variables (utf8's tables) start as Go's library lays them; no other condition. -/
import Derived.Test.YthbngnlmgplijaaGreatDoorPlyG
import Derived.Test.YthbngnlmgplijaaGreatDoorRows
import Derived.Test.YthbngnlmgplijaaGreatDoorCards
import Derived.Test.YthbngnlmgplijaaGreatDoorTie
import Derived.ProofKit
import Derived.OpenShut
import Derived.LaidMore
import Derived.Lay
import Derived.SevenTiedAt
import Derived.Stop.Joined
namespace Go.Proofs.YthbngnlmgplijaaGreatDoor
open Go.Al Go.Proofs
open Go.ChangeShapes Go.WideShapes Go.ChangeAt Go.RowKit
set_option linter.unusedVariables false
set_option linter.unusedSimpArgs false

theorem own_pPl : ownKnob Tryz.prog.godebug = none := by kernel_rfl
theorem laid_pPl : laidOutB Tryz.prog = true := by kernel_rfl

set_option maxRecDepth 100000 in
theorem pPl_in {H : Type} {enc : TypeId × Value → H} (W : World) (args : List Value) (ds : List (DataW H)) (p : List MemPlace) (h : LawIn enc Tryz.prog Tryz.f11.params.toList W args ds p) : Cl Tryz.prog 11 args W fun v w' => v = .bool true ∧ Fm (fun _ => False) W w' := by
  rw [Tryz.params11] at h
  have hl := h.len
  obtain ⟨v0, x0, b0, g0, r0, o0⟩ := h.arg (j := 0) rfl vI
  obtain ⟨v1, x1, b1, g1, r1, o1⟩ := h.arg (j := 1) rfl vI
  obtain ⟨v2, x2, b2, g2, r2, o2⟩ := h.arg (j := 2) rfl vOpPs
  match args, hl with
  | [a0, a1, a2], _ =>
  obtain rfl : a0 = v0 := by simpa using g0
  obtain ⟨rfl, w0⟩ := arg_int r0 o0
  obtain rfl : a1 = v1 := by simpa using g1
  obtain ⟨rfl, w1⟩ := arg_int r1 o1
  obtain rfl : a2 = v2 := by simpa using g2
  have s2 := arg_slice r2 o2
  exact pplays_law x0 x1 s2

set_option maxRecDepth 100000 in
theorem pPl_lifted (os : Os) (started : os.Started) (H : Type) (enc : TypeId × Value → H) :
    ReturnsInHanded {} Tryz.checked os 11 .any (fun w args => (Rows.poolPlaysSpec.pre enc Tryz.prog Tryz.f11 Rows.poolPlaysRow.domain false w args ∧ laidMetH Tryz.prog Rows.poolPlaysRow.laid w) ∧ sizedMet enc Tryz.prog Tryz.f11 (OpenSpec.ofChange Rows.poolPlaysSpec) false w args)
      (Rows.poolPlaysSpec.post enc Tryz.prog Tryz.f11 false true false false) :=
  law_laid (C := Tryz.checked) (tb := 4) (X := fun w _ => laidMetH Tryz.prog Rows.poolPlaysRow.laid w) (fun _ _ _ hh h => h.of_heap hh) own_pPl started (by kernel_rfl) Tryz.func11 laid_pPl
    (ChangeSpec.witness_shaped (enc := enc) (C := Tryz.checked) (os := os) (X := fun w _ => laidMetH Tryz.prog Rows.poolPlaysRow.laid w) false (World.laidAll Tryz.prog os Rows.poolPlaysRow.laid) #[.int .i64 0, .int .i64 0, .slice none 0 0] 8 (World.laidAll_os _ _ _)
      (World.shaped_of_ZipB (by kernel_rfl) (by kernel_rfl)) (by kernel_rfl) (by kernel_rfl) (by kernel_rfl)
      (by rw [MakeChecks.laidMetH_plain _ _ _ (by kernel_rfl)]; exact laidMet_laidAll _ (by kernel_rfl) (by kernel_rfl)))
    rfl Tryz.underlying4 rfl (of_decide_eq_true (by kernel_rfl))
    (fun ds hl => match ds, hl with | [_, _, _], _ => rfl)
    (fun W args ds p h => pPl_in W args ds p h)

theorem poolPlays_row : Rows.PoolPlaysSaid :=
  OpenClaim.holds_of_wide 11 Tryz.f11 rfl rfl rfl rfl rfl rfl rfl ⟨rfl, rfl, rfl, rfl, rfl⟩ rfl rfl rfl rfl rfl (by kernel_rfl) Tryz.func11 (by kernel_rfl)
    (of_decide_eq_true (by kernel_rfl)) (by unfold Func.isWrapper; first | (rw [if_pos (by decide +kernel)]; kernel_rfl) | (rw [if_neg (by decide +kernel)]; exact ⟨rfl, rfl⟩))
    (fun os started H enc _ => pPl_lifted os started H enc)
set_option maxRecDepth 100000 in
theorem poolPlays_holds : Rows.PoolPlaysCardSaid :=
  Claim7.holds_tied_plain_at .later [] [.data, .pinned] true (true, "4d091618edec5184c4138f1cf1ff2973e570d43ab83e6dd0aa00b01229ac5ccc") false poolPlays_row (fun _ h => by cases h) (by kernel_rfl) (fun _ h => by cases h) poolPlays_row_tie rfl ⟨rfl, rfl⟩ (by kernel_rfl) rfl
    (fun f fn hf hfn => by
      obtain rfl : f = 11 := Option.some.inj ((show Tryz.prog.funcNamed "almonry/almonrylaw06.PoolPlays" = some 11 by kernel_rfl).symm.trans hf) |>.symm
      obtain rfl : fn = Tryz.f11 := (Option.some.inj (Tryz.func11.symm.trans hfn)).symm
      exact ⟨by kernel_rfl, fun j t ht => by
        rw [Tryz.params11] at ht
        have hm : t ∈ [3,3,53] := by simpa using Array.mem_of_getElem? ht
        have hall : ([3,3,53].all fun u => !Tryz.prog.wantsStandIn u) = true := by kernel_rfl
        exact (show Tryz.prog.wantsStandIn t = false by simpa using List.all_eq_true.1 hall t hm)⟩)
    (by kernel_rfl)

end Go.Proofs.YthbngnlmgplijaaGreatDoor
