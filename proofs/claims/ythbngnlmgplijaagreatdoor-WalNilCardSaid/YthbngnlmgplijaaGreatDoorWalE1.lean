/- A nil log holds nothing. How a law's arguments read. -/
import Derived.Test.YthbngnlmgplijaaGreatDoorWalD
import Derived.Test.YthbngnlmgplijaaGreatDoorAlUpto
namespace Go.Proofs.YthbngnlmgplijaaGreatDoor
open Go.Al Go.Proofs
set_option linter.unusedVariables false
set_option linter.unusedSimpArgs false
set_option linter.unusedSectionVars false
set_option maxRecDepth 100000

theorem wappend_nil (w : World) (cs : Array Value) : Cl Tryz.prog 21 [.pointer none, .agg cs] w fun v w' => v = .tuple #[iv 0, iv 2] ∧ Fm (fun _ => False) w w' := by
  refine c21 ?_; unfold T21
  refine New_any ?_
  intro x1 w1 hx1 hs1 hw1 hf1
  simp only [RS0, RS1, RS2, RS3, RS4, RS5]
  exact ⟨(by trivial), hf1⟩
theorem retR4 {w : World} {g : Nat} {cs : Array Value} {e : Int} (h : w.heap[g]? = some (.cells cs 28)) (hn : cs.size = 16) {k : KV} (hk : k (.tuple #[.agg cs, iv e]) w) :
    RetO (resL Tryz.prog (fun j => bif Nat.beq j 4 then pv g else bif Nat.beq j 5 then iv e else undef) w [(ResultVar.cell 4 28), (ResultVar.tmp 5)]) w k := by
  have h3 : resV Tryz.prog (fun j => bif Nat.beq j 4 then pv g else bif Nat.beq j 5 then iv e else undef) w (.tmp 5) = some (iv e) := rfl
  simp only [resL, resV_blk (f := fun j => bif Nat.beq j 4 then pv g else bif Nat.beq j 5 then iv e else undef) (a := 4) rfl agg52 size52 h hn, h3, RetO, RetV]
  exact hk
theorem wget_nil (w : World) (a : Value) : Cl Tryz.prog 29 [.pointer none, a] w fun v w' => v = .tuple #[.agg (rcs rc0 nl nl nl nl nl), iv 2] ∧ Fm (fun _ => False) w w' := by
  refine c29 ?_; unfold T29
  refine New_any ?_
  intro x1 w1 hx1 hs1 hw1 hf1
  simp only [RS0, RS1, RS2, RS3, RS4, RS5]
  refine RunS_ok (bld52z _) ?_
  refine St_all hw1 rfl rfl (rcs_one rfl rfl rfl rfl rfl) ?_
  intro w2 hw2 hs2 hf2
  exact retR4 hw2 rfl ⟨rfl, Fm.own hf1 hf2 (by rintro y rfl; omega)⟩
set_option maxHeartbeats 4000000 in
theorem wnil_law (w : World) (n : Int) : Cl Tryz.prog 8 [iv n] w fun v w' => v = .bool true ∧ Fm (fun _ => False) w w' := by
  refine c8 ?_; unfold T8
  refine (wsmall_spec w).mono ?_
  rintro _ w1 ⟨rfl, hf1⟩
  refine (wappend_nil w1 _).mono ?_
  rintro _ w2 ⟨rfl, hf2⟩
  simp only [RS0, RS1, RS2, RS3, RS4, RS5]
  refine (wget_nil w2 _).mono ?_
  rintro _ w3 ⟨rfl, hf3⟩
  have hF3 := Fmf hf1 (Fmf hf2 hf3)
  have z3 := hF3.size
  simp only [RS0, RS1, RS2, RS3, RS4, RS5]
  refine New_any ?_
  intro x w4 hx hs4 hw4 hf4
  refine St_all hw4 rfl rfl (rcs_one rfl rfl rfl rfl rfl) ?_
  intro w5 hw5 hs5 hf5
  have hF5 : Fm (fun _ => False) w w5 := Fm.own (Fmf hF3 hf4) hf5 (by rintro y rfl; omega)
  simp only [RS0, RS1, RS2, RS3, RS4, RS5, beq_self_eq_true]
  refine (wreserve_nil w5 _).mono ?_
  rintro _ w6 ⟨rfl, hf6⟩
  simp only [RS0, RS1, RS2, RS3, RS4, RS5, beq_self_eq_true]
  refine (wrelease_nil w6 _).mono ?_
  rintro _ w7 ⟨rfl, hf7⟩
  simp only [RS0, RS1, RS2, RS3, RS4, RS5, beq_self_eq_true]
  refine (wflush_nil w7 _).mono ?_
  rintro _ w8 ⟨rfl, hf8⟩
  simp only [RS0, RS1, RS2, RS3, RS4, RS5, beq_self_eq_true]
  refine (wrecycle_nil w8 _).mono ?_
  rintro _ w9 ⟨rfl, hf9⟩
  simp only [RS0, RS1, RS2, RS3, RS4, RS5, beq_self_eq_true]
  refine (wtail_nil w9).mono ?_
  rintro _ w10 ⟨rfl, hf10⟩
  simp only [RS0, RS1, RS2, RS3, RS4, RS5, beq_self_eq_true]
  refine (wflushed_nil w10).mono ?_
  rintro _ w11 ⟨rfl, hf11⟩
  simp only [RS0, RS1, RS2, RS3, RS4, RS5, beq_self_eq_true]
  refine (wstart_nil w11).mono ?_
  rintro _ w12 ⟨rfl, hf12⟩
  simp only [RS0, RS1, RS2, RS3, RS4, RS5, beq_self_eq_true]
  refine (wroom_nil w12).mono ?_
  rintro _ w13 ⟨rfl, hf13⟩
  simp only [RS0, RS1, RS2, RS3, RS4, RS5, beq_self_eq_true]
  refine (waw_spec w13).mono ?_
  rintro _ w14 ⟨rfl, hf14⟩
  simp only [RS0, RS1, RS2, RS3, RS4, RS5]
  exact ⟨(by trivial), Fmf hF5 (Fmf hf6 (Fmf hf7 (Fmf hf8 (Fmf hf9 (Fmf hf10 (Fmf hf11 (Fmf hf12 (Fmf hf13 hf14))))))))⟩
end Go.Proofs.YthbngnlmgplijaaGreatDoor

namespace Go.Proofs.YthbngnlmgplijaaGreatDoor
open Go.Al Go.Proofs
set_option linter.unusedVariables false
def vI : Vw Tryz.prog 3 Int := vInt .i64 Tryz.underlying3 (by kernel_rfl)
end Go.Proofs.YthbngnlmgplijaaGreatDoor
