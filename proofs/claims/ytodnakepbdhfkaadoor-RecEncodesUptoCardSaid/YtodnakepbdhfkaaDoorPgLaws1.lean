/- Laws of pages: how many bytes they need, which are the same, what is written and read. -/
import Derived.Test.YtodnakepbdhfkaaDoorPgAwake
namespace Go.Proofs.YtodnakepbdhfkaaDoor
open Go.Al Go.Proofs
set_option linter.unusedVariables false
set_option linter.unusedSimpArgs false
set_option linter.unusedSectionVars false
set_option maxRecDepth 100000

set_option maxHeartbeats 4000000 in
theorem sizes_law {w : World} {cs : Array Value} {p : Pg} (h : PgAs w cs p) : Cl Tryd.prog 3 [.agg cs] w fun r w' => r = .bool true ∧ Fm (fun _ => False) w w' := by
  obtain ⟨v, hcs, hone, hc⟩ := h.ex
  refine c3 ?_; unfold T3
  refine New_any ?_
  intro x1 w2 hx1 hs2 hw2 hf2
  rw [hcs] at hw2
  replace hw2 : PB w2 x1 p v := hw2
  have hf3 := Fm.drew (fun _ => False) w2
  have hP3 : PB w2.drew x1 p v := hw2.keep hf3 (fun e => e)
  have hF3 := Fmf hf2 hf3
  refine ⟨fun w => PB w x1 p v, hP3, ?_⟩
  generalize w2.drew = w3 at hf3 hP3 hF3
  refine (awake_spec w3).mono ?_
  rintro _ w5 ⟨rfl, hf5⟩
  have hP5 := hP3.keep hf5 (fun e => e)
  have hF5 := Fmf hF3 hf5
  have hA5 := h.keep hF5
  rw [hcs] at hA5
  refine ⟨hP5, ?_⟩
  simp only [RS0, RS1, RS2, RS3, RS4, RS5, hP5.all, true_and]
  refine ⟨.agg (pcs p v), fun w6 h6 => ?_, ?_⟩
  · simp only [RS0, RS1, RS2, RS3, RS4, RS5, h6.all]; trivial
  refine (size_spec hA5).mono ?_
  rintro _ w6 ⟨rfl, hf6⟩
  have hP6 := hP5.keep hf6 (fun e => e)
  refine ⟨hP6, ?_⟩
  refine (rsize_spec (hA5.keep hf6)).mono ?_
  rintro _ w7 ⟨rfl, hf7⟩
  have hP7 := hP6.keep hf7 (fun e => e)
  refine ⟨hP7, ?_⟩
  have hA7 := (hA5.keep hf6).keep hf7
  have hF7 := Fmf hF5 (Fmf hf6 hf7)
  simp only [RS0, RS1, RS2, RS3, RS4, RS5, beq_self_eq_true, hP7.all, true_and]
  refine ⟨.agg (pcs p v), fun w6 h6 => ?_, ?_⟩
  · simp only [RS0, RS1, RS2, RS3, RS4, RS5, h6.all]; trivial
  refine (room_spec hA7).mono ?_
  rintro _ w8 ⟨rfl, hf8⟩
  have hP8 := hP7.keep hf8 (fun e => e)
  refine ⟨hP8, ?_⟩
  refine (rroom_spec (hA7.keep hf8)).mono ?_
  rintro _ w9 ⟨rfl, hf9⟩
  simp only [RS0, RS1, RS2, RS3, RS4, RS5, beq_self_eq_true]
  exact ⟨(by trivial), Fmf hF7 (Fmf hf8 hf9)⟩

set_option maxHeartbeats 4000000 in
theorem sames_law {w : World} {ca cb : Array Value} {a b : Pg} (ha : PgAs w ca a) (hb : PgAs w cb b) : Cl Tryd.prog 6 [.agg ca, .agg cb] w fun r w' => r = .bool true ∧ Fm (fun _ => False) w w' := by
  obtain ⟨va, hcsa, _⟩ := ha.ex
  obtain ⟨vb, hcsb, _⟩ := hb.ex
  refine c6 ?_; unfold T6
  refine New_any ?_
  intro xa w1 hxa hs1 hw1 hf1
  refine New_any ?_
  intro xb w2 hxb hs2 hw2 hf2
  rw [hcsa] at hw1
  rw [hcsb] at hw2
  replace hw1 : PB w2 xa a va := hf2.heap hw1 (fun e => e)
  replace hw2 : PB w2 xb b vb := hw2
  have hF2 := Fmf hf1 hf2
  have hf3 := Fm.drew (fun _ => False) w2
  have hA3 : PB w2.drew xa a va := hw1.keep hf3 (fun e => e)
  have hB3 : PB w2.drew xb b vb := hw2.keep hf3 (fun e => e)
  have hF3 := Fmf hF2 hf3
  refine ⟨fun w => PB w xa a va ∧ PB w xb b vb, ⟨hA3, hB3⟩, ?_⟩
  generalize w2.drew = w3 at hf3 hA3 hB3 hF3
  refine (awake_spec w3).mono ?_
  rintro _ w5 ⟨rfl, hf5⟩
  have hA5 := hA3.keep hf5 (fun e => e)
  have hB5 := hB3.keep hf5 (fun e => e)
  have hF5 := Fmf hF3 hf5
  have pa : ∀ {w' : World}, Fm (fun _ => False) w w' → PgAs w' (pcs a va) a := fun hf => hcsa ▸ ha.keep hf
  have pb : ∀ {w' : World}, Fm (fun _ => False) w w' → PgAs w' (pcs b vb) b := fun hf => hcsb ▸ hb.keep hf
  refine ⟨⟨hA5, hB5⟩, ?_⟩
  simp only [RS0, RS1, RS2, RS3, RS4, RS5, hA5.all, hB5.all, true_and]
  refine ⟨.agg (pcs a va), fun w6 h6 => ?_, ?_⟩
  · simp only [RS0, RS1, RS2, RS3, RS4, RS5, h6.1.all]; trivial
  refine ⟨.agg (pcs b vb), fun w6 h6 => ?_, ?_⟩
  · simp only [RS0, RS1, RS2, RS3, RS4, RS5, h6.2.all]; trivial
  refine (same_spec (pa hF5) (pb hF5)).mono ?_
  rintro _ w6 ⟨rfl, hf6⟩
  have hA6 := hA5.keep hf6 (fun e => e)
  have hB6 := hB5.keep hf6 (fun e => e)
  have hF6 := Fmf hF5 hf6
  refine ⟨⟨hA6, hB6⟩, ?_⟩
  refine (rsame_spec (pa hF6) (pb hF6)).mono ?_
  rintro _ w7 ⟨rfl, hf7⟩
  have hA7 := hA6.keep hf7 (fun e => e)
  have hB7 := hB6.keep hf7 (fun e => e)
  have hF7 := Fmf hF6 hf7
  refine ⟨⟨hA7, hB7⟩, ?_⟩
  simp only [RS0, RS1, RS2, RS3, RS4, RS5, binV_beql, beq_self_eq_true, hA7.all, true_and]
  refine (same_spec (pa hF7) (pa hF7)).mono ?_
  rintro _ w8 ⟨rfl, hf8⟩
  have hA8 := hA7.keep hf8 (fun e => e)
  have hB8 := hB7.keep hf8 (fun e => e)
  have hF8 := Fmf hF7 hf8
  refine ⟨⟨hA8, hB8⟩, ?_⟩
  simp only [RS0, RS1, RS2, RS3, RS4, RS5, decide_true, hA8.all, hB8.all, true_and]
  refine ⟨.agg (pcs b vb), fun w6 h6 => ?_, ?_⟩
  · simp only [RS0, RS1, RS2, RS3, RS4, RS5, h6.2.all]; trivial
  refine ⟨.agg (pcs a va), fun w6 h6 => ?_, ?_⟩
  · simp only [RS0, RS1, RS2, RS3, RS4, RS5, h6.1.all]; trivial
  refine (same_spec (pa hF8) (pb hF8)).mono ?_
  rintro _ w9 ⟨rfl, hf9⟩
  have hA9 := hA8.keep hf9 (fun e => e)
  have hB9 := hB8.keep hf9 (fun e => e)
  have hF9 := Fmf hF8 hf9
  refine ⟨⟨hA9, hB9⟩, ?_⟩
  refine (same_spec (pb hF9) (pa hF9)).mono ?_
  rintro _ w10 ⟨rfl, hf10⟩
  have hsym : decide (b = a) = decide (a = b) := by rw [decide_eq_decide]; exact ⟨fun e => e.symm, fun e => e.symm⟩
  rw [hsym]
  simp only [RS0, RS1, RS2, RS3, RS4, RS5, binV_beql, beq_self_eq_true]
  exact ⟨(by trivial), Fmf hF9 hf10⟩

end Go.Proofs.YtodnakepbdhfkaaDoor
