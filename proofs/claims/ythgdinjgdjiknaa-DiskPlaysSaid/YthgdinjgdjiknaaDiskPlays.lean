/- DiskPlays: the law. -/
import Derived.Test.YthgdinjgdjiknaaDiskTwice
namespace Go.Proofs.Ythgdinjgdjiknaa
open Go.Al Go.Proofs
set_option linter.unusedVariables false
set_option linter.unusedSimpArgs false
set_option linter.unusedSectionVars false

def vSizes : Vw Try.prog 23 (Int × Int × Unit) := vStruct Try.underlying23 (fvCons rfl 1 (by kernel_rfl) vI (fvCons rfl 1 (by kernel_rfl) vI fvNil)) (by kernel_rfl)

theorem bs34_3 (w : World) : (Instr.buildSlice 34 3 #[(0, iv 1), (1, iv 2), (2, iv 5)]).run Try.prog w = .ok (.slice (some ⟨w.heap.size, 0, none⟩) 3 3) (w.alloc (.cells #[iv 1, iv 2, iv 5] 3)) := by kernel_rfl
theorem three_cells (w : World) : CellsAt (w.alloc (.cells #[iv 1, iv 2, iv 5] 3)) (.slice (some ⟨w.heap.size, 0, none⟩) 3 3) 3 1 [iv 1, iv 2, iv 5] := by
  refine ⟨⟨_, 3, rfl, by omega, by decide, fun e => (by cases e), fun j u hj => ⟨_, rfl, ?_⟩⟩, rfl⟩
  rw [add_none, cell_at (alloc_new w _), Nat.zero_add]
  simpa using hj
/-- An element of the law's own list, the disks having changed. -/
theorem acts_keep {w w3 : World} {v : Value} {acts : List ActT} (ha : SliceAs vAct w v acts) (hF3 : Fm (fun _ => False) w w3) {k : Nat} (hlt : k < acts.length) :
    ∃ ad cs, ixV 6 v (iv k) = some (.pointer (some ad)) ∧ vAct.rel w cs acts[k] ∧ cellsV w3 ad 6 = some (.agg cs.toArray) := by
  obtain ⟨ad, cs, h1, h2, h3⟩ := ha.at (List.getElem?_eq_getElem hlt) (c := 6) (by kernel_rfl) .i64
  refine ⟨ad, cs, h1, h2, ?_⟩
  obtain ⟨hv, rfl, _⟩ := act_rel h2
  have : ∀ i, i < 6 → w3.cell? (ad.add i) = [Value.int .u8 (acts[k]).1, iv (acts[k]).2.1, iv (acts[k]).2.2.1, iv (acts[k]).2.2.2.1, .bool (acts[k]).2.2.2.2.1, hv][i]? := fun i hi => by
    have h4 := h3 i hi
    rw [List.getElem?_eq_getElem (by simpa using hi)] at h4 ⊢
    exact hF3.cell' h4 (fun e => e)
  unfold cellsV
  simp [cellsAt, this]

set_option maxHeartbeats 2000000 in
theorem plays_law (w : World) (cs : Array Value) (one two : Int) (av ov : Value) (acts others : List ActT) (hz : vSizes.rel w cs.toList (one, two, ())) (ha : SliceAs vAct w av acts) (ho : SliceAs vAct w ov others) :
    Cl Try.prog 3 [.agg cs, av, ov] w fun v w' => v = .bool true ∧ Fm (fun _ => False) w w' := by
  obtain ⟨c1, c2, hcs, ⟨rfl, _⟩, c3, c4, rfl, ⟨rfl, _⟩, rfl⟩ := hz
  obtain rfl : cs = #[iv one, iv two] := by apply Array.ext'; rw [hcs]; rfl
  have hal := ha.len
  have hol := ho.len
  unfold maxLen at hal hol
  refine c3 ?_
  unfold T3
  refine New_any ?_
  intro x3 w1 hx3 hs1 hw1 hf1
  have k0 : w1.cell? ⟨x3, 0, none⟩ = some (iv one) := by rw [cell_at hw1]; rfl
  have k1 : w1.cell? ⟨x3, 1, none⟩ = some (iv two) := by rw [cell_at hw1]; rfl
  simp only [Pu_some, extV_0, extV_1, extV_2, extV_3, nilV_ptr, nilV_fn, faV_ptr, lenV_sl, lenS_s, capV_sl, pickV_t, pickV_f, unV_not, unV_neg, isB_t, isB_f, isB_u, binV_add, binV_sub, binV_mul, binV_eql, binV_neq, binV_lss, binV_leq, binV_gtr, binV_geq, binV_seql, binV_sneq, binV_slss, binV_beql, binV_bneq, binV_peql, binV_pneq, add_add, add_none, Go.Al.add_zero, Nat.zero_add, Nat.add_zero, IfB_t, IfB_f, Gd_t, Gd_f, Ld_ptr, LdN_ptr, Option.isNone_some, Option.isNone_none, Option.isSome_some, Option.isSome_none, Bool.not_true, Bool.not_false, drew_cell, drew_heap, k0, k1]
  clear k0 k1 hw1 hs1 hx3 hcs
  have aw : ∀ (w2 : World), Fm (fun _ => False) w w2 → Cl Try.prog 17 [] w2 fun v w' => v = Value.bool true ∧ Fm (fun _ => False) w w' := fun w2 hF => (awake_spec w2).mono fun v w' h => ⟨h.1, Fmf hF h.2⟩
  refine (dnew_spec w1 one).mono ?_
  rintro r1 w2 ⟨hbad1, hok1⟩
  by_cases h1 : one < 1 ∨ 65536 < one
  · obtain ⟨rfl, rfl⟩ := hbad1 h1
    simp only [Pu_some, extV_0, extV_1, extV_2, extV_3, nilV_ptr, nilV_fn, faV_ptr, lenV_sl, lenS_s, capV_sl, pickV_t, pickV_f, unV_not, unV_neg, isB_t, isB_f, isB_u, binV_add, binV_sub, binV_mul, binV_eql, binV_neq, binV_lss, binV_leq, binV_gtr, binV_geq, binV_seql, binV_sneq, binV_slss, binV_beql, binV_bneq, binV_peql, binV_pneq, add_add, add_none, Go.Al.add_zero, Nat.zero_add, Nat.add_zero, IfB_t, IfB_f, Gd_t, Gd_f, Ld_ptr, LdN_ptr, Option.isNone_some, Option.isNone_none, Option.isSome_some, Option.isSome_none, Bool.not_true, Bool.not_false, drew_cell, drew_heap]
    refine (rnew_spec w2 one).mono ?_
    rintro _ w3 ⟨hb, -⟩
    obtain ⟨rfl, rfl⟩ := hb h1
    simp only [Pu_some, extV_0, extV_1, extV_2, extV_3, nilV_ptr, nilV_fn, faV_ptr, lenV_sl, lenS_s, capV_sl, pickV_t, pickV_f, unV_not, unV_neg, isB_t, isB_f, isB_u, binV_add, binV_sub, binV_mul, binV_eql, binV_neq, binV_lss, binV_leq, binV_gtr, binV_geq, binV_seql, binV_sneq, binV_slss, binV_beql, binV_bneq, binV_peql, binV_pneq, add_add, add_none, Go.Al.add_zero, Nat.zero_add, Nat.add_zero, IfB_t, IfB_f, Gd_t, Gd_f, Ld_ptr, LdN_ptr, Option.isNone_some, Option.isNone_none, Option.isSome_some, Option.isSome_none, Bool.not_true, Bool.not_false, drew_cell, drew_heap]
    refine (dnew_spec w3 two).mono ?_
    rintro r2 w4 ⟨hbad2, hok2⟩
    by_cases h2 : two < 1 ∨ 65536 < two
    · obtain ⟨rfl, rfl⟩ := hbad2 h2
      simp only [Pu_some, extV_0, extV_1, extV_2, extV_3, nilV_ptr, nilV_fn, faV_ptr, lenV_sl, lenS_s, capV_sl, pickV_t, pickV_f, unV_not, unV_neg, isB_t, isB_f, isB_u, binV_add, binV_sub, binV_mul, binV_eql, binV_neq, binV_lss, binV_leq, binV_gtr, binV_geq, binV_seql, binV_sneq, binV_slss, binV_beql, binV_bneq, binV_peql, binV_pneq, add_add, add_none, Go.Al.add_zero, Nat.zero_add, Nat.add_zero, IfB_t, IfB_f, Gd_t, Gd_f, Ld_ptr, LdN_ptr, Option.isNone_some, Option.isNone_none, Option.isSome_some, Option.isSome_none, Bool.not_true, Bool.not_false, drew_cell, drew_heap]
      refine (rnew_spec w4 two).mono ?_
      rintro _ w5 ⟨hb, -⟩
      obtain ⟨rfl, rfl⟩ := hb h2
      simp only [Pu_some, extV_0, extV_1, extV_2, extV_3, nilV_ptr, nilV_fn, faV_ptr, lenV_sl, lenS_s, capV_sl, pickV_t, pickV_f, unV_not, unV_neg, isB_t, isB_f, isB_u, binV_add, binV_sub, binV_mul, binV_eql, binV_neq, binV_lss, binV_leq, binV_gtr, binV_geq, binV_seql, binV_sneq, binV_slss, binV_beql, binV_bneq, binV_peql, binV_pneq, add_add, add_none, Go.Al.add_zero, Nat.zero_add, Nat.add_zero, IfB_t, IfB_f, Gd_t, Gd_f, Ld_ptr, LdN_ptr, Option.isNone_some, Option.isNone_none, Option.isSome_some, Option.isSome_none, Bool.not_true, Bool.not_false, drew_cell, drew_heap, bne_self_eq_false]
      exact aw _ hf1
    · obtain ⟨b2, g2, m2, rfl, _, _, _, hD2, hf4⟩ := hok2 h2
      simp only [Pu_some, extV_0, extV_1, extV_2, extV_3, nilV_ptr, nilV_fn, faV_ptr, lenV_sl, lenS_s, capV_sl, pickV_t, pickV_f, unV_not, unV_neg, isB_t, isB_f, isB_u, binV_add, binV_sub, binV_mul, binV_eql, binV_neq, binV_lss, binV_leq, binV_gtr, binV_geq, binV_seql, binV_sneq, binV_slss, binV_beql, binV_bneq, binV_peql, binV_pneq, add_add, add_none, Go.Al.add_zero, Nat.zero_add, Nat.add_zero, IfB_t, IfB_f, Gd_t, Gd_f, Ld_ptr, LdN_ptr, Option.isNone_some, Option.isNone_none, Option.isSome_some, Option.isSome_none, Bool.not_true, Bool.not_false, drew_cell, drew_heap]
      refine (rnew_spec w4 two).mono ?_
      rintro _ w5 ⟨-, hok⟩
      obtain ⟨bx2, q2, rfl, _, _, hf5⟩ := hok h2
      simp only [Pu_some, extV_0, extV_1, extV_2, extV_3, nilV_ptr, nilV_fn, faV_ptr, lenV_sl, lenS_s, capV_sl, pickV_t, pickV_f, unV_not, unV_neg, isB_t, isB_f, isB_u, binV_add, binV_sub, binV_mul, binV_eql, binV_neq, binV_lss, binV_leq, binV_gtr, binV_geq, binV_seql, binV_sneq, binV_slss, binV_beql, binV_bneq, binV_peql, binV_pneq, add_add, add_none, Go.Al.add_zero, Nat.zero_add, Nat.add_zero, IfB_t, IfB_f, Gd_t, Gd_f, Ld_ptr, LdN_ptr, Option.isNone_some, Option.isNone_none, Option.isSome_some, Option.isSome_none, Bool.not_true, Bool.not_false, drew_cell, drew_heap, bne_self_eq_false]
      exact aw _ (Fmf (Fmf hf1 hf4) hf5)
  obtain ⟨b, g, m, rfl, hb, hg, hm, hD, hf2⟩ := hok1 h1
  simp only [Pu_some, extV_0, extV_1, extV_2, extV_3, nilV_ptr, nilV_fn, faV_ptr, lenV_sl, lenS_s, capV_sl, pickV_t, pickV_f, unV_not, unV_neg, isB_t, isB_f, isB_u, binV_add, binV_sub, binV_mul, binV_eql, binV_neq, binV_lss, binV_leq, binV_gtr, binV_geq, binV_seql, binV_sneq, binV_slss, binV_beql, binV_bneq, binV_peql, binV_pneq, add_add, add_none, Go.Al.add_zero, Nat.zero_add, Nat.add_zero, IfB_t, IfB_f, Gd_t, Gd_f, Ld_ptr, LdN_ptr, Option.isNone_some, Option.isNone_none, Option.isSome_some, Option.isSome_none, Bool.not_true, Bool.not_false, drew_cell, drew_heap]
  refine (rnew_spec w2 one).mono ?_
  rintro _ w3 ⟨-, hok⟩
  obtain ⟨bx, q, rfl, hq, hR, hf3⟩ := hok h1
  simp only [Pu_some, extV_0, extV_1, extV_2, extV_3, nilV_ptr, nilV_fn, faV_ptr, lenV_sl, lenS_s, capV_sl, pickV_t, pickV_f, unV_not, unV_neg, isB_t, isB_f, isB_u, binV_add, binV_sub, binV_mul, binV_eql, binV_neq, binV_lss, binV_leq, binV_gtr, binV_geq, binV_seql, binV_sneq, binV_slss, binV_beql, binV_bneq, binV_peql, binV_pneq, add_add, add_none, Go.Al.add_zero, Nat.zero_add, Nat.add_zero, IfB_t, IfB_f, Gd_t, Gd_f, Ld_ptr, LdN_ptr, Option.isNone_some, Option.isNone_none, Option.isSome_some, Option.isSome_none, Bool.not_true, Bool.not_false, drew_cell, drew_heap]
  refine (dnew_spec w3 two).mono ?_
  rintro r2 w4 ⟨hbad2, hok2⟩
  by_cases h2 : two < 1 ∨ 65536 < two
  · obtain ⟨rfl, rfl⟩ := hbad2 h2
    simp only [Pu_some, extV_0, extV_1, extV_2, extV_3, nilV_ptr, nilV_fn, faV_ptr, lenV_sl, lenS_s, capV_sl, pickV_t, pickV_f, unV_not, unV_neg, isB_t, isB_f, isB_u, binV_add, binV_sub, binV_mul, binV_eql, binV_neq, binV_lss, binV_leq, binV_gtr, binV_geq, binV_seql, binV_sneq, binV_slss, binV_beql, binV_bneq, binV_peql, binV_pneq, add_add, add_none, Go.Al.add_zero, Nat.zero_add, Nat.add_zero, IfB_t, IfB_f, Gd_t, Gd_f, Ld_ptr, LdN_ptr, Option.isNone_some, Option.isNone_none, Option.isSome_some, Option.isSome_none, Bool.not_true, Bool.not_false, drew_cell, drew_heap]
    refine (rnew_spec w4 two).mono ?_
    rintro _ w5 ⟨hbb, -⟩
    obtain ⟨rfl, rfl⟩ := hbb h2
    simp only [Pu_some, extV_0, extV_1, extV_2, extV_3, nilV_ptr, nilV_fn, faV_ptr, lenV_sl, lenS_s, capV_sl, pickV_t, pickV_f, unV_not, unV_neg, isB_t, isB_f, isB_u, binV_add, binV_sub, binV_mul, binV_eql, binV_neq, binV_lss, binV_leq, binV_gtr, binV_geq, binV_seql, binV_sneq, binV_slss, binV_beql, binV_bneq, binV_peql, binV_pneq, add_add, add_none, Go.Al.add_zero, Nat.zero_add, Nat.add_zero, IfB_t, IfB_f, Gd_t, Gd_f, Ld_ptr, LdN_ptr, Option.isNone_some, Option.isNone_none, Option.isSome_some, Option.isSome_none, Bool.not_true, Bool.not_false, drew_cell, drew_heap, bne_self_eq_false]
    exact aw _ (Fmf (Fmf hf1 hf2) hf3)
  obtain ⟨b2, g2, m2, rfl, hb2, hg2, hm2, hD2, hf4⟩ := hok2 h2
  simp only [Pu_some, extV_0, extV_1, extV_2, extV_3, nilV_ptr, nilV_fn, faV_ptr, lenV_sl, lenS_s, capV_sl, pickV_t, pickV_f, unV_not, unV_neg, isB_t, isB_f, isB_u, binV_add, binV_sub, binV_mul, binV_eql, binV_neq, binV_lss, binV_leq, binV_gtr, binV_geq, binV_seql, binV_sneq, binV_slss, binV_beql, binV_bneq, binV_peql, binV_pneq, add_add, add_none, Go.Al.add_zero, Nat.zero_add, Nat.add_zero, IfB_t, IfB_f, Gd_t, Gd_f, Ld_ptr, LdN_ptr, Option.isNone_some, Option.isNone_none, Option.isSome_some, Option.isSome_none, Bool.not_true, Bool.not_false, drew_cell, drew_heap]
  refine (rnew_spec w4 two).mono ?_
  rintro _ w5 ⟨-, hok⟩
  obtain ⟨bx2, q2, rfl, hq2, hR2, hf5⟩ := hok h2
  simp only [Pu_some, extV_0, extV_1, extV_2, extV_3, nilV_ptr, nilV_fn, faV_ptr, lenV_sl, lenS_s, capV_sl, pickV_t, pickV_f, unV_not, unV_neg, isB_t, isB_f, isB_u, binV_add, binV_sub, binV_mul, binV_eql, binV_neq, binV_lss, binV_leq, binV_gtr, binV_geq, binV_seql, binV_sneq, binV_slss, binV_beql, binV_bneq, binV_peql, binV_pneq, add_add, add_none, Go.Al.add_zero, Nat.zero_add, Nat.add_zero, IfB_t, IfB_f, Gd_t, Gd_f, Ld_ptr, LdN_ptr, Option.isNone_some, Option.isNone_none, Option.isSome_some, Option.isSome_none, Bool.not_true, Bool.not_false, drew_cell, drew_heap, bne_self_eq_false]
  have s1 := hf1.size
  have s2 := hf2.size
  have s3 := hf3.size
  have s4 := hf4.size
  have lt1 := hD.lt
  have lt2 := hR.lt
  have lt3 := hD2.lt
  have hB1 : Both w3 b g m bx q (Dk.mk0 one.toNat) := ⟨hD.keep0 hf3, hR, fun x hx hy => by have := hq x hy; rcases hx with rfl | rfl | rfl <;> omega⟩
  have hB1' := (hB1.keep0 hf4).keep0 hf5
  have hB2 : Both w5 b2 g2 m2 bx2 q2 (Dk.mk0 two.toNat) := ⟨hD2.keep0 hf5, hR2, fun x hx hy => by have := hq2 x hy; rcases hx with rfl | rfl | rfl <;> omega⟩
  have hm1 : ∀ y, bothM b g m bx q y → w.heap.size ≤ y ∧ y < w3.heap.size := by
    rintro y ((rfl | rfl | rfl) | hy)
    · omega
    · omega
    · omega
    · have := hq y hy; have := lt2 y hy; omega
  have hm2' : ∀ y, bothM b2 g2 m2 bx2 q2 y → w.heap.size ≤ y ∧ w3.heap.size ≤ y := by
    rintro y ((rfl | rfl | rfl) | hy)
    · omega
    · omega
    · omega
    · have := hq2 y hy; omega
  have hF5 := Fmf (Fmf (Fmf (Fmf hf1 hf2) hf3) hf4) hf5
  have apart1 : ∀ y, bothM b g m bx q y → ¬ bothM b2 g2 m2 bx2 q2 y := fun y h1 h2 => by have := hm1 y h1; have := hm2' y h2; omega
  have apart2 : ∀ y, bothM b2 g2 m2 bx2 q2 y → ¬ bothM b g m bx q y := fun y h1 h2 => apart1 y h2 h1
  have out1 : ∀ y, bothM b g m bx q y → w.heap.size ≤ y := fun y h => (hm1 y h).1
  have out2 : ∀ y, bothM b2 g2 m2 bx2 q2 y → w.heap.size ≤ y := fun y h => (hm2' y h).1
  clear hf1 hf2 hf3 hf4 hf5 s1 s2 s3 s4 lt1 lt2 lt3 hB1 hD hR hD2 hR2 hq hq2 hb hg hm hb2 hg2 hm2 hm1 hm2'
  refine ⟨fun vs w3 => ∃ (k : Nat) (d d2 : Dk), vs = [iv k] ∧ (k ≤ acts.length ∨ k ≤ others.length) ∧ Both w3 b g m bx q d ∧ Both w3 b2 g2 m2 bx2 q2 d2 ∧ Fm (fun _ => False) w w3, fun vs _ => (acts.length + others.length - nth vs 0).toNat, ⟨0, _, _, rfl, by omega, hB1', hB2, hF5⟩, ?_⟩
  clear hB1' hB2 hF5
  rintro _ w3 ik ⟨k, d, d2, hvs, hk, h1, h2, hF3⟩
  cases hvs
  have ha3 := ha.keep hF3
  have ho3 := ho.keep hF3
  have e2' : k < acts.length ∨ k < others.length → IntKind.i64.wrap ((k : Int) + 1) = ((k + 1 : Nat) : Int) := fun h => by rw [wrap_id] <;> omega
  by_cases hlt : k < acts.length
  · have e1 : decide ((k : Int) < (acts.length : Int)) = true := by rw [decide_eq_true_eq]; omega
    have e2 := e2' (.inl hlt)
    obtain ⟨ad, cs, hix, hrel, hcv⟩ := acts_keep ha hF3 hlt
    simp only [Pu_some, extV_0, extV_1, extV_2, extV_3, nilV_ptr, nilV_fn, faV_ptr, lenV_sl, lenS_s, capV_sl, pickV_t, pickV_f, unV_not, unV_neg, isB_t, isB_f, isB_u, binV_add, binV_sub, binV_mul, binV_eql, binV_neq, binV_lss, binV_leq, binV_gtr, binV_geq, binV_seql, binV_sneq, binV_slss, binV_beql, binV_bneq, binV_peql, binV_pneq, add_add, add_none, Go.Al.add_zero, Nat.zero_add, Nat.add_zero, IfB_t, IfB_f, Gd_t, Gd_f, Ld_ptr, LdN_ptr, Option.isNone_some, Option.isNone_none, Option.isSome_some, Option.isSome_none, Bool.not_true, Bool.not_false, drew_cell, drew_heap, ha3.lenV, e1, hix, hcv]
    refine (does_spec h1 hrel hF3 out1).mono ?_
    rintro _ w4 ⟨rfl, d', h1', hf4, _⟩
    have h2' := h2.keep hf4 apart2
    have hF4 := Fm.own hF3 hf4 out1
    simp only [Pu_some, extV_0, extV_1, extV_2, extV_3, nilV_ptr, nilV_fn, faV_ptr, lenV_sl, lenS_s, capV_sl, pickV_t, pickV_f, unV_not, unV_neg, isB_t, isB_f, isB_u, binV_add, binV_sub, binV_mul, binV_eql, binV_neq, binV_lss, binV_leq, binV_gtr, binV_geq, binV_seql, binV_sneq, binV_slss, binV_beql, binV_bneq, binV_peql, binV_pneq, add_add, add_none, Go.Al.add_zero, Nat.zero_add, Nat.add_zero, IfB_t, IfB_f, Gd_t, Gd_f, Ld_ptr, LdN_ptr, Option.isNone_some, Option.isNone_none, Option.isSome_some, Option.isSome_none, Bool.not_true, Bool.not_false, drew_cell, drew_heap, ho3.lenV]
    by_cases hlo : k < others.length
    · have e3 : decide ((k : Int) < (others.length : Int)) = true := by rw [decide_eq_true_eq]; omega
      obtain ⟨ad2, cs2, hix2, hrel2, hcv2⟩ := acts_keep ho hF4 hlo
      simp only [Pu_some, extV_0, extV_1, extV_2, extV_3, nilV_ptr, nilV_fn, faV_ptr, lenV_sl, lenS_s, capV_sl, pickV_t, pickV_f, unV_not, unV_neg, isB_t, isB_f, isB_u, binV_add, binV_sub, binV_mul, binV_eql, binV_neq, binV_lss, binV_leq, binV_gtr, binV_geq, binV_seql, binV_sneq, binV_slss, binV_beql, binV_bneq, binV_peql, binV_pneq, add_add, add_none, Go.Al.add_zero, Nat.zero_add, Nat.add_zero, IfB_t, IfB_f, Gd_t, Gd_f, Ld_ptr, LdN_ptr, Option.isNone_some, Option.isNone_none, Option.isSome_some, Option.isSome_none, Bool.not_true, Bool.not_false, drew_cell, drew_heap, e3, hix2, hcv2]
      refine (does_spec h2' hrel2 hF4 out2).mono ?_
      rintro _ w5 ⟨rfl, d2', h2'', hf5, _⟩
      simp only [Pu_some, extV_0, extV_1, extV_2, extV_3, nilV_ptr, nilV_fn, faV_ptr, lenV_sl, lenS_s, capV_sl, pickV_t, pickV_f, unV_not, unV_neg, isB_t, isB_f, isB_u, binV_add, binV_sub, binV_mul, binV_eql, binV_neq, binV_lss, binV_leq, binV_gtr, binV_geq, binV_seql, binV_sneq, binV_slss, binV_beql, binV_bneq, binV_peql, binV_pneq, add_add, add_none, Go.Al.add_zero, Nat.zero_add, Nat.add_zero, IfB_t, IfB_f, Gd_t, Gd_f, Ld_ptr, LdN_ptr, Option.isNone_some, Option.isNone_none, Option.isSome_some, Option.isSome_none, Bool.not_true, Bool.not_false, drew_cell, drew_heap, e2]
      exact ⟨⟨k + 1, _, _, rfl, by omega, h1'.keep hf5 apart1, h2'', Fm.own hF4 hf5 out2⟩, by simp only [nth_0]; omega⟩
    · have e3 : decide ((k : Int) < (others.length : Int)) = false := by rw [decide_eq_false_iff_not]; omega
      simp only [Pu_some, extV_0, extV_1, extV_2, extV_3, nilV_ptr, nilV_fn, faV_ptr, lenV_sl, lenS_s, capV_sl, pickV_t, pickV_f, unV_not, unV_neg, isB_t, isB_f, isB_u, binV_add, binV_sub, binV_mul, binV_eql, binV_neq, binV_lss, binV_leq, binV_gtr, binV_geq, binV_seql, binV_sneq, binV_slss, binV_beql, binV_bneq, binV_peql, binV_pneq, add_add, add_none, Go.Al.add_zero, Nat.zero_add, Nat.add_zero, IfB_t, IfB_f, Gd_t, Gd_f, Ld_ptr, LdN_ptr, Option.isNone_some, Option.isNone_none, Option.isSome_some, Option.isSome_none, Bool.not_true, Bool.not_false, drew_cell, drew_heap, e3, e2]
      exact ⟨⟨k + 1, _, _, rfl, by omega, h1', h2', hF4⟩, by simp only [nth_0]; omega⟩
  · have e1 : decide ((k : Int) < (acts.length : Int)) = false := by rw [decide_eq_false_iff_not]; omega
    by_cases hlo : k < others.length
    · have e3 : decide ((k : Int) < (others.length : Int)) = true := by rw [decide_eq_true_eq]; omega
      have e2 := e2' (.inr hlo)
      obtain ⟨ad2, cs2, hix2, hrel2, hcv2⟩ := acts_keep ho hF3 hlo
      simp only [Pu_some, extV_0, extV_1, extV_2, extV_3, nilV_ptr, nilV_fn, faV_ptr, lenV_sl, lenS_s, capV_sl, pickV_t, pickV_f, unV_not, unV_neg, isB_t, isB_f, isB_u, binV_add, binV_sub, binV_mul, binV_eql, binV_neq, binV_lss, binV_leq, binV_gtr, binV_geq, binV_seql, binV_sneq, binV_slss, binV_beql, binV_bneq, binV_peql, binV_pneq, add_add, add_none, Go.Al.add_zero, Nat.zero_add, Nat.add_zero, IfB_t, IfB_f, Gd_t, Gd_f, Ld_ptr, LdN_ptr, Option.isNone_some, Option.isNone_none, Option.isSome_some, Option.isSome_none, Bool.not_true, Bool.not_false, drew_cell, drew_heap, ha3.lenV, e1, ho3.lenV, e3, hix2, hcv2]
      refine (does_spec h2 hrel2 hF3 out2).mono ?_
      rintro _ w5 ⟨rfl, d2', h2'', hf5, _⟩
      simp only [Pu_some, extV_0, extV_1, extV_2, extV_3, nilV_ptr, nilV_fn, faV_ptr, lenV_sl, lenS_s, capV_sl, pickV_t, pickV_f, unV_not, unV_neg, isB_t, isB_f, isB_u, binV_add, binV_sub, binV_mul, binV_eql, binV_neq, binV_lss, binV_leq, binV_gtr, binV_geq, binV_seql, binV_sneq, binV_slss, binV_beql, binV_bneq, binV_peql, binV_pneq, add_add, add_none, Go.Al.add_zero, Nat.zero_add, Nat.add_zero, IfB_t, IfB_f, Gd_t, Gd_f, Ld_ptr, LdN_ptr, Option.isNone_some, Option.isNone_none, Option.isSome_some, Option.isSome_none, Bool.not_true, Bool.not_false, drew_cell, drew_heap, e2]
      exact ⟨⟨k + 1, _, _, rfl, by omega, h1.keep hf5 apart1, h2'', Fm.own hF3 hf5 out2⟩, by simp only [nth_0]; omega⟩
    · have e3 : decide ((k : Int) < (others.length : Int)) = false := by rw [decide_eq_false_iff_not]; omega
      simp only [Pu_some, extV_0, extV_1, extV_2, extV_3, nilV_ptr, nilV_fn, faV_ptr, lenV_sl, lenS_s, capV_sl, pickV_t, pickV_f, unV_not, unV_neg, isB_t, isB_f, isB_u, binV_add, binV_sub, binV_mul, binV_eql, binV_neq, binV_lss, binV_leq, binV_gtr, binV_geq, binV_seql, binV_sneq, binV_slss, binV_beql, binV_bneq, binV_peql, binV_pneq, add_add, add_none, Go.Al.add_zero, Nat.zero_add, Nat.add_zero, IfB_t, IfB_f, Gd_t, Gd_f, Ld_ptr, LdN_ptr, Option.isNone_some, Option.isNone_none, Option.isSome_some, Option.isSome_none, Bool.not_true, Bool.not_false, drew_cell, drew_heap, ha3.lenV, e1, ho3.lenV, e3]
      refine (alike_spec h1).mono ?_
      rintro _ w4 ⟨rfl, hf4⟩
      simp only [Pu_some, extV_0, extV_1, extV_2, extV_3, nilV_ptr, nilV_fn, faV_ptr, lenV_sl, lenS_s, capV_sl, pickV_t, pickV_f, unV_not, unV_neg, isB_t, isB_f, isB_u, binV_add, binV_sub, binV_mul, binV_eql, binV_neq, binV_lss, binV_leq, binV_gtr, binV_geq, binV_seql, binV_sneq, binV_slss, binV_beql, binV_bneq, binV_peql, binV_pneq, add_add, add_none, Go.Al.add_zero, Nat.zero_add, Nat.add_zero, IfB_t, IfB_f, Gd_t, Gd_f, Ld_ptr, LdN_ptr, Option.isNone_some, Option.isNone_none, Option.isSome_some, Option.isSome_none, Bool.not_true, Bool.not_false, drew_cell, drew_heap]
      refine (alike_spec (h2.keep0 hf4)).mono ?_
      rintro _ w5 ⟨rfl, hf5⟩
      have h15 := (h1.keep0 hf4).keep0 hf5
      have h25 := (h2.keep0 hf4).keep0 hf5
      have hF5 := Fmf (Fmf hF3 hf4) hf5
      simp only [Pu_some, extV_0, extV_1, extV_2, extV_3, nilV_ptr, nilV_fn, faV_ptr, lenV_sl, lenS_s, capV_sl, pickV_t, pickV_f, unV_not, unV_neg, isB_t, isB_f, isB_u, binV_add, binV_sub, binV_mul, binV_eql, binV_neq, binV_lss, binV_leq, binV_gtr, binV_geq, binV_seql, binV_sneq, binV_slss, binV_beql, binV_bneq, binV_peql, binV_pneq, add_add, add_none, Go.Al.add_zero, Nat.zero_add, Nat.add_zero, IfB_t, IfB_f, Gd_t, Gd_f, Ld_ptr, LdN_ptr, Option.isNone_some, Option.isNone_none, Option.isSome_some, Option.isSome_none, Bool.not_true, Bool.not_false, drew_cell, drew_heap]
      refine RunS_ok (bs34_3 w5) ?_
      have hf6 := Fm.alloc (fun _ => False) w5 (.cells #[iv 1, iv 2, iv 5] 3)
      have hc6 := three_cells w5
      have hlt5 := h15.lt
      have r3 : ∀ f ∈ ([1, 2, 5] : List Int), -9223372036854775808 ≤ f ∧ f ≤ 9223372036854775807 := by intro f hf; simp at hf; omega
      have h16 := h15.keep0 hf6
      have h26 := h25.keep0 hf6
      refine (crash_spec h16.p (L := [1, 2, 5]) hc6 (fun _ y hy => ?_) r3).mono ?_
      · have hy' : w5.heap.size = y := by simpa [blockOf] using hy
        have := hlt5 b (.inl (.inl rfl))
        have := hlt5 g (.inl (.inr (.inl rfl)))
        have := hlt5 m (.inl (.inr (.inr rfl)))
        omega
      rintro _ w7 ⟨rfl, hD7, hf7⟩
      refine RunS_ok (bs34_3 w7) ?_
      have hf8 := Fm.alloc (fun _ => False) w7 (.cells #[iv 1, iv 2, iv 5] 3)
      have hc8 := three_cells w7
      have hR7 := h16.r1 hf7
      have hlt7 := hR7.lt
      have hR8 := hR7.keep0 hf8
      have hD8 := hD7.keep0 hf8
      refine (rcrash_spec (L := [1, 2, 5]) hR8 h16.p.wf hc8 (fun _ y hy hm => ?_) r3).mono ?_
      · have hy' : w7.heap.size = y := by simpa [blockOf] using hy
        have := hlt7 y hm
        omega
      rintro _ w9 ⟨rfl, hR9, hf9⟩
      obtain ⟨hB9, _⟩ := h16.step hD8 (hf7.trans hf8 (U := bgm b g m) (fun _ _ e => e) (fun _ _ e => e.elim)) hR9 hf9
      have h29 : Both w9 b2 g2 m2 bx2 q2 d2 := ((h26.keep hf7 (fun y hy e => apart2 y hy (.inl e))).keep0 hf8).keep hf9 (fun y hy e => apart2 y hy (.inr e))
      have hF9 : Fm (fun _ => False) w w9 := Fm.own (Fmf (Fm.own (Fmf hF5 hf6) hf7 (fun y hy => out1 y (.inl hy))) hf8) hf9 (fun y hy => out1 y (.inr hy))
      refine (awake_spec w9).mono ?_
      rintro _ w10 ⟨rfl, hf10⟩
      simp only [Pu_some, extV_0, extV_1, extV_2, extV_3, nilV_ptr, nilV_fn, faV_ptr, lenV_sl, lenS_s, capV_sl, pickV_t, pickV_f, unV_not, unV_neg, isB_t, isB_f, isB_u, binV_add, binV_sub, binV_mul, binV_eql, binV_neq, binV_lss, binV_leq, binV_gtr, binV_geq, binV_seql, binV_sneq, binV_slss, binV_beql, binV_bneq, binV_peql, binV_pneq, add_add, add_none, Go.Al.add_zero, Nat.zero_add, Nat.add_zero, IfB_t, IfB_f, Gd_t, Gd_f, Ld_ptr, LdN_ptr, Option.isNone_some, Option.isNone_none, Option.isSome_some, Option.isSome_none, Bool.not_true, Bool.not_false, drew_cell, drew_heap]
      refine (alike_spec (hB9.keep0 hf10)).mono ?_
      rintro _ w11 ⟨rfl, hf11⟩
      simp only [Pu_some, extV_0, extV_1, extV_2, extV_3, nilV_ptr, nilV_fn, faV_ptr, lenV_sl, lenS_s, capV_sl, pickV_t, pickV_f, unV_not, unV_neg, isB_t, isB_f, isB_u, binV_add, binV_sub, binV_mul, binV_eql, binV_neq, binV_lss, binV_leq, binV_gtr, binV_geq, binV_seql, binV_sneq, binV_slss, binV_beql, binV_bneq, binV_peql, binV_pneq, add_add, add_none, Go.Al.add_zero, Nat.zero_add, Nat.add_zero, IfB_t, IfB_f, Gd_t, Gd_f, Ld_ptr, LdN_ptr, Option.isNone_some, Option.isNone_none, Option.isSome_some, Option.isSome_none, Bool.not_true, Bool.not_false, drew_cell, drew_heap]
      refine (alike_spec ((h29.keep0 hf10).keep0 hf11)).mono ?_
      rintro _ w12 ⟨rfl, hf12⟩
      simp only [Pu_some, extV_0, extV_1, extV_2, extV_3, nilV_ptr, nilV_fn, faV_ptr, lenV_sl, lenS_s, capV_sl, pickV_t, pickV_f, unV_not, unV_neg, isB_t, isB_f, isB_u, binV_add, binV_sub, binV_mul, binV_eql, binV_neq, binV_lss, binV_leq, binV_gtr, binV_geq, binV_seql, binV_sneq, binV_slss, binV_beql, binV_bneq, binV_peql, binV_pneq, add_add, add_none, Go.Al.add_zero, Nat.zero_add, Nat.add_zero, IfB_t, IfB_f, Gd_t, Gd_f, Ld_ptr, LdN_ptr, Option.isNone_some, Option.isNone_none, Option.isSome_some, Option.isSome_none, Bool.not_true, Bool.not_false, drew_cell, drew_heap]
      exact ⟨(by trivial), Fmf (Fmf (Fmf hF9 hf10) hf11) hf12⟩

end Go.Proofs.Ythgdinjgdjiknaa
