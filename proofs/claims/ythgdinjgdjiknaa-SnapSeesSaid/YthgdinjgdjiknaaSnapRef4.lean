/- The document's answer: what a view says of a version. -/
import Derived.Test.YthgdinjgdjiknaaSnapRef3
namespace Go.Proofs.Ythgdinjgdjiknaa
open Go.Al Go.Proofs
set_option linter.unusedVariables false
set_option linter.unusedSimpArgs false
set_option linter.unusedSectionVars false
set_option maxRecDepth 100000

theorem unseen_zero' (v : Vx) : unseen v 0 = false := rfl
theorem rnewer_spec {w : World} {cs : Array Value} {v : Vx} (hv : VwAs w cs v) (t : Tx) : Cl Try.prog 51 [.agg cs, .agg (txc t)] w fun r w' => r = .bool (newer v t) ∧ Fm (fun _ => False) w w' := by
  refine c51 ?_; unfold T51
  refine New_any ?_
  intro g w1 hg hs1 hw1 hf1
  have hv1 : VwAt w1 g v := ⟨cs, hw1, hv.keep hf1⟩
  refine New_any ?_
  intro g2 w2 hg2 hs2 hw2 hf2
  replace hw2 : TxAt w2 g2 t := hw2
  have hv2 := hv1.keep hf2
  have hF2 := Fmf hf1 hf2
  obtain ⟨cs2, hall, hva⟩ := hv2.all
  unfold newer
  have fin : ∀ (w3 : World), Fm (fun _ => False) w2 w3 → (
  Ld w3 (.pointer (some ⟨g2, 1, none⟩)) fun t16_20 w_21 =>
  Pu (binV (TypeDesc.int IntKind.i64) .neq t16_20 (Value.int IntKind.i64 0)) fun vv =>
  Gd (isB true vv) (fun kk => LdN 11 w_21 (pv g) kk) w_21 fun t19_26 w_27 =>
  Gd (isB true vv) (fun kk => Pu (faV 1 (pv g2)) fun vv => kk vv w_27) w_27 fun t20_28 w_29 =>
  Gd (isB true vv) (fun kk => Ld w_29 t20_28 kk) w_29 fun t21_30 w_31 =>
  Gd (isB true vv) (fun kk => Cl Try.prog 101 [t19_26, t21_30] w_31 kk) w_31 fun t22_32 w_33 =>
  Pu (pickV vv t22_32 (Value.bool false)) fun t23_34 =>
  t23_34 = .bool (unseen v t.xmax) ∧ Fm (fun _ => False) w w_33) := by
    intro w3 hf3
    have hv3 := hv2.keep hf3
    have ht3 := hw2.keep hf3 (fun e => e)
    have hF3 := Fmf hF2 hf3
    by_cases h0 : t.xmax = 0
    · have e1 : (t.xmax != 0) = false := by rw [h0]; rfl
      simp only [Pu_some, extV_0, extV_1, extV_2, extV_3, nilV_ptr, nilV_fn, faV_ptr, lenV_sl, lenS_s, capV_sl, pickV_t, pickV_f, unV_not, unV_neg, isB_t, isB_f, isB_u, binV_add, binV_sub, binV_mul, binV_eql, binV_neq, binV_lss, binV_leq, binV_gtr, binV_geq, binV_seql, binV_sneq, binV_slss, binV_beql, binV_bneq, binV_peql, binV_pneq, add_add, add_none, Go.Al.add_zero, Nat.zero_add, Nat.add_zero, IfB_t, IfB_f, Gd_t, Gd_f, Ld_ptr, LdN_ptr, Option.isNone_some, Option.isNone_none, Option.isSome_some, Option.isSome_none, Bool.not_true, Bool.not_false, drew_cell, drew_heap, ht3.c1, e1]
      rw [h0, unseen_zero']
      exact ⟨(by trivial), hF3⟩
    have e1 : (t.xmax != 0) = true := by rw [bne_dec]; simpa using h0
    obtain ⟨cs3, hall, hva⟩ := hv3.all
    simp only [Pu_some, extV_0, extV_1, extV_2, extV_3, nilV_ptr, nilV_fn, faV_ptr, lenV_sl, lenS_s, capV_sl, pickV_t, pickV_f, unV_not, unV_neg, isB_t, isB_f, isB_u, binV_add, binV_sub, binV_mul, binV_eql, binV_neq, binV_lss, binV_leq, binV_gtr, binV_geq, binV_seql, binV_sneq, binV_slss, binV_beql, binV_bneq, binV_peql, binV_pneq, add_add, add_none, Go.Al.add_zero, Nat.zero_add, Nat.add_zero, IfB_t, IfB_f, Gd_t, Gd_f, Ld_ptr, LdN_ptr, Option.isNone_some, Option.isNone_none, Option.isSome_some, Option.isSome_none, Bool.not_true, Bool.not_false, drew_cell, drew_heap, ht3.c1, e1, hall]
    refine (runseen_spec hva t.xmax).mono ?_
    rintro _ w4 ⟨rfl, hf4⟩
    simp only [Pu_some, extV_0, extV_1, extV_2, extV_3, nilV_ptr, nilV_fn, faV_ptr, lenV_sl, lenS_s, capV_sl, pickV_t, pickV_f, unV_not, unV_neg, isB_t, isB_f, isB_u, binV_add, binV_sub, binV_mul, binV_eql, binV_neq, binV_lss, binV_leq, binV_gtr, binV_geq, binV_seql, binV_sneq, binV_slss, binV_beql, binV_bneq, binV_peql, binV_pneq, add_add, add_none, Go.Al.add_zero, Nat.zero_add, Nat.add_zero, IfB_t, IfB_f, Gd_t, Gd_f, Ld_ptr, LdN_ptr, Option.isNone_some, Option.isNone_none, Option.isSome_some, Option.isSome_none, Bool.not_true, Bool.not_false, drew_cell, drew_heap]
    exact ⟨(by trivial), Fmf hF3 hf4⟩
  cases hfz : t.frozen with
  | true =>
    have c2 := hw2.c2
    rw [hfz] at c2
    have key := fin w2 (Fm.refl _ _)
    simp only [Pu_some, extV_0, extV_1, extV_2, extV_3, nilV_ptr, nilV_fn, faV_ptr, lenV_sl, lenS_s, capV_sl, pickV_t, pickV_f, unV_not, unV_neg, isB_t, isB_f, isB_u, binV_add, binV_sub, binV_mul, binV_eql, binV_neq, binV_lss, binV_leq, binV_gtr, binV_geq, binV_seql, binV_sneq, binV_slss, binV_beql, binV_bneq, binV_peql, binV_pneq, add_add, add_none, Go.Al.add_zero, Nat.zero_add, Nat.add_zero, IfB_t, IfB_f, Gd_t, Gd_f, Ld_ptr, LdN_ptr, Option.isNone_some, Option.isNone_none, Option.isSome_some, Option.isSome_none, Bool.not_true, Bool.not_false, drew_cell, drew_heap] at key
    simp only [Pu_some, extV_0, extV_1, extV_2, extV_3, nilV_ptr, nilV_fn, faV_ptr, lenV_sl, lenS_s, capV_sl, pickV_t, pickV_f, unV_not, unV_neg, isB_t, isB_f, isB_u, binV_add, binV_sub, binV_mul, binV_eql, binV_neq, binV_lss, binV_leq, binV_gtr, binV_geq, binV_seql, binV_sneq, binV_slss, binV_beql, binV_bneq, binV_peql, binV_pneq, add_add, add_none, Go.Al.add_zero, Nat.zero_add, Nat.add_zero, IfB_t, IfB_f, Gd_t, Gd_f, Ld_ptr, LdN_ptr, Option.isNone_some, Option.isNone_none, Option.isSome_some, Option.isSome_none, Bool.not_true, Bool.not_false, drew_cell, drew_heap, c2, Bool.false_and, Bool.false_or]
    exact key
  | false =>
    have c2 := hw2.c2
    rw [hfz] at c2
    simp only [Pu_some, extV_0, extV_1, extV_2, extV_3, nilV_ptr, nilV_fn, faV_ptr, lenV_sl, lenS_s, capV_sl, pickV_t, pickV_f, unV_not, unV_neg, isB_t, isB_f, isB_u, binV_add, binV_sub, binV_mul, binV_eql, binV_neq, binV_lss, binV_leq, binV_gtr, binV_geq, binV_seql, binV_sneq, binV_slss, binV_beql, binV_bneq, binV_peql, binV_pneq, add_add, add_none, Go.Al.add_zero, Nat.zero_add, Nat.add_zero, IfB_t, IfB_f, Gd_t, Gd_f, Ld_ptr, LdN_ptr, Option.isNone_some, Option.isNone_none, Option.isSome_some, Option.isSome_none, Bool.not_true, Bool.not_false, drew_cell, drew_heap, c2, hw2.c0, hall, Bool.true_and]
    refine (runseen_spec hva t.xmin).mono ?_
    rintro _ w3 ⟨rfl, hf3⟩
    cases hs : unseen v t.xmin with
    | true =>
      simp only [Pu_some, extV_0, extV_1, extV_2, extV_3, nilV_ptr, nilV_fn, faV_ptr, lenV_sl, lenS_s, capV_sl, pickV_t, pickV_f, unV_not, unV_neg, isB_t, isB_f, isB_u, binV_add, binV_sub, binV_mul, binV_eql, binV_neq, binV_lss, binV_leq, binV_gtr, binV_geq, binV_seql, binV_sneq, binV_slss, binV_beql, binV_bneq, binV_peql, binV_pneq, add_add, add_none, Go.Al.add_zero, Nat.zero_add, Nat.add_zero, IfB_t, IfB_f, Gd_t, Gd_f, Ld_ptr, LdN_ptr, Option.isNone_some, Option.isNone_none, Option.isSome_some, Option.isSome_none, Bool.not_true, Bool.not_false, drew_cell, drew_heap, Bool.true_or]
      exact ⟨(by trivial), Fmf hF2 hf3⟩
    | false =>
      have key := fin w3 hf3
      simp only [Pu_some, extV_0, extV_1, extV_2, extV_3, nilV_ptr, nilV_fn, faV_ptr, lenV_sl, lenS_s, capV_sl, pickV_t, pickV_f, unV_not, unV_neg, isB_t, isB_f, isB_u, binV_add, binV_sub, binV_mul, binV_eql, binV_neq, binV_lss, binV_leq, binV_gtr, binV_geq, binV_seql, binV_sneq, binV_slss, binV_beql, binV_bneq, binV_peql, binV_pneq, add_add, add_none, Go.Al.add_zero, Nat.zero_add, Nat.add_zero, IfB_t, IfB_f, Gd_t, Gd_f, Ld_ptr, LdN_ptr, Option.isNone_some, Option.isNone_none, Option.isSome_some, Option.isSome_none, Bool.not_true, Bool.not_false, drew_cell, drew_heap] at key
      simp only [Pu_some, extV_0, extV_1, extV_2, extV_3, nilV_ptr, nilV_fn, faV_ptr, lenV_sl, lenS_s, capV_sl, pickV_t, pickV_f, unV_not, unV_neg, isB_t, isB_f, isB_u, binV_add, binV_sub, binV_mul, binV_eql, binV_neq, binV_lss, binV_leq, binV_gtr, binV_geq, binV_seql, binV_sneq, binV_slss, binV_beql, binV_bneq, binV_peql, binV_pneq, add_add, add_none, Go.Al.add_zero, Nat.zero_add, Nat.add_zero, IfB_t, IfB_f, Gd_t, Gd_f, Ld_ptr, LdN_ptr, Option.isNone_some, Option.isNone_none, Option.isSome_some, Option.isSome_none, Bool.not_true, Bool.not_false, drew_cell, drew_heap, Bool.false_or]
      exact key

theorem rgone_spec {w : World} {cs : Array Value} {v : Vx} (hv : VwAs w cs v) (t : Tx) (h : Int) : Cl Try.prog 53 [.agg cs, .agg (txc t), iv h] w fun r w' => r = .bool (gone v t h) ∧ Fm (fun _ => False) w w' := by
  refine c53 ?_; unfold T53
  refine New_any ?_
  intro g w1 hg hs1 hw1 hf1
  have hv1 : VwAt w1 g v := ⟨cs, hw1, hv.keep hf1⟩
  refine New_any ?_
  intro g2 w2 hg2 hs2 hw2 hf2
  replace hw2 : TxAt w2 g2 t := hw2
  have hv2 := hv1.keep hf2
  have hF2 := Fmf hf1 hf2
  obtain ⟨cs2, hall, hva⟩ := hv2.all
  unfold gone
  have rest : ∀ (w3 : World), Fm (fun _ => False) w2 w3 → (
    Ld w3 (.pointer (some ⟨g2, 1, none⟩)) fun t18_21 w_22 =>
  Pu (binV (TypeDesc.int IntKind.i64) .neq t18_21 (Value.int IntKind.i64 0)) fun t19_23 =>
  Gd (isB true t19_23) (fun kk => LdN 11 w_22 (pv g) kk) w_22 fun t21_24 w_25 =>
  Gd (isB true t19_23) (fun kk => Pu (faV 1 (pv g2)) fun vv => kk vv w_25) w_25 fun t22_26 w_27 =>
  Gd (isB true t19_23) (fun kk => Ld w_27 t22_26 kk) w_27 fun t23_28 w_29 =>
  Gd (isB true t19_23) (fun kk => Cl Try.prog 48 [t21_24, t23_28] w_29 kk) w_29 fun t24_30 w_31 =>
  Gd (isB true t19_23) (fun kk => Pu (binV (TypeDesc.int IntKind.u8) .eql t24_30 (Value.int IntKind.u8 2)) fun vv => kk vv w_31) w_31 fun t25_32 w_33 =>
  Pu (pickV t19_23 t25_32 (Value.bool false)) fun t26_34 =>
  Gd (isB true t26_34) (fun kk => Pu (faV 0 (pv g)) fun vv => kk vv w_33) w_33 fun t28_35 w_36 =>
  Gd (isB true t26_34) (fun kk => Ld w_36 t28_35 kk) w_36 fun t29_37 w_38 =>
  Gd (isB true t26_34) (fun kk => Pu (faV 1 (pv g2)) fun vv => kk vv w_38) w_38 fun t30_39 w_40 =>
  Gd (isB true t26_34) (fun kk => Ld w_40 t30_39 kk) w_40 fun t31_41 w_42 =>
  Gd (isB true t26_34) (fun kk => kk (iv h) w_42) w_42 fun t32_43 w_44 =>
  Gd (isB true t26_34) (fun kk => Cl Try.prog 45 [t29_37, t31_41, t32_43] w_44 kk) w_44 fun t33_45 w_46 =>
  Pu (pickV t26_34 t33_45 (Value.bool false)) fun t34_47 =>
  t34_47 = .bool (decide (t.xmax ≠ 0) && xBefore v.modulus t.xmax h && decide (status v t.xmax = 2)) ∧ Fm (fun _ => False) w w_46) := by
    intro w3 hf3
    have hw3 := hw2.keep hf3 (fun e => e)
    have hv3 := hv2.keep hf3
    have hF3 := Fmf hF2 hf3
    by_cases h0 : t.xmax = 0
    · have e1 : (t.xmax != 0) = false := by rw [h0]; rfl
      have e2 : decide (t.xmax ≠ 0) = false := by simpa using h0
      simp only [Pu_some, extV_0, extV_1, extV_2, extV_3, nilV_ptr, nilV_fn, faV_ptr, lenV_sl, lenS_s, capV_sl, pickV_t, pickV_f, unV_not, unV_neg, isB_t, isB_f, isB_u, binV_add, binV_sub, binV_mul, binV_eql, binV_neq, binV_lss, binV_leq, binV_gtr, binV_geq, binV_seql, binV_sneq, binV_slss, binV_beql, binV_bneq, binV_peql, binV_pneq, add_add, add_none, Go.Al.add_zero, Nat.zero_add, Nat.add_zero, IfB_t, IfB_f, Gd_t, Gd_f, Ld_ptr, LdN_ptr, Option.isNone_some, Option.isNone_none, Option.isSome_some, Option.isSome_none, Bool.not_true, Bool.not_false, drew_cell, drew_heap, hw3.c1, e1, e2, Bool.false_and]
      exact ⟨(by trivial), hF3⟩
    have e1 : (t.xmax != 0) = true := by rw [bne_dec]; simpa using h0
    have e2 : decide (t.xmax ≠ 0) = true := by simpa using h0
    obtain ⟨cs3, hall, hva⟩ := hv3.all
    simp only [Pu_some, extV_0, extV_1, extV_2, extV_3, nilV_ptr, nilV_fn, faV_ptr, lenV_sl, lenS_s, capV_sl, pickV_t, pickV_f, unV_not, unV_neg, isB_t, isB_f, isB_u, binV_add, binV_sub, binV_mul, binV_eql, binV_neq, binV_lss, binV_leq, binV_gtr, binV_geq, binV_seql, binV_sneq, binV_slss, binV_beql, binV_bneq, binV_peql, binV_pneq, add_add, add_none, Go.Al.add_zero, Nat.zero_add, Nat.add_zero, IfB_t, IfB_f, Gd_t, Gd_f, Ld_ptr, LdN_ptr, Option.isNone_some, Option.isNone_none, Option.isSome_some, Option.isSome_none, Bool.not_true, Bool.not_false, drew_cell, drew_heap, hw3.c1, e1, e2, hall, Bool.true_and]
    refine (rstatus_spec hva t.xmax).mono ?_
    rintro _ w4 ⟨rfl, hf4⟩
    have hF4 := Fmf hF3 hf4
    have hv4 := hv3.keep hf4
    have hw4 := hw3.keep hf4 (fun e => e)
    simp only [Pu_some, extV_0, extV_1, extV_2, extV_3, nilV_ptr, nilV_fn, faV_ptr, lenV_sl, lenS_s, capV_sl, pickV_t, pickV_f, unV_not, unV_neg, isB_t, isB_f, isB_u, binV_add, binV_sub, binV_mul, binV_eql, binV_neq, binV_lss, binV_leq, binV_gtr, binV_geq, binV_seql, binV_sneq, binV_slss, binV_beql, binV_bneq, binV_peql, binV_pneq, add_add, add_none, Go.Al.add_zero, Nat.zero_add, Nat.add_zero, IfB_t, IfB_f, Gd_t, Gd_f, Ld_ptr, LdN_ptr, Option.isNone_some, Option.isNone_none, Option.isSome_some, Option.isSome_none, Bool.not_true, Bool.not_false, drew_cell, drew_heap, beq_dec]
    cases hs : decide (status v t.xmax = 2) with
    | false =>
      simp only [Pu_some, extV_0, extV_1, extV_2, extV_3, nilV_ptr, nilV_fn, faV_ptr, lenV_sl, lenS_s, capV_sl, pickV_t, pickV_f, unV_not, unV_neg, isB_t, isB_f, isB_u, binV_add, binV_sub, binV_mul, binV_eql, binV_neq, binV_lss, binV_leq, binV_gtr, binV_geq, binV_seql, binV_sneq, binV_slss, binV_beql, binV_bneq, binV_peql, binV_pneq, add_add, add_none, Go.Al.add_zero, Nat.zero_add, Nat.add_zero, IfB_t, IfB_f, Gd_t, Gd_f, Ld_ptr, LdN_ptr, Option.isNone_some, Option.isNone_none, Option.isSome_some, Option.isSome_none, Bool.not_true, Bool.not_false, drew_cell, drew_heap, Bool.and_false]
      exact ⟨(by trivial), hF4⟩
    | true =>
      simp only [Pu_some, extV_0, extV_1, extV_2, extV_3, nilV_ptr, nilV_fn, faV_ptr, lenV_sl, lenS_s, capV_sl, pickV_t, pickV_f, unV_not, unV_neg, isB_t, isB_f, isB_u, binV_add, binV_sub, binV_mul, binV_eql, binV_neq, binV_lss, binV_leq, binV_gtr, binV_geq, binV_seql, binV_sneq, binV_slss, binV_beql, binV_bneq, binV_peql, binV_pneq, add_add, add_none, Go.Al.add_zero, Nat.zero_add, Nat.add_zero, IfB_t, IfB_f, Gd_t, Gd_f, Ld_ptr, LdN_ptr, Option.isNone_some, Option.isNone_none, Option.isSome_some, Option.isSome_none, Bool.not_true, Bool.not_false, drew_cell, drew_heap, hv4.c0, hw4.c1, Bool.and_true]
      refine (rbefore_spec w4 hv.m_in).mono ?_
      rintro _ w5 ⟨rfl, rfl⟩
      simp only [Pu_some, extV_0, extV_1, extV_2, extV_3, nilV_ptr, nilV_fn, faV_ptr, lenV_sl, lenS_s, capV_sl, pickV_t, pickV_f, unV_not, unV_neg, isB_t, isB_f, isB_u, binV_add, binV_sub, binV_mul, binV_eql, binV_neq, binV_lss, binV_leq, binV_gtr, binV_geq, binV_seql, binV_sneq, binV_slss, binV_beql, binV_bneq, binV_peql, binV_pneq, add_add, add_none, Go.Al.add_zero, Nat.zero_add, Nat.add_zero, IfB_t, IfB_f, Gd_t, Gd_f, Ld_ptr, LdN_ptr, Option.isNone_some, Option.isNone_none, Option.isSome_some, Option.isSome_none, Bool.not_true, Bool.not_false, drew_cell, drew_heap]
      exact ⟨(by trivial), hF4⟩
  cases hfz : t.frozen with
  | true =>
    have c2 := hw2.c2
    rw [hfz] at c2
    simp only [Pu_some, extV_0, extV_1, extV_2, extV_3, nilV_ptr, nilV_fn, faV_ptr, lenV_sl, lenS_s, capV_sl, pickV_t, pickV_f, unV_not, unV_neg, isB_t, isB_f, isB_u, binV_add, binV_sub, binV_mul, binV_eql, binV_neq, binV_lss, binV_leq, binV_gtr, binV_geq, binV_seql, binV_sneq, binV_slss, binV_beql, binV_bneq, binV_peql, binV_pneq, add_add, add_none, Go.Al.add_zero, Nat.zero_add, Nat.add_zero, IfB_t, IfB_f, Gd_t, Gd_f, Ld_ptr, LdN_ptr, Option.isNone_some, Option.isNone_none, Option.isSome_some, Option.isSome_none, Bool.not_true, Bool.not_false, drew_cell, drew_heap, c2, Bool.false_and, Bool.false_or]
    have key := rest w2 (Fm.refl _ _)
    simp only [Pu_some, extV_0, extV_1, extV_2, extV_3, nilV_ptr, nilV_fn, faV_ptr, lenV_sl, lenS_s, capV_sl, pickV_t, pickV_f, unV_not, unV_neg, isB_t, isB_f, isB_u, binV_add, binV_sub, binV_mul, binV_eql, binV_neq, binV_lss, binV_leq, binV_gtr, binV_geq, binV_seql, binV_sneq, binV_slss, binV_beql, binV_bneq, binV_peql, binV_pneq, add_add, add_none, Go.Al.add_zero, Nat.zero_add, Nat.add_zero, IfB_t, IfB_f, Gd_t, Gd_f, Ld_ptr, LdN_ptr, Option.isNone_some, Option.isNone_none, Option.isSome_some, Option.isSome_none, Bool.not_true, Bool.not_false, drew_cell, drew_heap] at key
    exact key
  | false =>
    have c2 := hw2.c2
    rw [hfz] at c2
    simp only [Pu_some, extV_0, extV_1, extV_2, extV_3, nilV_ptr, nilV_fn, faV_ptr, lenV_sl, lenS_s, capV_sl, pickV_t, pickV_f, unV_not, unV_neg, isB_t, isB_f, isB_u, binV_add, binV_sub, binV_mul, binV_eql, binV_neq, binV_lss, binV_leq, binV_gtr, binV_geq, binV_seql, binV_sneq, binV_slss, binV_beql, binV_bneq, binV_peql, binV_pneq, add_add, add_none, Go.Al.add_zero, Nat.zero_add, Nat.add_zero, IfB_t, IfB_f, Gd_t, Gd_f, Ld_ptr, LdN_ptr, Option.isNone_some, Option.isNone_none, Option.isSome_some, Option.isSome_none, Bool.not_true, Bool.not_false, drew_cell, drew_heap, c2, hw2.c0, hall, Bool.true_and]
    refine (rstatus_spec hva t.xmin).mono ?_
    rintro _ w3 ⟨rfl, hf3⟩
    have hF3 := Fmf hF2 hf3
    simp only [Pu_some, extV_0, extV_1, extV_2, extV_3, nilV_ptr, nilV_fn, faV_ptr, lenV_sl, lenS_s, capV_sl, pickV_t, pickV_f, unV_not, unV_neg, isB_t, isB_f, isB_u, binV_add, binV_sub, binV_mul, binV_eql, binV_neq, binV_lss, binV_leq, binV_gtr, binV_geq, binV_seql, binV_sneq, binV_slss, binV_beql, binV_bneq, binV_peql, binV_pneq, add_add, add_none, Go.Al.add_zero, Nat.zero_add, Nat.add_zero, IfB_t, IfB_f, Gd_t, Gd_f, Ld_ptr, LdN_ptr, Option.isNone_some, Option.isNone_none, Option.isSome_some, Option.isSome_none, Bool.not_true, Bool.not_false, drew_cell, drew_heap, beq_dec]
    cases hs : decide (status v t.xmin = 3) with
    | true =>
      simp only [Pu_some, extV_0, extV_1, extV_2, extV_3, nilV_ptr, nilV_fn, faV_ptr, lenV_sl, lenS_s, capV_sl, pickV_t, pickV_f, unV_not, unV_neg, isB_t, isB_f, isB_u, binV_add, binV_sub, binV_mul, binV_eql, binV_neq, binV_lss, binV_leq, binV_gtr, binV_geq, binV_seql, binV_sneq, binV_slss, binV_beql, binV_bneq, binV_peql, binV_pneq, add_add, add_none, Go.Al.add_zero, Nat.zero_add, Nat.add_zero, IfB_t, IfB_f, Gd_t, Gd_f, Ld_ptr, LdN_ptr, Option.isNone_some, Option.isNone_none, Option.isSome_some, Option.isSome_none, Bool.not_true, Bool.not_false, drew_cell, drew_heap, Bool.true_or]
      exact ⟨(by trivial), hF3⟩
    | false =>
      have key := rest w3 hf3
      simp only [Pu_some, extV_0, extV_1, extV_2, extV_3, nilV_ptr, nilV_fn, faV_ptr, lenV_sl, lenS_s, capV_sl, pickV_t, pickV_f, unV_not, unV_neg, isB_t, isB_f, isB_u, binV_add, binV_sub, binV_mul, binV_eql, binV_neq, binV_lss, binV_leq, binV_gtr, binV_geq, binV_seql, binV_sneq, binV_slss, binV_beql, binV_bneq, binV_peql, binV_pneq, add_add, add_none, Go.Al.add_zero, Nat.zero_add, Nat.add_zero, IfB_t, IfB_f, Gd_t, Gd_f, Ld_ptr, LdN_ptr, Option.isNone_some, Option.isNone_none, Option.isSome_some, Option.isSome_none, Bool.not_true, Bool.not_false, drew_cell, drew_heap] at key
      simp only [Pu_some, extV_0, extV_1, extV_2, extV_3, nilV_ptr, nilV_fn, faV_ptr, lenV_sl, lenS_s, capV_sl, pickV_t, pickV_f, unV_not, unV_neg, isB_t, isB_f, isB_u, binV_add, binV_sub, binV_mul, binV_eql, binV_neq, binV_lss, binV_leq, binV_gtr, binV_geq, binV_seql, binV_sneq, binV_slss, binV_beql, binV_bneq, binV_peql, binV_pneq, add_add, add_none, Go.Al.add_zero, Nat.zero_add, Nat.add_zero, IfB_t, IfB_f, Gd_t, Gd_f, Ld_ptr, LdN_ptr, Option.isNone_some, Option.isNone_none, Option.isSome_some, Option.isSome_none, Bool.not_true, Bool.not_false, drew_cell, drew_heap, Bool.false_or]
      exact key

theorem rold_spec {w : World} {cs : Array Value} {v : Vx} (hv : VwAs w cs v) (t : Tx) (h : Int) : Cl Try.prog 55 [.agg cs, .agg (txc t), iv h] w fun r w' => r = .bool (old v t h) ∧ Fm (fun _ => False) w w' := by
  refine c55 ?_; unfold T55
  refine New_any ?_
  intro g w1 hg hs1 hw1 hf1
  have hv1 : VwAt w1 g v := ⟨cs, hw1, hv.keep hf1⟩
  refine New_any ?_
  intro g2 w2 hg2 hs2 hw2 hf2
  replace hw2 : TxAt w2 g2 t := hw2
  have hv2 := hv1.keep hf2
  have hF2 := Fmf hf1 hf2
  unfold old
  cases hfz : t.frozen with
  | true =>
    have c2 := hw2.c2
    rw [hfz] at c2
    simp only [Pu_some, extV_0, extV_1, extV_2, extV_3, nilV_ptr, nilV_fn, faV_ptr, lenV_sl, lenS_s, capV_sl, pickV_t, pickV_f, unV_not, unV_neg, isB_t, isB_f, isB_u, binV_add, binV_sub, binV_mul, binV_eql, binV_neq, binV_lss, binV_leq, binV_gtr, binV_geq, binV_seql, binV_sneq, binV_slss, binV_beql, binV_bneq, binV_peql, binV_pneq, add_add, add_none, Go.Al.add_zero, Nat.zero_add, Nat.add_zero, IfB_t, IfB_f, Gd_t, Gd_f, Ld_ptr, LdN_ptr, Option.isNone_some, Option.isNone_none, Option.isSome_some, Option.isSome_none, Bool.not_true, Bool.not_false, drew_cell, drew_heap, c2, Bool.false_and]
    exact ⟨(by trivial), hF2⟩
  | false =>
    have c2 := hw2.c2
    rw [hfz] at c2
    obtain ⟨cs3, hall, hva⟩ := hv2.all
    simp only [Pu_some, extV_0, extV_1, extV_2, extV_3, nilV_ptr, nilV_fn, faV_ptr, lenV_sl, lenS_s, capV_sl, pickV_t, pickV_f, unV_not, unV_neg, isB_t, isB_f, isB_u, binV_add, binV_sub, binV_mul, binV_eql, binV_neq, binV_lss, binV_leq, binV_gtr, binV_geq, binV_seql, binV_sneq, binV_slss, binV_beql, binV_bneq, binV_peql, binV_pneq, add_add, add_none, Go.Al.add_zero, Nat.zero_add, Nat.add_zero, IfB_t, IfB_f, Gd_t, Gd_f, Ld_ptr, LdN_ptr, Option.isNone_some, Option.isNone_none, Option.isSome_some, Option.isSome_none, Bool.not_true, Bool.not_false, drew_cell, drew_heap, c2, hw2.c0, hall, Bool.true_and]
    refine (rstatus_spec hva t.xmin).mono ?_
    rintro _ w3 ⟨rfl, hf3⟩
    have hF3 := Fmf hF2 hf3
    have hv3 := hv2.keep hf3
    have hw3 := hw2.keep hf3 (fun e => e)
    simp only [Pu_some, extV_0, extV_1, extV_2, extV_3, nilV_ptr, nilV_fn, faV_ptr, lenV_sl, lenS_s, capV_sl, pickV_t, pickV_f, unV_not, unV_neg, isB_t, isB_f, isB_u, binV_add, binV_sub, binV_mul, binV_eql, binV_neq, binV_lss, binV_leq, binV_gtr, binV_geq, binV_seql, binV_sneq, binV_slss, binV_beql, binV_bneq, binV_peql, binV_pneq, add_add, add_none, Go.Al.add_zero, Nat.zero_add, Nat.add_zero, IfB_t, IfB_f, Gd_t, Gd_f, Ld_ptr, LdN_ptr, Option.isNone_some, Option.isNone_none, Option.isSome_some, Option.isSome_none, Bool.not_true, Bool.not_false, drew_cell, drew_heap, beq_dec]
    cases hs : decide (status v t.xmin = 2) with
    | false =>
      simp only [Pu_some, extV_0, extV_1, extV_2, extV_3, nilV_ptr, nilV_fn, faV_ptr, lenV_sl, lenS_s, capV_sl, pickV_t, pickV_f, unV_not, unV_neg, isB_t, isB_f, isB_u, binV_add, binV_sub, binV_mul, binV_eql, binV_neq, binV_lss, binV_leq, binV_gtr, binV_geq, binV_seql, binV_sneq, binV_slss, binV_beql, binV_bneq, binV_peql, binV_pneq, add_add, add_none, Go.Al.add_zero, Nat.zero_add, Nat.add_zero, IfB_t, IfB_f, Gd_t, Gd_f, Ld_ptr, LdN_ptr, Option.isNone_some, Option.isNone_none, Option.isSome_some, Option.isSome_none, Bool.not_true, Bool.not_false, drew_cell, drew_heap, Bool.and_false]
      exact ⟨(by trivial), hF3⟩
    | true =>
      simp only [Pu_some, extV_0, extV_1, extV_2, extV_3, nilV_ptr, nilV_fn, faV_ptr, lenV_sl, lenS_s, capV_sl, pickV_t, pickV_f, unV_not, unV_neg, isB_t, isB_f, isB_u, binV_add, binV_sub, binV_mul, binV_eql, binV_neq, binV_lss, binV_leq, binV_gtr, binV_geq, binV_seql, binV_sneq, binV_slss, binV_beql, binV_bneq, binV_peql, binV_pneq, add_add, add_none, Go.Al.add_zero, Nat.zero_add, Nat.add_zero, IfB_t, IfB_f, Gd_t, Gd_f, Ld_ptr, LdN_ptr, Option.isNone_some, Option.isNone_none, Option.isSome_some, Option.isSome_none, Bool.not_true, Bool.not_false, drew_cell, drew_heap, hv3.c0, hw3.c0, Bool.and_true]
      refine (rbefore_spec w3 hv.m_in).mono ?_
      rintro _ w4 ⟨rfl, rfl⟩
      simp only [Pu_some, extV_0, extV_1, extV_2, extV_3, nilV_ptr, nilV_fn, faV_ptr, lenV_sl, lenS_s, capV_sl, pickV_t, pickV_f, unV_not, unV_neg, isB_t, isB_f, isB_u, binV_add, binV_sub, binV_mul, binV_eql, binV_neq, binV_lss, binV_leq, binV_gtr, binV_geq, binV_seql, binV_sneq, binV_slss, binV_beql, binV_bneq, binV_peql, binV_pneq, add_add, add_none, Go.Al.add_zero, Nat.zero_add, Nat.add_zero, IfB_t, IfB_f, Gd_t, Gd_f, Ld_ptr, LdN_ptr, Option.isNone_some, Option.isNone_none, Option.isSome_some, Option.isSome_none, Bool.not_true, Bool.not_false, drew_cell, drew_heap]
      exact ⟨(by trivial), hF3⟩

theorem roff_spec {w : World} {cs : Array Value} {v : Vx} (hv : VwAs w cs v) (t : Tx) : Cl Try.prog 57 [.agg cs, .agg (txc t)] w fun r w' => r = .bool (off v t) ∧ Fm (fun _ => False) w w' := by
  refine c57 ?_; unfold T57
  refine New_any ?_
  intro g w1 hg hs1 hw1 hf1
  have hv1 : VwAt w1 g v := ⟨cs, hw1, hv.keep hf1⟩
  refine New_any ?_
  intro g2 w2 hg2 hs2 hw2 hf2
  replace hw2 : TxAt w2 g2 t := hw2
  have hv2 := hv1.keep hf2
  have hF2 := Fmf hf1 hf2
  unfold off
  by_cases h0 : t.xmax = 0
  · have e1 : (t.xmax != 0) = false := by rw [h0]; rfl
    have e2 : decide (t.xmax ≠ 0) = false := by simpa using h0
    simp only [Pu_some, extV_0, extV_1, extV_2, extV_3, nilV_ptr, nilV_fn, faV_ptr, lenV_sl, lenS_s, capV_sl, pickV_t, pickV_f, unV_not, unV_neg, isB_t, isB_f, isB_u, binV_add, binV_sub, binV_mul, binV_eql, binV_neq, binV_lss, binV_leq, binV_gtr, binV_geq, binV_seql, binV_sneq, binV_slss, binV_beql, binV_bneq, binV_peql, binV_pneq, add_add, add_none, Go.Al.add_zero, Nat.zero_add, Nat.add_zero, IfB_t, IfB_f, Gd_t, Gd_f, Ld_ptr, LdN_ptr, Option.isNone_some, Option.isNone_none, Option.isSome_some, Option.isSome_none, Bool.not_true, Bool.not_false, drew_cell, drew_heap, hw2.c1, e1, e2, Bool.false_and]
    exact ⟨(by trivial), hF2⟩
  have e1 : (t.xmax != 0) = true := by rw [bne_dec]; simpa using h0
  have e2 : decide (t.xmax ≠ 0) = true := by simpa using h0
  obtain ⟨cs3, hall, hva⟩ := hv2.all
  simp only [Pu_some, extV_0, extV_1, extV_2, extV_3, nilV_ptr, nilV_fn, faV_ptr, lenV_sl, lenS_s, capV_sl, pickV_t, pickV_f, unV_not, unV_neg, isB_t, isB_f, isB_u, binV_add, binV_sub, binV_mul, binV_eql, binV_neq, binV_lss, binV_leq, binV_gtr, binV_geq, binV_seql, binV_sneq, binV_slss, binV_beql, binV_bneq, binV_peql, binV_pneq, add_add, add_none, Go.Al.add_zero, Nat.zero_add, Nat.add_zero, IfB_t, IfB_f, Gd_t, Gd_f, Ld_ptr, LdN_ptr, Option.isNone_some, Option.isNone_none, Option.isSome_some, Option.isSome_none, Bool.not_true, Bool.not_false, drew_cell, drew_heap, hw2.c1, e1, e2, hall, Bool.true_and]
  refine (rstatus_spec hva t.xmax).mono ?_
  rintro _ w3 ⟨rfl, hf3⟩
  simp only [Pu_some, extV_0, extV_1, extV_2, extV_3, nilV_ptr, nilV_fn, faV_ptr, lenV_sl, lenS_s, capV_sl, pickV_t, pickV_f, unV_not, unV_neg, isB_t, isB_f, isB_u, binV_add, binV_sub, binV_mul, binV_eql, binV_neq, binV_lss, binV_leq, binV_gtr, binV_geq, binV_seql, binV_sneq, binV_slss, binV_beql, binV_bneq, binV_peql, binV_pneq, add_add, add_none, Go.Al.add_zero, Nat.zero_add, Nat.add_zero, IfB_t, IfB_f, Gd_t, Gd_f, Ld_ptr, LdN_ptr, Option.isNone_some, Option.isNone_none, Option.isSome_some, Option.isSome_none, Bool.not_true, Bool.not_false, drew_cell, drew_heap, beq_dec]
  exact ⟨(by trivial), Fmf hF2 hf3⟩

end Go.Proofs.Ythgdinjgdjiknaa
