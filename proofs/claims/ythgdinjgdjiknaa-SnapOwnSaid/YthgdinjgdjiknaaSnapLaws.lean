/- SnapOwn, SnapOne, SnapLater: what the laws do. -/
import Derived.Test.YthgdinjgdjiknaaSnapViews
namespace Go.Proofs.Ythgdinjgdjiknaa
open Go.Al Go.Proofs
set_option linter.unusedVariables false
set_option linter.unusedSimpArgs false
set_option linter.unusedSectionVars false
set_option maxRecDepth 100000

theorem sees_zero (v : Vx) : sees v 0 = false := rfl
theorem sees_own {v : Vx} (h : v.own ≠ 0) : sees v v.own = true := by
  unfold sees
  rw [show decide (v.own = 0) = false by simpa using h]
  simp
theorem unseen_zero (v : Vx) : unseen v 0 = false := rfl
theorem unseen_own {v : Vx} (h : v.own ≠ 0) : unseen v v.own = false := by
  unfold unseen; rw [sees_own h]; simp

set_option maxHeartbeats 1000000 in
theorem snapOwn_law {w : World} {cx cr ct : Array Value} {x : PageT} {raw : VwT} {t : TxT} (hx : vPage.rel w cx.toList x) (hr : vVw.rel w cr.toList raw) (ht : vTx.rel w ct.toList t) :
    Cl Try.prog 10 [.agg cx, .agg cr, .agg ct] w fun v w' => v = .bool true ∧ Fm (fun _ => False) w w' := by
  obtain ⟨sv, rfl, hsv, hm⟩ := page_in hx
  have hvr := view_in hr
  obtain ⟨rfl, _, _⟩ := tx_in ht
  generalize toTx t = t at *
  refine c10 ?_; unfold T10
  refine New_any ?_
  intro x3 w1 hx3 hs1 hw1 hf1
  refine New_any ?_
  intro x4 w2 hx4 hs2 hw2 hf2
  refine New_any ?_
  intro x5 w3 hx5 hs3 hw3 hf3
  replace hw1 : w1.heap[x3]? = some (.cells #[iv x.1, iv x.2.1, sv] 91) := hw1
  replace hw3 : TxAt w3 x5 t := hw3
  have k1 := hf3.heap (hf2.heap hw1 (fun e => e)) (fun e => e)
  have k2 := hf3.heap hw2 (fun e => e)
  have q0 : w3.cell? ⟨x3, 0, none⟩ = some (iv x.1) := by rw [cell_at k1]; rfl
  have q1 : w3.cell? ⟨x3, 1, none⟩ = some (iv x.2.1) := by rw [cell_at k1]; rfl
  have q2 : w3.cell? ⟨x3, 2, none⟩ = some sv := by rw [cell_at k1]; rfl
  have hF3 := Fmf (Fmf hf1 hf2) hf3
  simp only [Pu_some, extV_0, extV_1, extV_2, extV_3, nilV_ptr, nilV_fn, faV_ptr, lenV_sl, lenS_s, capV_sl, pickV_t, pickV_f, unV_not, unV_neg, isB_t, isB_f, isB_u, binV_add, binV_sub, binV_mul, binV_eql, binV_neq, binV_lss, binV_leq, binV_gtr, binV_geq, binV_seql, binV_sneq, binV_slss, binV_beql, binV_bneq, binV_peql, binV_pneq, add_add, add_none, Go.Al.add_zero, Nat.zero_add, Nat.add_zero, IfB_t, IfB_f, Gd_t, Gd_f, Ld_ptr, LdN_ptr, Option.isNone_some, Option.isNone_none, Option.isSome_some, Option.isSome_none, Bool.not_true, Bool.not_false, drew_cell, drew_heap, q0, q1, q2, cellsV_blk k2 hvr.size]
  refine (made_spec (hvr.keep hF3) hm x.2.1 (hsv.keep hF3)).mono ?_
  rintro _ w4 ⟨cs, rfl, hv4, hf4⟩
  generalize (made x.1 x.2.1 x.2.2.1 (toVx raw)).1 = V at hv4
  generalize (made x.1 x.2.1 x.2.2.1 (toVx raw)).2 = ok at *
  have hF4 := Fmf hF3 hf4
  simp only [Pu_some, extV_0, extV_1, extV_2, extV_3, nilV_ptr, nilV_fn, faV_ptr, lenV_sl, lenS_s, capV_sl, pickV_t, pickV_f, unV_not, unV_neg, isB_t, isB_f, isB_u, binV_add, binV_sub, binV_mul, binV_eql, binV_neq, binV_lss, binV_leq, binV_gtr, binV_geq, binV_seql, binV_sneq, binV_slss, binV_beql, binV_bneq, binV_peql, binV_pneq, add_add, add_none, Go.Al.add_zero, Nat.zero_add, Nat.add_zero, IfB_t, IfB_f, Gd_t, Gd_f, Ld_ptr, LdN_ptr, Option.isNone_some, Option.isNone_none, Option.isSome_some, Option.isSome_none, Bool.not_true, Bool.not_false, drew_cell, drew_heap]
  refine New_any ?_
  intro x7 w5 hx7 hs5 hw5 hf5
  have hz5 := hf5.size
  refine St_all hw5 rfl hv4.size hv4.one ?_
  intro w6 hw6 hs6 hf6
  have hf46 : Fm (fun _ => False) w4 w6 := Fm.own hf5 hf6 (by rintro x rfl; omega)
  have hF6 := Fmf hF4 hf46
  have hv : VwAt w6 x7 V := ⟨cs, hw6, hv4.keep hf46⟩
  have ht6 := hw3.keep (Fmf hf4 hf46) (fun e => e)
  by_cases h0 : V.own = 0
  · have e1 : (V.own == 0) = true := by rw [h0]; rfl
    simp only [Pu_some, extV_0, extV_1, extV_2, extV_3, nilV_ptr, nilV_fn, faV_ptr, lenV_sl, lenS_s, capV_sl, pickV_t, pickV_f, unV_not, unV_neg, isB_t, isB_f, isB_u, binV_add, binV_sub, binV_mul, binV_eql, binV_neq, binV_lss, binV_leq, binV_gtr, binV_geq, binV_seql, binV_sneq, binV_slss, binV_beql, binV_bneq, binV_peql, binV_pneq, add_add, add_none, Go.Al.add_zero, Nat.zero_add, Nat.add_zero, IfB_t, IfB_f, Gd_t, Gd_f, Ld_ptr, LdN_ptr, Option.isNone_some, Option.isNone_none, Option.isSome_some, Option.isSome_none, Bool.not_true, Bool.not_false, drew_cell, drew_heap, hv.c3, e1]
    refine (awake_spec w6).mono ?_
    rintro _ w7 ⟨rfl, hf7⟩
    exact ⟨(by trivial), Fmf hF6 hf7⟩
  have e1 : (V.own == 0) = false := by simpa using h0
  simp only [Pu_some, extV_0, extV_1, extV_2, extV_3, nilV_ptr, nilV_fn, faV_ptr, lenV_sl, lenS_s, capV_sl, pickV_t, pickV_f, unV_not, unV_neg, isB_t, isB_f, isB_u, binV_add, binV_sub, binV_mul, binV_eql, binV_neq, binV_lss, binV_leq, binV_gtr, binV_geq, binV_seql, binV_sneq, binV_slss, binV_beql, binV_bneq, binV_peql, binV_pneq, add_add, add_none, Go.Al.add_zero, Nat.zero_add, Nat.add_zero, IfB_t, IfB_f, Gd_t, Gd_f, Ld_ptr, LdN_ptr, Option.isNone_some, Option.isNone_none, Option.isSome_some, Option.isSome_none, Bool.not_true, Bool.not_false, drew_cell, drew_heap, hv.c3, e1, ht6.all]
  refine New_any ?_
  intro x9 w7 hx9 hs7 hw7 hf7
  refine St_all (us := txc t) hw7 rfl rfl (by intro u hu; simp [txc] at hu; rcases hu with rfl | rfl | rfl | rfl | rfl <;> rfl) ?_
  intro w8 hw8 hs8 hf8
  simp only [Pu_some, extV_0, extV_1, extV_2, extV_3, nilV_ptr, nilV_fn, faV_ptr, lenV_sl, lenS_s, capV_sl, pickV_t, pickV_f, unV_not, unV_neg, isB_t, isB_f, isB_u, binV_add, binV_sub, binV_mul, binV_eql, binV_neq, binV_lss, binV_leq, binV_gtr, binV_geq, binV_seql, binV_sneq, binV_slss, binV_beql, binV_bneq, binV_peql, binV_pneq, add_add, add_none, Go.Al.add_zero, Nat.zero_add, Nat.add_zero, IfB_t, IfB_f, Gd_t, Gd_f, Ld_ptr, LdN_ptr, Option.isNone_some, Option.isNone_none, Option.isSome_some, Option.isSome_none, Bool.not_true, Bool.not_false, drew_cell, drew_heap]
  refine St_blk hw8 (by show 2 < 5; decide) (by rfl) ?_
  intro w9 hw9 hs9 hf9
  replace hw9 : TxAt w9 x9 { t with frozen := false } := hw9
  have hv9 : VwAt w9 x7 V := hv.keep (Fm.own (Fm.own hf7 hf8 (by rintro x rfl; omega)) hf9 (by rintro x rfl; omega))
  simp only [Pu_some, extV_0, extV_1, extV_2, extV_3, nilV_ptr, nilV_fn, faV_ptr, lenV_sl, lenS_s, capV_sl, pickV_t, pickV_f, unV_not, unV_neg, isB_t, isB_f, isB_u, binV_add, binV_sub, binV_mul, binV_eql, binV_neq, binV_lss, binV_leq, binV_gtr, binV_geq, binV_seql, binV_sneq, binV_slss, binV_beql, binV_bneq, binV_peql, binV_pneq, add_add, add_none, Go.Al.add_zero, Nat.zero_add, Nat.add_zero, IfB_t, IfB_f, Gd_t, Gd_f, Ld_ptr, LdN_ptr, Option.isNone_some, Option.isNone_none, Option.isSome_some, Option.isSome_none, Bool.not_true, Bool.not_false, drew_cell, drew_heap, hv9.c3]
  refine St_blk hw9 (by show 0 < 5; decide) (by rfl) ?_
  intro w10 hw10 hs10 hf10
  replace hw10 : TxAt w10 x9 { t with frozen := false, xmin := V.own } := hw10
  refine St_blk hw10 (by show 1 < 5; decide) (by rfl) ?_
  intro w11 hw11 hs11 hf11
  replace hw11 : TxAt w11 x9 { t with frozen := false, xmin := V.own, xmax := 0 } := hw11
  have hf8_11 : Fm (· = x9) w8 w11 := (hf9.trans hf10 (fun _ _ e => e) (fun _ _ e => e)).trans hf11 (fun _ _ e => e) (fun _ _ e => e)
  have hf6_11 : Fm (fun _ => False) w6 w11 := Fm.own (Fm.own hf7 hf8 (by rintro x rfl; omega)) hf8_11 (by rintro x rfl; omega)
  have ht11 := ht6.keep hf6_11 (fun e => e)
  have hz11 := hf6_11.size
  simp only [Pu_some, extV_0, extV_1, extV_2, extV_3, nilV_ptr, nilV_fn, faV_ptr, lenV_sl, lenS_s, capV_sl, pickV_t, pickV_f, unV_not, unV_neg, isB_t, isB_f, isB_u, binV_add, binV_sub, binV_mul, binV_eql, binV_neq, binV_lss, binV_leq, binV_gtr, binV_geq, binV_seql, binV_sneq, binV_slss, binV_beql, binV_bneq, binV_peql, binV_pneq, add_add, add_none, Go.Al.add_zero, Nat.zero_add, Nat.add_zero, IfB_t, IfB_f, Gd_t, Gd_f, Ld_ptr, LdN_ptr, Option.isNone_some, Option.isNone_none, Option.isSome_some, Option.isSome_none, Bool.not_true, Bool.not_false, drew_cell, drew_heap, ht11.all]
  refine New_any ?_
  intro x10 w12 hx10 hs12 hw12 hf12
  refine St_all (us := txc t) hw12 rfl rfl (by intro u hu; simp [txc] at hu; rcases hu with rfl | rfl | rfl | rfl | rfl <;> rfl) ?_
  intro w13 hw13 hs13 hf13
  have hf11_13 : Fm (fun _ => False) w11 w13 := Fm.own hf12 hf13 (by rintro x rfl; omega)
  have hv13 := hv.keep (Fmf hf6_11 hf11_13)
  simp only [Pu_some, extV_0, extV_1, extV_2, extV_3, nilV_ptr, nilV_fn, faV_ptr, lenV_sl, lenS_s, capV_sl, pickV_t, pickV_f, unV_not, unV_neg, isB_t, isB_f, isB_u, binV_add, binV_sub, binV_mul, binV_eql, binV_neq, binV_lss, binV_leq, binV_gtr, binV_geq, binV_seql, binV_sneq, binV_slss, binV_beql, binV_bneq, binV_peql, binV_pneq, add_add, add_none, Go.Al.add_zero, Nat.zero_add, Nat.add_zero, IfB_t, IfB_f, Gd_t, Gd_f, Ld_ptr, LdN_ptr, Option.isNone_some, Option.isNone_none, Option.isSome_some, Option.isSome_none, Bool.not_true, Bool.not_false, drew_cell, drew_heap, hv13.c3]
  refine St_blk hw13 (by show 1 < 5; decide) (by rfl) ?_
  intro w14 hw14 hs14 hf14
  replace hw14 : TxAt w14 x10 { t with xmax := V.own } := hw14
  have hx9l := lt_of_heap hw11
  have hf11_14 : Fm (fun _ => False) w11 w14 := Fm.own hf11_13 hf14 (by rintro x rfl; omega)
  have hf6_14 := Fmf hf6_11 hf11_14
  have hv14 := hv.keep hf6_14
  have hm14 := hw11.keep hf11_14 (fun e => e)
  obtain ⟨c1, a1, b1⟩ := hv14.all
  simp only [Pu_some, extV_0, extV_1, extV_2, extV_3, nilV_ptr, nilV_fn, faV_ptr, lenV_sl, lenS_s, capV_sl, pickV_t, pickV_f, unV_not, unV_neg, isB_t, isB_f, isB_u, binV_add, binV_sub, binV_mul, binV_eql, binV_neq, binV_lss, binV_leq, binV_gtr, binV_geq, binV_seql, binV_sneq, binV_slss, binV_beql, binV_bneq, binV_peql, binV_pneq, add_add, add_none, Go.Al.add_zero, Nat.zero_add, Nat.add_zero, IfB_t, IfB_f, Gd_t, Gd_f, Ld_ptr, LdN_ptr, Option.isNone_some, Option.isNone_none, Option.isSome_some, Option.isSome_none, Bool.not_true, Bool.not_false, drew_cell, drew_heap, a1, hv14.c3]
  refine (sees_spec b1 V.own).mono ?_
  rintro _ w15 ⟨rfl, hf15⟩
  have hv15 := hv14.keep hf15
  obtain ⟨c2, a2, b2⟩ := hv15.all
  have hm15 := hm14.keep hf15 (fun e => e)
  have he15 := hw14.keep hf15 (fun e => e)
  simp only [Pu_some, extV_0, extV_1, extV_2, extV_3, nilV_ptr, nilV_fn, faV_ptr, lenV_sl, lenS_s, capV_sl, pickV_t, pickV_f, unV_not, unV_neg, isB_t, isB_f, isB_u, binV_add, binV_sub, binV_mul, binV_eql, binV_neq, binV_lss, binV_leq, binV_gtr, binV_geq, binV_seql, binV_sneq, binV_slss, binV_beql, binV_bneq, binV_peql, binV_pneq, add_add, add_none, Go.Al.add_zero, Nat.zero_add, Nat.add_zero, IfB_t, IfB_f, Gd_t, Gd_f, Ld_ptr, LdN_ptr, Option.isNone_some, Option.isNone_none, Option.isSome_some, Option.isSome_none, Bool.not_true, Bool.not_false, drew_cell, drew_heap, sees_own h0, a2, hm15.all]
  refine (visible_spec b2 _).mono ?_
  rintro _ w16 ⟨rfl, hf16⟩
  have hv16 := hv15.keep hf16
  obtain ⟨c3, a3, b3⟩ := hv16.all
  have he16 := he15.keep hf16 (fun e => e)
  have hm16 := hm15.keep hf16 (fun e => e)
  have f1 : visible V { t with frozen := false, xmin := V.own, xmax := 0 } = true := by unfold visible; simp [sees_own h0, sees_zero]
  have f2 : visible V { t with xmax := V.own } = false := by unfold visible; simp [sees_own h0]
  have f3 : newer V { t with frozen := false, xmin := V.own, xmax := 0 } = false := by unfold newer; simp [unseen_own h0, unseen_zero]
  simp only [Pu_some, extV_0, extV_1, extV_2, extV_3, nilV_ptr, nilV_fn, faV_ptr, lenV_sl, lenS_s, capV_sl, pickV_t, pickV_f, unV_not, unV_neg, isB_t, isB_f, isB_u, binV_add, binV_sub, binV_mul, binV_eql, binV_neq, binV_lss, binV_leq, binV_gtr, binV_geq, binV_seql, binV_sneq, binV_slss, binV_beql, binV_bneq, binV_peql, binV_pneq, add_add, add_none, Go.Al.add_zero, Nat.zero_add, Nat.add_zero, IfB_t, IfB_f, Gd_t, Gd_f, Ld_ptr, LdN_ptr, Option.isNone_some, Option.isNone_none, Option.isSome_some, Option.isSome_none, Bool.not_true, Bool.not_false, drew_cell, drew_heap, f1, a3, he16.all]
  refine (visible_spec b3 _).mono ?_
  rintro _ w17 ⟨rfl, hf17⟩
  have hv17 := hv16.keep hf17
  obtain ⟨c4, a4, b4⟩ := hv17.all
  have hm17 := hm16.keep hf17 (fun e => e)
  simp only [Pu_some, extV_0, extV_1, extV_2, extV_3, nilV_ptr, nilV_fn, faV_ptr, lenV_sl, lenS_s, capV_sl, pickV_t, pickV_f, unV_not, unV_neg, isB_t, isB_f, isB_u, binV_add, binV_sub, binV_mul, binV_eql, binV_neq, binV_lss, binV_leq, binV_gtr, binV_geq, binV_seql, binV_sneq, binV_slss, binV_beql, binV_bneq, binV_peql, binV_pneq, add_add, add_none, Go.Al.add_zero, Nat.zero_add, Nat.add_zero, IfB_t, IfB_f, Gd_t, Gd_f, Ld_ptr, LdN_ptr, Option.isNone_some, Option.isNone_none, Option.isSome_some, Option.isSome_none, Bool.not_true, Bool.not_false, drew_cell, drew_heap, f2, a4, hm17.all]
  refine (newer_spec b4 _).mono ?_
  rintro _ w18 ⟨rfl, hf18⟩
  simp only [Pu_some, extV_0, extV_1, extV_2, extV_3, nilV_ptr, nilV_fn, faV_ptr, lenV_sl, lenS_s, capV_sl, pickV_t, pickV_f, unV_not, unV_neg, isB_t, isB_f, isB_u, binV_add, binV_sub, binV_mul, binV_eql, binV_neq, binV_lss, binV_leq, binV_gtr, binV_geq, binV_seql, binV_sneq, binV_slss, binV_beql, binV_bneq, binV_peql, binV_pneq, add_add, add_none, Go.Al.add_zero, Nat.zero_add, Nat.add_zero, IfB_t, IfB_f, Gd_t, Gd_f, Ld_ptr, LdN_ptr, Option.isNone_some, Option.isNone_none, Option.isSome_some, Option.isSome_none, Bool.not_true, Bool.not_false, drew_cell, drew_heap, f3]
  refine (awake_spec w18).mono ?_
  rintro _ w19 ⟨rfl, hf19⟩
  simp only [Pu_some, extV_0, extV_1, extV_2, extV_3, nilV_ptr, nilV_fn, faV_ptr, lenV_sl, lenS_s, capV_sl, pickV_t, pickV_f, unV_not, unV_neg, isB_t, isB_f, isB_u, binV_add, binV_sub, binV_mul, binV_eql, binV_neq, binV_lss, binV_leq, binV_gtr, binV_geq, binV_seql, binV_sneq, binV_slss, binV_beql, binV_bneq, binV_peql, binV_pneq, add_add, add_none, Go.Al.add_zero, Nat.zero_add, Nat.add_zero, IfB_t, IfB_f, Gd_t, Gd_f, Ld_ptr, LdN_ptr, Option.isNone_some, Option.isNone_none, Option.isSome_some, Option.isSome_none, Bool.not_true, Bool.not_false, drew_cell, drew_heap]
  exact ⟨(by trivial), Fmf (Fmf hF6 hf6_14) (Fmf (Fmf hf15 hf16) (Fmf (Fmf hf17 hf18) hf19))⟩

end Go.Proofs.Ythgdinjgdjiknaa
