/- SnapOwn, SnapOne, SnapLater: what the laws do. -/
import Derived.Test.YthgdinjgdjiknaaSnapViews
namespace Go.Proofs.Ythgdinjgdjiknaa
open Go.Al Go.Proofs
set_option linter.unusedVariables false
set_option linter.unusedSimpArgs false
set_option linter.unusedSectionVars false
set_option maxRecDepth 100000

theorem sees_zero (v : Vx) : sees v 0 = false := rfl
theorem sees_own {v : Vx} (h : v.own ≠ 0) : sees v v.own = true := by
  unfold sees
  rw [show decide (v.own = 0) = false by simpa using h]
  simp
theorem unseen_zero (v : Vx) : unseen v 0 = false := rfl
theorem unseen_own {v : Vx} (h : v.own ≠ 0) : unseen v v.own = false := by
  unfold unseen; rw [sees_own h]; simp

set_option maxHeartbeats 1000000 in
theorem snapOwn_law {w : World} {cx cr ct : Array Value} {x : PageT} {raw : VwT} {t : TxT} (hx : vPage.rel w cx.toList x) (hr : vVw.rel w cr.toList raw) (ht : vTx.rel w ct.toList t) :
    Cl Try.prog 10 [.agg cx, .agg cr, .agg ct] w fun v w' => v = .bool true ∧ Fm (fun _ => False) w w' := by
  obtain ⟨sv, rfl, hsv, hm⟩ := page_in hx
  have hvr := view_in hr
  obtain ⟨rfl, _, _⟩ := tx_in ht
  generalize toTx t = t at *
  refine c10 ?_; unfold T10
  refine New_any ?_
  intro x3 w1 hx3 hs1 hw1 hf1
  refine New_any ?_
  intro x4 w2 hx4 hs2 hw2 hf2
  refine New_any ?_
  intro x5 w3 hx5 hs3 hw3 hf3
  replace hw1 : w1.heap[x3]? = some (.cells #[iv x.1, iv x.2.1, sv] 91) := hw1
  replace hw3 : TxAt w3 x5 t := hw3
  have k1 := hf3.heap (hf2.heap hw1 (fun e => e)) (fun e => e)
  have k2 := hf3.heap hw2 (fun e => e)
  have q0 : w3.cell? ⟨x3, 0, none⟩ = some (iv x.1) := by rw [cell_at k1]; rfl
  have q1 : w3.cell? ⟨x3, 1, none⟩ = some (iv x.2.1) := by rw [cell_at k1]; rfl
  have q2 : w3.cell? ⟨x3, 2, none⟩ = some sv := by rw [cell_at k1]; rfl
  have hF3 := Fmf (Fmf hf1 hf2) hf3
  simp only [Pu_some, extV_0, extV_1, extV_2, extV_3, nilV_ptr, nilV_fn, faV_ptr, lenV_sl, lenS_s, capV_sl, pickV_t, pickV_f, unV_not, unV_neg, isB_t, isB_f, isB_u, binV_add, binV_sub, binV_mul, binV_eql, binV_neq, binV_lss, binV_leq, binV_gtr, binV_geq, binV_seql, binV_sneq, binV_slss, binV_beql, binV_bneq, binV_peql, binV_pneq, add_add, add_none, Go.Al.add_zero, Nat.zero_add, Nat.add_zero, IfB_t, IfB_f, Gd_t, Gd_f, Ld_ptr, LdN_ptr, Option.isNone_some, Option.isNone_none, Option.isSome_some, Option.isSome_none, Bool.not_true, Bool.not_false, drew_cell, drew_heap, q0, q1, q2, cellsV_blk k2 hvr.size]
  refine (made_spec (hvr.keep hF3) hm x.2.1 (hsv.keep hF3)).mono ?_
  rintro _ w4 ⟨cs, rfl, hv4, hf4⟩
  generalize (made x.1 x.2.1 x.2.2.1 (toVx raw)).1 = V at hv4
  generalize (made x.1 x.2.1 x.2.2.1 (toVx raw)).2 = ok at *
  have hF4 := Fmf hF3 hf4
  simp only [Pu_some, extV_0, extV_1, extV_2, extV_3, nilV_ptr, nilV_fn, faV_ptr, lenV_sl, lenS_s, capV_sl, pickV_t, pickV_f, unV_not, unV_neg, isB_t, isB_f, isB_u, binV_add, binV_sub, binV_mul, binV_eql, binV_neq, binV_lss, binV_leq, binV_gtr, binV_geq, binV_seql, binV_sneq, binV_slss, binV_beql, binV_bneq, binV_peql, binV_pneq, add_add, add_none, Go.Al.add_zero, Nat.zero_add, Nat.add_zero, IfB_t, IfB_f, Gd_t, Gd_f, Ld_ptr, LdN_ptr, Option.isNone_some, Option.isNone_none, Option.isSome_some, Option.isSome_none, Bool.not_true, Bool.not_false, drew_cell, drew_heap]
  refine New_any ?_
  intro x7 w5 hx7 hs5 hw5 hf5
  have hz5 := hf5.size
  refine St_all hw5 rfl hv4.size hv4.one ?_
  intro w6 hw6 hs6 hf6
  have hf46 : Fm (fun _ => False) w4 w6 := Fm.own hf5 hf6 (by rintro x rfl; omega)
  have hF6 := Fmf hF4 hf46
  have hv : VwAt w6 x7 V := ⟨cs, hw6, hv4.keep hf46⟩
  have ht6 := hw3.keep (Fmf hf4 hf46) (fun e => e)
  by_cases h0 : V.own = 0
  · have e1 : (V.own == 0) = true := by rw [h0]; rfl
    simp only [Pu_some, extV_0, extV_1, extV_2, extV_3, nilV_ptr, nilV_fn, faV_ptr, lenV_sl, lenS_s, capV_sl, pickV_t, pickV_f, unV_not, unV_neg, isB_t, isB_f, isB_u, binV_add, binV_sub, binV_mul, binV_eql, binV_neq, binV_lss, binV_leq, binV_gtr, binV_geq, binV_seql, binV_sneq, binV_slss, binV_beql, binV_bneq, binV_peql, binV_pneq, add_add, add_none, Go.Al.add_zero, Nat.zero_add, Nat.add_zero, IfB_t, IfB_f, Gd_t, Gd_f, Ld_ptr, LdN_ptr, Option.isNone_some, Option.isNone_none, Option.isSome_some, Option.isSome_none, Bool.not_true, Bool.not_false, drew_cell, drew_heap, hv.c3, e1]
    refine (awake_spec w6).mono ?_
    rintro _ w7 ⟨rfl, hf7⟩
    exact ⟨(by trivial), Fmf hF6 hf7⟩
  have e1 : (V.own == 0) = false := by simpa using h0
  simp only [Pu_some, extV_0, extV_1, extV_2, extV_3, nilV_ptr, nilV_fn, faV_ptr, lenV_sl, lenS_s, capV_sl, pickV_t, pickV_f, unV_not, unV_neg, isB_t, isB_f, isB_u, binV_add, binV_sub, binV_mul, binV_eql, binV_neq, binV_lss, binV_leq, binV_gtr, binV_geq, binV_seql, binV_sneq, binV_slss, binV_beql, binV_bneq, binV_peql, binV_pneq, add_add, add_none, Go.Al.add_zero, Nat.zero_add, Nat.add_zero, IfB_t, IfB_f, Gd_t, Gd_f, Ld_ptr, LdN_ptr, Option.isNone_some, Option.isNone_none, Option.isSome_some, Option.isSome_none, Bool.not_true, Bool.not_false, drew_cell, drew_heap, hv.c3, e1, ht6.all]
  refine New_any ?_
  intro x9 w7 hx9 hs7 hw7 hf7
  refine St_all (us := txc t) hw7 rfl rfl (by intro u hu; simp [txc] at hu; rcases hu with rfl | rfl | rfl | rfl | rfl <;> rfl) ?_
  intro w8 hw8 hs8 hf8
  simp only [Pu_some, extV_0, extV_1, extV_2, extV_3, nilV_ptr, nilV_fn, faV_ptr, lenV_sl, lenS_s, capV_sl, pickV_t, pickV_f, unV_not, unV_neg, isB_t, isB_f, isB_u, binV_add, binV_sub, binV_mul, binV_eql, binV_neq, binV_lss, binV_leq, binV_gtr, binV_geq, binV_seql, binV_sneq, binV_slss, binV_beql, binV_bneq, binV_peql, binV_pneq, add_add, add_none, Go.Al.add_zero, Nat.zero_add, Nat.add_zero, IfB_t, IfB_f, Gd_t, Gd_f, Ld_ptr, LdN_ptr, Option.isNone_some, Option.isNone_none, Option.isSome_some, Option.isSome_none, Bool.not_true, Bool.not_false, drew_cell, drew_heap]
  refine St_blk hw8 (by show 2 < 5; decide) (by rfl) ?_
  intro w9 hw9 hs9 hf9
  replace hw9 : TxAt w9 x9 { t with frozen := false } := hw9
  have hv9 : VwAt w9 x7 V := hv.keep (Fm.own (Fm.own hf7 hf8 (by rintro x rfl; omega)) hf9 (by rintro x rfl; omega))
  simp only [Pu_some, extV_0, extV_1, extV_2, extV_3, nilV_ptr, nilV_fn, faV_ptr, lenV_sl, lenS_s, capV_sl, pickV_t, pickV_f, unV_not, unV_neg, isB_t, isB_f, isB_u, binV_add, binV_sub, binV_mul, binV_eql, binV_neq, binV_lss, binV_leq, binV_gtr, binV_geq, binV_seql, binV_sneq, binV_slss, binV_beql, binV_bneq, binV_peql, binV_pneq, add_add, add_none, Go.Al.add_zero, Nat.zero_add, Nat.add_zero, IfB_t, IfB_f, Gd_t, Gd_f, Ld_ptr, LdN_ptr, Option.isNone_some, Option.isNone_none, Option.isSome_some, Option.isSome_none, Bool.not_true, Bool.not_false, drew_cell, drew_heap, hv9.c3]
  refine St_blk hw9 (by show 0 < 5; decide) (by rfl) ?_
  intro w10 hw10 hs10 hf10
  replace hw10 : TxAt w10 x9 { t with frozen := false, xmin := V.own } := hw10
  refine St_blk hw10 (by show 1 < 5; decide) (by rfl) ?_
  intro w11 hw11 hs11 hf11
  replace hw11 : TxAt w11 x9 { t with frozen := false, xmin := V.own, xmax := 0 } := hw11
  have hf8_11 : Fm (· = x9) w8 w11 := (hf9.trans hf10 (fun _ _ e => e) (fun _ _ e => e)).trans hf11 (fun _ _ e => e) (fun _ _ e => e)
  have hf6_11 : Fm (fun _ => False) w6 w11 := Fm.own (Fm.own hf7 hf8 (by rintro x rfl; omega)) hf8_11 (by rintro x rfl; omega)
  have ht11 := ht6.keep hf6_11 (fun e => e)
  have hz11 := hf6_11.size
  simp only [Pu_some, extV_0, extV_1, extV_2, extV_3, nilV_ptr, nilV_fn, faV_ptr, lenV_sl, lenS_s, capV_sl, pickV_t, pickV_f, unV_not, unV_neg, isB_t, isB_f, isB_u, binV_add, binV_sub, binV_mul, binV_eql, binV_neq, binV_lss, binV_leq, binV_gtr, binV_geq, binV_seql, binV_sneq, binV_slss, binV_beql, binV_bneq, binV_peql, binV_pneq, add_add, add_none, Go.Al.add_zero, Nat.zero_add, Nat.add_zero, IfB_t, IfB_f, Gd_t, Gd_f, Ld_ptr, LdN_ptr, Option.isNone_some, Option.isNone_none, Option.isSome_some, Option.isSome_none, Bool.not_true, Bool.not_false, drew_cell, drew_heap, ht11.all]
  refine New_any ?_
  intro x10 w12 hx10 hs12 hw12 hf12
  refine St_all (us := txc t) hw12 rfl rfl (by intro u hu; simp [txc] at hu; rcases hu with rfl | rfl | rfl | rfl | rfl <;> rfl) ?_
  intro w13 hw13 hs13 hf13
  have hf11_13 : Fm (fun _ => False) w11 w13 := Fm.own hf12 hf13 (by rintro x rfl; omega)
  have hv13 := hv.keep (Fmf hf6_11 hf11_13)
  simp only [Pu_some, extV_0, extV_1, extV_2, extV_3, nilV_ptr, nilV_fn, faV_ptr, lenV_sl, lenS_s, capV_sl, pickV_t, pickV_f, unV_not, unV_neg, isB_t, isB_f, isB_u, binV_add, binV_sub, binV_mul, binV_eql, binV_neq, binV_lss, binV_leq, binV_gtr, binV_geq, binV_seql, binV_sneq, binV_slss, binV_beql, binV_bneq, binV_peql, binV_pneq, add_add, add_none, Go.Al.add_zero, Nat.zero_add, Nat.add_zero, IfB_t, IfB_f, Gd_t, Gd_f, Ld_ptr, LdN_ptr, Option.isNone_some, Option.isNone_none, Option.isSome_some, Option.isSome_none, Bool.not_true, Bool.not_false, drew_cell, drew_heap, hv13.c3]
  refine St_blk hw13 (by show 1 < 5; decide) (by rfl) ?_
  intro w14 hw14 hs14 hf14
  replace hw14 : TxAt w14 x10 { t with xmax := V.own } := hw14
  have hx9l := lt_of_heap hw11
  have hf11_14 : Fm (fun _ => False) w11 w14 := Fm.own hf11_13 hf14 (by rintro x rfl; omega)
  have hf6_14 := Fmf hf6_11 hf11_14
  have hv14 := hv.keep hf6_14
  have hm14 := hw11.keep hf11_14 (fun e => e)
  obtain ⟨c1, a1, b1⟩ := hv14.all
  simp only [Pu_some, extV_0, extV_1, extV_2, extV_3, nilV_ptr, nilV_fn, faV_ptr, lenV_sl, lenS_s, capV_sl, pickV_t, pickV_f, unV_not, unV_neg, isB_t, isB_f, isB_u, binV_add, binV_sub, binV_mul, binV_eql, binV_neq, binV_lss, binV_leq, binV_gtr, binV_geq, binV_seql, binV_sneq, binV_slss, binV_beql, binV_bneq, binV_peql, binV_pneq, add_add, add_none, Go.Al.add_zero, Nat.zero_add, Nat.add_zero, IfB_t, IfB_f, Gd_t, Gd_f, Ld_ptr, LdN_ptr, Option.isNone_some, Option.isNone_none, Option.isSome_some, Option.isSome_none, Bool.not_true, Bool.not_false, drew_cell, drew_heap, a1, hv14.c3]
  refine (sees_spec b1 V.own).mono ?_
  rintro _ w15 ⟨rfl, hf15⟩
  have hv15 := hv14.keep hf15
  obtain ⟨c2, a2, b2⟩ := hv15.all
  have hm15 := hm14.keep hf15 (fun e => e)
  have he15 := hw14.keep hf15 (fun e => e)
  simp only [Pu_some, extV_0, extV_1, extV_2, extV_3, nilV_ptr, nilV_fn, faV_ptr, lenV_sl, lenS_s, capV_sl, pickV_t, pickV_f, unV_not, unV_neg, isB_t, isB_f, isB_u, binV_add, binV_sub, binV_mul, binV_eql, binV_neq, binV_lss, binV_leq, binV_gtr, binV_geq, binV_seql, binV_sneq, binV_slss, binV_beql, binV_bneq, binV_peql, binV_pneq, add_add, add_none, Go.Al.add_zero, Nat.zero_add, Nat.add_zero, IfB_t, IfB_f, Gd_t, Gd_f, Ld_ptr, LdN_ptr, Option.isNone_some, Option.isNone_none, Option.isSome_some, Option.isSome_none, Bool.not_true, Bool.not_false, drew_cell, drew_heap, sees_own h0, a2, hm15.all]
  refine (visible_spec b2 _).mono ?_
  rintro _ w16 ⟨rfl, hf16⟩
  have hv16 := hv15.keep hf16
  obtain ⟨c3, a3, b3⟩ := hv16.all
  have he16 := he15.keep hf16 (fun e => e)
  have hm16 := hm15.keep hf16 (fun e => e)
  have f1 : visible V { t with frozen := false, xmin := V.own, xmax := 0 } = true := by unfold visible; simp [sees_own h0, sees_zero]
  have f2 : visible V { t with xmax := V.own } = false := by unfold visible; simp [sees_own h0]
  have f3 : newer V { t with frozen := false, xmin := V.own, xmax := 0 } = false := by unfold newer; simp [unseen_own h0, unseen_zero]
  simp only [Pu_some, extV_0, extV_1, extV_2, extV_3, nilV_ptr, nilV_fn, faV_ptr, lenV_sl, lenS_s, capV_sl, pickV_t, pickV_f, unV_not, unV_neg, isB_t, isB_f, isB_u, binV_add, binV_sub, binV_mul, binV_eql, binV_neq, binV_lss, binV_leq, binV_gtr, binV_geq, binV_seql, binV_sneq, binV_slss, binV_beql, binV_bneq, binV_peql, binV_pneq, add_add, add_none, Go.Al.add_zero, Nat.zero_add, Nat.add_zero, IfB_t, IfB_f, Gd_t, Gd_f, Ld_ptr, LdN_ptr, Option.isNone_some, Option.isNone_none, Option.isSome_some, Option.isSome_none, Bool.not_true, Bool.not_false, drew_cell, drew_heap, f1, a3, he16.all]
  refine (visible_spec b3 _).mono ?_
  rintro _ w17 ⟨rfl, hf17⟩
  have hv17 := hv16.keep hf17
  obtain ⟨c4, a4, b4⟩ := hv17.all
  have hm17 := hm16.keep hf17 (fun e => e)
  simp only [Pu_some, extV_0, extV_1, extV_2, extV_3, nilV_ptr, nilV_fn, faV_ptr, lenV_sl, lenS_s, capV_sl, pickV_t, pickV_f, unV_not, unV_neg, isB_t, isB_f, isB_u, binV_add, binV_sub, binV_mul, binV_eql, binV_neq, binV_lss, binV_leq, binV_gtr, binV_geq, binV_seql, binV_sneq, binV_slss, binV_beql, binV_bneq, binV_peql, binV_pneq, add_add, add_none, Go.Al.add_zero, Nat.zero_add, Nat.add_zero, IfB_t, IfB_f, Gd_t, Gd_f, Ld_ptr, LdN_ptr, Option.isNone_some, Option.isNone_none, Option.isSome_some, Option.isSome_none, Bool.not_true, Bool.not_false, drew_cell, drew_heap, f2, a4, hm17.all]
  refine (newer_spec b4 _).mono ?_
  rintro _ w18 ⟨rfl, hf18⟩
  simp only [Pu_some, extV_0, extV_1, extV_2, extV_3, nilV_ptr, nilV_fn, faV_ptr, lenV_sl, lenS_s, capV_sl, pickV_t, pickV_f, unV_not, unV_neg, isB_t, isB_f, isB_u, binV_add, binV_sub, binV_mul, binV_eql, binV_neq, binV_lss, binV_leq, binV_gtr, binV_geq, binV_seql, binV_sneq, binV_slss, binV_beql, binV_bneq, binV_peql, binV_pneq, add_add, add_none, Go.Al.add_zero, Nat.zero_add, Nat.add_zero, IfB_t, IfB_f, Gd_t, Gd_f, Ld_ptr, LdN_ptr, Option.isNone_some, Option.isNone_none, Option.isSome_some, Option.isSome_none, Bool.not_true, Bool.not_false, drew_cell, drew_heap, f3]
  refine (awake_spec w18).mono ?_
  rintro _ w19 ⟨rfl, hf19⟩
  simp only [Pu_some, extV_0, extV_1, extV_2, extV_3, nilV_ptr, nilV_fn, faV_ptr, lenV_sl, lenS_s, capV_sl, pickV_t, pickV_f, unV_not, unV_neg, isB_t, isB_f, isB_u, binV_add, binV_sub, binV_mul, binV_eql, binV_neq, binV_lss, binV_leq, binV_gtr, binV_geq, binV_seql, binV_sneq, binV_slss, binV_beql, binV_bneq, binV_peql, binV_pneq, add_add, add_none, Go.Al.add_zero, Nat.zero_add, Nat.add_zero, IfB_t, IfB_f, Gd_t, Gd_f, Ld_ptr, LdN_ptr, Option.isNone_some, Option.isNone_none, Option.isSome_some, Option.isSome_none, Bool.not_true, Bool.not_false, drew_cell, drew_heap]
  exact ⟨(by trivial), Fmf (Fmf hF6 hf6_14) (Fmf (Fmf hf15 hf16) (Fmf (Fmf hf17 hf18) hf19))⟩

theorem bld99k (a : Int) (k : Bs) (w : World) : (Instr.build 99 #[(0, iv a), (3, stv k)]).run Try.prog w = .ok (.agg #[iv a, iv 0, .bool false, stv k, stv []]) w := by kernel_rfl

set_option maxHeartbeats 1000000 in
theorem snapOne_law {w : World} {cx cr ct : Array Value} {x : PageT} {raw : VwT} {t : TxT} (hx : vPage.rel w cx.toList x) (hr : vVw.rel w cr.toList raw) (ht : vTx.rel w ct.toList t) :
    Cl Try.prog 11 [.agg cx, .agg cr, .agg ct] w fun v w' => v = .bool true ∧ Fm (fun _ => False) w w' := by
  obtain ⟨sv, rfl, hsv, hm⟩ := page_in hx
  have hvr := view_in hr
  obtain ⟨rfl, _, _⟩ := tx_in ht
  generalize toTx t = t at *
  refine c11 ?_; unfold T11
  refine New_any ?_
  intro x3 w1 hx3 hs1 hw1 hf1
  refine New_any ?_
  intro x4 w2 hx4 hs2 hw2 hf2
  refine New_any ?_
  intro x5 w3 hx5 hs3 hw3 hf3
  replace hw1 : w1.heap[x3]? = some (.cells #[iv x.1, iv x.2.1, sv] 91) := hw1
  replace hw3 : TxAt w3 x5 t := hw3
  have k1 := hf3.heap (hf2.heap hw1 (fun e => e)) (fun e => e)
  have k2 := hf3.heap hw2 (fun e => e)
  have q0 : w3.cell? ⟨x3, 0, none⟩ = some (iv x.1) := by rw [cell_at k1]; rfl
  have q1 : w3.cell? ⟨x3, 1, none⟩ = some (iv x.2.1) := by rw [cell_at k1]; rfl
  have q2 : w3.cell? ⟨x3, 2, none⟩ = some sv := by rw [cell_at k1]; rfl
  have hF3 := Fmf (Fmf hf1 hf2) hf3
  simp only [Pu_some, extV_0, extV_1, extV_2, extV_3, nilV_ptr, nilV_fn, faV_ptr, lenV_sl, lenS_s, capV_sl, pickV_t, pickV_f, unV_not, unV_neg, isB_t, isB_f, isB_u, binV_add, binV_sub, binV_mul, binV_eql, binV_neq, binV_lss, binV_leq, binV_gtr, binV_geq, binV_seql, binV_sneq, binV_slss, binV_beql, binV_bneq, binV_peql, binV_pneq, add_add, add_none, Go.Al.add_zero, Nat.zero_add, Nat.add_zero, IfB_t, IfB_f, Gd_t, Gd_f, Ld_ptr, LdN_ptr, Option.isNone_some, Option.isNone_none, Option.isSome_some, Option.isSome_none, Bool.not_true, Bool.not_false, drew_cell, drew_heap, q0, q1, q2, cellsV_blk k2 hvr.size]
  refine (made_spec (hvr.keep hF3) hm x.2.1 (hsv.keep hF3)).mono ?_
  rintro _ w4 ⟨cs, rfl, hv4, hf4⟩
  generalize (made x.1 x.2.1 x.2.2.1 (toVx raw)).1 = V at hv4
  generalize (made x.1 x.2.1 x.2.2.1 (toVx raw)).2 = ok at *
  have hF4 := Fmf hF3 hf4
  simp only [Pu_some, extV_0, extV_1, extV_2, extV_3, nilV_ptr, nilV_fn, faV_ptr, lenV_sl, lenS_s, capV_sl, pickV_t, pickV_f, unV_not, unV_neg, isB_t, isB_f, isB_u, binV_add, binV_sub, binV_mul, binV_eql, binV_neq, binV_lss, binV_leq, binV_gtr, binV_geq, binV_seql, binV_sneq, binV_slss, binV_beql, binV_bneq, binV_peql, binV_pneq, add_add, add_none, Go.Al.add_zero, Nat.zero_add, Nat.add_zero, IfB_t, IfB_f, Gd_t, Gd_f, Ld_ptr, LdN_ptr, Option.isNone_some, Option.isNone_none, Option.isSome_some, Option.isSome_none, Bool.not_true, Bool.not_false, drew_cell, drew_heap]
  refine New_any ?_
  intro x7 w5 hx7 hs5 hw5 hf5
  have hz5 := hf5.size
  refine St_all hw5 rfl hv4.size hv4.one ?_
  intro w6 hw6 hs6 hf6
  have hf46 : Fm (fun _ => False) w4 w6 := Fm.own hf5 hf6 (by rintro x rfl; omega)
  have hF6 := Fmf hF4 hf46
  have hv : VwAt w6 x7 V := ⟨cs, hw6, hv4.keep hf46⟩
  have ht6 := hw3.keep (Fmf hf4 hf46) (fun e => e)
  have c5 := ht6.c1
  by_cases h0 : t.xmax = 0
  · have e1 : (t.xmax == 0) = true := by rw [h0]; rfl
    simp only [Pu_some, extV_0, extV_1, extV_2, extV_3, nilV_ptr, nilV_fn, faV_ptr, lenV_sl, lenS_s, capV_sl, pickV_t, pickV_f, unV_not, unV_neg, isB_t, isB_f, isB_u, binV_add, binV_sub, binV_mul, binV_eql, binV_neq, binV_lss, binV_leq, binV_gtr, binV_geq, binV_seql, binV_sneq, binV_slss, binV_beql, binV_bneq, binV_peql, binV_pneq, add_add, add_none, Go.Al.add_zero, Nat.zero_add, Nat.add_zero, IfB_t, IfB_f, Gd_t, Gd_f, Ld_ptr, LdN_ptr, Option.isNone_some, Option.isNone_none, Option.isSome_some, Option.isSome_none, Bool.not_true, Bool.not_false, drew_cell, drew_heap, c5, e1]
    refine (awake_spec w6).mono ?_
    rintro _ w7 ⟨rfl, hf7⟩
    exact ⟨(by trivial), Fmf hF6 hf7⟩
  have e1 : (t.xmax == 0) = false := by simpa using h0
  simp only [Pu_some, extV_0, extV_1, extV_2, extV_3, nilV_ptr, nilV_fn, faV_ptr, lenV_sl, lenS_s, capV_sl, pickV_t, pickV_f, unV_not, unV_neg, isB_t, isB_f, isB_u, binV_add, binV_sub, binV_mul, binV_eql, binV_neq, binV_lss, binV_leq, binV_gtr, binV_geq, binV_seql, binV_sneq, binV_slss, binV_beql, binV_bneq, binV_peql, binV_pneq, add_add, add_none, Go.Al.add_zero, Nat.zero_add, Nat.add_zero, IfB_t, IfB_f, Gd_t, Gd_f, Ld_ptr, LdN_ptr, Option.isNone_some, Option.isNone_none, Option.isSome_some, Option.isSome_none, Bool.not_true, Bool.not_false, drew_cell, drew_heap, c5, e1, ht6.c3]
  refine RunS_ok (bld99k t.xmax t.key w6) ?_
  refine New_any ?_
  intro x9 w7 hx9 hs7 hw7 hf7
  refine St_all (us := txc ⟨t.xmax, 0, false, t.key, []⟩) hw7 rfl rfl (by intro u hu; simp [txc] at hu; rcases hu with rfl | rfl | rfl | rfl | rfl <;> rfl) ?_
  intro w8 hw8 hs8 hf8
  replace hw8 : TxAt w8 x9 ⟨t.xmax, 0, false, t.key, []⟩ := hw8
  have hf6_8 : Fm (fun _ => False) w6 w8 := Fm.own hf7 hf8 (by rintro x rfl; omega)
  have hv8 := hv.keep hf6_8
  have ht8 := ht6.keep hf6_8 (fun e => e)
  obtain ⟨c1, a1, b1⟩ := hv8.all
  simp only [Pu_some, extV_0, extV_1, extV_2, extV_3, nilV_ptr, nilV_fn, faV_ptr, lenV_sl, lenS_s, capV_sl, pickV_t, pickV_f, unV_not, unV_neg, isB_t, isB_f, isB_u, binV_add, binV_sub, binV_mul, binV_eql, binV_neq, binV_lss, binV_leq, binV_gtr, binV_geq, binV_seql, binV_sneq, binV_slss, binV_beql, binV_bneq, binV_peql, binV_pneq, add_add, add_none, Go.Al.add_zero, Nat.zero_add, Nat.add_zero, IfB_t, IfB_f, Gd_t, Gd_f, Ld_ptr, LdN_ptr, Option.isNone_some, Option.isNone_none, Option.isSome_some, Option.isSome_none, Bool.not_true, Bool.not_false, drew_cell, drew_heap, a1, ht8.all]
  refine (visible_spec b1 t).mono ?_
  rintro _ w9 ⟨rfl, hf9⟩
  have hv9 := hv8.keep hf9
  have ht9 := ht8.keep hf9 (fun e => e)
  have hn9 := hw8.keep hf9 (fun e => e)
  obtain ⟨c2, a2, b2⟩ := hv9.all
  simp only [Pu_some, extV_0, extV_1, extV_2, extV_3, nilV_ptr, nilV_fn, faV_ptr, lenV_sl, lenS_s, capV_sl, pickV_t, pickV_f, unV_not, unV_neg, isB_t, isB_f, isB_u, binV_add, binV_sub, binV_mul, binV_eql, binV_neq, binV_lss, binV_leq, binV_gtr, binV_geq, binV_seql, binV_sneq, binV_slss, binV_beql, binV_bneq, binV_peql, binV_pneq, add_add, add_none, Go.Al.add_zero, Nat.zero_add, Nat.add_zero, IfB_t, IfB_f, Gd_t, Gd_f, Ld_ptr, LdN_ptr, Option.isNone_some, Option.isNone_none, Option.isSome_some, Option.isSome_none, Bool.not_true, Bool.not_false, drew_cell, drew_heap, a2, hn9.all]
  refine (visible_spec b2 _).mono ?_
  rintro _ w10 ⟨rfl, hf10⟩
  have hv10 := hv9.keep hf10
  have ht10 := ht9.keep hf10 (fun e => e)
  have fb : visible V ⟨t.xmax, 0, false, t.key, []⟩ = sees V t.xmax := by unfold visible; simp [sees_zero]
  rw [fb]
  have hF10 := Fmf hF6 (Fmf hf6_8 (Fmf hf9 hf10))
  have fin : ∀ (w11 : World) (bg : Bool), bg = (t.frozen || sees V t.xmin) → Fm (fun _ => False) w w11 →
    (Gd (isB true (.bool (visible V t))) (fun kk => kk (.bool (sees V t.xmax)) w11) w11 fun t49_68 w_69 =>
  Pu (pickV (.bool (visible V t)) t49_68 (Value.bool false)) fun t50_70 =>
  Pu (unV .not t50_70) fun t51_71 =>
  Gd (isB true t51_71) (fun kk => kk (.bool bg) w_69) w_69 fun t53_72 w_73 =>
  Gd (isB true t51_71) (fun kk => Pu (unV .not t53_72) fun vv => kk vv w_73) w_73 fun t54_74 w_75 =>
  Gd (isB true t51_71) (fun kk => kk t54_74 w_75) w_75 fun t55_76 w_77 =>
  Gd (isB false t55_76) (fun kk => kk (.bool (visible V t)) w_77) w_77 fun t56_78 w_79 =>
  Gd (isB true t51_71) (fun kk => Pu (pickV t55_76 (Value.bool true) t56_78) fun vv => kk vv w_79) w_79 fun t57_80 w_81 =>
  Gd (isB true t51_71) (fun kk => kk t57_80 w_81) w_81 fun t58_82 w_83 =>
  Gd (isB false t58_82) (fun kk => kk (.bool (sees V t.xmax)) w_83) w_83 fun t59_84 w_85 =>
  Gd (isB true t51_71) (fun kk => Pu (pickV t58_82 (Value.bool true) t59_84) fun vv => kk vv w_85) w_85 fun t60_86 w_87 =>
  Pu (pickV t51_71 t60_86 (Value.bool false)) fun t61_88 =>
  Gd (isB true t61_88) (fun kk => Cl Try.prog 38 [] w_87 kk) w_87 fun t63_89 w_90 =>
  Pu (pickV t61_88 t63_89 (Value.bool false)) fun t64_91 =>
  t64_91 = .bool true ∧ Fm (fun _ => False) w w_90) := by
    intro w11 bg hbg hF
    have aw : ∀ k : KV, (∀ w12, Fm (fun _ => False) w w12 → k (.bool true) w12) → Cl Try.prog 38 [] w11 k := fun k hk => (awake_spec w11).mono (by rintro _ w12 ⟨rfl, hf12⟩; exact hk w12 (Fmf hF hf12))
    have hv : visible V t = (bg && !sees V t.xmax) := by rw [hbg]; rfl
    rw [hv]
    cases bg <;> cases sees V t.xmax <;> (simp only [Pu_some, extV_0, extV_1, extV_2, extV_3, nilV_ptr, nilV_fn, faV_ptr, lenV_sl, lenS_s, capV_sl, pickV_t, pickV_f, unV_not, unV_neg, isB_t, isB_f, isB_u, binV_add, binV_sub, binV_mul, binV_eql, binV_neq, binV_lss, binV_leq, binV_gtr, binV_geq, binV_seql, binV_sneq, binV_slss, binV_beql, binV_bneq, binV_peql, binV_pneq, add_add, add_none, Go.Al.add_zero, Nat.zero_add, Nat.add_zero, IfB_t, IfB_f, Gd_t, Gd_f, Ld_ptr, LdN_ptr, Option.isNone_some, Option.isNone_none, Option.isSome_some, Option.isSome_none, Bool.not_true, Bool.not_false, drew_cell, drew_heap, Bool.and_false, Bool.and_true, Bool.false_and, Bool.true_and, Bool.and_self]; refine aw _ (fun w12 hF12 => ?_); simp only [Pu_some, extV_0, extV_1, extV_2, extV_3, nilV_ptr, nilV_fn, faV_ptr, lenV_sl, lenS_s, capV_sl, pickV_t, pickV_f, unV_not, unV_neg, isB_t, isB_f, isB_u, binV_add, binV_sub, binV_mul, binV_eql, binV_neq, binV_lss, binV_leq, binV_gtr, binV_geq, binV_seql, binV_sneq, binV_slss, binV_beql, binV_bneq, binV_peql, binV_pneq, add_add, add_none, Go.Al.add_zero, Nat.zero_add, Nat.add_zero, IfB_t, IfB_f, Gd_t, Gd_f, Ld_ptr, LdN_ptr, Option.isNone_some, Option.isNone_none, Option.isSome_some, Option.isSome_none, Bool.not_true, Bool.not_false, drew_cell, drew_heap]; exact ⟨(by trivial), hF12⟩)
  cases hfz : t.frozen with
  | true =>
    have c2 := ht10.c2
    rw [hfz] at c2
    have key := fin w10 true (by rw [hfz]; rfl) hF10
    simp only [Pu_some, extV_0, extV_1, extV_2, extV_3, nilV_ptr, nilV_fn, faV_ptr, lenV_sl, lenS_s, capV_sl, pickV_t, pickV_f, unV_not, unV_neg, isB_t, isB_f, isB_u, binV_add, binV_sub, binV_mul, binV_eql, binV_neq, binV_lss, binV_leq, binV_gtr, binV_geq, binV_seql, binV_sneq, binV_slss, binV_beql, binV_bneq, binV_peql, binV_pneq, add_add, add_none, Go.Al.add_zero, Nat.zero_add, Nat.add_zero, IfB_t, IfB_f, Gd_t, Gd_f, Ld_ptr, LdN_ptr, Option.isNone_some, Option.isNone_none, Option.isSome_some, Option.isSome_none, Bool.not_true, Bool.not_false, drew_cell, drew_heap] at key
    simp only [Pu_some, extV_0, extV_1, extV_2, extV_3, nilV_ptr, nilV_fn, faV_ptr, lenV_sl, lenS_s, capV_sl, pickV_t, pickV_f, unV_not, unV_neg, isB_t, isB_f, isB_u, binV_add, binV_sub, binV_mul, binV_eql, binV_neq, binV_lss, binV_leq, binV_gtr, binV_geq, binV_seql, binV_sneq, binV_slss, binV_beql, binV_bneq, binV_peql, binV_pneq, add_add, add_none, Go.Al.add_zero, Nat.zero_add, Nat.add_zero, IfB_t, IfB_f, Gd_t, Gd_f, Ld_ptr, LdN_ptr, Option.isNone_some, Option.isNone_none, Option.isSome_some, Option.isSome_none, Bool.not_true, Bool.not_false, drew_cell, drew_heap, c2]
    exact key
  | false =>
    have c2 := ht10.c2
    rw [hfz] at c2
    obtain ⟨c3, a3, b3⟩ := hv10.all
    simp only [Pu_some, extV_0, extV_1, extV_2, extV_3, nilV_ptr, nilV_fn, faV_ptr, lenV_sl, lenS_s, capV_sl, pickV_t, pickV_f, unV_not, unV_neg, isB_t, isB_f, isB_u, binV_add, binV_sub, binV_mul, binV_eql, binV_neq, binV_lss, binV_leq, binV_gtr, binV_geq, binV_seql, binV_sneq, binV_slss, binV_beql, binV_bneq, binV_peql, binV_pneq, add_add, add_none, Go.Al.add_zero, Nat.zero_add, Nat.add_zero, IfB_t, IfB_f, Gd_t, Gd_f, Ld_ptr, LdN_ptr, Option.isNone_some, Option.isNone_none, Option.isSome_some, Option.isSome_none, Bool.not_true, Bool.not_false, drew_cell, drew_heap, c2, a3, ht10.c0]
    refine (sees_spec b3 t.xmin).mono ?_
    rintro _ w11 ⟨rfl, hf11⟩
    have key := fin w11 (sees V t.xmin) (by rw [hfz]; rfl) (Fmf hF10 hf11)
    simp only [Pu_some, extV_0, extV_1, extV_2, extV_3, nilV_ptr, nilV_fn, faV_ptr, lenV_sl, lenS_s, capV_sl, pickV_t, pickV_f, unV_not, unV_neg, isB_t, isB_f, isB_u, binV_add, binV_sub, binV_mul, binV_eql, binV_neq, binV_lss, binV_leq, binV_gtr, binV_geq, binV_seql, binV_sneq, binV_slss, binV_beql, binV_bneq, binV_peql, binV_pneq, add_add, add_none, Go.Al.add_zero, Nat.zero_add, Nat.add_zero, IfB_t, IfB_f, Gd_t, Gd_f, Ld_ptr, LdN_ptr, Option.isNone_some, Option.isNone_none, Option.isSome_some, Option.isSome_none, Bool.not_true, Bool.not_false, drew_cell, drew_heap] at key
    exact key

set_option maxHeartbeats 1000000 in
theorem snapLater_law {w : World} {cx cr : Array Value} {x : PageT} {raw : VwT} (who : Int) (hx : vPage.rel w cx.toList x) (hr : vVw.rel w cr.toList raw) :
    Cl Try.prog 13 [.agg cx, .agg cr, iv who] w fun v w' => v = .bool true ∧ Fm (fun _ => False) w w' := by
  obtain ⟨sv, rfl, hsv, hm⟩ := page_in hx
  have hvr := view_in hr
  refine c13 ?_; unfold T13
  refine New_any ?_
  intro x3 w1 hx3 hs1 hw1 hf1
  refine New_any ?_
  intro x4 w2 hx4 hs2 hw2 hf2
  replace hw1 : w1.heap[x3]? = some (.cells #[iv x.1, iv x.2.1, sv] 91) := hw1
  have k1 := hf2.heap hw1 (fun e => e)
  have k2 := hw2
  have q0 : w2.cell? ⟨x3, 0, none⟩ = some (iv x.1) := by rw [cell_at k1]; rfl
  have q1 : w2.cell? ⟨x3, 1, none⟩ = some (iv x.2.1) := by rw [cell_at k1]; rfl
  have q2 : w2.cell? ⟨x3, 2, none⟩ = some sv := by rw [cell_at k1]; rfl
  have hF3 := Fmf hf1 hf2
  simp only [Pu_some, extV_0, extV_1, extV_2, extV_3, nilV_ptr, nilV_fn, faV_ptr, lenV_sl, lenS_s, capV_sl, pickV_t, pickV_f, unV_not, unV_neg, isB_t, isB_f, isB_u, binV_add, binV_sub, binV_mul, binV_eql, binV_neq, binV_lss, binV_leq, binV_gtr, binV_geq, binV_seql, binV_sneq, binV_slss, binV_beql, binV_bneq, binV_peql, binV_pneq, add_add, add_none, Go.Al.add_zero, Nat.zero_add, Nat.add_zero, IfB_t, IfB_f, Gd_t, Gd_f, Ld_ptr, LdN_ptr, Option.isNone_some, Option.isNone_none, Option.isSome_some, Option.isSome_none, Bool.not_true, Bool.not_false, drew_cell, drew_heap, q0, q1, q2, cellsV_blk k2 hvr.size]
  refine (made_spec (hvr.keep hF3) hm x.2.1 (hsv.keep hF3)).mono ?_
  rintro _ w4 ⟨cs, rfl, hv4, hf4⟩
  generalize (made x.1 x.2.1 x.2.2.1 (toVx raw)).1 = V at hv4
  generalize (made x.1 x.2.1 x.2.2.1 (toVx raw)).2 = ok at *
  have hF4 := Fmf hF3 hf4
  simp only [Pu_some, extV_0, extV_1, extV_2, extV_3, nilV_ptr, nilV_fn, faV_ptr, lenV_sl, lenS_s, capV_sl, pickV_t, pickV_f, unV_not, unV_neg, isB_t, isB_f, isB_u, binV_add, binV_sub, binV_mul, binV_eql, binV_neq, binV_lss, binV_leq, binV_gtr, binV_geq, binV_seql, binV_sneq, binV_slss, binV_beql, binV_bneq, binV_peql, binV_pneq, add_add, add_none, Go.Al.add_zero, Nat.zero_add, Nat.add_zero, IfB_t, IfB_f, Gd_t, Gd_f, Ld_ptr, LdN_ptr, Option.isNone_some, Option.isNone_none, Option.isSome_some, Option.isSome_none, Bool.not_true, Bool.not_false, drew_cell, drew_heap]
  refine New_any ?_
  intro x7 w5 hx7 hs5 hw5 hf5
  have hz5 := hf5.size
  refine St_all hw5 rfl hv4.size hv4.one ?_
  intro w6 hw6 hs6 hf6
  have hf46 : Fm (fun _ => False) w4 w6 := Fm.own hf5 hf6 (by rintro x rfl; omega)
  have hF6 := Fmf hF4 hf46
  have hv : VwAt w6 x7 V := ⟨cs, hw6, hv4.keep hf46⟩
  obtain ⟨av, hc2, hav⟩ := hv.c2
  have hlt := hav.lt
  unfold maxLen at hlt
  refine ⟨fun vs w7 => ∃ i : Nat, vs = [.bool (decide (who ∈ V.active.take i)), iv i] ∧ i ≤ V.active.length ∧ w7 = w6, fun vs _ => (V.active.length - nth vs 1).toNat, ⟨0, by simp, by omega, rfl⟩, ?_⟩
  rintro _ w7 bv iv_ ⟨i, hvs, hi, rfl⟩
  cases hvs
  by_cases hlt2 : i < V.active.length
  · have e1 : decide ((i : Int) < (V.active.length : Int)) = true := by rw [decide_eq_true_eq]; omega
    have e2 : IntKind.i64.wrap ((i : Int) + 1) = ((i + 1 : Nat) : Int) := by rw [wrap_id] <;> omega
    have hx : V.active[i]? = some V.active[i] := List.getElem?_eq_getElem hlt2
    generalize V.active[i] = y at hx
    obtain ⟨ad, hix, _, hc⟩ := hav.at1 (i := i) (x := iv y) (by rw [List.getElem?_map, hx]; rfl) .i64
    have hm : ∀ b : Bool, b = (decide (who ∈ V.active.take i) || decide (y = who)) → .bool b = Value.bool (decide (who ∈ V.active.take (i + 1))) := by
      intro b hb
      rw [hb, List.take_add_one, hx]
      congr 1
      simp only [Option.toList_some, List.mem_append, List.mem_singleton]
      rw [← Bool.decide_or, decide_eq_decide]
      exact ⟨fun h => h.imp id Eq.symm, fun h => h.imp id Eq.symm⟩
    cases hb : decide (who ∈ V.active.take i) with
    | true =>
      rw [hb] at hm
      simp only [Pu_some, extV_0, extV_1, extV_2, extV_3, nilV_ptr, nilV_fn, faV_ptr, lenV_sl, lenS_s, capV_sl, pickV_t, pickV_f, unV_not, unV_neg, isB_t, isB_f, isB_u, binV_add, binV_sub, binV_mul, binV_eql, binV_neq, binV_lss, binV_leq, binV_gtr, binV_geq, binV_seql, binV_sneq, binV_slss, binV_beql, binV_bneq, binV_peql, binV_pneq, add_add, add_none, Go.Al.add_zero, Nat.zero_add, Nat.add_zero, IfB_t, IfB_f, Gd_t, Gd_f, Ld_ptr, LdN_ptr, Option.isNone_some, Option.isNone_none, Option.isSome_some, Option.isSome_none, Bool.not_true, Bool.not_false, drew_cell, drew_heap, hc2, hav.lenV, e1, e2]
      refine ⟨⟨i + 1, ?_, by omega, (by trivial)⟩, by simp only [nth_1]; omega⟩
      rw [← hm true rfl]
    | false =>
      rw [hb] at hm
      simp only [Pu_some, extV_0, extV_1, extV_2, extV_3, nilV_ptr, nilV_fn, faV_ptr, lenV_sl, lenS_s, capV_sl, pickV_t, pickV_f, unV_not, unV_neg, isB_t, isB_f, isB_u, binV_add, binV_sub, binV_mul, binV_eql, binV_neq, binV_lss, binV_leq, binV_gtr, binV_geq, binV_seql, binV_sneq, binV_slss, binV_beql, binV_bneq, binV_peql, binV_pneq, add_add, add_none, Go.Al.add_zero, Nat.zero_add, Nat.add_zero, IfB_t, IfB_f, Gd_t, Gd_f, Ld_ptr, LdN_ptr, Option.isNone_some, Option.isNone_none, Option.isSome_some, Option.isSome_none, Bool.not_true, Bool.not_false, drew_cell, drew_heap, hc2, hav.lenV, e1, hix, hc, e2]
      refine ⟨⟨i + 1, ?_, by omega, (by trivial)⟩, by simp only [nth_1]; omega⟩
      rw [hm (y == who) (by rw [beq_dec, Bool.false_or])]
  have hie : i = V.active.length := by omega
  subst hie
  have e1 : decide (((V.active.length : Nat) : Int) < (V.active.length : Int)) = false := by simp
  rw [List.take_length]
  simp only [Pu_some, extV_0, extV_1, extV_2, extV_3, nilV_ptr, nilV_fn, faV_ptr, lenV_sl, lenS_s, capV_sl, pickV_t, pickV_f, unV_not, unV_neg, isB_t, isB_f, isB_u, binV_add, binV_sub, binV_mul, binV_eql, binV_neq, binV_lss, binV_leq, binV_gtr, binV_geq, binV_seql, binV_sneq, binV_slss, binV_beql, binV_bneq, binV_peql, binV_pneq, add_add, add_none, Go.Al.add_zero, Nat.zero_add, Nat.add_zero, IfB_t, IfB_f, Gd_t, Gd_f, Ld_ptr, LdN_ptr, Option.isNone_some, Option.isNone_none, Option.isSome_some, Option.isSome_none, Bool.not_true, Bool.not_false, drew_cell, drew_heap, hc2, hav.lenV, e1]
  have aw : ∀ (w8 : World), Fm (fun _ => False) w w8 → Cl Try.prog 38 [] w8 fun t65_107 w_108 => t65_107 = .bool true ∧ Fm (fun _ => False) w w_108 := fun w8 hF => (awake_spec w8).mono (by rintro _ w9 ⟨rfl, hf9⟩; exact ⟨rfl, Fmf hF hf9⟩)
  cases ok with
  | false =>
    simp only [Pu_some, extV_0, extV_1, extV_2, extV_3, nilV_ptr, nilV_fn, faV_ptr, lenV_sl, lenS_s, capV_sl, pickV_t, pickV_f, unV_not, unV_neg, isB_t, isB_f, isB_u, binV_add, binV_sub, binV_mul, binV_eql, binV_neq, binV_lss, binV_leq, binV_gtr, binV_geq, binV_seql, binV_sneq, binV_slss, binV_beql, binV_bneq, binV_peql, binV_pneq, add_add, add_none, Go.Al.add_zero, Nat.zero_add, Nat.add_zero, IfB_t, IfB_f, Gd_t, Gd_f, Ld_ptr, LdN_ptr, Option.isNone_some, Option.isNone_none, Option.isSome_some, Option.isSome_none, Bool.not_true, Bool.not_false, drew_cell, drew_heap]
    exact aw w7 hF6
  | true =>
  by_cases hown : who = V.own
  · have e2 : (who == V.own) = true := by simpa using hown
    simp only [Pu_some, extV_0, extV_1, extV_2, extV_3, nilV_ptr, nilV_fn, faV_ptr, lenV_sl, lenS_s, capV_sl, pickV_t, pickV_f, unV_not, unV_neg, isB_t, isB_f, isB_u, binV_add, binV_sub, binV_mul, binV_eql, binV_neq, binV_lss, binV_leq, binV_gtr, binV_geq, binV_seql, binV_sneq, binV_slss, binV_beql, binV_bneq, binV_peql, binV_pneq, add_add, add_none, Go.Al.add_zero, Nat.zero_add, Nat.add_zero, IfB_t, IfB_f, Gd_t, Gd_f, Ld_ptr, LdN_ptr, Option.isNone_some, Option.isNone_none, Option.isSome_some, Option.isSome_none, Bool.not_true, Bool.not_false, drew_cell, drew_heap, hv.c3, e2]
    exact aw w7 hF6
  have e2 : (who == V.own) = false := by simpa using hown
  have rest : ∀ (w8 : World), Fm (fun _ => False) w7 w8 → (decide (who ∈ V.active) || !xBefore V.modulus who V.next) = true →
    (Pu (faV 0 (pv x7)) fun t67_109 =>
  Ld w8 t67_109 fun t68_110 w_111 =>
  Pu (faV 5 (pv x7)) fun t69_112 =>
  LdN 6 w_111 t69_112 fun t70_113 w_114 =>
  Cl Try.prog 46 [t68_110, t70_113, (iv who), (Value.int IntKind.u8 2)] w_114 fun t72_115 w_116 =>
  Pu (extV t72_115 0) fun t73_117 =>
  Pu (extV t72_115 1) fun t74_118 =>
  New #[(Value.int IntKind.i64 0), (Value.int IntKind.i64 0), (Value.int IntKind.i64 0), (Value.int IntKind.i64 0), (Value.string (ByteArray.mk #[])), (Value.slice none 0 0)] 95 w_116 fun q11_119 w_120 =>
  St 6 w_120 q11_119 t73_117 fun u_121 w_122 =>
  Pu (binV (TypeDesc.int IntKind.i64) .neq t74_118 (Value.int IntKind.i64 0)) fun t76_123 =>
  IfB t76_123
    (Cl Try.prog 38 [] w_122 fun t77_124 w_125 =>
      t77_124 = .bool true ∧ Fm (fun _ => False) w w_125)
    (LdN 11 w_122 (pv x7) fun t78_126 w_127 =>
  Cl Try.prog 39 [t78_126, (iv who)] w_127 fun t80_128 w_129 =>
  LdN 6 w_129 q11_119 fun t81_130 w_131 =>
  Pu (faV 5 (pv x7)) fun t82_132 =>
  St 6 w_131 t82_132 t81_130 fun u_133 w_134 =>
  Pu (faV 4 (pv x7)) fun t83_135 =>
  St 1 w_134 t83_135 (Value.slice none 0 0) fun u_136 w_137 =>
  Pu (unV .not t80_128) fun t85_138 =>
  Gd (isB true t85_138) (fun kk => LdN 11 w_137 (pv x7) kk) w_137 fun t87_139 w_140 =>
  Gd (isB true t85_138) (fun kk => kk (iv who) w_140) w_140 fun t88_141 w_142 =>
  Gd (isB true t85_138) (fun kk => Cl Try.prog 39 [t87_139, t88_141] w_142 kk) w_142 fun t89_143 w_144 =>
  Gd (isB true t85_138) (fun kk => Pu (unV .not t89_143) fun vv => kk vv w_144) w_144 fun t90_145 w_146 =>
  Pu (pickV t85_138 t90_145 (Value.bool false)) fun t91_147 =>
  Gd (isB true t91_147) (fun kk => LdN 11 w_146 (pv x7) kk) w_146 fun t93_148 w_149 =>
  Gd (isB true t91_147) (fun kk => kk (iv who) w_149) w_149 fun t94_150 w_151 =>
  Gd (isB true t91_147) (fun kk => RunS Try.prog (Instr.build 99 #[(0, t94_150), (3, (Value.string (ByteArray.mk #[107])))]) w_151 kk) w_151 fun t95_152 w_153 =>
  Gd (isB true t91_147) (fun kk => Cl Try.prog 40 [t93_148, t95_152] w_153 kk) w_153 fun t96_154 w_155 =>
  Gd (isB true t91_147) (fun kk => Pu (unV .not t96_154) fun vv => kk vv w_155) w_155 fun t97_156 w_157 =>
  Pu (pickV t91_147 t97_156 (Value.bool false)) fun t98_158 =>
  Gd (isB true t98_158) (fun kk => Cl Try.prog 38 [] w_157 kk) w_157 fun t100_159 w_160 =>
  Pu (pickV t98_158 t100_159 (Value.bool false)) fun t101_161 =>
  t101_161 = .bool true ∧ Fm (fun _ => False) w w_160)) := by
    intro w8 hf8 hcond
    have hv8 := hv.keep hf8
    have hF8 := Fmf hF6 hf8
    obtain ⟨ps, hps, hpa⟩ := hv8.pg
    have hmin : In V.modulus := by obtain ⟨cs, _, h⟩ := hv8; exact h.m_in
    simp only [Pu_some, extV_0, extV_1, extV_2, extV_3, nilV_ptr, nilV_fn, faV_ptr, lenV_sl, lenS_s, capV_sl, pickV_t, pickV_f, unV_not, unV_neg, isB_t, isB_f, isB_u, binV_add, binV_sub, binV_mul, binV_eql, binV_neq, binV_lss, binV_leq, binV_gtr, binV_geq, binV_seql, binV_sneq, binV_slss, binV_beql, binV_bneq, binV_peql, binV_pneq, add_add, add_none, Go.Al.add_zero, Nat.zero_add, Nat.add_zero, IfB_t, IfB_f, Gd_t, Gd_f, Ld_ptr, LdN_ptr, Option.isNone_some, Option.isNone_none, Option.isSome_some, Option.isSome_none, Bool.not_true, Bool.not_false, drew_cell, drew_heap, hv8.c0, hps]
    refine (cset_spec hpa hmin who 2 (by decide)).mono ?_
    rintro _ w9 ⟨qs, rfl, hq9, hqf, hf9⟩
    have hlt7 := hv8.lt
    simp only [Pu_some, extV_0, extV_1, extV_2, extV_3, nilV_ptr, nilV_fn, faV_ptr, lenV_sl, lenS_s, capV_sl, pickV_t, pickV_f, unV_not, unV_neg, isB_t, isB_f, isB_u, binV_add, binV_sub, binV_mul, binV_eql, binV_neq, binV_lss, binV_leq, binV_gtr, binV_geq, binV_seql, binV_sneq, binV_slss, binV_beql, binV_bneq, binV_peql, binV_pneq, add_add, add_none, Go.Al.add_zero, Nat.zero_add, Nat.add_zero, IfB_t, IfB_f, Gd_t, Gd_f, Ld_ptr, LdN_ptr, Option.isNone_some, Option.isNone_none, Option.isSome_some, Option.isSome_none, Bool.not_true, Bool.not_false, drew_cell, drew_heap]
    refine New_any ?_
    intro x11 w10 hx11 hs10 hw10 hf10
    have hz9 := hf9.size
    have hz10 := hf10.size
    refine St_all hw10 rfl hq9.size hq9.one ?_
    intro w11 hw11 hs11 hf11
    have hf9_11 : Fm (fun _ => False) w9 w11 := Fm.own hf10 hf11 (by rintro x rfl; omega)
    have hf8_11 := Fmf hf9 hf9_11
    have hF11 := Fmf hF8 hf8_11
    by_cases hq0 : (clogSet V.modulus V.clog who 2).2 = 0
    rotate_left
    · have e3 : ((clogSet V.modulus V.clog who 2).2 != 0) = true := by rw [bne_dec]; simp [hq0]
      simp only [Pu_some, extV_0, extV_1, extV_2, extV_3, nilV_ptr, nilV_fn, faV_ptr, lenV_sl, lenS_s, capV_sl, pickV_t, pickV_f, unV_not, unV_neg, isB_t, isB_f, isB_u, binV_add, binV_sub, binV_mul, binV_eql, binV_neq, binV_lss, binV_leq, binV_gtr, binV_geq, binV_seql, binV_sneq, binV_slss, binV_beql, binV_bneq, binV_peql, binV_pneq, add_add, add_none, Go.Al.add_zero, Nat.zero_add, Nat.add_zero, IfB_t, IfB_f, Gd_t, Gd_f, Ld_ptr, LdN_ptr, Option.isNone_some, Option.isNone_none, Option.isSome_some, Option.isSome_none, Bool.not_true, Bool.not_false, drew_cell, drew_heap, e3]
      exact aw w11 hF11
    have e3 : ((clogSet V.modulus V.clog who 2).2 != 0) = false := by rw [hq0]; rfl
    have hv11 := hv8.keep hf8_11
    obtain ⟨c1, a1, b1⟩ := hv11.all
    simp only [Pu_some, extV_0, extV_1, extV_2, extV_3, nilV_ptr, nilV_fn, faV_ptr, lenV_sl, lenS_s, capV_sl, pickV_t, pickV_f, unV_not, unV_neg, isB_t, isB_f, isB_u, binV_add, binV_sub, binV_mul, binV_eql, binV_neq, binV_lss, binV_leq, binV_gtr, binV_geq, binV_seql, binV_sneq, binV_slss, binV_beql, binV_bneq, binV_peql, binV_pneq, add_add, add_none, Go.Al.add_zero, Nat.zero_add, Nat.add_zero, IfB_t, IfB_f, Gd_t, Gd_f, Ld_ptr, LdN_ptr, Option.isNone_some, Option.isNone_none, Option.isSome_some, Option.isSome_none, Bool.not_true, Bool.not_false, drew_cell, drew_heap, e3, a1]
    refine (sees_spec b1 who).mono ?_
    rintro _ w12 ⟨rfl, hf12⟩
    have hv12 := hv11.keep hf12
    have hq12 := hq9.keep (Fmf hf9_11 hf12)
    have hw12 := hf12.heap hw11 (fun e => e)
    obtain ⟨cs12, hw12v, hva⟩ := hv12
    obtain ⟨av2, rv2, iv2, rfl, hav2, hrv2, hit2⟩ := hva.ex
    generalize (clogSet V.modulus V.clog who 2).1 = Q at hqf hq9 hq12
    have hone := hq12.one
    have hqsz := hq12.size
    obtain ⟨iv3, rfl, hit3⟩ := hq12.ex
    have hsm := hq12.small
    simp only [Pu_some, extV_0, extV_1, extV_2, extV_3, nilV_ptr, nilV_fn, faV_ptr, lenV_sl, lenS_s, capV_sl, pickV_t, pickV_f, unV_not, unV_neg, isB_t, isB_f, isB_u, binV_add, binV_sub, binV_mul, binV_eql, binV_neq, binV_lss, binV_leq, binV_gtr, binV_geq, binV_seql, binV_sneq, binV_slss, binV_beql, binV_bneq, binV_peql, binV_pneq, add_add, add_none, Go.Al.add_zero, Nat.zero_add, Nat.add_zero, IfB_t, IfB_f, Gd_t, Gd_f, Ld_ptr, LdN_ptr, Option.isNone_some, Option.isNone_none, Option.isSome_some, Option.isSome_none, Bool.not_true, Bool.not_false, drew_cell, drew_heap, cellsV_blk hw12 hqsz]
    refine St_blkN hw12v rfl (by simp) hone ?_
    intro w13 hw13 hs13 hf13
    replace hw13 : w13.heap[x7]? = some (.cells #[iv V.modulus, iv V.next, av2, iv V.own, rv2, iv Q.lsn, iv Q.kind, iv Q.level, iv Q.right, stv Q.high, iv3] 97) := hw13
    refine St_blk hw13 (by simp) (by rfl) ?_
    intro w14 hw14 hs14 hf14
    replace hw14 : w14.heap[x7]? = some (.cells #[iv V.modulus, iv V.next, av2, iv V.own, .slice none 0 0, iv Q.lsn, iv Q.kind, iv Q.level, iv Q.right, stv Q.high, iv3] 97) := hw14
    have hf12_14 : Fm (· = x7) w12 w14 := hf13.trans hf14 (fun _ _ e => e) (fun _ _ e => e)
    have hx7w4 : w4.heap.size ≤ x7 := by omega
    have hF12 := Fmf hF11 hf12
    have hz4 := hF4.size
    have hF14 : Fm (fun _ => False) w w14 := Fm.own hF12 hf12_14 (by rintro x rfl; omega)
    have hit14 := hit3.keepAny hf12_14 (fun hx g hg e => by have := hqf iv3 rfl (by simpa using hx) g hg; omega)
    have hv4c := hv4
    obtain ⟨av4, rv4, iv4, hcs4, hav4, _, _⟩ := hv4c.ex
    have haveq : av2 = av4 := by
      have h1 : w12.heap[x7]? = some (.cells cs 97) := (Fmf hf8 (Fmf hf8_11 hf12)).heap hw6 (fun e => e)
      rw [h1, hcs4] at hw12v
      have := congrArg (fun o => match o with | some (Obj.cells c _ _) => c[2]? | _ => none) hw12v
      simpa using this.symm
    have hf4_14 : Fm (fun _ => False) w4 w14 := Fm.own (Fmf hf46 (Fmf hf8 (Fmf hf8_11 hf12))) hf12_14 (by rintro x rfl; omega)
    have hv14 : VwAt w14 x7 { V with clog := Q, running := [] } :=
      ⟨_, hw14, ⟨⟨av2, .slice none 0 0, iv3, rfl, by rw [haveq]; exact hav4.keep hf4_14 (fun _ _ e => e), ⟨⟨none, 0, rfl, Nat.le_refl _, by simp [maxLen], fun _ => ⟨rfl, rfl⟩, fun j u hj => by simp at hj⟩, rfl⟩, hit14⟩, hsm, hmin⟩⟩
    have s1 : sees V who = false := by
      unfold sees
      rw [show decide (who = V.own) = false by simpa using hown, hcond]
      cases decide (who = 0) <;> rfl
    have s2 : sees { V with clog := Q, running := [] } who = false := by
      unfold sees
      rw [show decide (who = V.own) = false by simpa using hown]
      show (bif decide (who = 0) then false else bif false then true else bif decide (who ∈ V.active) || !xBefore V.modulus who V.next then false else _) = false
      rw [hcond]
      cases decide (who = 0) <;> rfl
    obtain ⟨c2, a2, b2⟩ := hv14.all
    simp only [Pu_some, extV_0, extV_1, extV_2, extV_3, nilV_ptr, nilV_fn, faV_ptr, lenV_sl, lenS_s, capV_sl, pickV_t, pickV_f, unV_not, unV_neg, isB_t, isB_f, isB_u, binV_add, binV_sub, binV_mul, binV_eql, binV_neq, binV_lss, binV_leq, binV_gtr, binV_geq, binV_seql, binV_sneq, binV_slss, binV_beql, binV_bneq, binV_peql, binV_pneq, add_add, add_none, Go.Al.add_zero, Nat.zero_add, Nat.add_zero, IfB_t, IfB_f, Gd_t, Gd_f, Ld_ptr, LdN_ptr, Option.isNone_some, Option.isNone_none, Option.isSome_some, Option.isSome_none, Bool.not_true, Bool.not_false, drew_cell, drew_heap, s1, a2]
    refine (sees_spec b2 who).mono ?_
    rintro _ w15 ⟨rfl, hf15⟩
    obtain ⟨c3, a3, b3⟩ := (hv14.keep hf15).all
    simp only [Pu_some, extV_0, extV_1, extV_2, extV_3, nilV_ptr, nilV_fn, faV_ptr, lenV_sl, lenS_s, capV_sl, pickV_t, pickV_f, unV_not, unV_neg, isB_t, isB_f, isB_u, binV_add, binV_sub, binV_mul, binV_eql, binV_neq, binV_lss, binV_leq, binV_gtr, binV_geq, binV_seql, binV_sneq, binV_slss, binV_beql, binV_bneq, binV_peql, binV_pneq, add_add, add_none, Go.Al.add_zero, Nat.zero_add, Nat.add_zero, IfB_t, IfB_f, Gd_t, Gd_f, Ld_ptr, LdN_ptr, Option.isNone_some, Option.isNone_none, Option.isSome_some, Option.isSome_none, Bool.not_true, Bool.not_false, drew_cell, drew_heap, s2, a3]
    refine RunS_ok (bld99k who [107] w15) ?_
    refine (visible_spec b3 ⟨who, 0, false, [107], []⟩).mono ?_
    rintro _ w16 ⟨rfl, hf16⟩
    have s3 : visible { V with clog := Q, running := [] } ⟨who, 0, false, [107], []⟩ = false := by unfold visible; rw [s2]; rfl
    simp only [Pu_some, extV_0, extV_1, extV_2, extV_3, nilV_ptr, nilV_fn, faV_ptr, lenV_sl, lenS_s, capV_sl, pickV_t, pickV_f, unV_not, unV_neg, isB_t, isB_f, isB_u, binV_add, binV_sub, binV_mul, binV_eql, binV_neq, binV_lss, binV_leq, binV_gtr, binV_geq, binV_seql, binV_sneq, binV_slss, binV_beql, binV_bneq, binV_peql, binV_pneq, add_add, add_none, Go.Al.add_zero, Nat.zero_add, Nat.add_zero, IfB_t, IfB_f, Gd_t, Gd_f, Ld_ptr, LdN_ptr, Option.isNone_some, Option.isNone_none, Option.isSome_some, Option.isSome_none, Bool.not_true, Bool.not_false, drew_cell, drew_heap, s3]
    refine (aw w16 (Fmf hF14 (Fmf hf15 hf16))).mono ?_
    rintro _ w17 ⟨rfl, hF17⟩
    simp only [Pu_some, extV_0, extV_1, extV_2, extV_3, nilV_ptr, nilV_fn, faV_ptr, lenV_sl, lenS_s, capV_sl, pickV_t, pickV_f, unV_not, unV_neg, isB_t, isB_f, isB_u, binV_add, binV_sub, binV_mul, binV_eql, binV_neq, binV_lss, binV_leq, binV_gtr, binV_geq, binV_seql, binV_sneq, binV_slss, binV_beql, binV_bneq, binV_peql, binV_pneq, add_add, add_none, Go.Al.add_zero, Nat.zero_add, Nat.add_zero, IfB_t, IfB_f, Gd_t, Gd_f, Ld_ptr, LdN_ptr, Option.isNone_some, Option.isNone_none, Option.isSome_some, Option.isSome_none, Bool.not_true, Bool.not_false, drew_cell, drew_heap]
    exact ⟨(by trivial), hF17⟩
  cases hact : decide (who ∈ V.active) with
  | true =>
    have key := rest w7 (Fm.refl _ _) (by rw [hact]; rfl)
    simp only [Pu_some, extV_0, extV_1, extV_2, extV_3, nilV_ptr, nilV_fn, faV_ptr, lenV_sl, lenS_s, capV_sl, pickV_t, pickV_f, unV_not, unV_neg, isB_t, isB_f, isB_u, binV_add, binV_sub, binV_mul, binV_eql, binV_neq, binV_lss, binV_leq, binV_gtr, binV_geq, binV_seql, binV_sneq, binV_slss, binV_beql, binV_bneq, binV_peql, binV_pneq, add_add, add_none, Go.Al.add_zero, Nat.zero_add, Nat.add_zero, IfB_t, IfB_f, Gd_t, Gd_f, Ld_ptr, LdN_ptr, Option.isNone_some, Option.isNone_none, Option.isSome_some, Option.isSome_none, Bool.not_true, Bool.not_false, drew_cell, drew_heap] at key
    simp only [Pu_some, extV_0, extV_1, extV_2, extV_3, nilV_ptr, nilV_fn, faV_ptr, lenV_sl, lenS_s, capV_sl, pickV_t, pickV_f, unV_not, unV_neg, isB_t, isB_f, isB_u, binV_add, binV_sub, binV_mul, binV_eql, binV_neq, binV_lss, binV_leq, binV_gtr, binV_geq, binV_seql, binV_sneq, binV_slss, binV_beql, binV_bneq, binV_peql, binV_pneq, add_add, add_none, Go.Al.add_zero, Nat.zero_add, Nat.add_zero, IfB_t, IfB_f, Gd_t, Gd_f, Ld_ptr, LdN_ptr, Option.isNone_some, Option.isNone_none, Option.isSome_some, Option.isSome_none, Bool.not_true, Bool.not_false, drew_cell, drew_heap, hv.c3, e2]
    exact key
  | false =>
    have hmin : In V.modulus := by obtain ⟨cs, _, h⟩ := hv; exact h.m_in
    simp only [Pu_some, extV_0, extV_1, extV_2, extV_3, nilV_ptr, nilV_fn, faV_ptr, lenV_sl, lenS_s, capV_sl, pickV_t, pickV_f, unV_not, unV_neg, isB_t, isB_f, isB_u, binV_add, binV_sub, binV_mul, binV_eql, binV_neq, binV_lss, binV_leq, binV_gtr, binV_geq, binV_seql, binV_sneq, binV_slss, binV_beql, binV_bneq, binV_peql, binV_pneq, add_add, add_none, Go.Al.add_zero, Nat.zero_add, Nat.add_zero, IfB_t, IfB_f, Gd_t, Gd_f, Ld_ptr, LdN_ptr, Option.isNone_some, Option.isNone_none, Option.isSome_some, Option.isSome_none, Bool.not_true, Bool.not_false, drew_cell, drew_heap, hv.c3, e2, hv.c0, hv.c1]
    refine (rbefore_spec w7 hmin).mono ?_
    rintro _ w8 ⟨rfl, rfl⟩
    cases hbf : xBefore V.modulus who V.next with
    | true =>
      simp only [Pu_some, extV_0, extV_1, extV_2, extV_3, nilV_ptr, nilV_fn, faV_ptr, lenV_sl, lenS_s, capV_sl, pickV_t, pickV_f, unV_not, unV_neg, isB_t, isB_f, isB_u, binV_add, binV_sub, binV_mul, binV_eql, binV_neq, binV_lss, binV_leq, binV_gtr, binV_geq, binV_seql, binV_sneq, binV_slss, binV_beql, binV_bneq, binV_peql, binV_pneq, add_add, add_none, Go.Al.add_zero, Nat.zero_add, Nat.add_zero, IfB_t, IfB_f, Gd_t, Gd_f, Ld_ptr, LdN_ptr, Option.isNone_some, Option.isNone_none, Option.isSome_some, Option.isSome_none, Bool.not_true, Bool.not_false, drew_cell, drew_heap]
      exact aw w8 hF6
    | false =>
      have key := rest w8 (Fm.refl _ _) (by rw [hbf]; simp)
      simp only [Pu_some, extV_0, extV_1, extV_2, extV_3, nilV_ptr, nilV_fn, faV_ptr, lenV_sl, lenS_s, capV_sl, pickV_t, pickV_f, unV_not, unV_neg, isB_t, isB_f, isB_u, binV_add, binV_sub, binV_mul, binV_eql, binV_neq, binV_lss, binV_leq, binV_gtr, binV_geq, binV_seql, binV_sneq, binV_slss, binV_beql, binV_bneq, binV_peql, binV_pneq, add_add, add_none, Go.Al.add_zero, Nat.zero_add, Nat.add_zero, IfB_t, IfB_f, Gd_t, Gd_f, Ld_ptr, LdN_ptr, Option.isNone_some, Option.isNone_none, Option.isSome_some, Option.isSome_none, Bool.not_true, Bool.not_false, drew_cell, drew_heap] at key
      simp only [Pu_some, extV_0, extV_1, extV_2, extV_3, nilV_ptr, nilV_fn, faV_ptr, lenV_sl, lenS_s, capV_sl, pickV_t, pickV_f, unV_not, unV_neg, isB_t, isB_f, isB_u, binV_add, binV_sub, binV_mul, binV_eql, binV_neq, binV_lss, binV_leq, binV_gtr, binV_geq, binV_seql, binV_sneq, binV_slss, binV_beql, binV_bneq, binV_peql, binV_pneq, add_add, add_none, Go.Al.add_zero, Nat.zero_add, Nat.add_zero, IfB_t, IfB_f, Gd_t, Gd_f, Ld_ptr, LdN_ptr, Option.isNone_some, Option.isNone_none, Option.isSome_some, Option.isSome_none, Bool.not_true, Bool.not_false, drew_cell, drew_heap]
      exact key

end Go.Proofs.Ythgdinjgdjiknaa
