/- What package clog does: a status. -/
import Derived.Test.YthgdinjgdjiknaaClog2
namespace Go.Proofs.Ythgdinjgdjiknaa
open Go.Al Go.Proofs
set_option linter.unusedVariables false
set_option linter.unusedSimpArgs false
set_option linter.unusedSectionVars false
set_option maxRecDepth 100000

theorem and_u8_3 (n : Nat) (h : n < 256) : andI .u8 (n : Int) 3 = ((n % 4 : Nat) : Int) := by
  have := and_u8 n 3 h (by decide)
  rw [and3] at this; exact this
theorem PgAs.size {w : World} {cs : Array Value} {p : Pg} (h : PgAs w cs p) : cs.size = 6 := by
  obtain ⟨v, rfl, _⟩ := h.ex; rfl
theorem PgAs.one {w : World} {cs : Array Value} {p : Pg} (h : PgAs w cs p) : ∀ u ∈ cs.toList, u.oneCell' = true := by
  obtain ⟨v, rfl, hc⟩ := h.ex
  obtain ⟨⟨a, cap, rfl, _⟩, _⟩ := hc
  intro u hu; simp at hu; rcases hu with rfl | rfl | rfl | rfl | rfl | rfl <;> rfl

/-- What clogOpen says of its bytes. -/
theorem clogOpen_ok {m : Int} {p : Pg} (h : (clogOpen m p).2.2 = 0) : modOk m = true ∧ (clogOpen m p).2.1 = it1 p ∧ ((it1 p).length : Int) = (m + 3) / 4 ∧ clogOpen m p = ((openR m p).1, it1 p, 0) := by
  unfold clogOpen at h ⊢
  cases h1 : modOk m with
  | false => rw [h1] at h; cases h
  | true =>
    rw [h1] at h
    simp only [Bool.not_true, cond_false] at h ⊢
    cases h2 : (badHead p || decide (((it1 p).length : Int) ≠ (m + 3) / 4)) with
    | true => rw [h2] at h; cases h
    | false =>
      rw [h2] at h
      simp only [cond_false] at h ⊢
      cases h3 : badBody m p with
      | true => rw [h3] at h; cases h
      | false =>
        simp only [Bool.or_eq_false_iff, decide_eq_false_iff_not, Decidable.not_not] at h2
        exact ⟨by trivial, rfl, h2.2, rfl⟩
theorem plN_lt {m x : Int} (hm : modOk m = true) (hx : idOk m x = true) {b : Bs} (hb : (b.length : Int) = (m + 3) / 4) : plN x / 4 < b.length := by
  have := idOk_in hm hx
  unfold plN
  omega

theorem cget_spec {w : World} {cs : Array Value} {p : Pg} (hp : PgAs w cs p) {m : Int} (hm : In m) (x : Int) :
    Cl Try.prog 98 [iv m, .agg cs, iv x] w fun v w' => v = .tuple #[.int .u8 (clogGet m p x).1, iv (clogGet m p x).2] ∧ Fm (fun _ => False) w w' := by
  refine c98 ?_; unfold T98
  refine New_any ?_
  intro g w1 hg hs1 hw1 hf1
  replace hw1 : w1.heap[g]? = some (.cells cs 95) := hw1
  have hp1 := hp.keep hf1
  simp only [Pu_some, extV_0, extV_1, extV_2, extV_3, nilV_ptr, nilV_fn, faV_ptr, lenV_sl, lenS_s, capV_sl, pickV_t, pickV_f, unV_not, unV_neg, isB_t, isB_f, isB_u, binV_add, binV_sub, binV_mul, binV_eql, binV_neq, binV_lss, binV_leq, binV_gtr, binV_geq, binV_seql, binV_sneq, binV_slss, binV_beql, binV_bneq, binV_peql, binV_pneq, add_add, add_none, Go.Al.add_zero, Nat.zero_add, Nat.add_zero, IfB_t, IfB_f, Gd_t, Gd_f, Ld_ptr, LdN_ptr, Option.isNone_some, Option.isNone_none, Option.isSome_some, Option.isSome_none, Bool.not_true, Bool.not_false, drew_cell, drew_heap, cellsV_blk hw1 hp.size]
  refine (copen_spec hp1 hm).mono ?_
  rintro _ w2 ⟨bv, rfl, hf2, hB⟩
  have hF2 := Fmf hf1 hf2
  unfold clogGet
  by_cases h0 : (clogOpen m p).2.2 = 0
  rotate_left
  · have e1 : ((clogOpen m p).2.2 != 0) = true := by rw [bne_dec]; simp [h0]
    have e2 : decide ((clogOpen m p).2.2 ≠ 0) = true := by simpa using h0
    simp only [Pu_some, extV_0, extV_1, extV_2, extV_3, nilV_ptr, nilV_fn, faV_ptr, lenV_sl, lenS_s, capV_sl, pickV_t, pickV_f, unV_not, unV_neg, isB_t, isB_f, isB_u, binV_add, binV_sub, binV_mul, binV_eql, binV_neq, binV_lss, binV_leq, binV_gtr, binV_geq, binV_seql, binV_sneq, binV_slss, binV_beql, binV_bneq, binV_peql, binV_pneq, add_add, add_none, Go.Al.add_zero, Nat.zero_add, Nat.add_zero, IfB_t, IfB_f, Gd_t, Gd_f, Ld_ptr, LdN_ptr, Option.isNone_some, Option.isNone_none, Option.isSome_some, Option.isSome_none, Bool.not_true, Bool.not_false, drew_cell, drew_heap, e1, e2, cond_true]
    exact ⟨(by trivial), hF2⟩
  obtain ⟨hmo, hb1, hlen, _⟩ := clogOpen_ok h0
  obtain ⟨q, cap, rfl, hq, hbx⟩ := hB h0
  have e1 : ((clogOpen m p).2.2 != 0) = false := by rw [h0]; rfl
  have e2 : decide ((clogOpen m p).2.2 ≠ 0) = false := by simpa using h0
  simp only [Pu_some, extV_0, extV_1, extV_2, extV_3, nilV_ptr, nilV_fn, faV_ptr, lenV_sl, lenS_s, capV_sl, pickV_t, pickV_f, unV_not, unV_neg, isB_t, isB_f, isB_u, binV_add, binV_sub, binV_mul, binV_eql, binV_neq, binV_lss, binV_leq, binV_gtr, binV_geq, binV_seql, binV_sneq, binV_slss, binV_beql, binV_bneq, binV_peql, binV_pneq, add_add, add_none, Go.Al.add_zero, Nat.zero_add, Nat.add_zero, IfB_t, IfB_f, Gd_t, Gd_f, Ld_ptr, LdN_ptr, Option.isNone_some, Option.isNone_none, Option.isSome_some, Option.isSome_none, Bool.not_true, Bool.not_false, drew_cell, drew_heap, e1, e2, cond_false]
  refine (isId_spec w2 hm (x := x)).mono ?_
  rintro _ w3 ⟨rfl, hf3⟩
  have hF3 := Fmf hF2 hf3
  cases hid : idOk m x with
  | false =>
    simp only [Pu_some, extV_0, extV_1, extV_2, extV_3, nilV_ptr, nilV_fn, faV_ptr, lenV_sl, lenS_s, capV_sl, pickV_t, pickV_f, unV_not, unV_neg, isB_t, isB_f, isB_u, binV_add, binV_sub, binV_mul, binV_eql, binV_neq, binV_lss, binV_leq, binV_gtr, binV_geq, binV_seql, binV_sneq, binV_slss, binV_beql, binV_bneq, binV_peql, binV_pneq, add_add, add_none, Go.Al.add_zero, Nat.zero_add, Nat.add_zero, IfB_t, IfB_f, Gd_t, Gd_f, Ld_ptr, LdN_ptr, Option.isNone_some, Option.isNone_none, Option.isSome_some, Option.isSome_none, Bool.not_true, Bool.not_false, drew_cell, drew_heap, hmo, Bool.and_false, cond_true]
    exact ⟨(by trivial), hF3⟩
  | true =>
    have hin := idOk_in hmo hid
    simp only [Pu_some, extV_0, extV_1, extV_2, extV_3, nilV_ptr, nilV_fn, faV_ptr, lenV_sl, lenS_s, capV_sl, pickV_t, pickV_f, unV_not, unV_neg, isB_t, isB_f, isB_u, binV_add, binV_sub, binV_mul, binV_eql, binV_neq, binV_lss, binV_leq, binV_gtr, binV_geq, binV_seql, binV_sneq, binV_slss, binV_beql, binV_bneq, binV_peql, binV_pneq, add_add, add_none, Go.Al.add_zero, Nat.zero_add, Nat.add_zero, IfB_t, IfB_f, Gd_t, Gd_f, Ld_ptr, LdN_ptr, Option.isNone_some, Option.isNone_none, Option.isSome_some, Option.isSome_none, Bool.not_true, Bool.not_false, drew_cell, drew_heap, hmo, Bool.and_self, cond_false]
    refine (cplace_spec w3 (by omega)).mono ?_
    rintro _ w4 ⟨rfl, rfl⟩
    have hl : plN x / 4 < (clogOpen m p).2.1.length := by rw [hb1]; exact plN_lt hmo hid hlen
    have hb3 := hbx.keep hf3 (fun e => e)
    unfold stAt
    generalize (clogOpen m p).2.1 = b at hl hb3
    have hbi : b[plN x / 4]? = some (b.getD (plN x / 4) 0) := by rw [List.getD_eq_getElem?_getD, List.getElem?_eq_getElem hl]; rfl
    have c1 := hb3.cell hbi
    generalize b.getD (plN x / 4) 0 = c at c1
    have hc := c.toNat_lt
    have e3 := shr_u8 c.toNat (2 * (plN x % 4)) (by omega) (TypeDesc.int IntKind.u8)
    have e4 := and_u8_3 (c.toNat / 2 ^ (2 * (plN x % 4))) (Nat.lt_of_le_of_lt (Nat.div_le_self _ _) hc)
    simp only [Pu_some, extV_0, extV_1, extV_2, extV_3, nilV_ptr, nilV_fn, faV_ptr, lenV_sl, lenS_s, capV_sl, pickV_t, pickV_f, unV_not, unV_neg, isB_t, isB_f, isB_u, binV_add, binV_sub, binV_mul, binV_eql, binV_neq, binV_lss, binV_leq, binV_gtr, binV_geq, binV_seql, binV_sneq, binV_slss, binV_beql, binV_bneq, binV_peql, binV_pneq, add_add, add_none, Go.Al.add_zero, Nat.zero_add, Nat.add_zero, IfB_t, IfB_f, Gd_t, Gd_f, Ld_ptr, LdN_ptr, Option.isNone_some, Option.isNone_none, Option.isSome_some, Option.isSome_none, Bool.not_true, Bool.not_false, drew_cell, drew_heap, ixV_at hl, Nat.mul_one, c1, e3, binV_and, e4]
    exact ⟨(by trivial), hF3⟩

set_option maxHeartbeats 1000000 in
theorem cset_spec {w : World} {cs : Array Value} {p : Pg} (hp : PgAs w cs p) {m : Int} (hm : In m) (x s : Int) (hs : 0 ≤ s) :
    Cl Try.prog 46 [iv m, .agg cs, iv x, .int .u8 s] w fun v w' => ∃ cs', v = .tuple #[.agg cs', iv (clogSet m p x s).2] ∧ PgAs w' cs' (clogSet m p x s).1 ∧ PgFr w.heap.size cs' (clogSet m p x s).1 ∧ Fm (fun _ => False) w w' := by
  refine c46 ?_; unfold T46
  refine New_any ?_
  intro g w1 hg hs1 hw1 hf1
  replace hw1 : w1.heap[g]? = some (.cells cs 95) := hw1
  refine New_any ?_
  intro g2 w2 hg2 hs2 hw2 hf2
  have hw1' := hf2.heap hw1 (fun e => e)
  have hF2 := Fmf hf1 hf2
  have hp2 := hp.keep hF2
  simp only [Pu_some, extV_0, extV_1, extV_2, extV_3, nilV_ptr, nilV_fn, faV_ptr, lenV_sl, lenS_s, capV_sl, pickV_t, pickV_f, unV_not, unV_neg, isB_t, isB_f, isB_u, binV_add, binV_sub, binV_mul, binV_eql, binV_neq, binV_lss, binV_leq, binV_gtr, binV_geq, binV_seql, binV_sneq, binV_slss, binV_beql, binV_bneq, binV_peql, binV_pneq, add_add, add_none, Go.Al.add_zero, Nat.zero_add, Nat.add_zero, IfB_t, IfB_f, Gd_t, Gd_f, Ld_ptr, LdN_ptr, Option.isNone_some, Option.isNone_none, Option.isSome_some, Option.isSome_none, Bool.not_true, Bool.not_false, drew_cell, drew_heap, cellsV_blk hw1' hp.size]
  refine (copen_spec hp2 hm).mono ?_
  rintro _ w3 ⟨bv, rfl, hf3, hB⟩
  have hF3 := Fmf hF2 hf3
  have hz2 := hF2.size
  have hz3 := hf3.size
  have bad : ∀ (w4 : World) (e : Int), Fm (fun _ => False) w3 w4 → clogSet m p x s = (pg0, e) →
      RunS Try.prog (Instr.build 95 #[]) w4 fun t w5 =>
      St 6 w5 (pv g2) t fun u w6 =>
      RetO (resL Try.prog (fun j => bif Nat.beq j 8 then pv g2 else bif Nat.beq j 9 then iv e else undef) w6 [(ResultVar.cell 8 95), (ResultVar.tmp 9)]) w6 fun v w' => ∃ cs', v = .tuple #[.agg cs', iv (clogSet m p x s).2] ∧ PgAs w' cs' (clogSet m p x s).1 ∧ PgFr w.heap.size cs' (clogSet m p x s).1 ∧ Fm (fun _ => False) w w' := by
    intro w4 e hf4 hb
    refine RunS_ok (bld95z _) ?_
    refine St_all (hf4.heap (hf3.heap hw2 (fun e => e)) (fun e => e)) rfl rfl (by intro u hu; simp at hu; rcases hu with rfl | rfl | rfl <;> rfl) ?_
    intro w5 hw5 hs5 hf5
    refine retPg2 (i := 8) (j := 9) hw5 rfl rfl rfl _ ?_
    rw [hb]
    exact ⟨_, rfl, pgAs0 _, pgFr0 _ _, Fm.own (Fmf hF3 hf4) hf5 (by rintro x rfl; omega)⟩
  by_cases h0 : (clogOpen m p).2.2 = 0
  rotate_left
  · have e1 : ((clogOpen m p).2.2 != 0) = true := by rw [bne_dec]; simp [h0]
    have b := bad w3 _ (Fm.refl _ _) (by unfold clogSet; rw [show decide ((clogOpen m p).2.2 ≠ 0) = true by simpa using h0]; rfl)
    simp only [Pu_some, extV_0, extV_1, extV_2, extV_3, nilV_ptr, nilV_fn, faV_ptr, lenV_sl, lenS_s, capV_sl, pickV_t, pickV_f, unV_not, unV_neg, isB_t, isB_f, isB_u, binV_add, binV_sub, binV_mul, binV_eql, binV_neq, binV_lss, binV_leq, binV_gtr, binV_geq, binV_seql, binV_sneq, binV_slss, binV_beql, binV_bneq, binV_peql, binV_pneq, add_add, add_none, Go.Al.add_zero, Nat.zero_add, Nat.add_zero, IfB_t, IfB_f, Gd_t, Gd_f, Ld_ptr, LdN_ptr, Option.isNone_some, Option.isNone_none, Option.isSome_some, Option.isSome_none, Bool.not_true, Bool.not_false, drew_cell, drew_heap, e1]
    exact b
  obtain ⟨hmo, hb1, hlen, hope⟩ := clogOpen_ok h0
  obtain ⟨q, cap, rfl, hq, hbx⟩ := hB h0
  have e1 : ((clogOpen m p).2.2 != 0) = false := by rw [h0]; rfl
  have hcs : clogSet m p x s = bif !idOk m x || decide (3 < s) then (pg0, 1) else (clogMade (clogOpen m p).1 (clogPut (clogOpen m p).2.1 x s) p.lsn, 0) := by
    unfold clogSet
    rw [show decide ((clogOpen m p).2.2 ≠ 0) = false by simpa using h0, hmo, Bool.true_and]; rfl
  simp only [Pu_some, extV_0, extV_1, extV_2, extV_3, nilV_ptr, nilV_fn, faV_ptr, lenV_sl, lenS_s, capV_sl, pickV_t, pickV_f, unV_not, unV_neg, isB_t, isB_f, isB_u, binV_add, binV_sub, binV_mul, binV_eql, binV_neq, binV_lss, binV_leq, binV_gtr, binV_geq, binV_seql, binV_sneq, binV_slss, binV_beql, binV_bneq, binV_peql, binV_pneq, add_add, add_none, Go.Al.add_zero, Nat.zero_add, Nat.add_zero, IfB_t, IfB_f, Gd_t, Gd_f, Ld_ptr, LdN_ptr, Option.isNone_some, Option.isNone_none, Option.isSome_some, Option.isSome_none, Bool.not_true, Bool.not_false, drew_cell, drew_heap, e1]
  refine (isId_spec w3 hm (x := x)).mono ?_
  rintro _ w4 ⟨rfl, hf4⟩
  have hF4 := Fmf hF3 hf4
  cases hid : idOk m x with
  | false =>
    have b := bad w4 1 hf4 (by rw [hcs, hid]; rfl)
    simp only [Pu_some, extV_0, extV_1, extV_2, extV_3, nilV_ptr, nilV_fn, faV_ptr, lenV_sl, lenS_s, capV_sl, pickV_t, pickV_f, unV_not, unV_neg, isB_t, isB_f, isB_u, binV_add, binV_sub, binV_mul, binV_eql, binV_neq, binV_lss, binV_leq, binV_gtr, binV_geq, binV_seql, binV_sneq, binV_slss, binV_beql, binV_bneq, binV_peql, binV_pneq, add_add, add_none, Go.Al.add_zero, Nat.zero_add, Nat.add_zero, IfB_t, IfB_f, Gd_t, Gd_f, Ld_ptr, LdN_ptr, Option.isNone_some, Option.isNone_none, Option.isSome_some, Option.isSome_none, Bool.not_true, Bool.not_false, drew_cell, drew_heap, hmo, Bool.and_false]
    exact b
  | true =>
    have hin := idOk_in hmo hid
    by_cases h3 : 3 < s
    · have e3 : decide (3 < s) = true := by simpa using h3
      have b := bad w4 1 hf4 (by rw [hcs, hid, e3]; rfl)
      simp only [Pu_some, extV_0, extV_1, extV_2, extV_3, nilV_ptr, nilV_fn, faV_ptr, lenV_sl, lenS_s, capV_sl, pickV_t, pickV_f, unV_not, unV_neg, isB_t, isB_f, isB_u, binV_add, binV_sub, binV_mul, binV_eql, binV_neq, binV_lss, binV_leq, binV_gtr, binV_geq, binV_seql, binV_sneq, binV_slss, binV_beql, binV_bneq, binV_peql, binV_pneq, add_add, add_none, Go.Al.add_zero, Nat.zero_add, Nat.add_zero, IfB_t, IfB_f, Gd_t, Gd_f, Ld_ptr, LdN_ptr, Option.isNone_some, Option.isNone_none, Option.isSome_some, Option.isSome_none, Bool.not_true, Bool.not_false, drew_cell, drew_heap, hmo, Bool.and_self, e3]
      exact b
    have e3 : decide (3 < s) = false := by simpa using h3
    rw [hcs, hid, e3]
    simp only [Pu_some, extV_0, extV_1, extV_2, extV_3, nilV_ptr, nilV_fn, faV_ptr, lenV_sl, lenS_s, capV_sl, pickV_t, pickV_f, unV_not, unV_neg, isB_t, isB_f, isB_u, binV_add, binV_sub, binV_mul, binV_eql, binV_neq, binV_lss, binV_leq, binV_gtr, binV_geq, binV_seql, binV_sneq, binV_slss, binV_beql, binV_bneq, binV_peql, binV_pneq, add_add, add_none, Go.Al.add_zero, Nat.zero_add, Nat.add_zero, IfB_t, IfB_f, Gd_t, Gd_f, Ld_ptr, LdN_ptr, Option.isNone_some, Option.isNone_none, Option.isSome_some, Option.isSome_none, Bool.not_true, Bool.not_false, drew_cell, drew_heap, hmo, Bool.and_self, e3, Bool.or_self, cond_false]
    have hl : plN x / 4 < (clogOpen m p).2.1.length := by rw [hb1]; exact plN_lt hmo hid hlen
    have hb4 := hbx.keep hf4 (fun e => e)
    refine (cput_spec hb4 (x := x) (s := s) (by omega) hl).mono ?_
    rintro _ w5 ⟨hb5, hf5⟩
    have hgs : g < w2.heap.size := lt_of_heap hw1'
    have hg2s : g2 < w2.heap.size := lt_of_heap hw2
    have hF5 : Fm (fun _ => False) w w5 := Fm.own hF4 hf5 (by rintro x rfl; omega)
    have hw5 := hf5.heap (hf4.heap (hf3.heap hw1' (fun e => e)) (fun e => e)) (by omega)
    have hw5' := hf5.heap (hf4.heap (hf3.heap hw2 (fun e => e)) (fun e => e)) (by omega)
    obtain ⟨iv0, hce, hit⟩ := hp.ex
    have hc0 : w5.cell? ⟨g, 0, none⟩ = some (iv p.lsn) := by rw [cell_at hw5, hce]; rfl
    simp only [Pu_some, extV_0, extV_1, extV_2, extV_3, nilV_ptr, nilV_fn, faV_ptr, lenV_sl, lenS_s, capV_sl, pickV_t, pickV_f, unV_not, unV_neg, isB_t, isB_f, isB_u, binV_add, binV_sub, binV_mul, binV_eql, binV_neq, binV_lss, binV_leq, binV_gtr, binV_geq, binV_seql, binV_sneq, binV_slss, binV_beql, binV_bneq, binV_peql, binV_pneq, add_add, add_none, Go.Al.add_zero, Nat.zero_add, Nat.add_zero, IfB_t, IfB_f, Gd_t, Gd_f, Ld_ptr, LdN_ptr, Option.isNone_some, Option.isNone_none, Option.isSome_some, Option.isSome_none, Bool.not_true, Bool.not_false, drew_cell, drew_heap, hc0]
    have hlim := rdN_in m 9 0 0 (it0 p)
    have hop1 : (clogOpen m p).1 ≤ 9223372036854775807 := by
      rw [hope]
      show (rdNum m (it0 p) 0).1 ≤ _
      show (rdN m 9 0 0 (it0 p)).1 ≤ _
      omega
    have hlp : (clogPut (clogOpen m p).2.1 x s).length = (clogOpen m p).2.1.length := by unfold clogPut; rw [List.length_set]
    refine (cmade_spec (clogOpen m p).1 p.lsn hb5 (cap := cap) (by rw [hlp]) hop1 (by rw [hlp, hb1]; omega)).mono ?_
    rintro _ w6 ⟨cs', rfl, hpn, hf6⟩
    obtain ⟨hsz, hone⟩ := hpn.one
    have hz4 := hf4.size
    have hz5 := hf5.size
    have hz6 := hf6.size
    refine St_all (hf6.heap hw5' (fun e => e)) rfl hsz hone ?_
    intro w7 hw7 hs7 hf7
    refine retPg2 (i := 8) (j := 9) hw7 hsz rfl rfl _ ?_
    exact ⟨_, rfl, (hpn.keep hf7 (by rintro x rfl; omega)).as, hpn.fr.mono (by omega), Fm.own (Fmf hF5 hf6) hf7 (by rintro x rfl; omega)⟩

end Go.Proofs.Ythgdinjgdjiknaa
