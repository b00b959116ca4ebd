/- The document's answer: what a view sees. -/
import Derived.Test.YthgdinjgdjiknaaSnapRef2
namespace Go.Proofs.Ythgdinjgdjiknaa
open Go.Al Go.Proofs
set_option linter.unusedVariables false
set_option linter.unusedSimpArgs false
set_option linter.unusedSectionVars false
set_option maxRecDepth 100000

theorem rget_spec {w : World} {cs : Array Value} {p : Pg} (hp : PgAs w cs p) {m : Int} (hm : In m) (x : Int) :
    Cl Try.prog 100 [iv m, .agg cs, iv x] w fun v w' => v = .tuple #[.int .u8 (clogGet m p x).1, iv (clogGet m p x).2] ∧ Fm (fun _ => False) w w' := by
  refine c100 ?_; unfold T100
  refine New_any ?_
  intro g w1 hg hs1 hw1 hf1
  replace hw1 : w1.heap[g]? = some (.cells cs 95) := hw1
  have hp1 := hp.keep hf1
  simp only [Pu_some, extV_0, extV_1, extV_2, extV_3, nilV_ptr, nilV_fn, faV_ptr, lenV_sl, lenS_s, capV_sl, pickV_t, pickV_f, unV_not, unV_neg, isB_t, isB_f, isB_u, binV_add, binV_sub, binV_mul, binV_eql, binV_neq, binV_lss, binV_leq, binV_gtr, binV_geq, binV_seql, binV_sneq, binV_slss, binV_beql, binV_bneq, binV_peql, binV_pneq, add_add, add_none, Go.Al.add_zero, Nat.zero_add, Nat.add_zero, IfB_t, IfB_f, Gd_t, Gd_f, Ld_ptr, LdN_ptr, Option.isNone_some, Option.isNone_none, Option.isSome_some, Option.isSome_none, Bool.not_true, Bool.not_false, drew_cell, drew_heap, cellsV_blk hw1 hp.size]
  refine (rtaken_spec hp1 hm).mono ?_
  rintro _ w2 ⟨ov, rfl, hf2, hB⟩
  have hF2 := Fmf hf1 hf2
  unfold clogGet
  by_cases h0 : (clogOpen m p).2.2 = 0
  rotate_left
  · have e1 : ((clogOpen m p).2.2 != 0) = true := by rw [bne_dec]; simp [h0]
    have e2 : decide ((clogOpen m p).2.2 ≠ 0) = true := by simpa using h0
    simp only [Pu_some, extV_0, extV_1, extV_2, extV_3, nilV_ptr, nilV_fn, faV_ptr, lenV_sl, lenS_s, capV_sl, pickV_t, pickV_f, unV_not, unV_neg, isB_t, isB_f, isB_u, binV_add, binV_sub, binV_mul, binV_eql, binV_neq, binV_lss, binV_leq, binV_gtr, binV_geq, binV_seql, binV_sneq, binV_slss, binV_beql, binV_bneq, binV_peql, binV_pneq, add_add, add_none, Go.Al.add_zero, Nat.zero_add, Nat.add_zero, IfB_t, IfB_f, Gd_t, Gd_f, Ld_ptr, LdN_ptr, Option.isNone_some, Option.isNone_none, Option.isSome_some, Option.isSome_none, Bool.not_true, Bool.not_false, drew_cell, drew_heap, e1, e2, cond_true]
    exact ⟨(by trivial), hF2⟩
  obtain ⟨hmo, hb1, hlen, _⟩ := clogOpen_ok h0
  have hcs := hB h0
  have e1 : ((clogOpen m p).2.2 != 0) = false := by rw [h0]; rfl
  have e2 : decide ((clogOpen m p).2.2 ≠ 0) = false := by simpa using h0
  by_cases hx1 : x < 1
  · have e3 : decide (x < 1) = true := by simpa using hx1
    have hid : idOk m x = false := by unfold idOk; rw [decide_eq_false_iff_not]; omega
    simp only [Pu_some, extV_0, extV_1, extV_2, extV_3, nilV_ptr, nilV_fn, faV_ptr, lenV_sl, lenS_s, capV_sl, pickV_t, pickV_f, unV_not, unV_neg, isB_t, isB_f, isB_u, binV_add, binV_sub, binV_mul, binV_eql, binV_neq, binV_lss, binV_leq, binV_gtr, binV_geq, binV_seql, binV_sneq, binV_slss, binV_beql, binV_bneq, binV_peql, binV_pneq, add_add, add_none, Go.Al.add_zero, Nat.zero_add, Nat.add_zero, IfB_t, IfB_f, Gd_t, Gd_f, Ld_ptr, LdN_ptr, Option.isNone_some, Option.isNone_none, Option.isSome_some, Option.isSome_none, Bool.not_true, Bool.not_false, drew_cell, drew_heap, e1, e2, cond_false, e3, hmo, hid, Bool.and_false, cond_true]
    exact ⟨(by trivial), hF2⟩
  have e3 : decide (x < 1) = false := by simpa using hx1
  by_cases hx2 : m < x
  · have e4 : decide (m < x) = true := by simpa using hx2
    have hid : idOk m x = false := by unfold idOk; rw [decide_eq_false_iff_not]; omega
    simp only [Pu_some, extV_0, extV_1, extV_2, extV_3, nilV_ptr, nilV_fn, faV_ptr, lenV_sl, lenS_s, capV_sl, pickV_t, pickV_f, unV_not, unV_neg, isB_t, isB_f, isB_u, binV_add, binV_sub, binV_mul, binV_eql, binV_neq, binV_lss, binV_leq, binV_gtr, binV_geq, binV_seql, binV_sneq, binV_slss, binV_beql, binV_bneq, binV_peql, binV_pneq, add_add, add_none, Go.Al.add_zero, Nat.zero_add, Nat.add_zero, IfB_t, IfB_f, Gd_t, Gd_f, Ld_ptr, LdN_ptr, Option.isNone_some, Option.isNone_none, Option.isSome_some, Option.isSome_none, Bool.not_true, Bool.not_false, drew_cell, drew_heap, e1, e2, cond_false, e3, e4, hmo, hid, Bool.and_false, cond_true]
    exact ⟨(by trivial), hF2⟩
  have e4 : decide (m < x) = false := by simpa using hx2
  have hid : idOk m x = true := by unfold idOk; rw [decide_eq_true_eq]; omega
  have hin := idOk_in hmo hid
  obtain ⟨n, hn⟩ := Int.eq_ofNat_of_zero_le (show 0 ≤ x - 1 by omega)
  have hxe : x = (n : Int) + 1 := by omega
  have e5 : IntKind.i64.wrap (x - 1) = (n : Int) := by rw [wrap_id] <;> omega
  obtain ⟨ad, hix, _, hc⟩ := hcs.at1 (i := n) (x := .int .u8 ((stD (clogOpen m p).2.1 n : Nat) : Int)) (by
    unfold sts
    rw [List.getElem?_map, List.getElem?_range (by omega)]; rfl) .i64
  simp only [Pu_some, extV_0, extV_1, extV_2, extV_3, nilV_ptr, nilV_fn, faV_ptr, lenV_sl, lenS_s, capV_sl, pickV_t, pickV_f, unV_not, unV_neg, isB_t, isB_f, isB_u, binV_add, binV_sub, binV_mul, binV_eql, binV_neq, binV_lss, binV_leq, binV_gtr, binV_geq, binV_seql, binV_sneq, binV_slss, binV_beql, binV_bneq, binV_peql, binV_pneq, add_add, add_none, Go.Al.add_zero, Nat.zero_add, Nat.add_zero, IfB_t, IfB_f, Gd_t, Gd_f, Ld_ptr, LdN_ptr, Option.isNone_some, Option.isNone_none, Option.isSome_some, Option.isSome_none, Bool.not_true, Bool.not_false, drew_cell, drew_heap, e1, e2, cond_false, e3, e4, e5, hix, hc, hmo, hid, Bool.and_self]
  rw [hxe, stAt_D]
  exact ⟨(by trivial), hF2⟩

theorem rcontains_spec {w : World} {v : Value} {l : List Int} (hl : CellsAt w v l.length 1 (l.map iv)) (x : Int) : Cl Try.prog 99 [v, iv x] w fun r w' => r = .bool (decide (x ∈ l)) ∧ w' = w := by
  have hlt := hl.lt
  unfold maxLen at hlt
  refine c99 ?_; unfold T99
  refine ⟨fun vs w2 => ∃ k : Nat, vs = [iv k] ∧ k ≤ l.length ∧ x ∉ l.take k ∧ w2 = w, fun vs _ => (l.length - nth vs 0).toNat, ⟨0, rfl, by omega, by simp, rfl⟩, ?_⟩
  rintro _ w2 ik ⟨k, hvs, hk, hno, rfl⟩
  cases hvs
  by_cases hlt2 : k < l.length
  · have e1 : decide ((k : Int) < (l.length : Int)) = true := by rw [decide_eq_true_eq]; omega
    have e2 : IntKind.i64.wrap ((k : Int) + 1) = ((k + 1 : Nat) : Int) := by rw [wrap_id] <;> omega
    have hx : l[k]? = some l[k] := List.getElem?_eq_getElem hlt2
    have hmem : l[k] ∈ l := List.getElem_mem hlt2
    generalize l[k] = y at hx hmem
    obtain ⟨ad, hix, _, hc⟩ := hl.at1 (i := k) (x := iv y) (by rw [List.getElem?_map, hx]; rfl) .i64
    simp only [Pu_some, extV_0, extV_1, extV_2, extV_3, nilV_ptr, nilV_fn, faV_ptr, lenV_sl, lenS_s, capV_sl, pickV_t, pickV_f, unV_not, unV_neg, isB_t, isB_f, isB_u, binV_add, binV_sub, binV_mul, binV_eql, binV_neq, binV_lss, binV_leq, binV_gtr, binV_geq, binV_seql, binV_sneq, binV_slss, binV_beql, binV_bneq, binV_peql, binV_pneq, add_add, add_none, Go.Al.add_zero, Nat.zero_add, Nat.add_zero, IfB_t, IfB_f, Gd_t, Gd_f, Ld_ptr, LdN_ptr, Option.isNone_some, Option.isNone_none, Option.isSome_some, Option.isSome_none, Bool.not_true, Bool.not_false, drew_cell, drew_heap, hl.lenV, e1, hix, hc]
    by_cases hxy : y = x
    · subst hxy
      simp only [Pu_some, extV_0, extV_1, extV_2, extV_3, nilV_ptr, nilV_fn, faV_ptr, lenV_sl, lenS_s, capV_sl, pickV_t, pickV_f, unV_not, unV_neg, isB_t, isB_f, isB_u, binV_add, binV_sub, binV_mul, binV_eql, binV_neq, binV_lss, binV_leq, binV_gtr, binV_geq, binV_seql, binV_sneq, binV_slss, binV_beql, binV_bneq, binV_peql, binV_pneq, add_add, add_none, Go.Al.add_zero, Nat.zero_add, Nat.add_zero, IfB_t, IfB_f, Gd_t, Gd_f, Ld_ptr, LdN_ptr, Option.isNone_some, Option.isNone_none, Option.isSome_some, Option.isSome_none, Bool.not_true, Bool.not_false, drew_cell, drew_heap, beq_self_eq_true]
      refine ⟨?_, (by trivial)⟩
      rw [show decide (y ∈ l) = true by simpa using hmem]
    · have e3 : (y == x) = false := by simpa using hxy
      simp only [Pu_some, extV_0, extV_1, extV_2, extV_3, nilV_ptr, nilV_fn, faV_ptr, lenV_sl, lenS_s, capV_sl, pickV_t, pickV_f, unV_not, unV_neg, isB_t, isB_f, isB_u, binV_add, binV_sub, binV_mul, binV_eql, binV_neq, binV_lss, binV_leq, binV_gtr, binV_geq, binV_seql, binV_sneq, binV_slss, binV_beql, binV_bneq, binV_peql, binV_pneq, add_add, add_none, Go.Al.add_zero, Nat.zero_add, Nat.add_zero, IfB_t, IfB_f, Gd_t, Gd_f, Ld_ptr, LdN_ptr, Option.isNone_some, Option.isNone_none, Option.isSome_some, Option.isSome_none, Bool.not_true, Bool.not_false, drew_cell, drew_heap, e3, e2]
      refine ⟨⟨k + 1, rfl, by omega, ?_, (by trivial)⟩, by simp only [nth_0]; omega⟩
      rw [List.take_add_one, hx]
      simp only [Option.toList_some, List.mem_append, List.mem_singleton, not_or]
      exact ⟨hno, fun e => hxy e.symm⟩
  · have hke : k = l.length := by omega
    subst hke
    have e1 : decide (((l.length : Nat) : Int) < (l.length : Int)) = false := by simp
    rw [List.take_length] at hno
    simp only [Pu_some, extV_0, extV_1, extV_2, extV_3, nilV_ptr, nilV_fn, faV_ptr, lenV_sl, lenS_s, capV_sl, pickV_t, pickV_f, unV_not, unV_neg, isB_t, isB_f, isB_u, binV_add, binV_sub, binV_mul, binV_eql, binV_neq, binV_lss, binV_leq, binV_gtr, binV_geq, binV_seql, binV_sneq, binV_slss, binV_beql, binV_bneq, binV_peql, binV_pneq, add_add, add_none, Go.Al.add_zero, Nat.zero_add, Nat.add_zero, IfB_t, IfB_f, Gd_t, Gd_f, Ld_ptr, LdN_ptr, Option.isNone_some, Option.isNone_none, Option.isSome_some, Option.isSome_none, Bool.not_true, Bool.not_false, drew_cell, drew_heap, hl.lenV, e1]
    refine ⟨?_, (by trivial)⟩
    rw [show decide (x ∈ l) = false by simpa using hno]

theorem rstatus_spec {w : World} {cs : Array Value} {v : Vx} (hv : VwAs w cs v) (x : Int) : Cl Try.prog 48 [.agg cs, iv x] w fun r w' => r = .int .u8 (status v x) ∧ Fm (fun _ => False) w w' := by
  refine c48 ?_; unfold T48
  refine New_any ?_
  intro g w1 hg hs1 hw1 hf1
  have hv1 : VwAt w1 g v := ⟨cs, hw1, hv.keep hf1⟩
  obtain ⟨rv, hc4, hrv⟩ := hv1.c4
  simp only [Pu_some, extV_0, extV_1, extV_2, extV_3, nilV_ptr, nilV_fn, faV_ptr, lenV_sl, lenS_s, capV_sl, pickV_t, pickV_f, unV_not, unV_neg, isB_t, isB_f, isB_u, binV_add, binV_sub, binV_mul, binV_eql, binV_neq, binV_lss, binV_leq, binV_gtr, binV_geq, binV_seql, binV_sneq, binV_slss, binV_beql, binV_bneq, binV_peql, binV_pneq, add_add, add_none, Go.Al.add_zero, Nat.zero_add, Nat.add_zero, IfB_t, IfB_f, Gd_t, Gd_f, Ld_ptr, LdN_ptr, Option.isNone_some, Option.isNone_none, Option.isSome_some, Option.isSome_none, Bool.not_true, Bool.not_false, drew_cell, drew_heap, hc4]
  refine (rcontains_spec hrv x).mono ?_
  rintro _ w2 ⟨rfl, rfl⟩
  unfold status
  cases decide (x ∈ v.running) with
  | true =>
    simp only [Pu_some, extV_0, extV_1, extV_2, extV_3, nilV_ptr, nilV_fn, faV_ptr, lenV_sl, lenS_s, capV_sl, pickV_t, pickV_f, unV_not, unV_neg, isB_t, isB_f, isB_u, binV_add, binV_sub, binV_mul, binV_eql, binV_neq, binV_lss, binV_leq, binV_gtr, binV_geq, binV_seql, binV_sneq, binV_slss, binV_beql, binV_bneq, binV_peql, binV_pneq, add_add, add_none, Go.Al.add_zero, Nat.zero_add, Nat.add_zero, IfB_t, IfB_f, Gd_t, Gd_f, Ld_ptr, LdN_ptr, Option.isNone_some, Option.isNone_none, Option.isSome_some, Option.isSome_none, Bool.not_true, Bool.not_false, drew_cell, drew_heap, cond_true]
    exact ⟨(by trivial), hf1⟩
  | false =>
    obtain ⟨ps, hps, hpa⟩ := hv1.pg
    simp only [Pu_some, extV_0, extV_1, extV_2, extV_3, nilV_ptr, nilV_fn, faV_ptr, lenV_sl, lenS_s, capV_sl, pickV_t, pickV_f, unV_not, unV_neg, isB_t, isB_f, isB_u, binV_add, binV_sub, binV_mul, binV_eql, binV_neq, binV_lss, binV_leq, binV_gtr, binV_geq, binV_seql, binV_sneq, binV_slss, binV_beql, binV_bneq, binV_peql, binV_pneq, add_add, add_none, Go.Al.add_zero, Nat.zero_add, Nat.add_zero, IfB_t, IfB_f, Gd_t, Gd_f, Ld_ptr, LdN_ptr, Option.isNone_some, Option.isNone_none, Option.isSome_some, Option.isSome_none, Bool.not_true, Bool.not_false, drew_cell, drew_heap, cond_false, hv1.c0, hps]
    refine (rget_spec hpa hv.m_in x).mono ?_
    rintro _ w3 ⟨rfl, hf3⟩
    by_cases h0 : (clogGet v.modulus v.clog x).2 = 0
    · have e1 : ((clogGet v.modulus v.clog x).2 != 0) = false := by rw [h0]; rfl
      simp only [Pu_some, extV_0, extV_1, extV_2, extV_3, nilV_ptr, nilV_fn, faV_ptr, lenV_sl, lenS_s, capV_sl, pickV_t, pickV_f, unV_not, unV_neg, isB_t, isB_f, isB_u, binV_add, binV_sub, binV_mul, binV_eql, binV_neq, binV_lss, binV_leq, binV_gtr, binV_geq, binV_seql, binV_sneq, binV_slss, binV_beql, binV_bneq, binV_peql, binV_pneq, add_add, add_none, Go.Al.add_zero, Nat.zero_add, Nat.add_zero, IfB_t, IfB_f, Gd_t, Gd_f, Ld_ptr, LdN_ptr, Option.isNone_some, Option.isNone_none, Option.isSome_some, Option.isSome_none, Bool.not_true, Bool.not_false, drew_cell, drew_heap, e1]
      exact ⟨(by trivial), Fmf hf1 hf3⟩
    · have e1 : ((clogGet v.modulus v.clog x).2 != 0) = true := by rw [bne_dec]; simp [h0]
      simp only [Pu_some, extV_0, extV_1, extV_2, extV_3, nilV_ptr, nilV_fn, faV_ptr, lenV_sl, lenS_s, capV_sl, pickV_t, pickV_f, unV_not, unV_neg, isB_t, isB_f, isB_u, binV_add, binV_sub, binV_mul, binV_eql, binV_neq, binV_lss, binV_leq, binV_gtr, binV_geq, binV_seql, binV_sneq, binV_slss, binV_beql, binV_bneq, binV_peql, binV_pneq, add_add, add_none, Go.Al.add_zero, Nat.zero_add, Nat.add_zero, IfB_t, IfB_f, Gd_t, Gd_f, Ld_ptr, LdN_ptr, Option.isNone_some, Option.isNone_none, Option.isSome_some, Option.isSome_none, Bool.not_true, Bool.not_false, drew_cell, drew_heap, e1]
      rw [clogGet_err h0]
      exact ⟨(by trivial), Fmf hf1 hf3⟩

theorem status_zero (v : Vx) : status v 0 ≠ 2 := by
  unfold status
  cases decide ((0 : Int) ∈ v.running) with
  | true => simp
  | false =>
    simp only [cond_false]
    unfold clogGet
    cases decide ((clogOpen v.modulus v.clog).2.2 ≠ 0) with
    | true => simp
    | false =>
      have : idOk v.modulus 0 = false := by unfold idOk; rw [decide_eq_false_iff_not]; omega
      rw [this]; simp
/-- As the document puts it. -/
theorem sees_alt (v : Vx) (x : Int) : sees v x = ((decide (x ≠ 0) && decide (x = v.own)) || (decide (status v x = 2) && xBefore v.modulus x v.next && !decide (x ∈ v.active))) := by
  unfold sees
  by_cases h0 : x = 0
  · have e2 : decide (x = 0) = true := by simpa using h0
    have e3 : decide (status v x = 2) = false := by rw [h0]; simpa using status_zero v
    rw [e2, e3]
    simp [h0]
  · have e2 : decide (x = 0) = false := by simpa using h0
    have e3 : decide (x ≠ 0) = true := by simpa using h0
    rw [e2, e3]
    cases decide (x = v.own) <;> cases decide (x ∈ v.active) <;> cases xBefore v.modulus x v.next <;> cases decide (status v x = 2) <;> rfl
theorem unseen_alt (v : Vx) (x : Int) : unseen v x = (decide (status v x = 2) && !sees v x) := by
  unfold unseen
  by_cases h0 : x = 0
  · have e3 : decide (status v x = 2) = false := by rw [h0]; simpa using status_zero v
    rw [e3]; simp
  · have e3 : decide (x ≠ 0) = true := by simpa using h0
    rw [e3]
    cases decide (status v x = 2) <;> cases sees v x <;> rfl

theorem rsees_spec {w : World} {cs : Array Value} {v : Vx} (hv : VwAs w cs v) (x : Int) : Cl Try.prog 49 [.agg cs, iv x] w fun r w' => r = .bool (sees v x) ∧ Fm (fun _ => False) w w' := by
  refine c49 ?_; unfold T49
  refine New_any ?_
  intro g w1 hg hs1 hw1 hf1
  have hv1 : VwAt w1 g v := ⟨cs, hw1, hv.keep hf1⟩
  rw [sees_alt]
  have rest : (LdN 11 w1 (pv g) fun t13_13 w_14 =>
  Cl Try.prog 48 [t13_13, iv x] w_14 fun t15_15 w_16 =>
  Pu (binV (TypeDesc.int IntKind.u8) .eql t15_15 (Value.int IntKind.u8 2)) fun t16_17 =>
  Gd (isB true t16_17) (fun kk => Pu (faV 0 (pv g)) fun vv => kk vv w_16) w_16 fun t18_18 w_19 =>
  Gd (isB true t16_17) (fun kk => Ld w_19 t18_18 kk) w_19 fun t19_20 w_21 =>
  Gd (isB true t16_17) (fun kk => kk (iv x) w_21) w_21 fun t20_22 w_23 =>
  Gd (isB true t16_17) (fun kk => Pu (faV 1 (pv g)) fun vv => kk vv w_23) w_23 fun t21_24 w_25 =>
  Gd (isB true t16_17) (fun kk => Pu (faV 0 t21_24) fun vv => kk vv w_25) w_25 fun t22_26 w_27 =>
  Gd (isB true t16_17) (fun kk => Ld w_27 t22_26 kk) w_27 fun t23_28 w_29 =>
  Gd (isB true t16_17) (fun kk => Cl Try.prog 45 [t19_20, t20_22, t23_28] w_29 kk) w_29 fun t24_30 w_31 =>
  Pu (pickV t16_17 t24_30 (Value.bool false)) fun t25_32 =>
  Gd (isB true t25_32) (fun kk => Pu (faV 1 (pv g)) fun vv => kk vv w_31) w_31 fun t27_33 w_34 =>
  Gd (isB true t25_32) (fun kk => Pu (faV 1 t27_33) fun vv => kk vv w_34) w_34 fun t28_35 w_36 =>
  Gd (isB true t25_32) (fun kk => Ld w_36 t28_35 kk) w_36 fun t29_37 w_38 =>
  Gd (isB true t25_32) (fun kk => kk (iv x) w_38) w_38 fun t30_39 w_40 =>
  Gd (isB true t25_32) (fun kk => Cl Try.prog 99 [t29_37, t30_39] w_40 kk) w_40 fun t31_41 w_42 =>
  Gd (isB true t25_32) (fun kk => Pu (unV .not t31_41) fun vv => kk vv w_42) w_42 fun t32_43 w_44 =>
  Pu (pickV t25_32 t32_43 (Value.bool false)) fun t33_45 =>
  t33_45 = .bool (decide (status v x = 2) && xBefore v.modulus x v.next && !decide (x ∈ v.active)) ∧ Fm (fun _ => False) w w_44) := by
    obtain ⟨cs2, hall, hva⟩ := hv1.all
    simp only [Pu_some, extV_0, extV_1, extV_2, extV_3, nilV_ptr, nilV_fn, faV_ptr, lenV_sl, lenS_s, capV_sl, pickV_t, pickV_f, unV_not, unV_neg, isB_t, isB_f, isB_u, binV_add, binV_sub, binV_mul, binV_eql, binV_neq, binV_lss, binV_leq, binV_gtr, binV_geq, binV_seql, binV_sneq, binV_slss, binV_beql, binV_bneq, binV_peql, binV_pneq, add_add, add_none, Go.Al.add_zero, Nat.zero_add, Nat.add_zero, IfB_t, IfB_f, Gd_t, Gd_f, Ld_ptr, LdN_ptr, Option.isNone_some, Option.isNone_none, Option.isSome_some, Option.isSome_none, Bool.not_true, Bool.not_false, drew_cell, drew_heap, hall]
    refine (rstatus_spec hva x).mono ?_
    rintro _ w2 ⟨rfl, hf2⟩
    have hv2 := hv1.keep hf2
    have hF2 := Fmf hf1 hf2
    simp only [Pu_some, extV_0, extV_1, extV_2, extV_3, nilV_ptr, nilV_fn, faV_ptr, lenV_sl, lenS_s, capV_sl, pickV_t, pickV_f, unV_not, unV_neg, isB_t, isB_f, isB_u, binV_add, binV_sub, binV_mul, binV_eql, binV_neq, binV_lss, binV_leq, binV_gtr, binV_geq, binV_seql, binV_sneq, binV_slss, binV_beql, binV_bneq, binV_peql, binV_pneq, add_add, add_none, Go.Al.add_zero, Nat.zero_add, Nat.add_zero, IfB_t, IfB_f, Gd_t, Gd_f, Ld_ptr, LdN_ptr, Option.isNone_some, Option.isNone_none, Option.isSome_some, Option.isSome_none, Bool.not_true, Bool.not_false, drew_cell, drew_heap, beq_dec]
    cases hs : decide (status v x = 2) with
    | false =>
      simp only [Pu_some, extV_0, extV_1, extV_2, extV_3, nilV_ptr, nilV_fn, faV_ptr, lenV_sl, lenS_s, capV_sl, pickV_t, pickV_f, unV_not, unV_neg, isB_t, isB_f, isB_u, binV_add, binV_sub, binV_mul, binV_eql, binV_neq, binV_lss, binV_leq, binV_gtr, binV_geq, binV_seql, binV_sneq, binV_slss, binV_beql, binV_bneq, binV_peql, binV_pneq, add_add, add_none, Go.Al.add_zero, Nat.zero_add, Nat.add_zero, IfB_t, IfB_f, Gd_t, Gd_f, Ld_ptr, LdN_ptr, Option.isNone_some, Option.isNone_none, Option.isSome_some, Option.isSome_none, Bool.not_true, Bool.not_false, drew_cell, drew_heap, Bool.false_and]
      exact ⟨(by trivial), hF2⟩
    | true =>
      simp only [Pu_some, extV_0, extV_1, extV_2, extV_3, nilV_ptr, nilV_fn, faV_ptr, lenV_sl, lenS_s, capV_sl, pickV_t, pickV_f, unV_not, unV_neg, isB_t, isB_f, isB_u, binV_add, binV_sub, binV_mul, binV_eql, binV_neq, binV_lss, binV_leq, binV_gtr, binV_geq, binV_seql, binV_sneq, binV_slss, binV_beql, binV_bneq, binV_peql, binV_pneq, add_add, add_none, Go.Al.add_zero, Nat.zero_add, Nat.add_zero, IfB_t, IfB_f, Gd_t, Gd_f, Ld_ptr, LdN_ptr, Option.isNone_some, Option.isNone_none, Option.isSome_some, Option.isSome_none, Bool.not_true, Bool.not_false, drew_cell, drew_heap, hv2.c0, hv2.c1, Bool.true_and]
      refine (rbefore_spec w2 hv.m_in).mono ?_
      rintro _ w2 ⟨rfl, rfl⟩
      cases hb : xBefore v.modulus x v.next with
      | false =>
        simp only [Pu_some, extV_0, extV_1, extV_2, extV_3, nilV_ptr, nilV_fn, faV_ptr, lenV_sl, lenS_s, capV_sl, pickV_t, pickV_f, unV_not, unV_neg, isB_t, isB_f, isB_u, binV_add, binV_sub, binV_mul, binV_eql, binV_neq, binV_lss, binV_leq, binV_gtr, binV_geq, binV_seql, binV_sneq, binV_slss, binV_beql, binV_bneq, binV_peql, binV_pneq, add_add, add_none, Go.Al.add_zero, Nat.zero_add, Nat.add_zero, IfB_t, IfB_f, Gd_t, Gd_f, Ld_ptr, LdN_ptr, Option.isNone_some, Option.isNone_none, Option.isSome_some, Option.isSome_none, Bool.not_true, Bool.not_false, drew_cell, drew_heap, Bool.false_and]
        exact ⟨(by trivial), hF2⟩
      | true =>
        obtain ⟨av, hc2, hav⟩ := hv2.c2
        simp only [Pu_some, extV_0, extV_1, extV_2, extV_3, nilV_ptr, nilV_fn, faV_ptr, lenV_sl, lenS_s, capV_sl, pickV_t, pickV_f, unV_not, unV_neg, isB_t, isB_f, isB_u, binV_add, binV_sub, binV_mul, binV_eql, binV_neq, binV_lss, binV_leq, binV_gtr, binV_geq, binV_seql, binV_sneq, binV_slss, binV_beql, binV_bneq, binV_peql, binV_pneq, add_add, add_none, Go.Al.add_zero, Nat.zero_add, Nat.add_zero, IfB_t, IfB_f, Gd_t, Gd_f, Ld_ptr, LdN_ptr, Option.isNone_some, Option.isNone_none, Option.isSome_some, Option.isSome_none, Bool.not_true, Bool.not_false, drew_cell, drew_heap, hc2, Bool.true_and]
        refine (rcontains_spec hav x).mono ?_
        rintro _ w2 ⟨rfl, rfl⟩
        simp only [Pu_some, extV_0, extV_1, extV_2, extV_3, nilV_ptr, nilV_fn, faV_ptr, lenV_sl, lenS_s, capV_sl, pickV_t, pickV_f, unV_not, unV_neg, isB_t, isB_f, isB_u, binV_add, binV_sub, binV_mul, binV_eql, binV_neq, binV_lss, binV_leq, binV_gtr, binV_geq, binV_seql, binV_sneq, binV_slss, binV_beql, binV_bneq, binV_peql, binV_pneq, add_add, add_none, Go.Al.add_zero, Nat.zero_add, Nat.add_zero, IfB_t, IfB_f, Gd_t, Gd_f, Ld_ptr, LdN_ptr, Option.isNone_some, Option.isNone_none, Option.isSome_some, Option.isSome_none, Bool.not_true, Bool.not_false, drew_cell, drew_heap]
        exact ⟨(by trivial), hF2⟩
  by_cases h0 : x = 0
  · have e1 : (x != 0) = false := by rw [h0]; rfl
    have e2 : decide (x ≠ 0) = false := by simpa using h0
    rw [e2, Bool.false_and, Bool.false_or]
    simp only [Pu_some, extV_0, extV_1, extV_2, extV_3, nilV_ptr, nilV_fn, faV_ptr, lenV_sl, lenS_s, capV_sl, pickV_t, pickV_f, unV_not, unV_neg, isB_t, isB_f, isB_u, binV_add, binV_sub, binV_mul, binV_eql, binV_neq, binV_lss, binV_leq, binV_gtr, binV_geq, binV_seql, binV_sneq, binV_slss, binV_beql, binV_bneq, binV_peql, binV_pneq, add_add, add_none, Go.Al.add_zero, Nat.zero_add, Nat.add_zero, IfB_t, IfB_f, Gd_t, Gd_f, Ld_ptr, LdN_ptr, Option.isNone_some, Option.isNone_none, Option.isSome_some, Option.isSome_none, Bool.not_true, Bool.not_false, drew_cell, drew_heap] at rest
    simp only [Pu_some, extV_0, extV_1, extV_2, extV_3, nilV_ptr, nilV_fn, faV_ptr, lenV_sl, lenS_s, capV_sl, pickV_t, pickV_f, unV_not, unV_neg, isB_t, isB_f, isB_u, binV_add, binV_sub, binV_mul, binV_eql, binV_neq, binV_lss, binV_leq, binV_gtr, binV_geq, binV_seql, binV_sneq, binV_slss, binV_beql, binV_bneq, binV_peql, binV_pneq, add_add, add_none, Go.Al.add_zero, Nat.zero_add, Nat.add_zero, IfB_t, IfB_f, Gd_t, Gd_f, Ld_ptr, LdN_ptr, Option.isNone_some, Option.isNone_none, Option.isSome_some, Option.isSome_none, Bool.not_true, Bool.not_false, drew_cell, drew_heap, e1]
    exact rest
  have e1 : (x != 0) = true := by rw [bne_dec]; simpa using h0
  have e2 : decide (x ≠ 0) = true := by simpa using h0
  rw [e2, Bool.true_and]
  by_cases h1 : x = v.own
  · have e3 : (x == v.own) = true := by simpa using h1
    have e4 : decide (x = v.own) = true := by simpa using h1
    simp only [Pu_some, extV_0, extV_1, extV_2, extV_3, nilV_ptr, nilV_fn, faV_ptr, lenV_sl, lenS_s, capV_sl, pickV_t, pickV_f, unV_not, unV_neg, isB_t, isB_f, isB_u, binV_add, binV_sub, binV_mul, binV_eql, binV_neq, binV_lss, binV_leq, binV_gtr, binV_geq, binV_seql, binV_sneq, binV_slss, binV_beql, binV_bneq, binV_peql, binV_pneq, add_add, add_none, Go.Al.add_zero, Nat.zero_add, Nat.add_zero, IfB_t, IfB_f, Gd_t, Gd_f, Ld_ptr, LdN_ptr, Option.isNone_some, Option.isNone_none, Option.isSome_some, Option.isSome_none, Bool.not_true, Bool.not_false, drew_cell, drew_heap, e1, hv1.c3, e3, e4, Bool.true_or]
    exact ⟨(by trivial), hf1⟩
  have e3 : (x == v.own) = false := by simpa using h1
  have e4 : decide (x = v.own) = false := by simpa using h1
  rw [e4, Bool.false_or]
  simp only [Pu_some, extV_0, extV_1, extV_2, extV_3, nilV_ptr, nilV_fn, faV_ptr, lenV_sl, lenS_s, capV_sl, pickV_t, pickV_f, unV_not, unV_neg, isB_t, isB_f, isB_u, binV_add, binV_sub, binV_mul, binV_eql, binV_neq, binV_lss, binV_leq, binV_gtr, binV_geq, binV_seql, binV_sneq, binV_slss, binV_beql, binV_bneq, binV_peql, binV_pneq, add_add, add_none, Go.Al.add_zero, Nat.zero_add, Nat.add_zero, IfB_t, IfB_f, Gd_t, Gd_f, Ld_ptr, LdN_ptr, Option.isNone_some, Option.isNone_none, Option.isSome_some, Option.isSome_none, Bool.not_true, Bool.not_false, drew_cell, drew_heap] at rest
  simp only [Pu_some, extV_0, extV_1, extV_2, extV_3, nilV_ptr, nilV_fn, faV_ptr, lenV_sl, lenS_s, capV_sl, pickV_t, pickV_f, unV_not, unV_neg, isB_t, isB_f, isB_u, binV_add, binV_sub, binV_mul, binV_eql, binV_neq, binV_lss, binV_leq, binV_gtr, binV_geq, binV_seql, binV_sneq, binV_slss, binV_beql, binV_bneq, binV_peql, binV_pneq, add_add, add_none, Go.Al.add_zero, Nat.zero_add, Nat.add_zero, IfB_t, IfB_f, Gd_t, Gd_f, Ld_ptr, LdN_ptr, Option.isNone_some, Option.isNone_none, Option.isSome_some, Option.isSome_none, Bool.not_true, Bool.not_false, drew_cell, drew_heap, e1, hv1.c3, e3]
  exact rest

theorem runseen_spec {w : World} {cs : Array Value} {v : Vx} (hv : VwAs w cs v) (x : Int) : Cl Try.prog 101 [.agg cs, iv x] w fun r w' => r = .bool (unseen v x) ∧ Fm (fun _ => False) w w' := by
  refine c101 ?_; unfold T101
  refine New_any ?_
  intro g w1 hg hs1 hw1 hf1
  have hv1 : VwAt w1 g v := ⟨cs, hw1, hv.keep hf1⟩
  obtain ⟨cs2, hall, hva⟩ := hv1.all
  rw [unseen_alt]
  simp only [Pu_some, extV_0, extV_1, extV_2, extV_3, nilV_ptr, nilV_fn, faV_ptr, lenV_sl, lenS_s, capV_sl, pickV_t, pickV_f, unV_not, unV_neg, isB_t, isB_f, isB_u, binV_add, binV_sub, binV_mul, binV_eql, binV_neq, binV_lss, binV_leq, binV_gtr, binV_geq, binV_seql, binV_sneq, binV_slss, binV_beql, binV_bneq, binV_peql, binV_pneq, add_add, add_none, Go.Al.add_zero, Nat.zero_add, Nat.add_zero, IfB_t, IfB_f, Gd_t, Gd_f, Ld_ptr, LdN_ptr, Option.isNone_some, Option.isNone_none, Option.isSome_some, Option.isSome_none, Bool.not_true, Bool.not_false, drew_cell, drew_heap, hall]
  refine (rstatus_spec hva x).mono ?_
  rintro _ w2 ⟨rfl, hf2⟩
  have hF2 := Fmf hf1 hf2
  simp only [Pu_some, extV_0, extV_1, extV_2, extV_3, nilV_ptr, nilV_fn, faV_ptr, lenV_sl, lenS_s, capV_sl, pickV_t, pickV_f, unV_not, unV_neg, isB_t, isB_f, isB_u, binV_add, binV_sub, binV_mul, binV_eql, binV_neq, binV_lss, binV_leq, binV_gtr, binV_geq, binV_seql, binV_sneq, binV_slss, binV_beql, binV_bneq, binV_peql, binV_pneq, add_add, add_none, Go.Al.add_zero, Nat.zero_add, Nat.add_zero, IfB_t, IfB_f, Gd_t, Gd_f, Ld_ptr, LdN_ptr, Option.isNone_some, Option.isNone_none, Option.isSome_some, Option.isSome_none, Bool.not_true, Bool.not_false, drew_cell, drew_heap, beq_dec]
  cases hs : decide (status v x = 2) with
  | false =>
    simp only [Pu_some, extV_0, extV_1, extV_2, extV_3, nilV_ptr, nilV_fn, faV_ptr, lenV_sl, lenS_s, capV_sl, pickV_t, pickV_f, unV_not, unV_neg, isB_t, isB_f, isB_u, binV_add, binV_sub, binV_mul, binV_eql, binV_neq, binV_lss, binV_leq, binV_gtr, binV_geq, binV_seql, binV_sneq, binV_slss, binV_beql, binV_bneq, binV_peql, binV_pneq, add_add, add_none, Go.Al.add_zero, Nat.zero_add, Nat.add_zero, IfB_t, IfB_f, Gd_t, Gd_f, Ld_ptr, LdN_ptr, Option.isNone_some, Option.isNone_none, Option.isSome_some, Option.isSome_none, Bool.not_true, Bool.not_false, drew_cell, drew_heap, Bool.false_and]
    exact ⟨(by trivial), hF2⟩
  | true =>
    obtain ⟨cs3, hall, hva⟩ := (hv1.keep hf2).all
    simp only [Pu_some, extV_0, extV_1, extV_2, extV_3, nilV_ptr, nilV_fn, faV_ptr, lenV_sl, lenS_s, capV_sl, pickV_t, pickV_f, unV_not, unV_neg, isB_t, isB_f, isB_u, binV_add, binV_sub, binV_mul, binV_eql, binV_neq, binV_lss, binV_leq, binV_gtr, binV_geq, binV_seql, binV_sneq, binV_slss, binV_beql, binV_bneq, binV_peql, binV_pneq, add_add, add_none, Go.Al.add_zero, Nat.zero_add, Nat.add_zero, IfB_t, IfB_f, Gd_t, Gd_f, Ld_ptr, LdN_ptr, Option.isNone_some, Option.isNone_none, Option.isSome_some, Option.isSome_none, Bool.not_true, Bool.not_false, drew_cell, drew_heap, hall, Bool.true_and]
    refine (rsees_spec hva x).mono ?_
    rintro _ w3 ⟨rfl, hf3⟩
    simp only [Pu_some, extV_0, extV_1, extV_2, extV_3, nilV_ptr, nilV_fn, faV_ptr, lenV_sl, lenS_s, capV_sl, pickV_t, pickV_f, unV_not, unV_neg, isB_t, isB_f, isB_u, binV_add, binV_sub, binV_mul, binV_eql, binV_neq, binV_lss, binV_leq, binV_gtr, binV_geq, binV_seql, binV_sneq, binV_slss, binV_beql, binV_bneq, binV_peql, binV_pneq, add_add, add_none, Go.Al.add_zero, Nat.zero_add, Nat.add_zero, IfB_t, IfB_f, Gd_t, Gd_f, Ld_ptr, LdN_ptr, Option.isNone_some, Option.isNone_none, Option.isSome_some, Option.isSome_none, Bool.not_true, Bool.not_false, drew_cell, drew_heap]
    exact ⟨(by trivial), Fmf hF2 hf3⟩

theorem sees_zero' (v : Vx) : sees v 0 = false := rfl
theorem rvisible_spec {w : World} {cs : Array Value} {v : Vx} (hv : VwAs w cs v) (t : Tx) : Cl Try.prog 50 [.agg cs, .agg (txc t)] w fun r w' => r = .bool (visible v t) ∧ Fm (fun _ => False) w w' := by
  refine c50 ?_; unfold T50
  refine New_any ?_
  intro g w1 hg hs1 hw1 hf1
  have hv1 : VwAt w1 g v := ⟨cs, hw1, hv.keep hf1⟩
  refine New_any ?_
  intro g2 w2 hg2 hs2 hw2 hf2
  replace hw2 : TxAt w2 g2 t := hw2
  have hv2 := hv1.keep hf2
  have hF2 := Fmf hf1 hf2
  obtain ⟨cs2, hall, hva⟩ := hv2.all
  unfold visible
  have fin : ∀ (w3 : World), Fm (fun _ => False) w2 w3 → (
  Ld w3 (.pointer (some ⟨g2, 1, none⟩)) fun t15_19 w_20 =>
  Pu (binV (TypeDesc.int IntKind.i64) .eql t15_19 (Value.int IntKind.i64 0)) fun vv =>
  Gd (isB false vv) (fun kk => LdN 11 w_20 (pv g) kk) w_20 fun t18_25 w_26 =>
  Gd (isB false vv) (fun kk => Pu (faV 1 (pv g2)) fun vv => kk vv w_26) w_26 fun t19_27 w_28 =>
  Gd (isB false vv) (fun kk => Ld w_28 t19_27 kk) w_28 fun t20_29 w_30 =>
  Gd (isB false vv) (fun kk => Cl Try.prog 49 [t18_25, t20_29] w_30 kk) w_30 fun t21_30 w_32 =>
  Gd (isB false vv) (fun kk => Pu (unV .not t21_30) fun vv => kk vv w_32) w_32 fun t22_33 w_34 =>
  Pu (pickV vv (Value.bool true) t22_33) fun t23_35 =>
  t23_35 = .bool (!sees v t.xmax) ∧ Fm (fun _ => False) w w_34) := by
    intro w3 hf3
    have hv3 := hv2.keep hf3
    have ht3 := hw2.keep hf3 (fun e => e)
    have hF3 := Fmf hF2 hf3
    by_cases h0 : t.xmax = 0
    · have e1 : (t.xmax == 0) = true := by rw [h0]; rfl
      simp only [Pu_some, extV_0, extV_1, extV_2, extV_3, nilV_ptr, nilV_fn, faV_ptr, lenV_sl, lenS_s, capV_sl, pickV_t, pickV_f, unV_not, unV_neg, isB_t, isB_f, isB_u, binV_add, binV_sub, binV_mul, binV_eql, binV_neq, binV_lss, binV_leq, binV_gtr, binV_geq, binV_seql, binV_sneq, binV_slss, binV_beql, binV_bneq, binV_peql, binV_pneq, add_add, add_none, Go.Al.add_zero, Nat.zero_add, Nat.add_zero, IfB_t, IfB_f, Gd_t, Gd_f, Ld_ptr, LdN_ptr, Option.isNone_some, Option.isNone_none, Option.isSome_some, Option.isSome_none, Bool.not_true, Bool.not_false, drew_cell, drew_heap, ht3.c1, e1]
      rw [h0, sees_zero']
      exact ⟨(by trivial), hF3⟩
    have e1 : (t.xmax == 0) = false := by simpa using h0
    obtain ⟨cs3, hall, hva⟩ := hv3.all
    simp only [Pu_some, extV_0, extV_1, extV_2, extV_3, nilV_ptr, nilV_fn, faV_ptr, lenV_sl, lenS_s, capV_sl, pickV_t, pickV_f, unV_not, unV_neg, isB_t, isB_f, isB_u, binV_add, binV_sub, binV_mul, binV_eql, binV_neq, binV_lss, binV_leq, binV_gtr, binV_geq, binV_seql, binV_sneq, binV_slss, binV_beql, binV_bneq, binV_peql, binV_pneq, add_add, add_none, Go.Al.add_zero, Nat.zero_add, Nat.add_zero, IfB_t, IfB_f, Gd_t, Gd_f, Ld_ptr, LdN_ptr, Option.isNone_some, Option.isNone_none, Option.isSome_some, Option.isSome_none, Bool.not_true, Bool.not_false, drew_cell, drew_heap, ht3.c1, e1, hall]
    refine (rsees_spec hva t.xmax).mono ?_
    rintro _ w4 ⟨rfl, hf4⟩
    simp only [Pu_some, extV_0, extV_1, extV_2, extV_3, nilV_ptr, nilV_fn, faV_ptr, lenV_sl, lenS_s, capV_sl, pickV_t, pickV_f, unV_not, unV_neg, isB_t, isB_f, isB_u, binV_add, binV_sub, binV_mul, binV_eql, binV_neq, binV_lss, binV_leq, binV_gtr, binV_geq, binV_seql, binV_sneq, binV_slss, binV_beql, binV_bneq, binV_peql, binV_pneq, add_add, add_none, Go.Al.add_zero, Nat.zero_add, Nat.add_zero, IfB_t, IfB_f, Gd_t, Gd_f, Ld_ptr, LdN_ptr, Option.isNone_some, Option.isNone_none, Option.isSome_some, Option.isSome_none, Bool.not_true, Bool.not_false, drew_cell, drew_heap]
    exact ⟨(by trivial), Fmf hF3 hf4⟩
  cases hfz : t.frozen with
  | true =>
    have c2 := hw2.c2
    rw [hfz] at c2
    have key := fin w2 (Fm.refl _ _)
    simp only [Pu_some, extV_0, extV_1, extV_2, extV_3, nilV_ptr, nilV_fn, faV_ptr, lenV_sl, lenS_s, capV_sl, pickV_t, pickV_f, unV_not, unV_neg, isB_t, isB_f, isB_u, binV_add, binV_sub, binV_mul, binV_eql, binV_neq, binV_lss, binV_leq, binV_gtr, binV_geq, binV_seql, binV_sneq, binV_slss, binV_beql, binV_bneq, binV_peql, binV_pneq, add_add, add_none, Go.Al.add_zero, Nat.zero_add, Nat.add_zero, IfB_t, IfB_f, Gd_t, Gd_f, Ld_ptr, LdN_ptr, Option.isNone_some, Option.isNone_none, Option.isSome_some, Option.isSome_none, Bool.not_true, Bool.not_false, drew_cell, drew_heap] at key
    simp only [Pu_some, extV_0, extV_1, extV_2, extV_3, nilV_ptr, nilV_fn, faV_ptr, lenV_sl, lenS_s, capV_sl, pickV_t, pickV_f, unV_not, unV_neg, isB_t, isB_f, isB_u, binV_add, binV_sub, binV_mul, binV_eql, binV_neq, binV_lss, binV_leq, binV_gtr, binV_geq, binV_seql, binV_sneq, binV_slss, binV_beql, binV_bneq, binV_peql, binV_pneq, add_add, add_none, Go.Al.add_zero, Nat.zero_add, Nat.add_zero, IfB_t, IfB_f, Gd_t, Gd_f, Ld_ptr, LdN_ptr, Option.isNone_some, Option.isNone_none, Option.isSome_some, Option.isSome_none, Bool.not_true, Bool.not_false, drew_cell, drew_heap, c2, Bool.true_or, Bool.true_and]
    exact key
  | false =>
    have c2 := hw2.c2
    rw [hfz] at c2
    simp only [Pu_some, extV_0, extV_1, extV_2, extV_3, nilV_ptr, nilV_fn, faV_ptr, lenV_sl, lenS_s, capV_sl, pickV_t, pickV_f, unV_not, unV_neg, isB_t, isB_f, isB_u, binV_add, binV_sub, binV_mul, binV_eql, binV_neq, binV_lss, binV_leq, binV_gtr, binV_geq, binV_seql, binV_sneq, binV_slss, binV_beql, binV_bneq, binV_peql, binV_pneq, add_add, add_none, Go.Al.add_zero, Nat.zero_add, Nat.add_zero, IfB_t, IfB_f, Gd_t, Gd_f, Ld_ptr, LdN_ptr, Option.isNone_some, Option.isNone_none, Option.isSome_some, Option.isSome_none, Bool.not_true, Bool.not_false, drew_cell, drew_heap, c2, hw2.c0, hall, Bool.false_or]
    refine (rsees_spec hva t.xmin).mono ?_
    rintro _ w3 ⟨rfl, hf3⟩
    cases hs : sees v t.xmin with
    | false =>
      simp only [Pu_some, extV_0, extV_1, extV_2, extV_3, nilV_ptr, nilV_fn, faV_ptr, lenV_sl, lenS_s, capV_sl, pickV_t, pickV_f, unV_not, unV_neg, isB_t, isB_f, isB_u, binV_add, binV_sub, binV_mul, binV_eql, binV_neq, binV_lss, binV_leq, binV_gtr, binV_geq, binV_seql, binV_sneq, binV_slss, binV_beql, binV_bneq, binV_peql, binV_pneq, add_add, add_none, Go.Al.add_zero, Nat.zero_add, Nat.add_zero, IfB_t, IfB_f, Gd_t, Gd_f, Ld_ptr, LdN_ptr, Option.isNone_some, Option.isNone_none, Option.isSome_some, Option.isSome_none, Bool.not_true, Bool.not_false, drew_cell, drew_heap, Bool.false_and]
      exact ⟨(by trivial), Fmf hF2 hf3⟩
    | true =>
      have key := fin w3 hf3
      simp only [Pu_some, extV_0, extV_1, extV_2, extV_3, nilV_ptr, nilV_fn, faV_ptr, lenV_sl, lenS_s, capV_sl, pickV_t, pickV_f, unV_not, unV_neg, isB_t, isB_f, isB_u, binV_add, binV_sub, binV_mul, binV_eql, binV_neq, binV_lss, binV_leq, binV_gtr, binV_geq, binV_seql, binV_sneq, binV_slss, binV_beql, binV_bneq, binV_peql, binV_pneq, add_add, add_none, Go.Al.add_zero, Nat.zero_add, Nat.add_zero, IfB_t, IfB_f, Gd_t, Gd_f, Ld_ptr, LdN_ptr, Option.isNone_some, Option.isNone_none, Option.isSome_some, Option.isSome_none, Bool.not_true, Bool.not_false, drew_cell, drew_heap] at key
      simp only [Pu_some, extV_0, extV_1, extV_2, extV_3, nilV_ptr, nilV_fn, faV_ptr, lenV_sl, lenS_s, capV_sl, pickV_t, pickV_f, unV_not, unV_neg, isB_t, isB_f, isB_u, binV_add, binV_sub, binV_mul, binV_eql, binV_neq, binV_lss, binV_leq, binV_gtr, binV_geq, binV_seql, binV_sneq, binV_slss, binV_beql, binV_bneq, binV_peql, binV_pneq, add_add, add_none, Go.Al.add_zero, Nat.zero_add, Nat.add_zero, IfB_t, IfB_f, Gd_t, Gd_f, Ld_ptr, LdN_ptr, Option.isNone_some, Option.isNone_none, Option.isSome_some, Option.isSome_none, Bool.not_true, Bool.not_false, drew_cell, drew_heap, Bool.true_and]
      exact key

end Go.Proofs.Ythgdinjgdjiknaa
