/- What package clog does: reading and setting a page of statuses. -/
import Derived.Test.YthgdinjgdjiknaaClog
namespace Go.Proofs.Ythgdinjgdjiknaa
open Go.Al Go.Proofs
set_option linter.unusedVariables false
set_option linter.unusedSimpArgs false
set_option linter.unusedSectionVars false
set_option maxRecDepth 100000

theorem cplace_spec (w : World) {x : Int} (hx : 1 ≤ x ∧ x ≤ 1024) : Cl Try.prog 119 [iv x] w fun v w' => v = .tuple #[iv (plN x / 4 : Nat), iv (2 * (plN x % 4) : Nat)] ∧ w' = w := by
  refine c119 ?_; unfold T119
  have e1 : IntKind.i64.wrap (x - 1) = ((plN x : Nat) : Int) := by unfold plN; rw [wrap_id] <;> omega
  have hp : plN x ≤ 1023 := by unfold plN; omega
  have e2 := quo_nat (TypeDesc.int IntKind.i64) (n := plN x) (m := 4) (b := 4) (by omega) (by omega) rfl
  have e3 := rem_nat (TypeDesc.int IntKind.i64) (n := plN x) (m := 4) (b := 4) (by omega) (by omega) rfl
  have e4 : IntKind.i64.wrap (2 * ((plN x % 4 : Nat) : Int)) = ((2 * (plN x % 4) : Nat) : Int) := by rw [wrap_id] <;> omega
  simp only [Pu_some, extV_0, extV_1, extV_2, extV_3, nilV_ptr, nilV_fn, faV_ptr, lenV_sl, lenS_s, capV_sl, pickV_t, pickV_f, unV_not, unV_neg, isB_t, isB_f, isB_u, binV_add, binV_sub, binV_mul, binV_eql, binV_neq, binV_lss, binV_leq, binV_gtr, binV_geq, binV_seql, binV_sneq, binV_slss, binV_beql, binV_bneq, binV_peql, binV_pneq, add_add, add_none, Go.Al.add_zero, Nat.zero_add, Nat.add_zero, IfB_t, IfB_f, Gd_t, Gd_f, Ld_ptr, LdN_ptr, Option.isNone_some, Option.isNone_none, Option.isSome_some, Option.isSome_none, Bool.not_true, Bool.not_false, drew_cell, drew_heap, e1, e2, e3, e4, and_self]

theorem shl_u8 (a : Int) (k : Nat) (hk : k ≤ 8) (d : TypeDesc) : binV d .shl (.int .u8 a) (.int .i64 k) = some (.int .u8 (IntKind.u8.wrap (a * 2 ^ k))) := by
  have h0 : ¬ ((k : Int) < 0) := by omega
  rw [binV_shl]; unfold shV; rw [if_neg h0]
  have e2 : min (k : Int).toNat IntKind.u8.bits = k := by show min (k : Int).toNat 8 = k; omega
  simp only [e2]
theorem shr_u8 (a k : Nat) (hk : k ≤ 8) (d : TypeDesc) : binV d .shr (.int .u8 a) (.int .i64 k) = some (.int .u8 ((a / 2 ^ k : Nat) : Int)) := by
  have h0 : ¬ ((k : Int) < 0) := by omega
  have e : binV d .shr (.int .u8 a) (.int .i64 k) = some (.int .u8 ((a : Int).fdiv (2 ^ (min (k : Int).toNat IntKind.u8.bits)))) := by
    rw [binV_shr]; unfold shV; rw [if_neg h0]
  rw [e]
  have e2 : min (k : Int).toNat IntKind.u8.bits = k := by show min (k : Int).toNat 8 = k; omega
  rw [e2]
  congr 2
  rw [Int.fdiv_eq_ediv_of_nonneg _ (by exact Int.pow_nonneg (by decide))]
  have : ((2 : Int) ^ k) = ((2 ^ k : Nat) : Int) := by push_cast; rfl
  rw [this]; rfl
theorem and3 (n : Nat) : n &&& 3 = n % 4 := Nat.and_two_pow_sub_one_eq_mod n 2

theorem cput_spec {w : World} {g cap : Nat} {b : Bs} (hb : BX w g 5 b) {x s : Int} (hx : 1 ≤ x ∧ x ≤ 1024) (hl : plN x / 4 < b.length) :
    Cl Try.prog 96 [.slice (some ⟨g, 0, none⟩) b.length cap, iv x, .int .u8 s] w fun v w' => BX w' g 5 (clogPut b x s) ∧ Fm (· = g) w w' := by
  refine c96 ?_; unfold T96
  refine (cplace_spec w hx).mono ?_
  rintro _ w ⟨rfl, rfl⟩
  have hfd := Fm.drew (fun _ => False) w
  have hbd := hb.keep hfd (fun e => e)
  have hbi : b[plN x / 4]? = some (b.getD (plN x / 4) 0) := by rw [List.getD_eq_getElem?_getD, List.getElem?_eq_getElem hl]; rfl
  have c1 := hb.cell hbi
  generalize hc : b.getD (plN x / 4) 0 = c at hbi c1
  have e1 := shl_u8 3 (2 * (plN x % 4)) (by omega) (TypeDesc.int IntKind.u8)
  have e2 := shl_u8 s (2 * (plN x % 4)) (by omega) (TypeDesc.int IntKind.u8)
  have e3 : orI .u8 (andNotI .u8 (c.toNat : Int) (IntKind.u8.wrap (3 * 2 ^ (2 * (plN x % 4))))) (IntKind.u8.wrap (s * 2 ^ (2 * (plN x % 4)))) = ((pbyte c s (2 * (plN x % 4))).toNat : Int) := by
    unfold pbyte orI
    rw [u8_wrap]
  simp only [Pu_some, extV_0, extV_1, extV_2, extV_3, nilV_ptr, nilV_fn, faV_ptr, lenV_sl, lenS_s, capV_sl, pickV_t, pickV_f, unV_not, unV_neg, isB_t, isB_f, isB_u, binV_add, binV_sub, binV_mul, binV_eql, binV_neq, binV_lss, binV_leq, binV_gtr, binV_geq, binV_seql, binV_sneq, binV_slss, binV_beql, binV_bneq, binV_peql, binV_pneq, add_add, add_none, Go.Al.add_zero, Nat.zero_add, Nat.add_zero, IfB_t, IfB_f, Gd_t, Gd_f, Ld_ptr, LdN_ptr, Option.isNone_some, Option.isNone_none, Option.isSome_some, Option.isSome_none, Bool.not_true, Bool.not_false, drew_cell, drew_heap, ixV_at hl, Nat.mul_one, c1, e1, binV_andNot, e2, binV_or, e3, true_and]
  refine hbd.put hl ?_
  intro w2 h2 _ hf2
  refine ⟨?_, hfd.trans hf2 (fun _ _ e => e.elim) (fun _ _ e => e)⟩
  unfold clogPut
  rw [hc]; exact h2

set_option maxHeartbeats 2000000 in
theorem copen_spec {w : World} {cs : Array Value} {p : Pg} (hp : PgAs w cs p) {m : Int} (hm : In m) :
    Cl Try.prog 94 [iv m, .agg cs] w fun v w' => ∃ bv, v = .tuple #[iv (clogOpen m p).1, bv, iv (clogOpen m p).2.2] ∧ Fm (fun _ => False) w w' ∧
      ((clogOpen m p).2.2 = 0 → ∃ g cap, bv = .slice (some ⟨g, 0, none⟩) (clogOpen m p).2.1.length cap ∧ w.heap.size ≤ g ∧ BX w' g 5 (clogOpen m p).2.1) := by
  obtain ⟨iv0, hcs, hit⟩ := hp.ex
  have hsm := hp.small
  subst hcs
  refine c94 ?_; unfold T94
  refine New_any ?_
  intro x3 w1 hx3 hs1 hw1 hf1
  replace hw1 : w1.heap[x3]? = some (.cells #[iv p.lsn, iv p.kind, iv p.level, iv p.right, stv p.high, iv0] 95) := hw1
  refine (isMod_spec w1 hm).mono ?_
  rintro _ w2 ⟨rfl, hf2⟩
  unfold clogOpen
  cases h1 : modOk m with
  | false =>
    simp only [Pu_some, extV_0, extV_1, extV_2, extV_3, nilV_ptr, nilV_fn, faV_ptr, lenV_sl, lenS_s, capV_sl, pickV_t, pickV_f, unV_not, unV_neg, isB_t, isB_f, isB_u, binV_add, binV_sub, binV_mul, binV_eql, binV_neq, binV_lss, binV_leq, binV_gtr, binV_geq, binV_seql, binV_sneq, binV_slss, binV_beql, binV_bneq, binV_peql, binV_pneq, add_add, add_none, Go.Al.add_zero, Nat.zero_add, Nat.add_zero, IfB_t, IfB_f, Gd_t, Gd_f, Ld_ptr, LdN_ptr, Option.isNone_some, Option.isNone_none, Option.isSome_some, Option.isSome_none, Bool.not_true, Bool.not_false, drew_cell, drew_heap, cond_true]
    exact ⟨_, rfl, Fmf hf1 hf2, fun e => by cases e⟩
  | true =>
    have hmm : 16 ≤ m ∧ m ≤ 1024 := by unfold modOk at h1; simp only [decide_eq_true_eq] at h1; omega
    simp only [Pu_some, extV_0, extV_1, extV_2, extV_3, nilV_ptr, nilV_fn, faV_ptr, lenV_sl, lenS_s, capV_sl, pickV_t, pickV_f, unV_not, unV_neg, isB_t, isB_f, isB_u, binV_add, binV_sub, binV_mul, binV_eql, binV_neq, binV_lss, binV_leq, binV_gtr, binV_geq, binV_seql, binV_sneq, binV_slss, binV_beql, binV_bneq, binV_peql, binV_pneq, add_add, add_none, Go.Al.add_zero, Nat.zero_add, Nat.add_zero, IfB_t, IfB_f, Gd_t, Gd_f, Ld_ptr, LdN_ptr, Option.isNone_some, Option.isNone_none, Option.isSome_some, Option.isSome_none, Bool.not_true, Bool.not_false, drew_cell, drew_heap, cond_false]
    have hfd := Fm.drew (fun _ => False) w2
    have hF3 := Fmf (Fmf hf1 hf2) hfd
    have hw2 := hf2.heap hw1 (fun e => e)
    have s0 : w2.cell? ⟨x3, 0, none⟩ = some (iv p.lsn) := by rw [cell_at hw2]; rfl
    have s1 : w2.cell? ⟨x3, 1, none⟩ = some (iv p.kind) := by rw [cell_at hw2]; rfl
    have s2 : w2.cell? ⟨x3, 2, none⟩ = some (iv p.level) := by rw [cell_at hw2]; rfl
    have s3 : w2.cell? ⟨x3, 3, none⟩ = some (iv p.right) := by rw [cell_at hw2]; rfl
    have s4 : w2.cell? ⟨x3, 4, none⟩ = some (stv p.high) := by rw [cell_at hw2]; rfl
    have s5 : w2.cell? ⟨x3, 5, none⟩ = some iv0 := by rw [cell_at hw2]; rfl
    have hw3 := hfd.heap hw2 (fun e => e)
    have hit3 := hit.keep hF3 (fun _ _ e => e)
    generalize w2.drew = w3 at hfd hF3 hw3 hit3
    have d0 : w3.cell? ⟨x3, 0, none⟩ = some (iv p.lsn) := by rw [cell_at hw3]; rfl
    have d1 : w3.cell? ⟨x3, 1, none⟩ = some (iv p.kind) := by rw [cell_at hw3]; rfl
    have d2 : w3.cell? ⟨x3, 2, none⟩ = some (iv p.level) := by rw [cell_at hw3]; rfl
    have d3 : w3.cell? ⟨x3, 3, none⟩ = some (iv p.right) := by rw [cell_at hw3]; rfl
    have d4 : w3.cell? ⟨x3, 4, none⟩ = some (stv p.high) := by rw [cell_at hw3]; rfl
    have d5 : w3.cell? ⟨x3, 5, none⟩ = some iv0 := by rw [cell_at hw3]; rfl
    refine ⟨fun w' => w'.heap[x3]? = some (.cells #[iv p.lsn, iv p.kind, iv p.level, iv p.right, stv p.high, iv0] 95) ∧ CellsAt w' iv0 p.items.length 1 (p.items.map stv), ⟨hw3, hit3⟩, ?_⟩
    have hlv := hit3.lenV
    by_cases k1 : p.kind = 1
    rotate_left
    · have z0 : (p.kind != 1) = true := by rw [bne_dec]; simp [k1]
      have hbad : badHead p = true := by unfold badHead; rw [decide_eq_true_eq]; omega
      simp only [Pu_some, extV_0, extV_1, extV_2, extV_3, nilV_ptr, nilV_fn, faV_ptr, lenV_sl, lenS_s, capV_sl, pickV_t, pickV_f, unV_not, unV_neg, isB_t, isB_f, isB_u, binV_add, binV_sub, binV_mul, binV_eql, binV_neq, binV_lss, binV_leq, binV_gtr, binV_geq, binV_seql, binV_sneq, binV_slss, binV_beql, binV_bneq, binV_peql, binV_pneq, add_add, add_none, Go.Al.add_zero, Nat.zero_add, Nat.add_zero, IfB_t, IfB_f, Gd_t, Gd_f, Ld_ptr, LdN_ptr, Option.isNone_some, Option.isNone_none, Option.isSome_some, Option.isSome_none, Bool.not_true, Bool.not_false, drew_cell, drew_heap, str_size, str_nil, str_inj, s0, s1, s2, s3, s4, s5, d1, z0, hbad, Bool.true_or, cond_true, true_and]
      refine ⟨undef, fun w' _ => by try simp only [Pu_some, extV_0, extV_1, extV_2, extV_3, nilV_ptr, nilV_fn, faV_ptr, lenV_sl, lenS_s, capV_sl, pickV_t, pickV_f, unV_not, unV_neg, isB_t, isB_f, isB_u, binV_add, binV_sub, binV_mul, binV_eql, binV_neq, binV_lss, binV_leq, binV_gtr, binV_geq, binV_seql, binV_sneq, binV_slss, binV_beql, binV_bneq, binV_peql, binV_pneq, add_add, add_none, Go.Al.add_zero, Nat.zero_add, Nat.add_zero, IfB_t, IfB_f, Gd_t, Gd_f, Ld_ptr, LdN_ptr, Option.isNone_some, Option.isNone_none, Option.isSome_some, Option.isSome_none, Bool.not_true, Bool.not_false, drew_cell, drew_heap]; exact ⟨(by trivial), (by trivial)⟩, ?_⟩
      try simp only [Pu_some, extV_0, extV_1, extV_2, extV_3, nilV_ptr, nilV_fn, faV_ptr, lenV_sl, lenS_s, capV_sl, pickV_t, pickV_f, unV_not, unV_neg, isB_t, isB_f, isB_u, binV_add, binV_sub, binV_mul, binV_eql, binV_neq, binV_lss, binV_leq, binV_gtr, binV_geq, binV_seql, binV_sneq, binV_slss, binV_beql, binV_bneq, binV_peql, binV_pneq, add_add, add_none, Go.Al.add_zero, Nat.zero_add, Nat.add_zero, IfB_t, IfB_f, Gd_t, Gd_f, Ld_ptr, LdN_ptr, Option.isNone_some, Option.isNone_none, Option.isSome_some, Option.isSome_none, Bool.not_true, Bool.not_false, drew_cell, drew_heap]
      refine ⟨undef, fun w' _ => by try simp only [Pu_some, extV_0, extV_1, extV_2, extV_3, nilV_ptr, nilV_fn, faV_ptr, lenV_sl, lenS_s, capV_sl, pickV_t, pickV_f, unV_not, unV_neg, isB_t, isB_f, isB_u, binV_add, binV_sub, binV_mul, binV_eql, binV_neq, binV_lss, binV_leq, binV_gtr, binV_geq, binV_seql, binV_sneq, binV_slss, binV_beql, binV_bneq, binV_peql, binV_pneq, add_add, add_none, Go.Al.add_zero, Nat.zero_add, Nat.add_zero, IfB_t, IfB_f, Gd_t, Gd_f, Ld_ptr, LdN_ptr, Option.isNone_some, Option.isNone_none, Option.isSome_some, Option.isSome_none, Bool.not_true, Bool.not_false, drew_cell, drew_heap]; exact ⟨(by trivial), (by trivial)⟩, ?_⟩
      try simp only [Pu_some, extV_0, extV_1, extV_2, extV_3, nilV_ptr, nilV_fn, faV_ptr, lenV_sl, lenS_s, capV_sl, pickV_t, pickV_f, unV_not, unV_neg, isB_t, isB_f, isB_u, binV_add, binV_sub, binV_mul, binV_eql, binV_neq, binV_lss, binV_leq, binV_gtr, binV_geq, binV_seql, binV_sneq, binV_slss, binV_beql, binV_bneq, binV_peql, binV_pneq, add_add, add_none, Go.Al.add_zero, Nat.zero_add, Nat.add_zero, IfB_t, IfB_f, Gd_t, Gd_f, Ld_ptr, LdN_ptr, Option.isNone_some, Option.isNone_none, Option.isSome_some, Option.isSome_none, Bool.not_true, Bool.not_false, drew_cell, drew_heap]
      refine ⟨⟨hw3, hit3⟩, ?_⟩
      try simp only [Pu_some, extV_0, extV_1, extV_2, extV_3, nilV_ptr, nilV_fn, faV_ptr, lenV_sl, lenS_s, capV_sl, pickV_t, pickV_f, unV_not, unV_neg, isB_t, isB_f, isB_u, binV_add, binV_sub, binV_mul, binV_eql, binV_neq, binV_lss, binV_leq, binV_gtr, binV_geq, binV_seql, binV_sneq, binV_slss, binV_beql, binV_bneq, binV_peql, binV_pneq, add_add, add_none, Go.Al.add_zero, Nat.zero_add, Nat.add_zero, IfB_t, IfB_f, Gd_t, Gd_f, Ld_ptr, LdN_ptr, Option.isNone_some, Option.isNone_none, Option.isSome_some, Option.isSome_none, Bool.not_true, Bool.not_false, drew_cell, drew_heap]
      exact ⟨_, rfl, hF3, fun e => by cases e⟩
    have z0 : (p.kind != 1) = false := by rw [bne_dec]; simp [k1]
    by_cases k2 : 0 ≤ p.lsn
    rotate_left
    · have z1 : decide (p.lsn < 0) = true := by rw [decide_eq_true_eq]; omega
      have hbad : badHead p = true := by unfold badHead; rw [decide_eq_true_eq]; omega
      simp only [Pu_some, extV_0, extV_1, extV_2, extV_3, nilV_ptr, nilV_fn, faV_ptr, lenV_sl, lenS_s, capV_sl, pickV_t, pickV_f, unV_not, unV_neg, isB_t, isB_f, isB_u, binV_add, binV_sub, binV_mul, binV_eql, binV_neq, binV_lss, binV_leq, binV_gtr, binV_geq, binV_seql, binV_sneq, binV_slss, binV_beql, binV_bneq, binV_peql, binV_pneq, add_add, add_none, Go.Al.add_zero, Nat.zero_add, Nat.add_zero, IfB_t, IfB_f, Gd_t, Gd_f, Ld_ptr, LdN_ptr, Option.isNone_some, Option.isNone_none, Option.isSome_some, Option.isSome_none, Bool.not_true, Bool.not_false, drew_cell, drew_heap, str_size, str_nil, str_inj, s0, s1, s2, s3, s4, s5, d1, d0, z0, z1, hbad, Bool.true_or, cond_true, true_and]
      refine ⟨undef, fun w' _ => by try simp only [Pu_some, extV_0, extV_1, extV_2, extV_3, nilV_ptr, nilV_fn, faV_ptr, lenV_sl, lenS_s, capV_sl, pickV_t, pickV_f, unV_not, unV_neg, isB_t, isB_f, isB_u, binV_add, binV_sub, binV_mul, binV_eql, binV_neq, binV_lss, binV_leq, binV_gtr, binV_geq, binV_seql, binV_sneq, binV_slss, binV_beql, binV_bneq, binV_peql, binV_pneq, add_add, add_none, Go.Al.add_zero, Nat.zero_add, Nat.add_zero, IfB_t, IfB_f, Gd_t, Gd_f, Ld_ptr, LdN_ptr, Option.isNone_some, Option.isNone_none, Option.isSome_some, Option.isSome_none, Bool.not_true, Bool.not_false, drew_cell, drew_heap]; exact ⟨(by trivial), (by trivial)⟩, ?_⟩
      try simp only [Pu_some, extV_0, extV_1, extV_2, extV_3, nilV_ptr, nilV_fn, faV_ptr, lenV_sl, lenS_s, capV_sl, pickV_t, pickV_f, unV_not, unV_neg, isB_t, isB_f, isB_u, binV_add, binV_sub, binV_mul, binV_eql, binV_neq, binV_lss, binV_leq, binV_gtr, binV_geq, binV_seql, binV_sneq, binV_slss, binV_beql, binV_bneq, binV_peql, binV_pneq, add_add, add_none, Go.Al.add_zero, Nat.zero_add, Nat.add_zero, IfB_t, IfB_f, Gd_t, Gd_f, Ld_ptr, LdN_ptr, Option.isNone_some, Option.isNone_none, Option.isSome_some, Option.isSome_none, Bool.not_true, Bool.not_false, drew_cell, drew_heap]
      refine ⟨undef, fun w' _ => by try simp only [Pu_some, extV_0, extV_1, extV_2, extV_3, nilV_ptr, nilV_fn, faV_ptr, lenV_sl, lenS_s, capV_sl, pickV_t, pickV_f, unV_not, unV_neg, isB_t, isB_f, isB_u, binV_add, binV_sub, binV_mul, binV_eql, binV_neq, binV_lss, binV_leq, binV_gtr, binV_geq, binV_seql, binV_sneq, binV_slss, binV_beql, binV_bneq, binV_peql, binV_pneq, add_add, add_none, Go.Al.add_zero, Nat.zero_add, Nat.add_zero, IfB_t, IfB_f, Gd_t, Gd_f, Ld_ptr, LdN_ptr, Option.isNone_some, Option.isNone_none, Option.isSome_some, Option.isSome_none, Bool.not_true, Bool.not_false, drew_cell, drew_heap]; exact ⟨(by trivial), (by trivial)⟩, ?_⟩
      try simp only [Pu_some, extV_0, extV_1, extV_2, extV_3, nilV_ptr, nilV_fn, faV_ptr, lenV_sl, lenS_s, capV_sl, pickV_t, pickV_f, unV_not, unV_neg, isB_t, isB_f, isB_u, binV_add, binV_sub, binV_mul, binV_eql, binV_neq, binV_lss, binV_leq, binV_gtr, binV_geq, binV_seql, binV_sneq, binV_slss, binV_beql, binV_bneq, binV_peql, binV_pneq, add_add, add_none, Go.Al.add_zero, Nat.zero_add, Nat.add_zero, IfB_t, IfB_f, Gd_t, Gd_f, Ld_ptr, LdN_ptr, Option.isNone_some, Option.isNone_none, Option.isSome_some, Option.isSome_none, Bool.not_true, Bool.not_false, drew_cell, drew_heap]
      refine ⟨⟨hw3, hit3⟩, ?_⟩
      try simp only [Pu_some, extV_0, extV_1, extV_2, extV_3, nilV_ptr, nilV_fn, faV_ptr, lenV_sl, lenS_s, capV_sl, pickV_t, pickV_f, unV_not, unV_neg, isB_t, isB_f, isB_u, binV_add, binV_sub, binV_mul, binV_eql, binV_neq, binV_lss, binV_leq, binV_gtr, binV_geq, binV_seql, binV_sneq, binV_slss, binV_beql, binV_bneq, binV_peql, binV_pneq, add_add, add_none, Go.Al.add_zero, Nat.zero_add, Nat.add_zero, IfB_t, IfB_f, Gd_t, Gd_f, Ld_ptr, LdN_ptr, Option.isNone_some, Option.isNone_none, Option.isSome_some, Option.isSome_none, Bool.not_true, Bool.not_false, drew_cell, drew_heap]
      exact ⟨_, rfl, hF3, fun e => by cases e⟩
    have z1 : decide (p.lsn < 0) = false := by rw [decide_eq_false_iff_not]; omega
    by_cases k3 : p.level = 0
    rotate_left
    · have z2 : (p.level != 0) = true := by rw [bne_dec]; simp [k3]
      have hbad : badHead p = true := by unfold badHead; rw [decide_eq_true_eq]; omega
      simp only [Pu_some, extV_0, extV_1, extV_2, extV_3, nilV_ptr, nilV_fn, faV_ptr, lenV_sl, lenS_s, capV_sl, pickV_t, pickV_f, unV_not, unV_neg, isB_t, isB_f, isB_u, binV_add, binV_sub, binV_mul, binV_eql, binV_neq, binV_lss, binV_leq, binV_gtr, binV_geq, binV_seql, binV_sneq, binV_slss, binV_beql, binV_bneq, binV_peql, binV_pneq, add_add, add_none, Go.Al.add_zero, Nat.zero_add, Nat.add_zero, IfB_t, IfB_f, Gd_t, Gd_f, Ld_ptr, LdN_ptr, Option.isNone_some, Option.isNone_none, Option.isSome_some, Option.isSome_none, Bool.not_true, Bool.not_false, drew_cell, drew_heap, str_size, str_nil, str_inj, s0, s1, s2, s3, s4, s5, d1, d0, d2, z0, z1, z2, hbad, Bool.true_or, cond_true, true_and]
      refine ⟨undef, fun w' _ => by try simp only [Pu_some, extV_0, extV_1, extV_2, extV_3, nilV_ptr, nilV_fn, faV_ptr, lenV_sl, lenS_s, capV_sl, pickV_t, pickV_f, unV_not, unV_neg, isB_t, isB_f, isB_u, binV_add, binV_sub, binV_mul, binV_eql, binV_neq, binV_lss, binV_leq, binV_gtr, binV_geq, binV_seql, binV_sneq, binV_slss, binV_beql, binV_bneq, binV_peql, binV_pneq, add_add, add_none, Go.Al.add_zero, Nat.zero_add, Nat.add_zero, IfB_t, IfB_f, Gd_t, Gd_f, Ld_ptr, LdN_ptr, Option.isNone_some, Option.isNone_none, Option.isSome_some, Option.isSome_none, Bool.not_true, Bool.not_false, drew_cell, drew_heap]; exact ⟨(by trivial), (by trivial)⟩, ?_⟩
      try simp only [Pu_some, extV_0, extV_1, extV_2, extV_3, nilV_ptr, nilV_fn, faV_ptr, lenV_sl, lenS_s, capV_sl, pickV_t, pickV_f, unV_not, unV_neg, isB_t, isB_f, isB_u, binV_add, binV_sub, binV_mul, binV_eql, binV_neq, binV_lss, binV_leq, binV_gtr, binV_geq, binV_seql, binV_sneq, binV_slss, binV_beql, binV_bneq, binV_peql, binV_pneq, add_add, add_none, Go.Al.add_zero, Nat.zero_add, Nat.add_zero, IfB_t, IfB_f, Gd_t, Gd_f, Ld_ptr, LdN_ptr, Option.isNone_some, Option.isNone_none, Option.isSome_some, Option.isSome_none, Bool.not_true, Bool.not_false, drew_cell, drew_heap]
      refine ⟨undef, fun w' _ => by try simp only [Pu_some, extV_0, extV_1, extV_2, extV_3, nilV_ptr, nilV_fn, faV_ptr, lenV_sl, lenS_s, capV_sl, pickV_t, pickV_f, unV_not, unV_neg, isB_t, isB_f, isB_u, binV_add, binV_sub, binV_mul, binV_eql, binV_neq, binV_lss, binV_leq, binV_gtr, binV_geq, binV_seql, binV_sneq, binV_slss, binV_beql, binV_bneq, binV_peql, binV_pneq, add_add, add_none, Go.Al.add_zero, Nat.zero_add, Nat.add_zero, IfB_t, IfB_f, Gd_t, Gd_f, Ld_ptr, LdN_ptr, Option.isNone_some, Option.isNone_none, Option.isSome_some, Option.isSome_none, Bool.not_true, Bool.not_false, drew_cell, drew_heap]; exact ⟨(by trivial), (by trivial)⟩, ?_⟩
      try simp only [Pu_some, extV_0, extV_1, extV_2, extV_3, nilV_ptr, nilV_fn, faV_ptr, lenV_sl, lenS_s, capV_sl, pickV_t, pickV_f, unV_not, unV_neg, isB_t, isB_f, isB_u, binV_add, binV_sub, binV_mul, binV_eql, binV_neq, binV_lss, binV_leq, binV_gtr, binV_geq, binV_seql, binV_sneq, binV_slss, binV_beql, binV_bneq, binV_peql, binV_pneq, add_add, add_none, Go.Al.add_zero, Nat.zero_add, Nat.add_zero, IfB_t, IfB_f, Gd_t, Gd_f, Ld_ptr, LdN_ptr, Option.isNone_some, Option.isNone_none, Option.isSome_some, Option.isSome_none, Bool.not_true, Bool.not_false, drew_cell, drew_heap]
      refine ⟨⟨hw3, hit3⟩, ?_⟩
      try simp only [Pu_some, extV_0, extV_1, extV_2, extV_3, nilV_ptr, nilV_fn, faV_ptr, lenV_sl, lenS_s, capV_sl, pickV_t, pickV_f, unV_not, unV_neg, isB_t, isB_f, isB_u, binV_add, binV_sub, binV_mul, binV_eql, binV_neq, binV_lss, binV_leq, binV_gtr, binV_geq, binV_seql, binV_sneq, binV_slss, binV_beql, binV_bneq, binV_peql, binV_pneq, add_add, add_none, Go.Al.add_zero, Nat.zero_add, Nat.add_zero, IfB_t, IfB_f, Gd_t, Gd_f, Ld_ptr, LdN_ptr, Option.isNone_some, Option.isNone_none, Option.isSome_some, Option.isSome_none, Bool.not_true, Bool.not_false, drew_cell, drew_heap]
      exact ⟨_, rfl, hF3, fun e => by cases e⟩
    have z2 : (p.level != 0) = false := by rw [bne_dec]; simp [k3]
    by_cases k4 : p.right = 0
    rotate_left
    · have z3 : (p.right != 0) = true := by rw [bne_dec]; simp [k4]
      have hbad : badHead p = true := by unfold badHead; rw [decide_eq_true_eq]; omega
      simp only [Pu_some, extV_0, extV_1, extV_2, extV_3, nilV_ptr, nilV_fn, faV_ptr, lenV_sl, lenS_s, capV_sl, pickV_t, pickV_f, unV_not, unV_neg, isB_t, isB_f, isB_u, binV_add, binV_sub, binV_mul, binV_eql, binV_neq, binV_lss, binV_leq, binV_gtr, binV_geq, binV_seql, binV_sneq, binV_slss, binV_beql, binV_bneq, binV_peql, binV_pneq, add_add, add_none, Go.Al.add_zero, Nat.zero_add, Nat.add_zero, IfB_t, IfB_f, Gd_t, Gd_f, Ld_ptr, LdN_ptr, Option.isNone_some, Option.isNone_none, Option.isSome_some, Option.isSome_none, Bool.not_true, Bool.not_false, drew_cell, drew_heap, str_size, str_nil, str_inj, s0, s1, s2, s3, s4, s5, d1, d0, d2, d3, z0, z1, z2, z3, hbad, Bool.true_or, cond_true, true_and]
      refine ⟨undef, fun w' _ => by try simp only [Pu_some, extV_0, extV_1, extV_2, extV_3, nilV_ptr, nilV_fn, faV_ptr, lenV_sl, lenS_s, capV_sl, pickV_t, pickV_f, unV_not, unV_neg, isB_t, isB_f, isB_u, binV_add, binV_sub, binV_mul, binV_eql, binV_neq, binV_lss, binV_leq, binV_gtr, binV_geq, binV_seql, binV_sneq, binV_slss, binV_beql, binV_bneq, binV_peql, binV_pneq, add_add, add_none, Go.Al.add_zero, Nat.zero_add, Nat.add_zero, IfB_t, IfB_f, Gd_t, Gd_f, Ld_ptr, LdN_ptr, Option.isNone_some, Option.isNone_none, Option.isSome_some, Option.isSome_none, Bool.not_true, Bool.not_false, drew_cell, drew_heap]; exact ⟨(by trivial), (by trivial)⟩, ?_⟩
      try simp only [Pu_some, extV_0, extV_1, extV_2, extV_3, nilV_ptr, nilV_fn, faV_ptr, lenV_sl, lenS_s, capV_sl, pickV_t, pickV_f, unV_not, unV_neg, isB_t, isB_f, isB_u, binV_add, binV_sub, binV_mul, binV_eql, binV_neq, binV_lss, binV_leq, binV_gtr, binV_geq, binV_seql, binV_sneq, binV_slss, binV_beql, binV_bneq, binV_peql, binV_pneq, add_add, add_none, Go.Al.add_zero, Nat.zero_add, Nat.add_zero, IfB_t, IfB_f, Gd_t, Gd_f, Ld_ptr, LdN_ptr, Option.isNone_some, Option.isNone_none, Option.isSome_some, Option.isSome_none, Bool.not_true, Bool.not_false, drew_cell, drew_heap]
      refine ⟨undef, fun w' _ => by try simp only [Pu_some, extV_0, extV_1, extV_2, extV_3, nilV_ptr, nilV_fn, faV_ptr, lenV_sl, lenS_s, capV_sl, pickV_t, pickV_f, unV_not, unV_neg, isB_t, isB_f, isB_u, binV_add, binV_sub, binV_mul, binV_eql, binV_neq, binV_lss, binV_leq, binV_gtr, binV_geq, binV_seql, binV_sneq, binV_slss, binV_beql, binV_bneq, binV_peql, binV_pneq, add_add, add_none, Go.Al.add_zero, Nat.zero_add, Nat.add_zero, IfB_t, IfB_f, Gd_t, Gd_f, Ld_ptr, LdN_ptr, Option.isNone_some, Option.isNone_none, Option.isSome_some, Option.isSome_none, Bool.not_true, Bool.not_false, drew_cell, drew_heap]; exact ⟨(by trivial), (by trivial)⟩, ?_⟩
      try simp only [Pu_some, extV_0, extV_1, extV_2, extV_3, nilV_ptr, nilV_fn, faV_ptr, lenV_sl, lenS_s, capV_sl, pickV_t, pickV_f, unV_not, unV_neg, isB_t, isB_f, isB_u, binV_add, binV_sub, binV_mul, binV_eql, binV_neq, binV_lss, binV_leq, binV_gtr, binV_geq, binV_seql, binV_sneq, binV_slss, binV_beql, binV_bneq, binV_peql, binV_pneq, add_add, add_none, Go.Al.add_zero, Nat.zero_add, Nat.add_zero, IfB_t, IfB_f, Gd_t, Gd_f, Ld_ptr, LdN_ptr, Option.isNone_some, Option.isNone_none, Option.isSome_some, Option.isSome_none, Bool.not_true, Bool.not_false, drew_cell, drew_heap]
      refine ⟨⟨hw3, hit3⟩, ?_⟩
      try simp only [Pu_some, extV_0, extV_1, extV_2, extV_3, nilV_ptr, nilV_fn, faV_ptr, lenV_sl, lenS_s, capV_sl, pickV_t, pickV_f, unV_not, unV_neg, isB_t, isB_f, isB_u, binV_add, binV_sub, binV_mul, binV_eql, binV_neq, binV_lss, binV_leq, binV_gtr, binV_geq, binV_seql, binV_sneq, binV_slss, binV_beql, binV_bneq, binV_peql, binV_pneq, add_add, add_none, Go.Al.add_zero, Nat.zero_add, Nat.add_zero, IfB_t, IfB_f, Gd_t, Gd_f, Ld_ptr, LdN_ptr, Option.isNone_some, Option.isNone_none, Option.isSome_some, Option.isSome_none, Bool.not_true, Bool.not_false, drew_cell, drew_heap]
      exact ⟨_, rfl, hF3, fun e => by cases e⟩
    have z3 : (p.right != 0) = false := by rw [bne_dec]; simp [k4]
    by_cases k5 : p.high = []
    rotate_left
    · have z4 : decide (p.high = []) = false := by simpa using k5
      have hbad : badHead p = true := by unfold badHead; rw [decide_eq_true_eq]; exact .inr (.inr (.inr (.inr (.inl k5))))
      simp only [Pu_some, extV_0, extV_1, extV_2, extV_3, nilV_ptr, nilV_fn, faV_ptr, lenV_sl, lenS_s, capV_sl, pickV_t, pickV_f, unV_not, unV_neg, isB_t, isB_f, isB_u, binV_add, binV_sub, binV_mul, binV_eql, binV_neq, binV_lss, binV_leq, binV_gtr, binV_geq, binV_seql, binV_sneq, binV_slss, binV_beql, binV_bneq, binV_peql, binV_pneq, add_add, add_none, Go.Al.add_zero, Nat.zero_add, Nat.add_zero, IfB_t, IfB_f, Gd_t, Gd_f, Ld_ptr, LdN_ptr, Option.isNone_some, Option.isNone_none, Option.isSome_some, Option.isSome_none, Bool.not_true, Bool.not_false, drew_cell, drew_heap, str_size, str_nil, str_inj, s0, s1, s2, s3, s4, s5, d1, d0, d2, d3, d4, z0, z1, z2, z3, z4, hbad, Bool.true_or, cond_true, true_and]
      refine ⟨undef, fun w' _ => by try simp only [Pu_some, extV_0, extV_1, extV_2, extV_3, nilV_ptr, nilV_fn, faV_ptr, lenV_sl, lenS_s, capV_sl, pickV_t, pickV_f, unV_not, unV_neg, isB_t, isB_f, isB_u, binV_add, binV_sub, binV_mul, binV_eql, binV_neq, binV_lss, binV_leq, binV_gtr, binV_geq, binV_seql, binV_sneq, binV_slss, binV_beql, binV_bneq, binV_peql, binV_pneq, add_add, add_none, Go.Al.add_zero, Nat.zero_add, Nat.add_zero, IfB_t, IfB_f, Gd_t, Gd_f, Ld_ptr, LdN_ptr, Option.isNone_some, Option.isNone_none, Option.isSome_some, Option.isSome_none, Bool.not_true, Bool.not_false, drew_cell, drew_heap]; exact ⟨(by trivial), (by trivial)⟩, ?_⟩
      try simp only [Pu_some, extV_0, extV_1, extV_2, extV_3, nilV_ptr, nilV_fn, faV_ptr, lenV_sl, lenS_s, capV_sl, pickV_t, pickV_f, unV_not, unV_neg, isB_t, isB_f, isB_u, binV_add, binV_sub, binV_mul, binV_eql, binV_neq, binV_lss, binV_leq, binV_gtr, binV_geq, binV_seql, binV_sneq, binV_slss, binV_beql, binV_bneq, binV_peql, binV_pneq, add_add, add_none, Go.Al.add_zero, Nat.zero_add, Nat.add_zero, IfB_t, IfB_f, Gd_t, Gd_f, Ld_ptr, LdN_ptr, Option.isNone_some, Option.isNone_none, Option.isSome_some, Option.isSome_none, Bool.not_true, Bool.not_false, drew_cell, drew_heap]
      refine ⟨undef, fun w' _ => by try simp only [Pu_some, extV_0, extV_1, extV_2, extV_3, nilV_ptr, nilV_fn, faV_ptr, lenV_sl, lenS_s, capV_sl, pickV_t, pickV_f, unV_not, unV_neg, isB_t, isB_f, isB_u, binV_add, binV_sub, binV_mul, binV_eql, binV_neq, binV_lss, binV_leq, binV_gtr, binV_geq, binV_seql, binV_sneq, binV_slss, binV_beql, binV_bneq, binV_peql, binV_pneq, add_add, add_none, Go.Al.add_zero, Nat.zero_add, Nat.add_zero, IfB_t, IfB_f, Gd_t, Gd_f, Ld_ptr, LdN_ptr, Option.isNone_some, Option.isNone_none, Option.isSome_some, Option.isSome_none, Bool.not_true, Bool.not_false, drew_cell, drew_heap]; exact ⟨(by trivial), (by trivial)⟩, ?_⟩
      try simp only [Pu_some, extV_0, extV_1, extV_2, extV_3, nilV_ptr, nilV_fn, faV_ptr, lenV_sl, lenS_s, capV_sl, pickV_t, pickV_f, unV_not, unV_neg, isB_t, isB_f, isB_u, binV_add, binV_sub, binV_mul, binV_eql, binV_neq, binV_lss, binV_leq, binV_gtr, binV_geq, binV_seql, binV_sneq, binV_slss, binV_beql, binV_bneq, binV_peql, binV_pneq, add_add, add_none, Go.Al.add_zero, Nat.zero_add, Nat.add_zero, IfB_t, IfB_f, Gd_t, Gd_f, Ld_ptr, LdN_ptr, Option.isNone_some, Option.isNone_none, Option.isSome_some, Option.isSome_none, Bool.not_true, Bool.not_false, drew_cell, drew_heap]
      refine ⟨⟨hw3, hit3⟩, ?_⟩
      try simp only [Pu_some, extV_0, extV_1, extV_2, extV_3, nilV_ptr, nilV_fn, faV_ptr, lenV_sl, lenS_s, capV_sl, pickV_t, pickV_f, unV_not, unV_neg, isB_t, isB_f, isB_u, binV_add, binV_sub, binV_mul, binV_eql, binV_neq, binV_lss, binV_leq, binV_gtr, binV_geq, binV_seql, binV_sneq, binV_slss, binV_beql, binV_bneq, binV_peql, binV_pneq, add_add, add_none, Go.Al.add_zero, Nat.zero_add, Nat.add_zero, IfB_t, IfB_f, Gd_t, Gd_f, Ld_ptr, LdN_ptr, Option.isNone_some, Option.isNone_none, Option.isSome_some, Option.isSome_none, Bool.not_true, Bool.not_false, drew_cell, drew_heap]
      exact ⟨_, rfl, hF3, fun e => by cases e⟩
    have z4 : decide (p.high = []) = true := by simpa using k5
    by_cases k6 : p.items.length = 2
    rotate_left
    · have z5 : ((p.items.length : Int) != 2) = true := by rw [bne_dec]; simp; omega
      have hbad : badHead p = true := by unfold badHead; rw [decide_eq_true_eq]; omega
      simp only [Pu_some, extV_0, extV_1, extV_2, extV_3, nilV_ptr, nilV_fn, faV_ptr, lenV_sl, lenS_s, capV_sl, pickV_t, pickV_f, unV_not, unV_neg, isB_t, isB_f, isB_u, binV_add, binV_sub, binV_mul, binV_eql, binV_neq, binV_lss, binV_leq, binV_gtr, binV_geq, binV_seql, binV_sneq, binV_slss, binV_beql, binV_bneq, binV_peql, binV_pneq, add_add, add_none, Go.Al.add_zero, Nat.zero_add, Nat.add_zero, IfB_t, IfB_f, Gd_t, Gd_f, Ld_ptr, LdN_ptr, Option.isNone_some, Option.isNone_none, Option.isSome_some, Option.isSome_none, Bool.not_true, Bool.not_false, drew_cell, drew_heap, str_size, str_nil, str_inj, s0, s1, s2, s3, s4, s5, d1, d0, d2, d3, d4, hlv, d5, z0, z1, z2, z3, z4, z5, hbad, Bool.true_or, cond_true, true_and]
      refine ⟨undef, fun w' _ => by try simp only [Pu_some, extV_0, extV_1, extV_2, extV_3, nilV_ptr, nilV_fn, faV_ptr, lenV_sl, lenS_s, capV_sl, pickV_t, pickV_f, unV_not, unV_neg, isB_t, isB_f, isB_u, binV_add, binV_sub, binV_mul, binV_eql, binV_neq, binV_lss, binV_leq, binV_gtr, binV_geq, binV_seql, binV_sneq, binV_slss, binV_beql, binV_bneq, binV_peql, binV_pneq, add_add, add_none, Go.Al.add_zero, Nat.zero_add, Nat.add_zero, IfB_t, IfB_f, Gd_t, Gd_f, Ld_ptr, LdN_ptr, Option.isNone_some, Option.isNone_none, Option.isSome_some, Option.isSome_none, Bool.not_true, Bool.not_false, drew_cell, drew_heap]; exact ⟨(by trivial), (by trivial)⟩, ?_⟩
      try simp only [Pu_some, extV_0, extV_1, extV_2, extV_3, nilV_ptr, nilV_fn, faV_ptr, lenV_sl, lenS_s, capV_sl, pickV_t, pickV_f, unV_not, unV_neg, isB_t, isB_f, isB_u, binV_add, binV_sub, binV_mul, binV_eql, binV_neq, binV_lss, binV_leq, binV_gtr, binV_geq, binV_seql, binV_sneq, binV_slss, binV_beql, binV_bneq, binV_peql, binV_pneq, add_add, add_none, Go.Al.add_zero, Nat.zero_add, Nat.add_zero, IfB_t, IfB_f, Gd_t, Gd_f, Ld_ptr, LdN_ptr, Option.isNone_some, Option.isNone_none, Option.isSome_some, Option.isSome_none, Bool.not_true, Bool.not_false, drew_cell, drew_heap]
      refine ⟨undef, fun w' _ => by try simp only [Pu_some, extV_0, extV_1, extV_2, extV_3, nilV_ptr, nilV_fn, faV_ptr, lenV_sl, lenS_s, capV_sl, pickV_t, pickV_f, unV_not, unV_neg, isB_t, isB_f, isB_u, binV_add, binV_sub, binV_mul, binV_eql, binV_neq, binV_lss, binV_leq, binV_gtr, binV_geq, binV_seql, binV_sneq, binV_slss, binV_beql, binV_bneq, binV_peql, binV_pneq, add_add, add_none, Go.Al.add_zero, Nat.zero_add, Nat.add_zero, IfB_t, IfB_f, Gd_t, Gd_f, Ld_ptr, LdN_ptr, Option.isNone_some, Option.isNone_none, Option.isSome_some, Option.isSome_none, Bool.not_true, Bool.not_false, drew_cell, drew_heap]; exact ⟨(by trivial), (by trivial)⟩, ?_⟩
      try simp only [Pu_some, extV_0, extV_1, extV_2, extV_3, nilV_ptr, nilV_fn, faV_ptr, lenV_sl, lenS_s, capV_sl, pickV_t, pickV_f, unV_not, unV_neg, isB_t, isB_f, isB_u, binV_add, binV_sub, binV_mul, binV_eql, binV_neq, binV_lss, binV_leq, binV_gtr, binV_geq, binV_seql, binV_sneq, binV_slss, binV_beql, binV_bneq, binV_peql, binV_pneq, add_add, add_none, Go.Al.add_zero, Nat.zero_add, Nat.add_zero, IfB_t, IfB_f, Gd_t, Gd_f, Ld_ptr, LdN_ptr, Option.isNone_some, Option.isNone_none, Option.isSome_some, Option.isSome_none, Bool.not_true, Bool.not_false, drew_cell, drew_heap]
      refine ⟨⟨hw3, hit3⟩, ?_⟩
      try simp only [Pu_some, extV_0, extV_1, extV_2, extV_3, nilV_ptr, nilV_fn, faV_ptr, lenV_sl, lenS_s, capV_sl, pickV_t, pickV_f, unV_not, unV_neg, isB_t, isB_f, isB_u, binV_add, binV_sub, binV_mul, binV_eql, binV_neq, binV_lss, binV_leq, binV_gtr, binV_geq, binV_seql, binV_sneq, binV_slss, binV_beql, binV_bneq, binV_peql, binV_pneq, add_add, add_none, Go.Al.add_zero, Nat.zero_add, Nat.add_zero, IfB_t, IfB_f, Gd_t, Gd_f, Ld_ptr, LdN_ptr, Option.isNone_some, Option.isNone_none, Option.isSome_some, Option.isSome_none, Bool.not_true, Bool.not_false, drew_cell, drew_heap]
      exact ⟨_, rfl, hF3, fun e => by cases e⟩
    have z5 : ((p.items.length : Int) != 2) = false := by rw [k6]; rfl
    have hbad : badHead p = false := by unfold badHead; rw [decide_eq_false_iff_not]; rintro (h | h | h | h | h | h) <;> first | exact h k1 | omega | exact h k3 | exact h k4 | exact h k5 | exact h k6
    have i0 : p.items[0]? = some (it0 p) := by unfold it0; rw [List.getD_eq_getElem?_getD, List.getElem?_eq_getElem (by omega)]; rfl
    have i1 : p.items[1]? = some (it1 p) := by unfold it1; rw [List.getD_eq_getElem?_getD, List.getElem?_eq_getElem (by omega)]; rfl
    have l0 := hsm _ (List.mem_of_getElem? i0)
    have l1 := hsm _ (List.mem_of_getElem? i1)
    have at_ : ∀ {w' : World} {i : Nat} {x : Bs}, CellsAt w' iv0 p.items.length 1 (p.items.map stv) → p.items[i]? = some x → ∃ ad, ixV 1 iv0 (iv (i : Nat)) = some (.pointer (some ad)) ∧ w'.cell? ad = some (stv x) := fun h hi => by
      obtain ⟨ad, h1, _, h2⟩ := h.at1 (i := _) (x := stv _) (by rw [List.getElem?_map, hi]; rfl) .i64
      exact ⟨ad, h1, h2⟩
    obtain ⟨a1, hix1, hc1⟩ := at_ hit3 i1
    have ix1 : ixV 1 iv0 (.int .i64 1) = some (.pointer (some a1)) := hix1
    simp only [Pu_some, extV_0, extV_1, extV_2, extV_3, nilV_ptr, nilV_fn, faV_ptr, lenV_sl, lenS_s, capV_sl, pickV_t, pickV_f, unV_not, unV_neg, isB_t, isB_f, isB_u, binV_add, binV_sub, binV_mul, binV_eql, binV_neq, binV_lss, binV_leq, binV_gtr, binV_geq, binV_seql, binV_sneq, binV_slss, binV_beql, binV_bneq, binV_peql, binV_pneq, add_add, add_none, Go.Al.add_zero, Nat.zero_add, Nat.add_zero, IfB_t, IfB_f, Gd_t, Gd_f, Ld_ptr, LdN_ptr, Option.isNone_some, Option.isNone_none, Option.isSome_some, Option.isSome_none, Bool.not_true, Bool.not_false, drew_cell, drew_heap, str_size, str_nil, str_inj, s0, s1, s2, s3, s4, s5, d1, z0, d0, z1, d2, z2, d3, z3, d4, z4, d5, hlv, z5, true_and]
    refine ⟨iv0, fun w' hw' => by
      have : w'.cell? ⟨x3, 5, none⟩ = some iv0 := by rw [cell_at hw'.1]; rfl
      simp only [Pu_some, extV_0, extV_1, extV_2, extV_3, nilV_ptr, nilV_fn, faV_ptr, lenV_sl, lenS_s, capV_sl, pickV_t, pickV_f, unV_not, unV_neg, isB_t, isB_f, isB_u, binV_add, binV_sub, binV_mul, binV_eql, binV_neq, binV_lss, binV_leq, binV_gtr, binV_geq, binV_seql, binV_sneq, binV_slss, binV_beql, binV_bneq, binV_peql, binV_pneq, add_add, add_none, Go.Al.add_zero, Nat.zero_add, Nat.add_zero, IfB_t, IfB_f, Gd_t, Gd_f, Ld_ptr, LdN_ptr, Option.isNone_some, Option.isNone_none, Option.isSome_some, Option.isSome_none, Bool.not_true, Bool.not_false, drew_cell, drew_heap, this]; exact ⟨(by trivial), (by trivial)⟩, ?_⟩
    simp only [Pu_some, extV_0, extV_1, extV_2, extV_3, nilV_ptr, nilV_fn, faV_ptr, lenV_sl, lenS_s, capV_sl, pickV_t, pickV_f, unV_not, unV_neg, isB_t, isB_f, isB_u, binV_add, binV_sub, binV_mul, binV_eql, binV_neq, binV_lss, binV_leq, binV_gtr, binV_geq, binV_seql, binV_sneq, binV_slss, binV_beql, binV_bneq, binV_peql, binV_pneq, add_add, add_none, Go.Al.add_zero, Nat.zero_add, Nat.add_zero, IfB_t, IfB_f, Gd_t, Gd_f, Ld_ptr, LdN_ptr, Option.isNone_some, Option.isNone_none, Option.isSome_some, Option.isSome_none, Bool.not_true, Bool.not_false, drew_cell, drew_heap, ix1]
    refine ⟨stv (it1 p), fun w' hw' => by
      obtain ⟨a1', hix1', hc1'⟩ := at_ hw'.2 i1
      have : a1' = a1 := by rw [hix1] at hix1'; simpa using hix1'.symm
      subst this
      simp only [Pu_some, extV_0, extV_1, extV_2, extV_3, nilV_ptr, nilV_fn, faV_ptr, lenV_sl, lenS_s, capV_sl, pickV_t, pickV_f, unV_not, unV_neg, isB_t, isB_f, isB_u, binV_add, binV_sub, binV_mul, binV_eql, binV_neq, binV_lss, binV_leq, binV_gtr, binV_geq, binV_seql, binV_sneq, binV_slss, binV_beql, binV_bneq, binV_peql, binV_pneq, add_add, add_none, Go.Al.add_zero, Nat.zero_add, Nat.add_zero, IfB_t, IfB_f, Gd_t, Gd_f, Ld_ptr, LdN_ptr, Option.isNone_some, Option.isNone_none, Option.isSome_some, Option.isSome_none, Bool.not_true, Bool.not_false, drew_cell, drew_heap, hc1']; exact ⟨(by trivial), (by trivial)⟩, ?_⟩
    simp only [Pu_some, extV_0, extV_1, extV_2, extV_3, nilV_ptr, nilV_fn, faV_ptr, lenV_sl, lenS_s, capV_sl, pickV_t, pickV_f, unV_not, unV_neg, isB_t, isB_f, isB_u, binV_add, binV_sub, binV_mul, binV_eql, binV_neq, binV_lss, binV_leq, binV_gtr, binV_geq, binV_seql, binV_sneq, binV_slss, binV_beql, binV_bneq, binV_peql, binV_pneq, add_add, add_none, Go.Al.add_zero, Nat.zero_add, Nat.add_zero, IfB_t, IfB_f, Gd_t, Gd_f, Ld_ptr, LdN_ptr, Option.isNone_some, Option.isNone_none, Option.isSome_some, Option.isSome_none, Bool.not_true, Bool.not_false, drew_cell, drew_heap, str_size, str_nil, str_inj]
    refine (csize_spec w3 hmm).mono ?_
    rintro _ w3 ⟨rfl, rfl⟩
    refine ⟨⟨hw3, hit3⟩, ?_⟩
    rw [hbad, Bool.false_or]
    by_cases hsz : ((it1 p).length : Int) = (m + 3) / 4
    rotate_left
    · have e1 : (((it1 p).length : Int) != (m + 3) / 4) = true := by rw [bne_dec]; simp [hsz]
      have e2 : decide (((it1 p).length : Int) ≠ (m + 3) / 4) = true := by simpa using hsz
      simp only [Pu_some, extV_0, extV_1, extV_2, extV_3, nilV_ptr, nilV_fn, faV_ptr, lenV_sl, lenS_s, capV_sl, pickV_t, pickV_f, unV_not, unV_neg, isB_t, isB_f, isB_u, binV_add, binV_sub, binV_mul, binV_eql, binV_neq, binV_lss, binV_leq, binV_gtr, binV_geq, binV_seql, binV_sneq, binV_slss, binV_beql, binV_bneq, binV_peql, binV_pneq, add_add, add_none, Go.Al.add_zero, Nat.zero_add, Nat.add_zero, IfB_t, IfB_f, Gd_t, Gd_f, Ld_ptr, LdN_ptr, Option.isNone_some, Option.isNone_none, Option.isSome_some, Option.isSome_none, Bool.not_true, Bool.not_false, drew_cell, drew_heap, e1, e2, cond_true]
      exact ⟨_, rfl, hF3, fun e => by cases e⟩
    have e1 : (((it1 p).length : Int) != (m + 3) / 4) = false := by rw [hsz]; simp
    have e2 : decide (((it1 p).length : Int) ≠ (m + 3) / 4) = false := by simpa using hsz
    obtain ⟨a0, hix0, hc0⟩ := at_ hit3 i0
    have ix0 : ixV 1 iv0 (.int .i64 0) = some (.pointer (some a0)) := hix0
    simp only [Pu_some, extV_0, extV_1, extV_2, extV_3, nilV_ptr, nilV_fn, faV_ptr, lenV_sl, lenS_s, capV_sl, pickV_t, pickV_f, unV_not, unV_neg, isB_t, isB_f, isB_u, binV_add, binV_sub, binV_mul, binV_eql, binV_neq, binV_lss, binV_leq, binV_gtr, binV_geq, binV_seql, binV_sneq, binV_slss, binV_beql, binV_bneq, binV_peql, binV_pneq, add_add, add_none, Go.Al.add_zero, Nat.zero_add, Nat.add_zero, IfB_t, IfB_f, Gd_t, Gd_f, Ld_ptr, LdN_ptr, Option.isNone_some, Option.isNone_none, Option.isSome_some, Option.isSome_none, Bool.not_true, Bool.not_false, drew_cell, drew_heap, e1, e2, cond_false, d5, ix0, hc0]
    refine (bread_spec w3 (it0 p)).mono ?_
    rintro _ w4 ⟨r, rfl, hr, hR4, hf4⟩
    refine (bnum_spec hR4 m (by omega) (by omega)).mono ?_
    rintro _ w5 ⟨rfl, hR5, hf5⟩
    have hopen : rdNum m (it0 p) 0 = openR m p := rfl
    rw [hopen] at hR5 ⊢
    have hF5' : Fm (fun _ => False) w3 w5 := Fm.own hf4 hf5 (by rintro x rfl; exact hr)
    have hF5 := Fmf hF3 hF5'
    have hw5 := hF5'.heap hw3 (fun e => e)
    have hit5 := hit3.keep hF5' (fun _ _ e => e)
    have g5 : w5.cell? ⟨x3, 5, none⟩ = some iv0 := by rw [cell_at hw5]; rfl
    obtain ⟨a1', hix1', hc1'⟩ := at_ hit5 i1
    have : a1' = a1 := by rw [hix1] at hix1'; simpa using hix1'.symm
    subst this
    simp only [Pu_some, extV_0, extV_1, extV_2, extV_3, nilV_ptr, nilV_fn, faV_ptr, lenV_sl, lenS_s, capV_sl, pickV_t, pickV_f, unV_not, unV_neg, isB_t, isB_f, isB_u, binV_add, binV_sub, binV_mul, binV_eql, binV_neq, binV_lss, binV_leq, binV_gtr, binV_geq, binV_seql, binV_sneq, binV_slss, binV_beql, binV_bneq, binV_peql, binV_pneq, add_add, add_none, Go.Al.add_zero, Nat.zero_add, Nat.add_zero, IfB_t, IfB_f, Gd_t, Gd_f, Ld_ptr, LdN_ptr, Option.isNone_some, Option.isNone_none, Option.isSome_some, Option.isSome_none, Bool.not_true, Bool.not_false, drew_cell, drew_heap, g5, ix1, hc1']
    obtain ⟨cap, w6, hcv, hB6, hf6, hs6⟩ := conv_bytes B44 w5 (it1 p)
    refine RunS_ok hcv ?_
    have hrl := hR5.lt
    have hR6 := hR5.keep hf6 (fun e => e)
    refine (bend_spec hR6).mono ?_
    rintro _ w6 ⟨rfl, rfl⟩
    have hF6 := Fmf hF5 hf6
    have hz5 := hF5.size
    have fin_bad : badBody m p = true → ∃ bv, Value.tuple #[iv 0, .slice none 0 0, iv 31] = .tuple #[iv (bif badBody m p then ((0, [], 31) : Int × Bs × Int) else ((openR m p).1, it1 p, 0)).1, bv, iv (bif badBody m p then ((0, [], 31) : Int × Bs × Int) else ((openR m p).1, it1 p, 0)).2.2] ∧ Fm (fun _ => False) w w6 ∧
        ((bif badBody m p then ((0, [], 31) : Int × Bs × Int) else ((openR m p).1, it1 p, 0)).2.2 = 0 → ∃ g cap, bv = .slice (some ⟨g, 0, none⟩) (bif badBody m p then ((0, [], 31) : Int × Bs × Int) else ((openR m p).1, it1 p, 0)).2.1.length cap ∧ w.heap.size ≤ g ∧ BX w6 g 5 (bif badBody m p then ((0, [], 31) : Int × Bs × Int) else ((openR m p).1, it1 p, 0)).2.1) := by
      intro hb
      rw [hb]
      exact ⟨_, rfl, hF6, fun e => by cases e⟩
    by_cases q1 : endE (openR m p).2.1 (openR m p).2.2 = 0
    rotate_left
    · have e3 : (endE (openR m p).2.1 (openR m p).2.2 != 0) = true := by rw [bne_dec]; simp [q1]
      have hb : badBody m p = true := by unfold badBody; simp [q1]
      simp only [Pu_some, extV_0, extV_1, extV_2, extV_3, nilV_ptr, nilV_fn, faV_ptr, lenV_sl, lenS_s, capV_sl, pickV_t, pickV_f, unV_not, unV_neg, isB_t, isB_f, isB_u, binV_add, binV_sub, binV_mul, binV_eql, binV_neq, binV_lss, binV_leq, binV_gtr, binV_geq, binV_seql, binV_sneq, binV_slss, binV_beql, binV_bneq, binV_peql, binV_pneq, add_add, add_none, Go.Al.add_zero, Nat.zero_add, Nat.add_zero, IfB_t, IfB_f, Gd_t, Gd_f, Ld_ptr, LdN_ptr, Option.isNone_some, Option.isNone_none, Option.isSome_some, Option.isSome_none, Bool.not_true, Bool.not_false, drew_cell, drew_heap, e3]
      exact fin_bad hb
    have e3 : (endE (openR m p).2.1 (openR m p).2.2 != 0) = false := by rw [q1]; rfl
    by_cases q2 : (openR m p).1 = 0
    · have e4 : ((openR m p).1 == 0) = true := by rw [q2]; rfl
      have hb : badBody m p = true := by unfold badBody; simp [q2]
      simp only [Pu_some, extV_0, extV_1, extV_2, extV_3, nilV_ptr, nilV_fn, faV_ptr, lenV_sl, lenS_s, capV_sl, pickV_t, pickV_f, unV_not, unV_neg, isB_t, isB_f, isB_u, binV_add, binV_sub, binV_mul, binV_eql, binV_neq, binV_lss, binV_leq, binV_gtr, binV_geq, binV_seql, binV_sneq, binV_slss, binV_beql, binV_bneq, binV_peql, binV_pneq, add_add, add_none, Go.Al.add_zero, Nat.zero_add, Nat.add_zero, IfB_t, IfB_f, Gd_t, Gd_f, Ld_ptr, LdN_ptr, Option.isNone_some, Option.isNone_none, Option.isSome_some, Option.isSome_none, Bool.not_true, Bool.not_false, drew_cell, drew_heap, e3, e4]
      exact fin_bad hb
    have e4 : ((openR m p).1 == 0) = false := by simpa using q2
    have e5 := rem_pos (TypeDesc.int IntKind.i64) (a := m) (b := 4) (by omega) (by decide) (by omega)
    have good : badBody m p = false → ∃ bv, Value.tuple #[iv (openR m p).1, .slice (some ⟨w5.heap.size, 0, none⟩) (it1 p).length cap, iv 0] = .tuple #[iv (bif badBody m p then ((0, [], 31) : Int × Bs × Int) else ((openR m p).1, it1 p, 0)).1, bv, iv (bif badBody m p then ((0, [], 31) : Int × Bs × Int) else ((openR m p).1, it1 p, 0)).2.2] ∧ Fm (fun _ => False) w w6 ∧
        ((bif badBody m p then ((0, [], 31) : Int × Bs × Int) else ((openR m p).1, it1 p, 0)).2.2 = 0 → ∃ g cap, bv = .slice (some ⟨g, 0, none⟩) (bif badBody m p then ((0, [], 31) : Int × Bs × Int) else ((openR m p).1, it1 p, 0)).2.1.length cap ∧ w.heap.size ≤ g ∧ BX w6 g 5 (bif badBody m p then ((0, [], 31) : Int × Bs × Int) else ((openR m p).1, it1 p, 0)).2.1) := by
      intro hb
      rw [hb]
      exact ⟨_, rfl, hF6, fun _ => ⟨w5.heap.size, cap, rfl, hz5, hB6⟩⟩
    have hbb : badBody m p = badEnd m (it1 p) := by unfold badBody; simp [q1, q2]
    by_cases q3 : m % 4 = 0
    · have e6 : (m % 4 != 0) = false := by rw [q3]; rfl
      have hb : badBody m p = false := by rw [hbb]; unfold badEnd; simp [q3]
      simp only [Pu_some, extV_0, extV_1, extV_2, extV_3, nilV_ptr, nilV_fn, faV_ptr, lenV_sl, lenS_s, capV_sl, pickV_t, pickV_f, unV_not, unV_neg, isB_t, isB_f, isB_u, binV_add, binV_sub, binV_mul, binV_eql, binV_neq, binV_lss, binV_leq, binV_gtr, binV_geq, binV_seql, binV_sneq, binV_slss, binV_beql, binV_bneq, binV_peql, binV_pneq, add_add, add_none, Go.Al.add_zero, Nat.zero_add, Nat.add_zero, IfB_t, IfB_f, Gd_t, Gd_f, Ld_ptr, LdN_ptr, Option.isNone_some, Option.isNone_none, Option.isSome_some, Option.isSome_none, Bool.not_true, Bool.not_false, drew_cell, drew_heap, e3, e4, e5, e6]
      exact good hb
    have e6 : (m % 4 != 0) = true := by rw [bne_dec]; simp [q3]
    have hlpos : 0 < (it1 p).length := by omega
    have e7 : IntKind.i64.wrap (((it1 p).length : Int) - 1) = (((it1 p).length - 1 : Nat) : Int) := by rw [wrap_id] <;> omega
    have hlast : (it1 p)[(it1 p).length - 1]? = some ((it1 p).getD ((it1 p).length - 1) 0) := by rw [List.getD_eq_getElem?_getD, List.getElem?_eq_getElem (by omega)]; rfl
    have c6 := hB6.cell hlast
    have hltl : (it1 p).length - 1 < (it1 p).length := by omega
    have hbe : badEnd m (it1 p) = decide (((it1 p).getD ((it1 p).length - 1) 0).toNat / 2 ^ (2 * (m % 4)).toNat ≠ 0) := by unfold badEnd; simp [q3]
    generalize (it1 p).getD ((it1 p).length - 1) 0 = bl at hlast c6 hbe
    have hm4 : 0 ≤ m % 4 ∧ m % 4 < 4 := by omega
    have e8 : IntKind.i64.wrap (2 * (m % 4)) = (((2 * (m % 4)).toNat : Nat) : Int) := by rw [wrap_id] <;> omega
    have e9 := shr_u8 bl.toNat (2 * (m % 4)).toNat (by omega) (TypeDesc.int IntKind.u8)
    simp only [Pu_some, extV_0, extV_1, extV_2, extV_3, nilV_ptr, nilV_fn, faV_ptr, lenV_sl, lenS_s, capV_sl, pickV_t, pickV_f, unV_not, unV_neg, isB_t, isB_f, isB_u, binV_add, binV_sub, binV_mul, binV_eql, binV_neq, binV_lss, binV_leq, binV_gtr, binV_geq, binV_seql, binV_sneq, binV_slss, binV_beql, binV_bneq, binV_peql, binV_pneq, add_add, add_none, Go.Al.add_zero, Nat.zero_add, Nat.add_zero, IfB_t, IfB_f, Gd_t, Gd_f, Ld_ptr, LdN_ptr, Option.isNone_some, Option.isNone_none, Option.isSome_some, Option.isSome_none, Bool.not_true, Bool.not_false, drew_cell, drew_heap, e3, e4, e5, e6, e7, ixV_at hltl, Nat.mul_one, c6, e8, e9]
    by_cases q4 : bl.toNat / 2 ^ (2 * (m % 4)).toNat = 0
    · have f1 : (((bl.toNat / 2 ^ (2 * (m % 4)).toNat : Nat) : Int) != 0) = false := by rw [q4]; rfl
      have hb : badBody m p = false := by rw [hbb, hbe]; simp only [q4, ne_eq, not_true_eq_false, decide_false]
      simp only [Pu_some, extV_0, extV_1, extV_2, extV_3, nilV_ptr, nilV_fn, faV_ptr, lenV_sl, lenS_s, capV_sl, pickV_t, pickV_f, unV_not, unV_neg, isB_t, isB_f, isB_u, binV_add, binV_sub, binV_mul, binV_eql, binV_neq, binV_lss, binV_leq, binV_gtr, binV_geq, binV_seql, binV_sneq, binV_slss, binV_beql, binV_bneq, binV_peql, binV_pneq, add_add, add_none, Go.Al.add_zero, Nat.zero_add, Nat.add_zero, IfB_t, IfB_f, Gd_t, Gd_f, Ld_ptr, LdN_ptr, Option.isNone_some, Option.isNone_none, Option.isSome_some, Option.isSome_none, Bool.not_true, Bool.not_false, drew_cell, drew_heap, f1]
      exact good hb
    · have f1 : (((bl.toNat / 2 ^ (2 * (m % 4)).toNat : Nat) : Int) != 0) = true := by rw [bne_dec]; simp only [Bool.not_eq_true', decide_eq_false_iff_not]; omega
      have hb : badBody m p = true := by rw [hbb, hbe]; simpa using q4
      simp only [Pu_some, extV_0, extV_1, extV_2, extV_3, nilV_ptr, nilV_fn, faV_ptr, lenV_sl, lenS_s, capV_sl, pickV_t, pickV_f, unV_not, unV_neg, isB_t, isB_f, isB_u, binV_add, binV_sub, binV_mul, binV_eql, binV_neq, binV_lss, binV_leq, binV_gtr, binV_geq, binV_seql, binV_sneq, binV_slss, binV_beql, binV_bneq, binV_peql, binV_pneq, add_add, add_none, Go.Al.add_zero, Nat.zero_add, Nat.add_zero, IfB_t, IfB_f, Gd_t, Gd_f, Ld_ptr, LdN_ptr, Option.isNone_some, Option.isNone_none, Option.isSome_some, Option.isSome_none, Bool.not_true, Bool.not_false, drew_cell, drew_heap, f1]
      exact fin_bad hb

end Go.Proofs.Ythgdinjgdjiknaa
