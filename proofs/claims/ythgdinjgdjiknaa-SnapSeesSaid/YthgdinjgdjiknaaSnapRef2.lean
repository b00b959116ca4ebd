/- The document's answer: a page of statuses, and what a view sees. -/
import Derived.Test.YthgdinjgdjiknaaSnapRef
namespace Go.Proofs.Ythgdinjgdjiknaa
open Go.Al Go.Proofs
set_option linter.unusedVariables false
set_option linter.unusedSimpArgs false
set_option linter.unusedSectionVars false
set_option maxRecDepth 100000

def stD (b : Bs) (i : Nat) : Nat := (b.getD (i / 4) 0).toNat / 4 ^ (i % 4) % 4
theorem stAt_D (b : Bs) (i : Nat) : stAt b ((i : Int) + 1) = (stD b i : Nat) := by
  unfold stAt stD plN
  have h1 : ((i : Int) + 1 - 1).toNat = i := by omega
  rw [h1, Nat.pow_mul]
theorem last_digit {m : Int} {b : Bs} (hb : (b.length : Int) = (m + 3) / 4) (hm : 16 ≤ m) {i : Nat} (h1 : m ≤ i) (h2 : i < 4 * b.length) : i / 4 = b.length - 1 ∧ m % 4 ≠ 0 ∧ (m % 4).toNat ≤ i % 4 := by
  omega
theorem badEnd_of {m : Int} {b : Bs} (hb : (b.length : Int) = (m + 3) / 4) (hm : 16 ≤ m) {i : Nat} (h1 : m ≤ i) (h2 : i < 4 * b.length) (hd : stD b i ≠ 0) : badEnd m b = true := by
  obtain ⟨e1, e2, e3⟩ := last_digit hb hm h1 h2
  unfold badEnd
  rw [decide_eq_true_eq]
  refine ⟨e2, fun h0 => hd ?_⟩
  unfold stD
  rw [e1]
  generalize (b.getD (b.length - 1) 0).toNat = c at *
  have h4 : (2 * (m % 4)).toNat = 2 * (m % 4).toNat := by omega
  rw [h4, Nat.pow_mul] at h0
  have hlt : c < (2 ^ 2) ^ (m % 4).toNat := by
    rcases Nat.div_eq_zero_iff.1 h0 with h | h
    · have := Nat.pow_pos (n := (m % 4).toNat) (show 0 < 2 ^ 2 by decide); omega
    · exact h
  have : c < 4 ^ (i % 4) := Nat.lt_of_lt_of_le hlt (Nat.pow_le_pow_right (by decide) e3)
  rw [Nat.div_eq_of_lt this]
theorem badEnd_not {m : Int} {b : Bs} (hb : (b.length : Int) = (m + 3) / 4) (hm : 16 ≤ m) (h : ∀ i : Nat, m ≤ i → i < 4 * b.length → stD b i = 0) : badEnd m b = false := by
  unfold badEnd
  rw [decide_eq_false_iff_not]
  rintro ⟨h0, h1⟩
  apply h1
  have hlen : 4 ≤ b.length := by omega
  have d : ∀ j : Nat, (m % 4).toNat ≤ j → j < 4 → (b.getD (b.length - 1) 0).toNat / 4 ^ j % 4 = 0 := by
    intro j hj hj4
    have := h (4 * (b.length - 1) + j) (by omega) (by omega)
    unfold stD at this
    have e1 : (4 * (b.length - 1) + j) / 4 = b.length - 1 := by omega
    have e2 : (4 * (b.length - 1) + j) % 4 = j := by omega
    rw [e1, e2] at this; exact this
  have hc : (b.getD (b.length - 1) 0).toNat < 256 := (b.getD (b.length - 1) 0).toNat_lt
  generalize (b.getD (b.length - 1) 0).toNat = c at *
  have h4 : (2 * (m % 4)).toNat = 2 * (m % 4).toNat := by omega
  rw [h4, Nat.pow_mul]
  have hr : (m % 4).toNat = 1 ∨ (m % 4).toNat = 2 ∨ (m % 4).toNat = 3 := by omega
  have d3 := d 3 (by omega) (by omega)
  rcases hr with hr | hr | hr
  · have d1 := d 1 (by omega) (by omega)
    have d2 := d 2 (by omega) (by omega)
    rw [hr]; simp only [Nat.reducePow] at *; omega
  · have d2 := d 2 (by omega) (by omega)
    rw [hr]; simp only [Nat.reducePow] at *; omega
  · rw [hr]; simp only [Nat.reducePow] at *; omega

theorem E170 : ElemT Try.prog 170 114 1 1 := elemT_of Try.underlying170 (by kernel_rfl)
theorem bs170 (x : Int) (w : World) : (Instr.buildSlice 170 1 #[(0, .int .u8 x)]).run Try.prog w = .ok (.slice (some ⟨w.heap.size, 0, none⟩) 1 1) (w.alloc (.cells #[.int .u8 x] 114)) := by kernel_rfl
theorem bld184 (s : Bs) (w : World) : (Instr.build 184 #[(0, stv s)]).run Try.prog w = .ok (.agg #[stv s, iv 0, iv 0]) w := by kernel_rfl
def sts (b : Bs) (n : Nat) : List Value := (List.range n).map fun i => Value.int .u8 (stD b i : Nat)
theorem sts_succ (b : Bs) (n : Nat) : sts b (n + 1) = sts b n ++ [.int .u8 (stD b n : Nat)] := by
  unfold sts; rw [List.range_succ, List.map_append]; rfl
theorem sts_len (b : Bs) (n : Nat) : (sts b n).length = n := by simp [sts]

set_option maxHeartbeats 2000000 in
theorem rtaken_spec {w : World} {cs : Array Value} {p : Pg} (hp : PgAs w cs p) {m : Int} (hm : In m) : Cl Try.prog 123 [iv m, .agg cs] w fun v w' => ∃ ov, v = .tuple #[iv (clogOpen m p).1, ov, iv (clogOpen m p).2.2] ∧ Fm (fun _ => False) w w' ∧
      ((clogOpen m p).2.2 = 0 → CellsAt w' ov m.toNat 1 (sts (clogOpen m p).2.1 m.toNat)) := by
  obtain ⟨iv0, hcs, hit⟩ := hp.ex
  have hsm := hp.small
  subst hcs
  refine c123 ?_; unfold T123
  refine New_any ?_
  intro x3 w1 hx3 hs1 hw1 hf1
  replace hw1 : w1.heap[x3]? = some (.cells #[iv p.lsn, iv p.kind, iv p.level, iv p.right, stv p.high, iv0] 95) := hw1
  refine (rright_spec w1 hm).mono ?_
  rintro _ w1 ⟨rfl, rfl⟩
  unfold clogOpen
  cases h1 : modOk m with
  | false =>
    simp only [Pu_some, extV_0, extV_1, extV_2, extV_3, nilV_ptr, nilV_fn, faV_ptr, lenV_sl, lenS_s, capV_sl, pickV_t, pickV_f, unV_not, unV_neg, isB_t, isB_f, isB_u, binV_add, binV_sub, binV_mul, binV_eql, binV_neq, binV_lss, binV_leq, binV_gtr, binV_geq, binV_seql, binV_sneq, binV_slss, binV_beql, binV_bneq, binV_peql, binV_pneq, add_add, add_none, Go.Al.add_zero, Nat.zero_add, Nat.add_zero, IfB_t, IfB_f, Gd_t, Gd_f, Ld_ptr, LdN_ptr, Option.isNone_some, Option.isNone_none, Option.isSome_some, Option.isSome_none, Bool.not_true, Bool.not_false, drew_cell, drew_heap, cond_true]
    exact ⟨_, rfl, hf1, fun e => by cases e⟩
  | true =>
    have hmm : 16 ≤ m ∧ m ≤ 1024 := by unfold modOk at h1; simp only [decide_eq_true_eq] at h1; omega
    have hit1 := hit.keep hf1 (fun _ _ e => e)
    have d0 : w1.cell? ⟨x3, 0, none⟩ = some (iv p.lsn) := by rw [cell_at hw1]; rfl
    have d1 : w1.cell? ⟨x3, 1, none⟩ = some (iv p.kind) := by rw [cell_at hw1]; rfl
    have d2 : w1.cell? ⟨x3, 2, none⟩ = some (iv p.level) := by rw [cell_at hw1]; rfl
    have d3 : w1.cell? ⟨x3, 3, none⟩ = some (iv p.right) := by rw [cell_at hw1]; rfl
    have d4 : w1.cell? ⟨x3, 4, none⟩ = some (stv p.high) := by rw [cell_at hw1]; rfl
    have d5 : w1.cell? ⟨x3, 5, none⟩ = some iv0 := by rw [cell_at hw1]; rfl
    have hlv := hit1.lenV
    have headbad : badHead p = true → (∃ ov, Value.tuple #[iv 0, .slice none 0 0, iv 31] = .tuple #[iv (bif badHead p || decide (((it1 p).length : Int) ≠ (m + 3) / 4) then ((0, [], 31) : Int × Bs × Int) else bif badBody m p then (0, [], 31) else ((openR m p).1, it1 p, 0)).1, ov, iv (bif badHead p || decide (((it1 p).length : Int) ≠ (m + 3) / 4) then ((0, [], 31) : Int × Bs × Int) else bif badBody m p then (0, [], 31) else ((openR m p).1, it1 p, 0)).2.2] ∧ Fm (fun _ => False) w w1 ∧
      ((bif badHead p || decide (((it1 p).length : Int) ≠ (m + 3) / 4) then ((0, [], 31) : Int × Bs × Int) else bif badBody m p then (0, [], 31) else ((openR m p).1, it1 p, 0)).2.2 = 0 → CellsAt w1 ov m.toNat 1 (sts (bif badHead p || decide (((it1 p).length : Int) ≠ (m + 3) / 4) then ((0, [], 31) : Int × Bs × Int) else bif badBody m p then (0, [], 31) else ((openR m p).1, it1 p, 0)).2.1 m.toNat))) := by
      intro hb
      rw [hb]
      exact ⟨_, rfl, hf1, fun e => by cases e⟩
    by_cases k1 : p.kind = 1
    rotate_left
    · have z0 : (p.kind != 1) = true := by rw [bne_dec]; simp [k1]
      simp only [Pu_some, extV_0, extV_1, extV_2, extV_3, nilV_ptr, nilV_fn, faV_ptr, lenV_sl, lenS_s, capV_sl, pickV_t, pickV_f, unV_not, unV_neg, isB_t, isB_f, isB_u, binV_add, binV_sub, binV_mul, binV_eql, binV_neq, binV_lss, binV_leq, binV_gtr, binV_geq, binV_seql, binV_sneq, binV_slss, binV_beql, binV_bneq, binV_peql, binV_pneq, add_add, add_none, Go.Al.add_zero, Nat.zero_add, Nat.add_zero, IfB_t, IfB_f, Gd_t, Gd_f, Ld_ptr, LdN_ptr, Option.isNone_some, Option.isNone_none, Option.isSome_some, Option.isSome_none, Bool.not_true, Bool.not_false, drew_cell, drew_heap, str_size, str_nil, str_inj, d1, z0, cond_false]
      exact headbad (by unfold badHead; rw [decide_eq_true_eq]; omega)
    have z0 : (p.kind != 1) = false := by rw [bne_dec]; simp [k1]
    by_cases k2 : 0 ≤ p.lsn
    rotate_left
    · have z1 : decide (p.lsn < 0) = true := by rw [decide_eq_true_eq]; omega
      simp only [Pu_some, extV_0, extV_1, extV_2, extV_3, nilV_ptr, nilV_fn, faV_ptr, lenV_sl, lenS_s, capV_sl, pickV_t, pickV_f, unV_not, unV_neg, isB_t, isB_f, isB_u, binV_add, binV_sub, binV_mul, binV_eql, binV_neq, binV_lss, binV_leq, binV_gtr, binV_geq, binV_seql, binV_sneq, binV_slss, binV_beql, binV_bneq, binV_peql, binV_pneq, add_add, add_none, Go.Al.add_zero, Nat.zero_add, Nat.add_zero, IfB_t, IfB_f, Gd_t, Gd_f, Ld_ptr, LdN_ptr, Option.isNone_some, Option.isNone_none, Option.isSome_some, Option.isSome_none, Bool.not_true, Bool.not_false, drew_cell, drew_heap, str_size, str_nil, str_inj, d1, d0, z0, z1, cond_false]
      exact headbad (by unfold badHead; rw [decide_eq_true_eq]; omega)
    have z1 : decide (p.lsn < 0) = false := by rw [decide_eq_false_iff_not]; omega
    by_cases k3 : p.level = 0
    rotate_left
    · have z2 : (p.level != 0) = true := by rw [bne_dec]; simp [k3]
      simp only [Pu_some, extV_0, extV_1, extV_2, extV_3, nilV_ptr, nilV_fn, faV_ptr, lenV_sl, lenS_s, capV_sl, pickV_t, pickV_f, unV_not, unV_neg, isB_t, isB_f, isB_u, binV_add, binV_sub, binV_mul, binV_eql, binV_neq, binV_lss, binV_leq, binV_gtr, binV_geq, binV_seql, binV_sneq, binV_slss, binV_beql, binV_bneq, binV_peql, binV_pneq, add_add, add_none, Go.Al.add_zero, Nat.zero_add, Nat.add_zero, IfB_t, IfB_f, Gd_t, Gd_f, Ld_ptr, LdN_ptr, Option.isNone_some, Option.isNone_none, Option.isSome_some, Option.isSome_none, Bool.not_true, Bool.not_false, drew_cell, drew_heap, str_size, str_nil, str_inj, d1, d0, d2, z0, z1, z2, cond_false]
      exact headbad (by unfold badHead; rw [decide_eq_true_eq]; omega)
    have z2 : (p.level != 0) = false := by rw [bne_dec]; simp [k3]
    by_cases k4 : p.right = 0
    rotate_left
    · have z3 : (p.right != 0) = true := by rw [bne_dec]; simp [k4]
      simp only [Pu_some, extV_0, extV_1, extV_2, extV_3, nilV_ptr, nilV_fn, faV_ptr, lenV_sl, lenS_s, capV_sl, pickV_t, pickV_f, unV_not, unV_neg, isB_t, isB_f, isB_u, binV_add, binV_sub, binV_mul, binV_eql, binV_neq, binV_lss, binV_leq, binV_gtr, binV_geq, binV_seql, binV_sneq, binV_slss, binV_beql, binV_bneq, binV_peql, binV_pneq, add_add, add_none, Go.Al.add_zero, Nat.zero_add, Nat.add_zero, IfB_t, IfB_f, Gd_t, Gd_f, Ld_ptr, LdN_ptr, Option.isNone_some, Option.isNone_none, Option.isSome_some, Option.isSome_none, Bool.not_true, Bool.not_false, drew_cell, drew_heap, str_size, str_nil, str_inj, d1, d0, d2, d3, z0, z1, z2, z3, cond_false]
      exact headbad (by unfold badHead; rw [decide_eq_true_eq]; omega)
    have z3 : (p.right != 0) = false := by rw [bne_dec]; simp [k4]
    by_cases k5 : p.high = []
    rotate_left
    · have z4 : decide (p.high = []) = false := by simpa using k5
      simp only [Pu_some, extV_0, extV_1, extV_2, extV_3, nilV_ptr, nilV_fn, faV_ptr, lenV_sl, lenS_s, capV_sl, pickV_t, pickV_f, unV_not, unV_neg, isB_t, isB_f, isB_u, binV_add, binV_sub, binV_mul, binV_eql, binV_neq, binV_lss, binV_leq, binV_gtr, binV_geq, binV_seql, binV_sneq, binV_slss, binV_beql, binV_bneq, binV_peql, binV_pneq, add_add, add_none, Go.Al.add_zero, Nat.zero_add, Nat.add_zero, IfB_t, IfB_f, Gd_t, Gd_f, Ld_ptr, LdN_ptr, Option.isNone_some, Option.isNone_none, Option.isSome_some, Option.isSome_none, Bool.not_true, Bool.not_false, drew_cell, drew_heap, str_size, str_nil, str_inj, d1, d0, d2, d3, d4, z0, z1, z2, z3, z4, cond_false]
      exact headbad (by unfold badHead; rw [decide_eq_true_eq]; exact .inr (.inr (.inr (.inr (.inl k5)))))
    have z4 : decide (p.high = []) = true := by simpa using k5
    by_cases k6 : p.items.length = 2
    rotate_left
    · have z5 : ((p.items.length : Int) != 2) = true := by rw [bne_dec]; simp; omega
      simp only [Pu_some, extV_0, extV_1, extV_2, extV_3, nilV_ptr, nilV_fn, faV_ptr, lenV_sl, lenS_s, capV_sl, pickV_t, pickV_f, unV_not, unV_neg, isB_t, isB_f, isB_u, binV_add, binV_sub, binV_mul, binV_eql, binV_neq, binV_lss, binV_leq, binV_gtr, binV_geq, binV_seql, binV_sneq, binV_slss, binV_beql, binV_bneq, binV_peql, binV_pneq, add_add, add_none, Go.Al.add_zero, Nat.zero_add, Nat.add_zero, IfB_t, IfB_f, Gd_t, Gd_f, Ld_ptr, LdN_ptr, Option.isNone_some, Option.isNone_none, Option.isSome_some, Option.isSome_none, Bool.not_true, Bool.not_false, drew_cell, drew_heap, str_size, str_nil, str_inj, d1, d0, d2, d3, d4, d5, hlv, z0, z1, z2, z3, z4, z5, cond_false]
      exact headbad (by unfold badHead; rw [decide_eq_true_eq]; omega)
    have z5 : ((p.items.length : Int) != 2) = false := by rw [k6]; rfl
    have hbad : badHead p = false := by unfold badHead; rw [decide_eq_false_iff_not]; rintro (h | h | h | h | h | h) <;> first | exact h k1 | omega | exact h k3 | exact h k4 | exact h k5 | exact h k6
    have i0 : p.items[0]? = some (it0 p) := by unfold it0; rw [List.getD_eq_getElem?_getD, List.getElem?_eq_getElem (by omega)]; rfl
    have i1 : p.items[1]? = some (it1 p) := by unfold it1; rw [List.getD_eq_getElem?_getD, List.getElem?_eq_getElem (by omega)]; rfl
    have l0 := hsm _ (List.mem_of_getElem? i0)
    have l1 := hsm _ (List.mem_of_getElem? i1)
    obtain ⟨a0, hix0, _, hc0⟩ := hit.at1 (i := 0) (x := stv (it0 p)) (by rw [List.getElem?_map, i0]; rfl) .i64
    obtain ⟨a1, hix1, _, hc1⟩ := hit.at1 (i := 1) (x := stv (it1 p)) (by rw [List.getElem?_map, i1]; rfl) .i64
    have ix0 : ixV 1 iv0 (.int .i64 0) = some (.pointer (some a0)) := hix0
    have ix1 : ixV 1 iv0 (.int .i64 1) = some (.pointer (some a1)) := hix1
    have f0 := hf1.cell' hc0 (fun e => e)
    have f1 := hf1.cell' hc1 (fun e => e)
    have e1 : IntKind.i64.wrap (m + 3) = m + 3 := wrap_id (by omega)
    have e2 := quo_pos (TypeDesc.int IntKind.i64) (a := m + 3) (b := 4) (by omega) (by decide) (by omega)
    rw [hbad, Bool.false_or]
    by_cases hsz : ((it1 p).length : Int) = (m + 3) / 4
    rotate_left
    · have g1 : (((it1 p).length : Int) != (m + 3) / 4) = true := by rw [bne_dec]; simp [hsz]
      have g2 : decide (((it1 p).length : Int) ≠ (m + 3) / 4) = true := by simpa using hsz
      simp only [Pu_some, extV_0, extV_1, extV_2, extV_3, nilV_ptr, nilV_fn, faV_ptr, lenV_sl, lenS_s, capV_sl, pickV_t, pickV_f, unV_not, unV_neg, isB_t, isB_f, isB_u, binV_add, binV_sub, binV_mul, binV_eql, binV_neq, binV_lss, binV_leq, binV_gtr, binV_geq, binV_seql, binV_sneq, binV_slss, binV_beql, binV_bneq, binV_peql, binV_pneq, add_add, add_none, Go.Al.add_zero, Nat.zero_add, Nat.add_zero, IfB_t, IfB_f, Gd_t, Gd_f, Ld_ptr, LdN_ptr, Option.isNone_some, Option.isNone_none, Option.isSome_some, Option.isSome_none, Bool.not_true, Bool.not_false, drew_cell, drew_heap, str_size, str_nil, str_inj, d1, d0, d2, d3, d4, d5, hlv, z0, z1, z2, z3, z4, z5, cond_false, ix1, f1, e1, e2, g1, g2, cond_true]
      exact ⟨_, rfl, hf1, fun e => by cases e⟩
    have g1 : (((it1 p).length : Int) != (m + 3) / 4) = false := by rw [hsz]; simp
    have g2 : decide (((it1 p).length : Int) ≠ (m + 3) / 4) = false := by simpa using hsz
    simp only [Pu_some, extV_0, extV_1, extV_2, extV_3, nilV_ptr, nilV_fn, faV_ptr, lenV_sl, lenS_s, capV_sl, pickV_t, pickV_f, unV_not, unV_neg, isB_t, isB_f, isB_u, binV_add, binV_sub, binV_mul, binV_eql, binV_neq, binV_lss, binV_leq, binV_gtr, binV_geq, binV_seql, binV_sneq, binV_slss, binV_beql, binV_bneq, binV_peql, binV_pneq, add_add, add_none, Go.Al.add_zero, Nat.zero_add, Nat.add_zero, IfB_t, IfB_f, Gd_t, Gd_f, Ld_ptr, LdN_ptr, Option.isNone_some, Option.isNone_none, Option.isSome_some, Option.isSome_none, Bool.not_true, Bool.not_false, drew_cell, drew_heap, str_size, str_nil, str_inj, d1, d0, d2, d3, d4, d5, hlv, z0, z1, z2, z3, z4, z5, cond_false, ix1, f1, e1, e2, g1, g2, ix0, f0]
    refine RunS_ok (bld184 _ w1) ?_
    refine New_any ?_
    intro x62 w2 hx62 hs2 hw2 hf2
    replace hw2 : RR w2 x62 (it0 p) 0 0 := hw2
    refine (rnum_spec hw2 m (by omega) (by omega)).mono ?_
    rintro _ w3 ⟨rfl, ⟨a', hR3, hrest⟩, hf3⟩
    have hopen : rdNum m (it0 p) 0 = openR m p := rfl
    rw [hopen] at hR3 hrest ⊢
    have hF3 : Fm (fun _ => False) w w3 := Fm.own (Fmf hf1 hf2) hf3 (by rintro x rfl; omega)
    refine (rend_spec hR3).mono ?_
    rintro _ w4 ⟨rfl, hf4⟩
    have hF4 := Fmf hF3 hf4
    have hend : (bif decide ((openR m p).2.2 = 0) && decide ((a' : Int) < (it0 p).length) then 12 else (openR m p).2.2) = endE (openR m p).2.1 (openR m p).2.2 := by
      unfold endE
      cases h0 : decide ((openR m p).2.2 = 0) with
      | false => rfl
      | true =>
        obtain ⟨hr1, hr2⟩ := hrest (by simpa using h0)
        rw [hr1, List.length_drop]
        congr 1
        rw [Bool.true_and, Bool.true_and, decide_eq_decide]; omega
    rw [hend]
    have fin_bad : badBody m p = true → ∀ w', Fm (fun _ => False) w w' → ∃ bv, Value.tuple #[iv 0, .slice none 0 0, iv 31] = .tuple #[iv (bif badBody m p then ((0, [], 31) : Int × Bs × Int) else ((openR m p).1, it1 p, 0)).1, bv, iv (bif badBody m p then ((0, [], 31) : Int × Bs × Int) else ((openR m p).1, it1 p, 0)).2.2] ∧ Fm (fun _ => False) w w' ∧
        ((bif badBody m p then ((0, [], 31) : Int × Bs × Int) else ((openR m p).1, it1 p, 0)).2.2 = 0 → CellsAt w' bv m.toNat 1 (sts (bif badBody m p then ((0, [], 31) : Int × Bs × Int) else ((openR m p).1, it1 p, 0)).2.1 m.toNat)) := by
      intro hb w' hF
      rw [hb]
      exact ⟨_, rfl, hF, fun e => by cases e⟩
    by_cases q1 : endE (openR m p).2.1 (openR m p).2.2 = 0
    rotate_left
    · have e3 : (endE (openR m p).2.1 (openR m p).2.2 != 0) = true := by rw [bne_dec]; simp [q1]
      simp only [Pu_some, extV_0, extV_1, extV_2, extV_3, nilV_ptr, nilV_fn, faV_ptr, lenV_sl, lenS_s, capV_sl, pickV_t, pickV_f, unV_not, unV_neg, isB_t, isB_f, isB_u, binV_add, binV_sub, binV_mul, binV_eql, binV_neq, binV_lss, binV_leq, binV_gtr, binV_geq, binV_seql, binV_sneq, binV_slss, binV_beql, binV_bneq, binV_peql, binV_pneq, add_add, add_none, Go.Al.add_zero, Nat.zero_add, Nat.add_zero, IfB_t, IfB_f, Gd_t, Gd_f, Ld_ptr, LdN_ptr, Option.isNone_some, Option.isNone_none, Option.isSome_some, Option.isSome_none, Bool.not_true, Bool.not_false, drew_cell, drew_heap, e3]
      exact fin_bad (by unfold badBody; simp [q1]) _ hF4
    have e3 : (endE (openR m p).2.1 (openR m p).2.2 != 0) = false := by rw [q1]; rfl
    have hn0 : 0 ≤ (openR m p).1 := (rdN_in m 9 0 0 (it0 p)).1
    by_cases q2 : (openR m p).1 = 0
    · have e4 : decide ((openR m p).1 < 1) = true := by rw [decide_eq_true_eq]; omega
      simp only [Pu_some, extV_0, extV_1, extV_2, extV_3, nilV_ptr, nilV_fn, faV_ptr, lenV_sl, lenS_s, capV_sl, pickV_t, pickV_f, unV_not, unV_neg, isB_t, isB_f, isB_u, binV_add, binV_sub, binV_mul, binV_eql, binV_neq, binV_lss, binV_leq, binV_gtr, binV_geq, binV_seql, binV_sneq, binV_slss, binV_beql, binV_bneq, binV_peql, binV_pneq, add_add, add_none, Go.Al.add_zero, Nat.zero_add, Nat.add_zero, IfB_t, IfB_f, Gd_t, Gd_f, Ld_ptr, LdN_ptr, Option.isNone_some, Option.isNone_none, Option.isSome_some, Option.isSome_none, Bool.not_true, Bool.not_false, drew_cell, drew_heap, e3, e4]
      exact fin_bad (by unfold badBody; simp [q2]) _ hF4
    have e4 : decide ((openR m p).1 < 1) = false := by rw [decide_eq_false_iff_not]; omega
    have hbb : badBody m p = badEnd m (it1 p) := by unfold badBody; simp [q1, q2]
    simp only [Pu_some, extV_0, extV_1, extV_2, extV_3, nilV_ptr, nilV_fn, faV_ptr, lenV_sl, lenS_s, capV_sl, pickV_t, pickV_f, unV_not, unV_neg, isB_t, isB_f, isB_u, binV_add, binV_sub, binV_mul, binV_eql, binV_neq, binV_lss, binV_leq, binV_gtr, binV_geq, binV_seql, binV_sneq, binV_slss, binV_beql, binV_bneq, binV_peql, binV_pneq, add_add, add_none, Go.Al.add_zero, Nat.zero_add, Nat.add_zero, IfB_t, IfB_f, Gd_t, Gd_f, Ld_ptr, LdN_ptr, Option.isNone_some, Option.isNone_none, Option.isSome_some, Option.isSome_none, Bool.not_true, Bool.not_false, drew_cell, drew_heap, e3, e4]
    have hw4 : w4.heap[x3]? = some (.cells #[iv p.lsn, iv p.kind, iv p.level, iv p.right, stv p.high, iv0] 95) := hf4.heap (hf3.heap (hf2.heap hw1 (fun e => e)) (by have := lt_of_heap hw1; omega)) (fun e => e)
    have hz4 := hF4.size
    refine ⟨fun vs w5 => ∃ (i : Nat) (ov : Value), vs = [ov, iv i] ∧ i ≤ 4 * (it1 p).length ∧ w5.ownsRow w4.heap.size 114 1 ov (min i m.toNat) (sts (it1 p) (min i m.toNat)) ∧ (∀ j : Nat, m ≤ j → j < i → stD (it1 p) j = 0) ∧ Fm (fun b => w4.heap.size ≤ b) w4 w5, fun vs _ => (4 * (it1 p).length - nth vs 1).toNat, ⟨0, .slice none 0 0, rfl, by omega, ?_, fun j _ h => by omega, Fm.refl _ _⟩, ?_⟩
    · rw [Nat.zero_min]; exact World.ownsRow_nil _ _ _ _
    rintro _ w5 ov_ iv_ ⟨i, ov, hvs, hi, ho5, hdig, hf5⟩
    cases hvs
    have hw5 := hf5.heap hw4 (by have := lt_of_heap hw4; omega)
    have hF5 : Fm (fun _ => False) w w5 := Fm.own hF4 hf5 (by intro x hx; omega)
    have d5' : w5.cell? ⟨x3, 5, none⟩ = some iv0 := by rw [cell_at hw5]; rfl
    have f1' := hF5.cell' hc1 (fun e => e)
    have e5 : IntKind.i64.wrap (4 * ((it1 p).length : Int)) = ((4 * (it1 p).length : Nat) : Int) := by rw [wrap_id] <;> omega
    have hz5 := hf5.size
    by_cases hlt : i < 4 * (it1 p).length
    · have e6 : decide ((i : Int) < ((4 * (it1 p).length : Nat) : Int)) = true := by rw [decide_eq_true_eq]; omega
      have e7 : IntKind.i64.wrap ((i : Int) + 1) = ((i + 1 : Nat) : Int) := by rw [wrap_id] <;> omega
      have e8 := quo_nat (TypeDesc.int IntKind.i64) (n := i) (m := 4) (b := 4) (by omega) (by omega) rfl
      have e9 := rem_nat (TypeDesc.int IntKind.i64) (n := i) (m := 4) (b := 4) (by omega) (by omega) rfl
      have hidx : (it1 p)[i / 4]? = some ((it1 p).getD (i / 4) 0) := by rw [List.getD_eq_getElem?_getD, List.getElem?_eq_getElem (by omega)]; rfl
      have hst : stD (it1 p) i = ((it1 p).getD (i / 4) 0).toNat / 4 ^ (i % 4) % 4 := rfl
      generalize (it1 p).getD (i / 4) 0 = c at hidx hst
      have hc256 := c.toNat_lt
      have e10 : cvI .i64 (.int .u8 (c.toNat : Int)) = some (iv (c.toNat : Int)) := by
        show some (iv (IntKind.i64.wrap _)) = _
        rw [wrap_nat (by omega)]
      simp only [Pu_some, extV_0, extV_1, extV_2, extV_3, nilV_ptr, nilV_fn, faV_ptr, lenV_sl, lenS_s, capV_sl, pickV_t, pickV_f, unV_not, unV_neg, isB_t, isB_f, isB_u, binV_add, binV_sub, binV_mul, binV_eql, binV_neq, binV_lss, binV_leq, binV_gtr, binV_geq, binV_seql, binV_sneq, binV_slss, binV_beql, binV_bneq, binV_peql, binV_pneq, add_add, add_none, Go.Al.add_zero, Nat.zero_add, Nat.add_zero, IfB_t, IfB_f, Gd_t, Gd_f, Ld_ptr, LdN_ptr, Option.isNone_some, Option.isNone_none, Option.isSome_some, Option.isSome_none, Bool.not_true, Bool.not_false, drew_cell, drew_heap, str_size, str_nil, str_inj, d5', ix1, f1', e5, e6]
      refine Jn_at (fun vs w7 => ∃ ov' : Value, vs = [ov'] ∧ w7.ownsRow w4.heap.size 114 1 ov' (min (i + 1) m.toNat) (sts (it1 p) (min (i + 1) m.toNat)) ∧ (∀ j : Nat, m ≤ j → j < i + 1 → stD (it1 p) j = 0) ∧ Fm (fun b => w4.heap.size ≤ b) w4 w7) ?_ ?_
      · rintro _ w7 ⟨ov', rfl, ho7, hd7, hf7⟩ _
        refine ⟨_, rfl, ?_⟩
        simp only [Pu_some, extV_0, extV_1, extV_2, extV_3, nilV_ptr, nilV_fn, faV_ptr, lenV_sl, lenS_s, capV_sl, pickV_t, pickV_f, unV_not, unV_neg, isB_t, isB_f, isB_u, binV_add, binV_sub, binV_mul, binV_eql, binV_neq, binV_lss, binV_leq, binV_gtr, binV_geq, binV_seql, binV_sneq, binV_slss, binV_beql, binV_bneq, binV_peql, binV_pneq, add_add, add_none, Go.Al.add_zero, Nat.zero_add, Nat.add_zero, IfB_t, IfB_f, Gd_t, Gd_f, Ld_ptr, LdN_ptr, Option.isNone_some, Option.isNone_none, Option.isSome_some, Option.isSome_none, Bool.not_true, Bool.not_false, drew_cell, drew_heap, e7]
        exact ⟨⟨i + 1, ov', rfl, by omega, ho7, hd7, hf7⟩, by simp only [nth_1]; omega⟩
      intro kk hkk
      simp only [Pu_some, extV_0, extV_1, extV_2, extV_3, nilV_ptr, nilV_fn, faV_ptr, lenV_sl, lenS_s, capV_sl, pickV_t, pickV_f, unV_not, unV_neg, isB_t, isB_f, isB_u, binV_add, binV_sub, binV_mul, binV_eql, binV_neq, binV_lss, binV_leq, binV_gtr, binV_geq, binV_seql, binV_sneq, binV_slss, binV_beql, binV_bneq, binV_peql, binV_pneq, add_add, add_none, Go.Al.add_zero, Nat.zero_add, Nat.add_zero, IfB_t, IfB_f, Gd_t, Gd_f, Ld_ptr, LdN_ptr, Option.isNone_some, Option.isNone_none, Option.isSome_some, Option.isSome_none, Bool.not_true, Bool.not_false, drew_cell, drew_heap, str_size, str_nil, str_inj, d5', ix1, f1', e8, ixS_str hidx, e10]
      refine ⟨fun vs w6 => ∃ j : Nat, vs = [iv (c.toNat / 4 ^ j : Nat), iv j] ∧ j ≤ i % 4 ∧ w6 = w5, fun vs _ => (4 - nth vs 1).toNat, ⟨0, by simp, by omega, rfl⟩, ?_⟩
      rintro _ w6 nn jj ⟨j, hvs, hj, rfl⟩
      cases hvs
      by_cases hj2 : j < i % 4
      · have b1 : decide ((j : Int) < ((i % 4 : Nat) : Int)) = true := by rw [decide_eq_true_eq]; omega
        have hle := Nat.div_le_self c.toNat (4 ^ j)
        have b2 := quo_nat (TypeDesc.int IntKind.i64) (n := c.toNat / 4 ^ j) (m := 4) (b := 4) (by omega) (by omega) rfl
        have b3 : IntKind.i64.wrap ((j : Int) + 1) = ((j + 1 : Nat) : Int) := by rw [wrap_id] <;> omega
        simp only [Pu_some, extV_0, extV_1, extV_2, extV_3, nilV_ptr, nilV_fn, faV_ptr, lenV_sl, lenS_s, capV_sl, pickV_t, pickV_f, unV_not, unV_neg, isB_t, isB_f, isB_u, binV_add, binV_sub, binV_mul, binV_eql, binV_neq, binV_lss, binV_leq, binV_gtr, binV_geq, binV_seql, binV_sneq, binV_slss, binV_beql, binV_bneq, binV_peql, binV_pneq, add_add, add_none, Go.Al.add_zero, Nat.zero_add, Nat.add_zero, IfB_t, IfB_f, Gd_t, Gd_f, Ld_ptr, LdN_ptr, Option.isNone_some, Option.isNone_none, Option.isSome_some, Option.isSome_none, Bool.not_true, Bool.not_false, drew_cell, drew_heap, e9, b1, b2, b3]
        refine ⟨⟨j + 1, ?_, by omega, (by trivial)⟩, by simp only [nth_1]; omega⟩
        rw [Nat.div_div_eq_div_mul, ← Nat.pow_succ]
      · have hje : j = i % 4 := by omega
        subst hje
        have b1 : decide (((i % 4 : Nat) : Int) < ((i % 4 : Nat) : Int)) = false := by simp
        have hle := Nat.div_le_self c.toNat (4 ^ (i % 4))
        have b2 := rem_nat (TypeDesc.int IntKind.i64) (n := c.toNat / 4 ^ (i % 4)) (m := 4) (b := 4) (by omega) (by omega) rfl
        rw [← hst] at b2
        have hs4 : stD (it1 p) i < 4 := by rw [hst]; exact Nat.mod_lt _ (by decide)
        have b3 : cvI .u8 (iv ((stD (it1 p) i : Nat) : Int)) = some (.int .u8 ((stD (it1 p) i : Nat) : Int)) := by
          show some (Value.int .u8 (IntKind.u8.wrap _)) = _
          rw [u8_wrap_nat, Nat.mod_eq_of_lt (by omega)]
        simp only [Pu_some, extV_0, extV_1, extV_2, extV_3, nilV_ptr, nilV_fn, faV_ptr, lenV_sl, lenS_s, capV_sl, pickV_t, pickV_f, unV_not, unV_neg, isB_t, isB_f, isB_u, binV_add, binV_sub, binV_mul, binV_eql, binV_neq, binV_lss, binV_leq, binV_gtr, binV_geq, binV_seql, binV_sneq, binV_slss, binV_beql, binV_bneq, binV_peql, binV_pneq, add_add, add_none, Go.Al.add_zero, Nat.zero_add, Nat.add_zero, IfB_t, IfB_f, Gd_t, Gd_f, Ld_ptr, LdN_ptr, Option.isNone_some, Option.isNone_none, Option.isSome_some, Option.isSome_none, Bool.not_true, Bool.not_false, drew_cell, drew_heap, e9, b1, b2, b3]
        by_cases him : (i : Int) < m
        · have b4 : decide ((i : Int) < m) = true := by simpa using him
          have m1 : min i m.toNat = i := by omega
          have m2 : min (i + 1) m.toNat = i + 1 := by omega
          rw [m1] at ho5
          rw [m2] at hkk
          simp only [Pu_some, extV_0, extV_1, extV_2, extV_3, nilV_ptr, nilV_fn, faV_ptr, lenV_sl, lenS_s, capV_sl, pickV_t, pickV_f, unV_not, unV_neg, isB_t, isB_f, isB_u, binV_add, binV_sub, binV_mul, binV_eql, binV_neq, binV_lss, binV_leq, binV_gtr, binV_geq, binV_seql, binV_sneq, binV_slss, binV_beql, binV_bneq, binV_peql, binV_pneq, add_add, add_none, Go.Al.add_zero, Nat.zero_add, Nat.add_zero, IfB_t, IfB_f, Gd_t, Gd_f, Ld_ptr, LdN_ptr, Option.isNone_some, Option.isNone_none, Option.isSome_some, Option.isSome_none, Bool.not_true, Bool.not_false, drew_cell, drew_heap, b4]
          refine append_el' E170 (by omega) 170 (cs := [.int .u8 ((stD (it1 p) i : Nat) : Int)]) rfl (bs170 _ w6) (by intro u hu; simp at hu; subst hu; rfl) ho5 (by unfold maxLen; omega) (by omega) (by omega) ?_
          intro ov2 w7 ho7 _ hf7
          have hl5 := own_lt ho5
          rw [← sts_succ] at ho7
          exact hkk _ _ ⟨ov2, rfl, ho7, fun j h1 h2 => hdig j h1 (by omega), hf5.trans hf7 (fun _ _ e => e) (fun x _ e => (hl5 x e).1)⟩
        · have b4 : decide ((i : Int) < m) = false := by simpa using him
          have m1 : min (i + 1) m.toNat = min i m.toNat := by omega
          rw [m1] at hkk
          by_cases hs0 : stD (it1 p) i = 0
          · have b5 : (((stD (it1 p) i : Nat) : Int) != 0) = false := by rw [hs0]; rfl
            simp only [Pu_some, extV_0, extV_1, extV_2, extV_3, nilV_ptr, nilV_fn, faV_ptr, lenV_sl, lenS_s, capV_sl, pickV_t, pickV_f, unV_not, unV_neg, isB_t, isB_f, isB_u, binV_add, binV_sub, binV_mul, binV_eql, binV_neq, binV_lss, binV_leq, binV_gtr, binV_geq, binV_seql, binV_sneq, binV_slss, binV_beql, binV_bneq, binV_peql, binV_pneq, add_add, add_none, Go.Al.add_zero, Nat.zero_add, Nat.add_zero, IfB_t, IfB_f, Gd_t, Gd_f, Ld_ptr, LdN_ptr, Option.isNone_some, Option.isNone_none, Option.isSome_some, Option.isSome_none, Bool.not_true, Bool.not_false, drew_cell, drew_heap, b4, b5]
            refine hkk _ _ ⟨_, rfl, ho5, fun j h1 h2 => ?_, hf5⟩
            by_cases hji : j = i
            · subst hji; exact hs0
            · exact hdig j h1 (by omega)
          · have b5 : (((stD (it1 p) i : Nat) : Int) != 0) = true := by rw [bne_dec]; simp; omega
            simp only [Pu_some, extV_0, extV_1, extV_2, extV_3, nilV_ptr, nilV_fn, faV_ptr, lenV_sl, lenS_s, capV_sl, pickV_t, pickV_f, unV_not, unV_neg, isB_t, isB_f, isB_u, binV_add, binV_sub, binV_mul, binV_eql, binV_neq, binV_lss, binV_leq, binV_gtr, binV_geq, binV_seql, binV_sneq, binV_slss, binV_beql, binV_bneq, binV_peql, binV_pneq, add_add, add_none, Go.Al.add_zero, Nat.zero_add, Nat.add_zero, IfB_t, IfB_f, Gd_t, Gd_f, Ld_ptr, LdN_ptr, Option.isNone_some, Option.isNone_none, Option.isSome_some, Option.isSome_none, Bool.not_true, Bool.not_false, drew_cell, drew_heap, b4, b5]
            exact fin_bad (by rw [hbb]; exact badEnd_of hsz hmm.1 (by omega) hlt hs0) _ hF5
    · have hie : i = 4 * (it1 p).length := by omega
      subst hie
      have e6 : decide (((4 * (it1 p).length : Nat) : Int) < ((4 * (it1 p).length : Nat) : Int)) = false := by simp
      simp only [Pu_some, extV_0, extV_1, extV_2, extV_3, nilV_ptr, nilV_fn, faV_ptr, lenV_sl, lenS_s, capV_sl, pickV_t, pickV_f, unV_not, unV_neg, isB_t, isB_f, isB_u, binV_add, binV_sub, binV_mul, binV_eql, binV_neq, binV_lss, binV_leq, binV_gtr, binV_geq, binV_seql, binV_sneq, binV_slss, binV_beql, binV_bneq, binV_peql, binV_pneq, add_add, add_none, Go.Al.add_zero, Nat.zero_add, Nat.add_zero, IfB_t, IfB_f, Gd_t, Gd_f, Ld_ptr, LdN_ptr, Option.isNone_some, Option.isNone_none, Option.isSome_some, Option.isSome_none, Bool.not_true, Bool.not_false, drew_cell, drew_heap, str_size, str_nil, str_inj, d5', ix1, f1', e5, e6]
      have hgood : badBody m p = false := by rw [hbb]; exact badEnd_not hsz hmm.1 hdig
      rw [hgood]
      have m1 : min (4 * (it1 p).length) m.toNat = m.toNat := by omega
      rw [m1] at ho5
      exact ⟨_, rfl, hF5, fun _ => CellsAt.of_own ho5⟩

end Go.Proofs.Ythgdinjgdjiknaa
