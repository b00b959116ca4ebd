/- The document's answer: a reader, a page of statuses read. -/
import Derived.Test.YthgdinjgdjiknaaSnapAwake
namespace Go.Proofs.Ythgdinjgdjiknaa
open Go.Al Go.Proofs
set_option linter.unusedVariables false
set_option linter.unusedSimpArgs false
set_option linter.unusedSectionVars false
set_option maxRecDepth 100000

/-- The document's reader, in block r. -/
def RR (w : World) (r : Nat) (s : Bs) (a e : Int) : Prop := w.heap[r]? = some (.cells #[stv s, iv a, iv e] 184)
section
variable {S : Nat → Prop} {w w' : World} {r : Nat} {s : Bs} {a e : Int}
theorem RR.keep (h : RR w r s a e) (hf : Fm S w w') (hs : ¬ S r) : RR w' r s a e := hf.heap h hs
theorem RR.c0 (h : RR w r s a e) : w.cell? ⟨r, 0, none⟩ = some (stv s) := by rw [cell_at h]; rfl
theorem RR.c1 (h : RR w r s a e) : w.cell? ⟨r, 1, none⟩ = some (iv a) := by rw [cell_at h]; rfl
theorem RR.c2 (h : RR w r s a e) : w.cell? ⟨r, 2, none⟩ = some (iv e) := by rw [cell_at h]; rfl
theorem RR.lt (h : RR w r s a e) : r < w.heap.size := lt_of_heap h
end
theorem rwrong_spec {w : World} {r : Nat} {s : Bs} {a e : Int} (h : RR w r s a e) (x : Int) : Cl Try.prog 144 [pv r, iv x] w fun v w' => v = iv 0 ∧ RR w' r s a x ∧ Fm (· = r) w w' := by
  refine c144 ?_; unfold T144
  simp only [Pu_some, extV_0, extV_1, extV_2, extV_3, nilV_ptr, nilV_fn, faV_ptr, lenV_sl, lenS_s, capV_sl, pickV_t, pickV_f, unV_not, unV_neg, isB_t, isB_f, isB_u, binV_add, binV_sub, binV_mul, binV_eql, binV_neq, binV_lss, binV_leq, binV_gtr, binV_geq, binV_seql, binV_sneq, binV_slss, binV_beql, binV_bneq, binV_peql, binV_pneq, add_add, add_none, Go.Al.add_zero, Nat.zero_add, Nat.add_zero, IfB_t, IfB_f, Gd_t, Gd_f, Ld_ptr, LdN_ptr, Option.isNone_some, Option.isNone_none, Option.isSome_some, Option.isSome_none, Bool.not_true, Bool.not_false, drew_cell, drew_heap]
  refine St_blk h (by simp) rfl ?_
  intro w1 h1 _ hf1
  exact ⟨(by trivial), h1, hf1⟩
theorem rend_spec {w : World} {r : Nat} {s : Bs} {a e : Int} (h : RR w r s a e) : Cl Try.prog 132 [pv r] w fun v w' => v = iv (bif decide (e = 0) && decide (a < s.length) then 12 else e) ∧ Fm (fun _ => False) w w' := by
  refine c132 ?_; unfold T132
  have hfd := Fm.drew (fun _ => False) w
  have hd := h.keep hfd (fun e => e)
  by_cases he : e = 0
  · have e1 : (e == 0) = true := by simpa using he
    have e2 : decide (e = 0) = true := by simpa using he
    cases h3 : decide (a < (s.length : Int)) with
    | true =>
      simp only [Pu_some, extV_0, extV_1, extV_2, extV_3, nilV_ptr, nilV_fn, faV_ptr, lenV_sl, lenS_s, capV_sl, pickV_t, pickV_f, unV_not, unV_neg, isB_t, isB_f, isB_u, binV_add, binV_sub, binV_mul, binV_eql, binV_neq, binV_lss, binV_leq, binV_gtr, binV_geq, binV_seql, binV_sneq, binV_slss, binV_beql, binV_bneq, binV_peql, binV_pneq, add_add, add_none, Go.Al.add_zero, Nat.zero_add, Nat.add_zero, IfB_t, IfB_f, Gd_t, Gd_f, Ld_ptr, LdN_ptr, Option.isNone_some, Option.isNone_none, Option.isSome_some, Option.isSome_none, Bool.not_true, Bool.not_false, drew_cell, drew_heap, str_size, str_nil, str_inj, h.c0, h.c1, h.c2, hd.c0, hd.c1, hd.c2, e1, e2, h3, Bool.and_self, cond_true, true_and]
      exact hfd
    | false =>
      simp only [Pu_some, extV_0, extV_1, extV_2, extV_3, nilV_ptr, nilV_fn, faV_ptr, lenV_sl, lenS_s, capV_sl, pickV_t, pickV_f, unV_not, unV_neg, isB_t, isB_f, isB_u, binV_add, binV_sub, binV_mul, binV_eql, binV_neq, binV_lss, binV_leq, binV_gtr, binV_geq, binV_seql, binV_sneq, binV_slss, binV_beql, binV_bneq, binV_peql, binV_pneq, add_add, add_none, Go.Al.add_zero, Nat.zero_add, Nat.add_zero, IfB_t, IfB_f, Gd_t, Gd_f, Ld_ptr, LdN_ptr, Option.isNone_some, Option.isNone_none, Option.isSome_some, Option.isSome_none, Bool.not_true, Bool.not_false, drew_cell, drew_heap, str_size, str_nil, str_inj, h.c0, h.c1, h.c2, hd.c0, hd.c1, hd.c2, e1, e2, h3, Bool.and_false, cond_false, true_and]
      exact hfd
  · have e1 : (e == 0) = false := by simpa using he
    have e2 : decide (e = 0) = false := by simpa using he
    simp only [Pu_some, extV_0, extV_1, extV_2, extV_3, nilV_ptr, nilV_fn, faV_ptr, lenV_sl, lenS_s, capV_sl, pickV_t, pickV_f, unV_not, unV_neg, isB_t, isB_f, isB_u, binV_add, binV_sub, binV_mul, binV_eql, binV_neq, binV_lss, binV_leq, binV_gtr, binV_geq, binV_seql, binV_sneq, binV_slss, binV_beql, binV_bneq, binV_peql, binV_pneq, add_add, add_none, Go.Al.add_zero, Nat.zero_add, Nat.add_zero, IfB_t, IfB_f, Gd_t, Gd_f, Ld_ptr, LdN_ptr, Option.isNone_some, Option.isNone_none, Option.isSome_some, Option.isSome_none, Bool.not_true, Bool.not_false, drew_cell, drew_heap, str_size, str_nil, str_inj, h.c0, h.c1, h.c2, hd.c0, hd.c1, hd.c2, e1, e2, Bool.false_and, cond_false, true_and]
    exact hfd

theorem rnum_spec {w : World} {r : Nat} {s : Bs} (h : RR w r s 0 0) (most : Int) (hs : s.length ≤ 9223372036854775000) (hm : most ≤ 9223372036854775807) :
    Cl Try.prog 131 [pv r, iv most] w fun v w' => v = iv (rdNum most s 0).1 ∧ (∃ a' : Nat, RR w' r s a' (rdNum most s 0).2.2 ∧ ((rdNum most s 0).2.2 = 0 → (rdNum most s 0).2.1 = s.drop a' ∧ a' ≤ s.length)) ∧ Fm (· = r) w w' := by
  refine c131 ?_; unfold T131
  unfold rdNum
  simp only [Pu_some, extV_0, extV_1, extV_2, extV_3, nilV_ptr, nilV_fn, faV_ptr, lenV_sl, lenS_s, capV_sl, pickV_t, pickV_f, unV_not, unV_neg, isB_t, isB_f, isB_u, binV_add, binV_sub, binV_mul, binV_eql, binV_neq, binV_lss, binV_leq, binV_gtr, binV_geq, binV_seql, binV_sneq, binV_slss, binV_beql, binV_bneq, binV_peql, binV_pneq, add_add, add_none, Go.Al.add_zero, Nat.zero_add, Nat.add_zero, IfB_t, IfB_f, Gd_t, Gd_f, Ld_ptr, LdN_ptr, Option.isNone_some, Option.isNone_none, Option.isSome_some, Option.isSome_none, Bool.not_true, Bool.not_false, drew_cell, drew_heap, h.c2, bne_self_eq_false, decide_true, cond_true]
  refine ⟨fun vs w2 => ∃ (k n : Nat), vs = [iv n, iv (128 ^ k : Nat), iv (k + 1 : Nat)] ∧ k ≤ 8 ∧ n < 128 ^ k ∧ k ≤ s.length ∧ rdN most 9 0 0 s = rdN most (9 - k) k n (s.drop k) ∧ Fm (fun _ => False) w w2, fun vs _ => (10 - nth vs 2).toNat, ⟨0, 0, rfl, by omega, by decide, by omega, rfl, Fm.refl _ _⟩, ?_⟩
  rintro _ w2 nn uu kk ⟨k, n, hvs, hk, hn, hks, heq, hF⟩
  cases hvs
  have h2 := h.keep hF (fun e => e)
  have hfd := Fm.drew (fun _ => False) w2
  have hfdd := Fmf hfd (Fm.drew (fun _ => False) w2.drew)
  have hd := h2.keep hfd (fun e => e)
  have hdd := h2.keep hfdd (fun e => e)
  have hFd := Fmf hF hfd
  have hFdd := Fmf hF hfdd
  obtain ⟨f, hf⟩ : ∃ f, 9 - k = f + 1 := ⟨8 - k, by omega⟩
  rw [hf] at heq
  have e0 : IntKind.i64.wrap (0 + ((k + 1 : Nat) : Int)) = ((k + 1 : Nat) : Int) := by rw [wrap_id] <;> omega
  have bad : ∀ (w3 : World) (a : Nat) (x : Int), RR w3 r s a 0 → Fm (· = r) w w3 → rdN most 9 0 0 s = (0, [], x) → x ≠ 0 →
      Cl Try.prog 144 [pv r, iv x] w3 fun v w' => v = iv (rdN most 9 0 0 s).1 ∧ (∃ a' : Nat, RR w' r s a' (rdN most 9 0 0 s).2.2 ∧ ((rdN most 9 0 0 s).2.2 = 0 → (rdN most 9 0 0 s).2.1 = s.drop a' ∧ a' ≤ s.length)) ∧ Fm (· = r) w w' := by
    intro w3 a x h3 hF3 he hx
    refine (rwrong_spec h3 x).mono ?_
    rintro _ w4 ⟨rfl, h4, hf4⟩
    rw [he]
    exact ⟨rfl, ⟨a, h4, fun e => absurd e hx⟩, hF3.trans hf4 (fun _ _ e => e) (fun _ _ e => e)⟩
  have up : ∀ {w3 : World}, Fm (fun _ => False) w w3 → Fm (· = r) w w3 := fun hf => hf.trans (Fm.refl (fun _ => False) _) (fun _ _ e => e.elim) (fun _ _ e => e.elim)
  by_cases hsl : k < s.length
  rotate_left
  · have e1 : decide ((s.length : Int) < ((k + 1 : Nat) : Int)) = true := by rw [decide_eq_true_eq]; omega
    have hnil : s.drop k = [] := List.drop_eq_nil_of_le (by omega)
    rw [hnil, rdN] at heq
    simp only [Pu_some, extV_0, extV_1, extV_2, extV_3, nilV_ptr, nilV_fn, faV_ptr, lenV_sl, lenS_s, capV_sl, pickV_t, pickV_f, unV_not, unV_neg, isB_t, isB_f, isB_u, binV_add, binV_sub, binV_mul, binV_eql, binV_neq, binV_lss, binV_leq, binV_gtr, binV_geq, binV_seql, binV_sneq, binV_slss, binV_beql, binV_bneq, binV_peql, binV_pneq, add_add, add_none, Go.Al.add_zero, Nat.zero_add, Nat.add_zero, IfB_t, IfB_f, Gd_t, Gd_f, Ld_ptr, LdN_ptr, Option.isNone_some, Option.isNone_none, Option.isSome_some, Option.isSome_none, Bool.not_true, Bool.not_false, drew_cell, drew_heap, str_size, str_nil, str_inj, h2.c0, h2.c1, hd.c0, hd.c1, e0, e1, true_and]
    exact bad _ 0 10 hd (up hFd) heq (by decide)
  have e1 : decide ((s.length : Int) < ((k + 1 : Nat) : Int)) = false := by rw [decide_eq_false_iff_not]; omega
  have e2 : IntKind.i64.wrap (((k + 1 : Nat) : Int) - 1) = (k : Int) := by rw [wrap_id] <;> omega
  have hb : s[k]? = some s[k] := List.getElem?_eq_getElem hsl
  rw [List.drop_eq_getElem_cons hsl, rdN] at heq
  generalize s[k] = b at hb heq
  have hb256 : b.toNat < 256 := b.toNat_lt
  have e3 : cvI .i64 (.int .u8 (b.toNat : Int)) = some (iv (b.toNat : Int)) := by
    show some (iv (IntKind.i64.wrap _)) = _
    rw [wrap_nat (by omega)]
  have ebz : ((b.toNat : Int) == 0) = decide (b = 0) := by
    rw [beq_dec, decide_eq_decide]
    constructor
    · intro h; apply UInt8.toNat.inj; simp; omega
    · rintro rfl; rfl
  have ek9 : ((((k + 1 : Nat) : Int)) == 9) = decide (k = 8) := by rw [beq_dec, decide_eq_decide]; omega
  have ek1 : decide ((1 : Int) < ((k + 1 : Nat) : Int)) = decide (0 < k) := by rw [decide_eq_decide]; omega
  have eb1 : decide ((128 : Int) ≤ (b.toNat : Int)) = decide (128 ≤ b.toNat) := by rw [decide_eq_decide]; omega
  have eb2 : decide ((b.toNat : Int) < 128) = !decide (128 ≤ b.toNat) := by rw [← decide_not, decide_eq_decide]; omega
  have hwrong : decide (b = 0 ∧ 0 < k) = true → rdN most 9 0 0 s = (0, [], 11) := fun hz => by rw [heq, hz]; rfl
  have e4 := rem_nat (TypeDesc.int IntKind.i64) (n := b.toNat) (m := 128) (b := 128) (by omega) (by omega) rfl
  have hk63 : (128 : Nat) ^ k ≤ 128 ^ 8 := Nat.pow_le_pow_right (by decide) hk
  have hpr : b.toNat % 128 * 128 ^ k ≤ 127 * 128 ^ 8 := Nat.mul_le_mul (by omega) hk63
  have e5 : IntKind.i64.wrap (((b.toNat % 128 : Nat) : Int) * ((128 ^ k : Nat) : Int)) = ((b.toNat % 128 * 128 ^ k : Nat) : Int) := by
    rw [← Int.natCast_mul, wrap_nat (by omega)]
  have e6 : IntKind.i64.wrap ((n : Int) + ((b.toNat % 128 * 128 ^ k : Nat) : Int)) = ((n + b.toNat % 128 * 128 ^ k : Nat) : Int) := by
    rw [← Int.natCast_add, wrap_nat (by omega)]
  have hn' : n + b.toNat % 128 * 128 ^ k < 128 ^ (k + 1) := by
    have h1 : (128 : Nat) ^ (k + 1) = 128 * 128 ^ k := by rw [Nat.pow_succ]; omega
    have h2 : b.toNat % 128 * 128 ^ k ≤ 127 * 128 ^ k := Nat.mul_le_mul_right _ (by omega)
    omega
  generalize n + b.toNat % 128 * 128 ^ k = n' at e6 heq hn'
  have hn62 : n' < 128 ^ 9 := Nat.lt_of_lt_of_le hn' (Nat.pow_le_pow_right (by decide) (by omega))
  have hfold : foldV0 max2V [iv most, Value.int IntKind.i64 0] = some (iv (max most 0)) := by
    have : foldV0 max2V [iv most, Value.int IntKind.i64 0] = some (iv (if 0 > most then 0 else most)) := rfl
    rw [this]; congr 2; split <;> omega
  have go : decide (b = 0 ∧ 0 < k) = false → (k = 8 → ¬ 128 ≤ b.toNat) →
      IfB (.bool (decide ((b.toNat : Int) < 128)))
      (Ld w2.drew.drew (.pointer (some ⟨r, 1, none⟩)) fun t71_132 w_133 =>
        Pu (binV (TypeDesc.int IntKind.i64) .add t71_132 (iv ((k + 1 : Nat) : Int))) fun t73_134 =>
        St 1 w_133 (.pointer (some ⟨r, 1, none⟩)) t73_134 fun u_137 w_138 =>
        Pu (foldV0 max2V [iv most, (Value.int IntKind.i64 0)]) fun t80_139 =>
  Pu (binV (TypeDesc.int IntKind.i64) .gtr (iv (n' : Nat)) t80_139) fun t81_140 =>
  IfB t81_140
    (Cl Try.prog 144 [pv r, (Value.int IntKind.i64 11)] w_138 fun v w' => v = iv (rdN most 9 0 0 s).1 ∧ (∃ a' : Nat, RR w' r s a' (rdN most 9 0 0 s).2.2 ∧ ((rdN most 9 0 0 s).2.2 = 0 → (rdN most 9 0 0 s).2.1 = s.drop a' ∧ a' ≤ s.length)) ∧ Fm (· = r) w w')
    (iv (n' : Nat) = iv (rdN most 9 0 0 s).1 ∧ (∃ a' : Nat, RR w_138 r s a' (rdN most 9 0 0 s).2.2 ∧ ((rdN most 9 0 0 s).2.2 = 0 → (rdN most 9 0 0 s).2.1 = s.drop a' ∧ a' ≤ s.length)) ∧ Fm (· = r) w w_138))
      (Pu (binV (TypeDesc.int IntKind.i64) .mul (Value.int IntKind.i64 128) (iv (128 ^ k : Nat))) fun t77_143 =>
    Pu (binV (TypeDesc.int IntKind.i64) .add (iv ((k + 1 : Nat) : Int)) (Value.int IntKind.i64 1)) fun t15_144 =>
    (∃ (k_1 n_1 : Nat), [iv (n' : Nat), t77_143, t15_144] = [iv n_1, iv (128 ^ k_1 : Nat), iv (k_1 + 1 : Nat)] ∧ k_1 ≤ 8 ∧ n_1 < 128 ^ k_1 ∧ k_1 ≤ s.length ∧ rdN most 9 0 0 s = rdN most (9 - k_1) k_1 n_1 (s.drop k_1) ∧ Fm (fun _ => False) w w2.drew.drew) ∧ (10 - nth [iv (n' : Nat), t77_143, t15_144] 2).toNat < (10 - nth [iv (n : Nat), iv (128 ^ k : Nat), iv (k + 1 : Nat)] 2).toNat) := by
    intro hz h8
    rw [hz, cond_false] at heq
    by_cases h128 : 128 ≤ b.toNat
    · have e7 : decide ((b.toNat : Int) < 128) = false := by rw [decide_eq_false_iff_not]; omega
      have e8 : decide (128 ≤ b.toNat) = true := by simpa using h128
      rw [e8, cond_true] at heq
      have hk8 : k < 8 := by rcases Nat.lt_or_ge k 8 with h | h; exact h; exact absurd h128 (h8 (by omega))
      have e9 : IntKind.i64.wrap (128 * ((128 ^ k : Nat) : Int)) = ((128 ^ (k + 1) : Nat) : Int) := by
        have h1 : (128 : Int) * ((128 ^ k : Nat) : Int) = ((128 ^ (k + 1) : Nat) : Int) := by rw [Nat.pow_succ, Nat.mul_comm, Int.natCast_mul]; rfl
        have h2 : (128 : Nat) ^ (k + 1) ≤ 128 ^ 8 := Nat.pow_le_pow_right (by decide) (by omega)
        rw [h1, wrap_nat (by omega)]
      have e10 : IntKind.i64.wrap (((k + 1 : Nat) : Int) + 1) = ((k + 1 + 1 : Nat) : Int) := by rw [wrap_id] <;> omega
      simp only [Pu_some, extV_0, extV_1, extV_2, extV_3, nilV_ptr, nilV_fn, faV_ptr, lenV_sl, lenS_s, capV_sl, pickV_t, pickV_f, unV_not, unV_neg, isB_t, isB_f, isB_u, binV_add, binV_sub, binV_mul, binV_eql, binV_neq, binV_lss, binV_leq, binV_gtr, binV_geq, binV_seql, binV_sneq, binV_slss, binV_beql, binV_bneq, binV_peql, binV_pneq, add_add, add_none, Go.Al.add_zero, Nat.zero_add, Nat.add_zero, IfB_t, IfB_f, Gd_t, Gd_f, Ld_ptr, LdN_ptr, Option.isNone_some, Option.isNone_none, Option.isSome_some, Option.isSome_none, Bool.not_true, Bool.not_false, drew_cell, drew_heap, e7, e9, e10]
      refine ⟨⟨k + 1, n', rfl, by omega, hn', by omega, ?_, hFdd⟩, ?_⟩
      · rw [heq]
        have : f = 9 - (k + 1) := by omega
        rw [this]
      · show (10 - ((k + 1 + 1 : Nat) : Int)).toNat < (10 - ((k + 1 : Nat) : Int)).toNat
        omega
    · have e7 : decide ((b.toNat : Int) < 128) = true := by rw [decide_eq_true_eq]; omega
      have e8 : decide (128 ≤ b.toNat) = false := by simpa using h128
      rw [e8, cond_false] at heq
      simp only [Pu_some, extV_0, extV_1, extV_2, extV_3, nilV_ptr, nilV_fn, faV_ptr, lenV_sl, lenS_s, capV_sl, pickV_t, pickV_f, unV_not, unV_neg, isB_t, isB_f, isB_u, binV_add, binV_sub, binV_mul, binV_eql, binV_neq, binV_lss, binV_leq, binV_gtr, binV_geq, binV_seql, binV_sneq, binV_slss, binV_beql, binV_bneq, binV_peql, binV_pneq, add_add, add_none, Go.Al.add_zero, Nat.zero_add, Nat.add_zero, IfB_t, IfB_f, Gd_t, Gd_f, Ld_ptr, LdN_ptr, Option.isNone_some, Option.isNone_none, Option.isSome_some, Option.isSome_none, Bool.not_true, Bool.not_false, drew_cell, drew_heap, e7, h2.c1, hdd.c1, e0]
      refine St_blk hdd (by simp) rfl ?_
      intro w3 hw3 _ hf3
      replace hw3 : RR w3 r s ((k + 1 : Nat) : Int) 0 := hw3
      have hF3 : Fm (· = r) w w3 := (up hFdd).trans hf3 (fun _ _ e => e) (fun _ _ e => e)
      by_cases hmx : max most 0 < (n' : Int)
      · have e9 : decide (max most 0 < (n' : Int)) = true := by simpa using hmx
        rw [e9, cond_true] at heq
        simp only [Pu_some, extV_0, extV_1, extV_2, extV_3, nilV_ptr, nilV_fn, faV_ptr, lenV_sl, lenS_s, capV_sl, pickV_t, pickV_f, unV_not, unV_neg, isB_t, isB_f, isB_u, binV_add, binV_sub, binV_mul, binV_eql, binV_neq, binV_lss, binV_leq, binV_gtr, binV_geq, binV_seql, binV_sneq, binV_slss, binV_beql, binV_bneq, binV_peql, binV_pneq, add_add, add_none, Go.Al.add_zero, Nat.zero_add, Nat.add_zero, IfB_t, IfB_f, Gd_t, Gd_f, Ld_ptr, LdN_ptr, Option.isNone_some, Option.isNone_none, Option.isSome_some, Option.isSome_none, Bool.not_true, Bool.not_false, drew_cell, drew_heap, hfold, e9]
        exact bad _ (k + 1) 11 hw3 hF3 heq (by decide)
      · have e9 : decide (max most 0 < (n' : Int)) = false := by simpa using hmx
        rw [e9, cond_false] at heq
        simp only [Pu_some, extV_0, extV_1, extV_2, extV_3, nilV_ptr, nilV_fn, faV_ptr, lenV_sl, lenS_s, capV_sl, pickV_t, pickV_f, unV_not, unV_neg, isB_t, isB_f, isB_u, binV_add, binV_sub, binV_mul, binV_eql, binV_neq, binV_lss, binV_leq, binV_gtr, binV_geq, binV_seql, binV_sneq, binV_slss, binV_beql, binV_bneq, binV_peql, binV_pneq, add_add, add_none, Go.Al.add_zero, Nat.zero_add, Nat.add_zero, IfB_t, IfB_f, Gd_t, Gd_f, Ld_ptr, LdN_ptr, Option.isNone_some, Option.isNone_none, Option.isSome_some, Option.isSome_none, Bool.not_true, Bool.not_false, drew_cell, drew_heap, hfold, e9]
        rw [heq]
        exact ⟨(by trivial), ⟨k + 1, hw3, fun _ => ⟨rfl, by omega⟩⟩, hF3⟩
  simp only [Pu_some, extV_0, extV_1, extV_2, extV_3, nilV_ptr, nilV_fn, faV_ptr, lenV_sl, lenS_s, capV_sl, pickV_t, pickV_f, unV_not, unV_neg, isB_t, isB_f, isB_u, binV_add, binV_sub, binV_mul, binV_eql, binV_neq, binV_lss, binV_leq, binV_gtr, binV_geq, binV_seql, binV_sneq, binV_slss, binV_beql, binV_bneq, binV_peql, binV_pneq, add_add, add_none, Go.Al.add_zero, Nat.zero_add, Nat.add_zero, IfB_t, IfB_f, Gd_t, Gd_f, Ld_ptr, LdN_ptr, Option.isNone_some, Option.isNone_none, Option.isSome_some, Option.isSome_none, Bool.not_true, Bool.not_false, drew_cell, drew_heap, str_size, str_nil, str_inj, h2.c0, h2.c1, hd.c0, hd.c1, hdd.c0, hdd.c1, e0, e1, e2, ixS_str hb, e3, ek9, true_and]
  by_cases hk8 : k = 8
  · have d1 : decide (k = 8) = true := by simpa using hk8
    by_cases h128 : 128 ≤ b.toNat
    · have d2 : decide (128 ≤ b.toNat) = true := by simpa using h128
      have hbz : decide (b = 0 ∧ 0 < k) = false := by
        rw [decide_eq_false_iff_not]; rintro ⟨rfl, _⟩; simp at h128
      have hw : rdN most 9 0 0 s = (0, [], 11) := by
        rw [heq, hbz, d2]
        have : f = 0 := by omega
        subst this; rfl
      simp only [Pu_some, extV_0, extV_1, extV_2, extV_3, nilV_ptr, nilV_fn, faV_ptr, lenV_sl, lenS_s, capV_sl, pickV_t, pickV_f, unV_not, unV_neg, isB_t, isB_f, isB_u, binV_add, binV_sub, binV_mul, binV_eql, binV_neq, binV_lss, binV_leq, binV_gtr, binV_geq, binV_seql, binV_sneq, binV_slss, binV_beql, binV_bneq, binV_peql, binV_pneq, add_add, add_none, Go.Al.add_zero, Nat.zero_add, Nat.add_zero, IfB_t, IfB_f, Gd_t, Gd_f, Ld_ptr, LdN_ptr, Option.isNone_some, Option.isNone_none, Option.isSome_some, Option.isSome_none, Bool.not_true, Bool.not_false, drew_cell, drew_heap, d1, eb1, d2]
      exact bad _ 0 11 hdd (up hFdd) hw (by decide)
    · have d2 : decide (128 ≤ b.toNat) = false := by simpa using h128
      have k0 : decide (0 < k) = true := by rw [decide_eq_true_eq]; omega
      by_cases hbz : b = 0
      · have d3 : decide (b = 0) = true := by simpa using hbz
        simp only [Pu_some, extV_0, extV_1, extV_2, extV_3, nilV_ptr, nilV_fn, faV_ptr, lenV_sl, lenS_s, capV_sl, pickV_t, pickV_f, unV_not, unV_neg, isB_t, isB_f, isB_u, binV_add, binV_sub, binV_mul, binV_eql, binV_neq, binV_lss, binV_leq, binV_gtr, binV_geq, binV_seql, binV_sneq, binV_slss, binV_beql, binV_bneq, binV_peql, binV_pneq, add_add, add_none, Go.Al.add_zero, Nat.zero_add, Nat.add_zero, IfB_t, IfB_f, Gd_t, Gd_f, Ld_ptr, LdN_ptr, Option.isNone_some, Option.isNone_none, Option.isSome_some, Option.isSome_none, Bool.not_true, Bool.not_false, drew_cell, drew_heap, d1, eb1, d2, ebz, d3, ek1, k0]
        exact bad _ 0 11 hdd (up hFdd) (hwrong (by rw [decide_eq_true_eq]; exact ⟨hbz, by omega⟩)) (by decide)
      · have d3 : decide (b = 0) = false := by simpa using hbz
        have key := go (by rw [decide_eq_false_iff_not]; exact fun h => hbz h.1) (fun _ => h128)
        simp only [Pu_some, extV_0, extV_1, extV_2, extV_3, nilV_ptr, nilV_fn, faV_ptr, lenV_sl, lenS_s, capV_sl, pickV_t, pickV_f, unV_not, unV_neg, isB_t, isB_f, isB_u, binV_add, binV_sub, binV_mul, binV_eql, binV_neq, binV_lss, binV_leq, binV_gtr, binV_geq, binV_seql, binV_sneq, binV_slss, binV_beql, binV_bneq, binV_peql, binV_pneq, add_add, add_none, Go.Al.add_zero, Nat.zero_add, Nat.add_zero, IfB_t, IfB_f, Gd_t, Gd_f, Ld_ptr, LdN_ptr, Option.isNone_some, Option.isNone_none, Option.isSome_some, Option.isSome_none, Bool.not_true, Bool.not_false, drew_cell, drew_heap] at key
        simp only [Pu_some, extV_0, extV_1, extV_2, extV_3, nilV_ptr, nilV_fn, faV_ptr, lenV_sl, lenS_s, capV_sl, pickV_t, pickV_f, unV_not, unV_neg, isB_t, isB_f, isB_u, binV_add, binV_sub, binV_mul, binV_eql, binV_neq, binV_lss, binV_leq, binV_gtr, binV_geq, binV_seql, binV_sneq, binV_slss, binV_beql, binV_bneq, binV_peql, binV_pneq, add_add, add_none, Go.Al.add_zero, Nat.zero_add, Nat.add_zero, IfB_t, IfB_f, Gd_t, Gd_f, Ld_ptr, LdN_ptr, Option.isNone_some, Option.isNone_none, Option.isSome_some, Option.isSome_none, Bool.not_true, Bool.not_false, drew_cell, drew_heap, d1, eb1, d2, ebz, d3, e4, e5, e6]
        exact key
  · have d1 : decide (k = 8) = false := by simpa using hk8
    by_cases hbz : b = 0
    · have d3 : decide (b = 0) = true := by simpa using hbz
      by_cases hk0 : 0 < k
      · have k0 : decide (0 < k) = true := by simpa using hk0
        simp only [Pu_some, extV_0, extV_1, extV_2, extV_3, nilV_ptr, nilV_fn, faV_ptr, lenV_sl, lenS_s, capV_sl, pickV_t, pickV_f, unV_not, unV_neg, isB_t, isB_f, isB_u, binV_add, binV_sub, binV_mul, binV_eql, binV_neq, binV_lss, binV_leq, binV_gtr, binV_geq, binV_seql, binV_sneq, binV_slss, binV_beql, binV_bneq, binV_peql, binV_pneq, add_add, add_none, Go.Al.add_zero, Nat.zero_add, Nat.add_zero, IfB_t, IfB_f, Gd_t, Gd_f, Ld_ptr, LdN_ptr, Option.isNone_some, Option.isNone_none, Option.isSome_some, Option.isSome_none, Bool.not_true, Bool.not_false, drew_cell, drew_heap, d1, ebz, d3, ek1, k0]
        exact bad _ 0 11 hdd (up hFdd) (hwrong (by rw [decide_eq_true_eq]; exact ⟨hbz, hk0⟩)) (by decide)
      · have k0 : decide (0 < k) = false := by simpa using hk0
        have key := go (by rw [decide_eq_false_iff_not]; exact fun h => hk0 h.2) (fun h => absurd h hk8)
        simp only [Pu_some, extV_0, extV_1, extV_2, extV_3, nilV_ptr, nilV_fn, faV_ptr, lenV_sl, lenS_s, capV_sl, pickV_t, pickV_f, unV_not, unV_neg, isB_t, isB_f, isB_u, binV_add, binV_sub, binV_mul, binV_eql, binV_neq, binV_lss, binV_leq, binV_gtr, binV_geq, binV_seql, binV_sneq, binV_slss, binV_beql, binV_bneq, binV_peql, binV_pneq, add_add, add_none, Go.Al.add_zero, Nat.zero_add, Nat.add_zero, IfB_t, IfB_f, Gd_t, Gd_f, Ld_ptr, LdN_ptr, Option.isNone_some, Option.isNone_none, Option.isSome_some, Option.isSome_none, Bool.not_true, Bool.not_false, drew_cell, drew_heap] at key
        simp only [Pu_some, extV_0, extV_1, extV_2, extV_3, nilV_ptr, nilV_fn, faV_ptr, lenV_sl, lenS_s, capV_sl, pickV_t, pickV_f, unV_not, unV_neg, isB_t, isB_f, isB_u, binV_add, binV_sub, binV_mul, binV_eql, binV_neq, binV_lss, binV_leq, binV_gtr, binV_geq, binV_seql, binV_sneq, binV_slss, binV_beql, binV_bneq, binV_peql, binV_pneq, add_add, add_none, Go.Al.add_zero, Nat.zero_add, Nat.add_zero, IfB_t, IfB_f, Gd_t, Gd_f, Ld_ptr, LdN_ptr, Option.isNone_some, Option.isNone_none, Option.isSome_some, Option.isSome_none, Bool.not_true, Bool.not_false, drew_cell, drew_heap, d1, ebz, d3, ek1, k0, e4, e5, e6]
        exact key
    · have d3 : decide (b = 0) = false := by simpa using hbz
      have key := go (by rw [decide_eq_false_iff_not]; exact fun h => hbz h.1) (fun h => absurd h hk8)
      simp only [Pu_some, extV_0, extV_1, extV_2, extV_3, nilV_ptr, nilV_fn, faV_ptr, lenV_sl, lenS_s, capV_sl, pickV_t, pickV_f, unV_not, unV_neg, isB_t, isB_f, isB_u, binV_add, binV_sub, binV_mul, binV_eql, binV_neq, binV_lss, binV_leq, binV_gtr, binV_geq, binV_seql, binV_sneq, binV_slss, binV_beql, binV_bneq, binV_peql, binV_pneq, add_add, add_none, Go.Al.add_zero, Nat.zero_add, Nat.add_zero, IfB_t, IfB_f, Gd_t, Gd_f, Ld_ptr, LdN_ptr, Option.isNone_some, Option.isNone_none, Option.isSome_some, Option.isSome_none, Bool.not_true, Bool.not_false, drew_cell, drew_heap] at key
      simp only [Pu_some, extV_0, extV_1, extV_2, extV_3, nilV_ptr, nilV_fn, faV_ptr, lenV_sl, lenS_s, capV_sl, pickV_t, pickV_f, unV_not, unV_neg, isB_t, isB_f, isB_u, binV_add, binV_sub, binV_mul, binV_eql, binV_neq, binV_lss, binV_leq, binV_gtr, binV_geq, binV_seql, binV_sneq, binV_slss, binV_beql, binV_bneq, binV_peql, binV_pneq, add_add, add_none, Go.Al.add_zero, Nat.zero_add, Nat.add_zero, IfB_t, IfB_f, Gd_t, Gd_f, Ld_ptr, LdN_ptr, Option.isNone_some, Option.isNone_none, Option.isSome_some, Option.isSome_none, Bool.not_true, Bool.not_false, drew_cell, drew_heap, d1, ebz, d3, e4, e5, e6]
      exact key

end Go.Proofs.Ythgdinjgdjiknaa
