/- What package xid does, and the document's answer for it. -/
import Derived.Test.YthgdinjgdjiknaaCpsR
import Derived.Test.YthgdinjgdjiknaaAlNum
import Derived.Test.YthgdinjgdjiknaaAlSl
namespace Go.Proofs.Ythgdinjgdjiknaa
open Go.Al Go.Proofs
set_option linter.unusedVariables false
set_option linter.unusedSimpArgs false
set_option linter.unusedSectionVars false

def modOk (m : Int) : Bool := decide (16 ≤ m ∧ m ≤ 1024 ∧ m % 2 = 0)
def idOk (m x : Int) : Bool := decide (1 ≤ x ∧ x ≤ m)
def xAdd (m x n : Int) : Int := bif modOk m && idOk m x then (x - 1 + n % m) % m + 1 else 0
def xGap (m a b : Int) : Int := bif modOk m && idOk m a && idOk m b then (b - a) % m else 0
def xBefore (m a b : Int) : Bool := decide (1 ≤ xGap m a b ∧ xGap m a b < m / 2)
theorem tmod_emod (n : Int) {m : Int} (hm : 0 < m) : n.tmod m % m = n % m := by rw [Int.tmod_def, Int.sub_mul_emod_self_left]
abbrev In (n : Int) : Prop := -9223372036854775808 ≤ n ∧ n ≤ 9223372036854775807
theorem idOk_in {m x : Int} (hm : modOk m = true) (h : idOk m x = true) : 1 ≤ x ∧ x ≤ m ∧ 16 ≤ m ∧ m ≤ 1024 := by
  unfold modOk at hm; unfold idOk at h
  simp only [decide_eq_true_eq] at hm h
  omega
theorem xGap_in (m a b : Int) : 0 ≤ xGap m a b ∧ xGap m a b ≤ 1024 := by
  unfold xGap
  cases h : modOk m && idOk m a && idOk m b with
  | false => simp
  | true =>
    simp only [Bool.and_eq_true] at h
    obtain ⟨⟨h1, h2⟩, h3⟩ := h
    have := idOk_in h1 h2
    simp only [cond_true]
    have := Int.emod_nonneg (b - a) (show m ≠ 0 by omega)
    have := Int.emod_lt_of_pos (b - a) (show 0 < m by omega)
    omega
theorem xAdd_in (m a b : Int) : 0 ≤ xAdd m a b ∧ xAdd m a b ≤ 1024 := by
  unfold xAdd
  cases h : modOk m && idOk m a with
  | false => simp
  | true =>
    simp only [Bool.and_eq_true] at h
    obtain ⟨h1, h2⟩ := h
    have := idOk_in h1 h2
    simp only [cond_true]
    have := Int.emod_nonneg (a - 1 + b % m) (show m ≠ 0 by omega)
    have := Int.emod_lt_of_pos (a - 1 + b % m) (show 0 < m by omega)
    omega

theorem modulus_spec (w : World) {m : Int} (hm : In m) : Cl Try.prog 127 [iv m] w fun v w' => v = .bool (modOk m) ∧ w' = w := by
  refine c127 ?_; unfold T127
  unfold modOk
  by_cases h1 : 16 ≤ m
  · have e1 : decide (16 ≤ m) = true := by simpa using h1
    by_cases h2 : m ≤ 1024
    · have e2 : decide (m ≤ 1024) = true := by simpa using h2
      obtain ⟨n, rfl⟩ := Int.eq_ofNat_of_zero_le (show 0 ≤ m by omega)
      have e3 : andI .i64 (n : Int) 1 = ((n % 2 : Nat) : Int) := by
        have := and_i64 n 1 (by omega) (by omega)
        rw [Nat.and_one_is_mod] at this; exact this
      simp only [Pu_some, extV_0, extV_1, extV_2, extV_3, nilV_ptr, nilV_fn, faV_ptr, lenV_sl, lenS_s, capV_sl, pickV_t, pickV_f, unV_not, unV_neg, isB_t, isB_f, isB_u, binV_add, binV_sub, binV_mul, binV_eql, binV_neq, binV_lss, binV_leq, binV_gtr, binV_geq, binV_seql, binV_sneq, binV_slss, binV_beql, binV_bneq, binV_peql, binV_pneq, add_add, add_none, Go.Al.add_zero, Nat.zero_add, Nat.add_zero, IfB_t, IfB_f, Gd_t, Gd_f, Ld_ptr, LdN_ptr, Option.isNone_some, Option.isNone_none, Option.isSome_some, Option.isSome_none, Bool.not_true, Bool.not_false, drew_cell, drew_heap, e1, e2, binV_and, e3]
      refine ⟨?_, (by trivial)⟩
      congr 1
      rw [beq_dec, decide_eq_decide]; omega
    · have e2 : decide (m ≤ 1024) = false := by simpa using h2
      simp only [Pu_some, extV_0, extV_1, extV_2, extV_3, nilV_ptr, nilV_fn, faV_ptr, lenV_sl, lenS_s, capV_sl, pickV_t, pickV_f, unV_not, unV_neg, isB_t, isB_f, isB_u, binV_add, binV_sub, binV_mul, binV_eql, binV_neq, binV_lss, binV_leq, binV_gtr, binV_geq, binV_seql, binV_sneq, binV_slss, binV_beql, binV_bneq, binV_peql, binV_pneq, add_add, add_none, Go.Al.add_zero, Nat.zero_add, Nat.add_zero, IfB_t, IfB_f, Gd_t, Gd_f, Ld_ptr, LdN_ptr, Option.isNone_some, Option.isNone_none, Option.isSome_some, Option.isSome_none, Bool.not_true, Bool.not_false, drew_cell, drew_heap, e1, e2]
      refine ⟨?_, (by trivial)⟩
      congr 1; symm; rw [decide_eq_false_iff_not]; omega
  · have e1 : decide (16 ≤ m) = false := by simpa using h1
    simp only [Pu_some, extV_0, extV_1, extV_2, extV_3, nilV_ptr, nilV_fn, faV_ptr, lenV_sl, lenS_s, capV_sl, pickV_t, pickV_f, unV_not, unV_neg, isB_t, isB_f, isB_u, binV_add, binV_sub, binV_mul, binV_eql, binV_neq, binV_lss, binV_leq, binV_gtr, binV_geq, binV_seql, binV_sneq, binV_slss, binV_beql, binV_bneq, binV_peql, binV_pneq, add_add, add_none, Go.Al.add_zero, Nat.zero_add, Nat.add_zero, IfB_t, IfB_f, Gd_t, Gd_f, Ld_ptr, LdN_ptr, Option.isNone_some, Option.isNone_none, Option.isSome_some, Option.isSome_none, Bool.not_true, Bool.not_false, drew_cell, drew_heap, e1]
    refine ⟨?_, (by trivial)⟩
    congr 1; symm; rw [decide_eq_false_iff_not]; omega

theorem ids_spec {w : World} {m : Int} (hm : In m) {v : Value} {l : List Int} (hl : CellsAt w v l.length 1 (l.map iv)) : Cl Try.prog 108 [iv m, v] w fun r w' => r = .bool (l.all (idOk m) && modOk m) ∧ w' = w := by
  have hlt := hl.lt
  unfold maxLen at hlt
  refine c108 ?_; unfold T108
  simp only [Pu_some, extV_0, extV_1, extV_2, extV_3, nilV_ptr, nilV_fn, faV_ptr, lenV_sl, lenS_s, capV_sl, pickV_t, pickV_f, unV_not, unV_neg, isB_t, isB_f, isB_u, binV_add, binV_sub, binV_mul, binV_eql, binV_neq, binV_lss, binV_leq, binV_gtr, binV_geq, binV_seql, binV_sneq, binV_slss, binV_beql, binV_bneq, binV_peql, binV_pneq, add_add, add_none, Go.Al.add_zero, Nat.zero_add, Nat.add_zero, IfB_t, IfB_f, Gd_t, Gd_f, Ld_ptr, LdN_ptr, Option.isNone_some, Option.isNone_none, Option.isSome_some, Option.isSome_none, Bool.not_true, Bool.not_false, drew_cell, drew_heap, hl.lenV]
  refine ⟨fun vs w2 => ∃ k : Nat, vs = [iv k] ∧ k ≤ l.length ∧ (l.take k).all (idOk m) = true ∧ w2 = w, fun vs _ => (l.length - nth vs 0).toNat, ⟨0, rfl, by omega, rfl, rfl⟩, ?_⟩
  rintro _ w2 ik ⟨k, hvs, hk, hall, rfl⟩
  cases hvs
  by_cases hlt2 : k < l.length
  · have e1 : decide ((k : Int) < (l.length : Int)) = true := by rw [decide_eq_true_eq]; omega
    have e2 : IntKind.i64.wrap ((k : Int) + 1) = ((k + 1 : Nat) : Int) := by rw [wrap_id] <;> omega
    have hx : l[k]? = some l[k] := List.getElem?_eq_getElem hlt2
    have hmem : l[k] ∈ l := List.getElem_mem hlt2
    generalize l[k] = x at hx hmem
    obtain ⟨ad, hix, _, hc⟩ := hl.at1 (i := k) (x := iv x) (by rw [List.getElem?_map, hx]; rfl) .i64
    simp only [Pu_some, extV_0, extV_1, extV_2, extV_3, nilV_ptr, nilV_fn, faV_ptr, lenV_sl, lenS_s, capV_sl, pickV_t, pickV_f, unV_not, unV_neg, isB_t, isB_f, isB_u, binV_add, binV_sub, binV_mul, binV_eql, binV_neq, binV_lss, binV_leq, binV_gtr, binV_geq, binV_seql, binV_sneq, binV_slss, binV_beql, binV_bneq, binV_peql, binV_pneq, add_add, add_none, Go.Al.add_zero, Nat.zero_add, Nat.add_zero, IfB_t, IfB_f, Gd_t, Gd_f, Ld_ptr, LdN_ptr, Option.isNone_some, Option.isNone_none, Option.isSome_some, Option.isSome_none, Bool.not_true, Bool.not_false, drew_cell, drew_heap, e1, hix, hc]
    have bad : idOk m x = false → l.all (idOk m) = false := fun hb => by
      cases hq : l.all (idOk m) with
      | false => rfl
      | true => have := List.all_eq_true.1 hq x hmem; rw [hb] at this; cases this
    by_cases h1 : x < 1
    · have e3 : decide (x < 1) = true := by simpa using h1
      simp only [Pu_some, extV_0, extV_1, extV_2, extV_3, nilV_ptr, nilV_fn, faV_ptr, lenV_sl, lenS_s, capV_sl, pickV_t, pickV_f, unV_not, unV_neg, isB_t, isB_f, isB_u, binV_add, binV_sub, binV_mul, binV_eql, binV_neq, binV_lss, binV_leq, binV_gtr, binV_geq, binV_seql, binV_sneq, binV_slss, binV_beql, binV_bneq, binV_peql, binV_pneq, add_add, add_none, Go.Al.add_zero, Nat.zero_add, Nat.add_zero, IfB_t, IfB_f, Gd_t, Gd_f, Ld_ptr, LdN_ptr, Option.isNone_some, Option.isNone_none, Option.isSome_some, Option.isSome_none, Bool.not_true, Bool.not_false, drew_cell, drew_heap, e3]
      rw [bad (by unfold idOk; rw [decide_eq_false_iff_not]; omega)]
      exact ⟨(by trivial), (by trivial)⟩
    · have e3 : decide (x < 1) = false := by simpa using h1
      by_cases h2 : m < x
      · have e4 : decide (m < x) = true := by simpa using h2
        simp only [Pu_some, extV_0, extV_1, extV_2, extV_3, nilV_ptr, nilV_fn, faV_ptr, lenV_sl, lenS_s, capV_sl, pickV_t, pickV_f, unV_not, unV_neg, isB_t, isB_f, isB_u, binV_add, binV_sub, binV_mul, binV_eql, binV_neq, binV_lss, binV_leq, binV_gtr, binV_geq, binV_seql, binV_sneq, binV_slss, binV_beql, binV_bneq, binV_peql, binV_pneq, add_add, add_none, Go.Al.add_zero, Nat.zero_add, Nat.add_zero, IfB_t, IfB_f, Gd_t, Gd_f, Ld_ptr, LdN_ptr, Option.isNone_some, Option.isNone_none, Option.isSome_some, Option.isSome_none, Bool.not_true, Bool.not_false, drew_cell, drew_heap, e3, e4]
        rw [bad (by unfold idOk; rw [decide_eq_false_iff_not]; omega)]
        exact ⟨(by trivial), (by trivial)⟩
      · have e4 : decide (m < x) = false := by simpa using h2
        simp only [Pu_some, extV_0, extV_1, extV_2, extV_3, nilV_ptr, nilV_fn, faV_ptr, lenV_sl, lenS_s, capV_sl, pickV_t, pickV_f, unV_not, unV_neg, isB_t, isB_f, isB_u, binV_add, binV_sub, binV_mul, binV_eql, binV_neq, binV_lss, binV_leq, binV_gtr, binV_geq, binV_seql, binV_sneq, binV_slss, binV_beql, binV_bneq, binV_peql, binV_pneq, add_add, add_none, Go.Al.add_zero, Nat.zero_add, Nat.add_zero, IfB_t, IfB_f, Gd_t, Gd_f, Ld_ptr, LdN_ptr, Option.isNone_some, Option.isNone_none, Option.isSome_some, Option.isSome_none, Bool.not_true, Bool.not_false, drew_cell, drew_heap, e3, e4, e2]
        refine ⟨⟨k + 1, rfl, by omega, ?_, (by trivial)⟩, by simp only [nth_0]; omega⟩
        rw [List.take_add_one, hx, List.all_append, hall]
        show (true && (idOk m x && true)) = true
        have : idOk m x = true := by unfold idOk; rw [decide_eq_true_eq]; omega
        rw [this]; rfl
  · have hke : k = l.length := by omega
    subst hke
    have e1 : decide (((l.length : Nat) : Int) < (l.length : Int)) = false := by simp
    rw [List.take_length] at hall
    simp only [Pu_some, extV_0, extV_1, extV_2, extV_3, nilV_ptr, nilV_fn, faV_ptr, lenV_sl, lenS_s, capV_sl, pickV_t, pickV_f, unV_not, unV_neg, isB_t, isB_f, isB_u, binV_add, binV_sub, binV_mul, binV_eql, binV_neq, binV_lss, binV_leq, binV_gtr, binV_geq, binV_seql, binV_sneq, binV_slss, binV_beql, binV_bneq, binV_peql, binV_pneq, add_add, add_none, Go.Al.add_zero, Nat.zero_add, Nat.add_zero, IfB_t, IfB_f, Gd_t, Gd_f, Ld_ptr, LdN_ptr, Option.isNone_some, Option.isNone_none, Option.isSome_some, Option.isSome_none, Bool.not_true, Bool.not_false, drew_cell, drew_heap, e1]
    refine (modulus_spec w2 hm).mono ?_
    rintro _ _ ⟨rfl, rfl⟩
    rw [hall, Bool.true_and]
    exact ⟨(by trivial), (by trivial)⟩

theorem ring_spec (w : World) {m n : Int} (hm : 16 ≤ m ∧ m ≤ 1024) : Cl Try.prog 109 [iv m, iv n] w fun r w' => r = iv (n % m) ∧ w' = w := by
  refine c109 ?_; unfold T109
  have e1 := rem_emod (TypeDesc.int IntKind.i64) (a := n) (b := m) (by omega)
  have h1 := Int.tmod_lt_of_pos n (show 0 < m by omega)
  have h2 := Int.lt_tmod_of_pos n (show 0 < m by omega)
  have e2 : IntKind.i64.wrap (n.tmod m + m) = n.tmod m + m := wrap_id (by omega)
  have e3 := rem_emod (TypeDesc.int IntKind.i64) (a := n.tmod m + m) (b := m) (by omega)
  have e4 : (n.tmod m + m).tmod m = n % m := by
    rw [Int.tmod_eq_emod_of_nonneg (by omega), Int.add_emod_right, tmod_emod n (show 0 < m by omega)]
  simp only [Pu_some, extV_0, extV_1, extV_2, extV_3, nilV_ptr, nilV_fn, faV_ptr, lenV_sl, lenS_s, capV_sl, pickV_t, pickV_f, unV_not, unV_neg, isB_t, isB_f, isB_u, binV_add, binV_sub, binV_mul, binV_eql, binV_neq, binV_lss, binV_leq, binV_gtr, binV_geq, binV_seql, binV_sneq, binV_slss, binV_beql, binV_bneq, binV_peql, binV_pneq, add_add, add_none, Go.Al.add_zero, Nat.zero_add, Nat.add_zero, IfB_t, IfB_f, Gd_t, Gd_f, Ld_ptr, LdN_ptr, Option.isNone_some, Option.isNone_none, Option.isSome_some, Option.isSome_none, Bool.not_true, Bool.not_false, drew_cell, drew_heap, e1, e2, e3, e4, and_self]

theorem bs34s (p : Int) (w : World) : (Instr.buildSlice 34 1 #[(0, iv p)]).run Try.prog w = .ok (.slice (some ⟨w.heap.size, 0, none⟩) 1 1) (w.alloc (.cells #[iv p] 3)) := by kernel_rfl
theorem bs34s2 (p r : Int) (w : World) : (Instr.buildSlice 34 2 #[(0, iv p), (1, iv r)]).run Try.prog w = .ok (.slice (some ⟨w.heap.size, 0, none⟩) 2 2) (w.alloc (.cells #[iv p, iv r] 3)) := by kernel_rfl
/-- A list of numbers, new. -/
theorem new_cells (l : List Int) (hl : l.length ≤ 1000) (w : World) (e : TypeId) : CellsAt (w.alloc (.cells (l.map iv).toArray e)) (.slice (some ⟨w.heap.size, 0, none⟩) l.length l.length) l.length 1 (l.map iv) := by
  refine ⟨⟨_, l.length, rfl, by omega, by unfold maxLen; omega, fun e => (by cases e), fun j u hj => ⟨_, rfl, ?_⟩⟩, by simp⟩
  rw [add_none, cell_at (alloc_new w _), Nat.zero_add, List.getElem?_toArray]; exact hj

theorem add_spec (w : World) {m x n : Int} (hm : In m) : Cl Try.prog 78 [iv m, iv x, iv n] w fun r w' => r = iv (xAdd m x n) ∧ Fm (fun _ => False) w w' := by
  refine c78 ?_; unfold T78
  refine RunS_ok (bs34s x w) ?_
  have hf := Fm.alloc (fun _ => False) w (.cells ([x].map iv).toArray 3)
  refine (ids_spec hm (l := [x]) (new_cells [x] (by simp) w 3)).mono ?_
  rintro _ _ ⟨rfl, rfl⟩
  generalize w.alloc (.cells ([x].map iv).toArray 3) = w1 at hf
  unfold xAdd
  have ee : ([x].all (idOk m) && modOk m) = (modOk m && idOk m x) := by simp [Bool.and_comm]
  rw [ee]
  cases h : modOk m && idOk m x with
  | false =>
    simp only [Pu_some, extV_0, extV_1, extV_2, extV_3, nilV_ptr, nilV_fn, faV_ptr, lenV_sl, lenS_s, capV_sl, pickV_t, pickV_f, unV_not, unV_neg, isB_t, isB_f, isB_u, binV_add, binV_sub, binV_mul, binV_eql, binV_neq, binV_lss, binV_leq, binV_gtr, binV_geq, binV_seql, binV_sneq, binV_slss, binV_beql, binV_bneq, binV_peql, binV_pneq, add_add, add_none, Go.Al.add_zero, Nat.zero_add, Nat.add_zero, IfB_t, IfB_f, Gd_t, Gd_f, Ld_ptr, LdN_ptr, Option.isNone_some, Option.isNone_none, Option.isSome_some, Option.isSome_none, Bool.not_true, Bool.not_false, drew_cell, drew_heap, cond_false]
    exact ⟨(by trivial), hf⟩
  | true =>
    simp only [Bool.and_eq_true] at h
    have hid := idOk_in h.1 h.2
    have e1 : IntKind.i64.wrap (x - 1) = x - 1 := wrap_id (by omega)
    simp only [Pu_some, extV_0, extV_1, extV_2, extV_3, nilV_ptr, nilV_fn, faV_ptr, lenV_sl, lenS_s, capV_sl, pickV_t, pickV_f, unV_not, unV_neg, isB_t, isB_f, isB_u, binV_add, binV_sub, binV_mul, binV_eql, binV_neq, binV_lss, binV_leq, binV_gtr, binV_geq, binV_seql, binV_sneq, binV_slss, binV_beql, binV_bneq, binV_peql, binV_pneq, add_add, add_none, Go.Al.add_zero, Nat.zero_add, Nat.add_zero, IfB_t, IfB_f, Gd_t, Gd_f, Ld_ptr, LdN_ptr, Option.isNone_some, Option.isNone_none, Option.isSome_some, Option.isSome_none, Bool.not_true, Bool.not_false, drew_cell, drew_heap, cond_true, e1]
    refine (ring_spec _ (m := m) (by omega)).mono ?_
    rintro _ _ ⟨rfl, rfl⟩
    have h1 := Int.emod_nonneg n (show m ≠ 0 by omega)
    have h2 := Int.emod_lt_of_pos n (show 0 < m by omega)
    have e2 : IntKind.i64.wrap (x - 1 + n % m) = x - 1 + n % m := wrap_id (by omega)
    simp only [Pu_some, extV_0, extV_1, extV_2, extV_3, nilV_ptr, nilV_fn, faV_ptr, lenV_sl, lenS_s, capV_sl, pickV_t, pickV_f, unV_not, unV_neg, isB_t, isB_f, isB_u, binV_add, binV_sub, binV_mul, binV_eql, binV_neq, binV_lss, binV_leq, binV_gtr, binV_geq, binV_seql, binV_sneq, binV_slss, binV_beql, binV_bneq, binV_peql, binV_pneq, add_add, add_none, Go.Al.add_zero, Nat.zero_add, Nat.add_zero, IfB_t, IfB_f, Gd_t, Gd_f, Ld_ptr, LdN_ptr, Option.isNone_some, Option.isNone_none, Option.isSome_some, Option.isSome_none, Bool.not_true, Bool.not_false, drew_cell, drew_heap, e2]
    refine (ring_spec _ (m := m) (by omega)).mono ?_
    rintro _ _ ⟨rfl, rfl⟩
    have h1 := Int.emod_nonneg (x - 1 + n % m) (show m ≠ 0 by omega)
    have h2 := Int.emod_lt_of_pos (x - 1 + n % m) (show 0 < m by omega)
    have e3 : IntKind.i64.wrap ((x - 1 + n % m) % m + 1) = (x - 1 + n % m) % m + 1 := wrap_id (by omega)
    simp only [Pu_some, extV_0, extV_1, extV_2, extV_3, nilV_ptr, nilV_fn, faV_ptr, lenV_sl, lenS_s, capV_sl, pickV_t, pickV_f, unV_not, unV_neg, isB_t, isB_f, isB_u, binV_add, binV_sub, binV_mul, binV_eql, binV_neq, binV_lss, binV_leq, binV_gtr, binV_geq, binV_seql, binV_sneq, binV_slss, binV_beql, binV_bneq, binV_peql, binV_pneq, add_add, add_none, Go.Al.add_zero, Nat.zero_add, Nat.add_zero, IfB_t, IfB_f, Gd_t, Gd_f, Ld_ptr, LdN_ptr, Option.isNone_some, Option.isNone_none, Option.isSome_some, Option.isSome_none, Bool.not_true, Bool.not_false, drew_cell, drew_heap, e3]
    exact ⟨(by trivial), hf⟩
theorem gap_spec (w : World) {m a b : Int} (hm : In m) : Cl Try.prog 107 [iv m, iv a, iv b] w fun r w' => r = iv (xGap m a b) ∧ Fm (fun _ => False) w w' := by
  refine c107 ?_; unfold T107
  refine RunS_ok (bs34s2 a b w) ?_
  have hf := Fm.alloc (fun _ => False) w (.cells ([a, b].map iv).toArray 3)
  refine (ids_spec hm (l := [a, b]) (new_cells [a, b] (by simp) w 3)).mono ?_
  rintro _ _ ⟨rfl, rfl⟩
  generalize w.alloc (.cells ([a, b].map iv).toArray 3) = w1 at hf
  unfold xGap
  have ee : ([a, b].all (idOk m) && modOk m) = (modOk m && idOk m a && idOk m b) := by simp [Bool.and_comm, Bool.and_assoc, Bool.and_left_comm]
  rw [ee]
  cases h : modOk m && idOk m a && idOk m b with
  | false =>
    simp only [Pu_some, extV_0, extV_1, extV_2, extV_3, nilV_ptr, nilV_fn, faV_ptr, lenV_sl, lenS_s, capV_sl, pickV_t, pickV_f, unV_not, unV_neg, isB_t, isB_f, isB_u, binV_add, binV_sub, binV_mul, binV_eql, binV_neq, binV_lss, binV_leq, binV_gtr, binV_geq, binV_seql, binV_sneq, binV_slss, binV_beql, binV_bneq, binV_peql, binV_pneq, add_add, add_none, Go.Al.add_zero, Nat.zero_add, Nat.add_zero, IfB_t, IfB_f, Gd_t, Gd_f, Ld_ptr, LdN_ptr, Option.isNone_some, Option.isNone_none, Option.isSome_some, Option.isSome_none, Bool.not_true, Bool.not_false, drew_cell, drew_heap, cond_false]
    exact ⟨(by trivial), hf⟩
  | true =>
    simp only [Bool.and_eq_true] at h
    have h1 := idOk_in h.1.1 h.1.2
    have h2 := idOk_in h.1.1 h.2
    have e1 : IntKind.i64.wrap (b - a) = b - a := wrap_id (by omega)
    simp only [Pu_some, extV_0, extV_1, extV_2, extV_3, nilV_ptr, nilV_fn, faV_ptr, lenV_sl, lenS_s, capV_sl, pickV_t, pickV_f, unV_not, unV_neg, isB_t, isB_f, isB_u, binV_add, binV_sub, binV_mul, binV_eql, binV_neq, binV_lss, binV_leq, binV_gtr, binV_geq, binV_seql, binV_sneq, binV_slss, binV_beql, binV_bneq, binV_peql, binV_pneq, add_add, add_none, Go.Al.add_zero, Nat.zero_add, Nat.add_zero, IfB_t, IfB_f, Gd_t, Gd_f, Ld_ptr, LdN_ptr, Option.isNone_some, Option.isNone_none, Option.isSome_some, Option.isSome_none, Bool.not_true, Bool.not_false, drew_cell, drew_heap, cond_true, e1]
    refine (ring_spec _ (m := m) (by omega)).mono ?_
    rintro _ _ ⟨rfl, rfl⟩
    exact ⟨(by trivial), hf⟩
theorem before_spec (w : World) {m a b : Int} (hm : In m) : Cl Try.prog 77 [iv m, iv a, iv b] w fun r w' => r = .bool (xBefore m a b) ∧ Fm (fun _ => False) w w' := by
  refine c77 ?_; unfold T77
  refine (gap_spec w hm).mono ?_
  rintro _ w1 ⟨rfl, hf⟩
  have hg := xGap_in m a b
  unfold xBefore
  by_cases h0 : 0 < xGap m a b
  · have hmm : 16 ≤ m ∧ m ≤ 1024 := by
      unfold xGap at h0
      cases h : modOk m && idOk m a && idOk m b with
      | false => rw [h] at h0; simp at h0
      | true => simp only [Bool.and_eq_true] at h; have := idOk_in h.1.1 h.1.2; omega
    have e1 : decide (0 < xGap m a b) = true := by simpa using h0
    have e2 := quo_pos (TypeDesc.int IntKind.i64) (a := m) (b := 2) (by omega) (by decide) (by omega)
    simp only [Pu_some, extV_0, extV_1, extV_2, extV_3, nilV_ptr, nilV_fn, faV_ptr, lenV_sl, lenS_s, capV_sl, pickV_t, pickV_f, unV_not, unV_neg, isB_t, isB_f, isB_u, binV_add, binV_sub, binV_mul, binV_eql, binV_neq, binV_lss, binV_leq, binV_gtr, binV_geq, binV_seql, binV_sneq, binV_slss, binV_beql, binV_bneq, binV_peql, binV_pneq, add_add, add_none, Go.Al.add_zero, Nat.zero_add, Nat.add_zero, IfB_t, IfB_f, Gd_t, Gd_f, Ld_ptr, LdN_ptr, Option.isNone_some, Option.isNone_none, Option.isSome_some, Option.isSome_none, Bool.not_true, Bool.not_false, drew_cell, drew_heap, e1, e2]
    refine ⟨?_, hf⟩
    congr 1
    rw [decide_eq_decide]; omega
  · have e1 : decide (0 < xGap m a b) = false := by simpa using h0
    simp only [Pu_some, extV_0, extV_1, extV_2, extV_3, nilV_ptr, nilV_fn, faV_ptr, lenV_sl, lenS_s, capV_sl, pickV_t, pickV_f, unV_not, unV_neg, isB_t, isB_f, isB_u, binV_add, binV_sub, binV_mul, binV_eql, binV_neq, binV_lss, binV_leq, binV_gtr, binV_geq, binV_seql, binV_sneq, binV_slss, binV_beql, binV_bneq, binV_peql, binV_pneq, add_add, add_none, Go.Al.add_zero, Nat.zero_add, Nat.add_zero, IfB_t, IfB_f, Gd_t, Gd_f, Ld_ptr, LdN_ptr, Option.isNone_some, Option.isNone_none, Option.isSome_some, Option.isSome_none, Bool.not_true, Bool.not_false, drew_cell, drew_heap, e1]
    refine ⟨?_, hf⟩
    congr 1; symm; rw [decide_eq_false_iff_not]; omega

/-! ### The document's answer -/
theorem rright_spec (w : World) {m : Int} (hm : In m) : Cl Try.prog 88 [iv m] w fun v w' => v = .bool (modOk m) ∧ w' = w := by
  refine c88 ?_; unfold T88
  unfold modOk
  by_cases h1 : 16 ≤ m
  · have e1 : decide (16 ≤ m) = true := by simpa using h1
    by_cases h2 : m ≤ 1024
    · have e2 : decide (m ≤ 1024) = true := by simpa using h2
      have e3 := rem_pos (TypeDesc.int IntKind.i64) (a := m) (b := 2) (by omega) (by decide) (by omega)
      simp only [Pu_some, extV_0, extV_1, extV_2, extV_3, nilV_ptr, nilV_fn, faV_ptr, lenV_sl, lenS_s, capV_sl, pickV_t, pickV_f, unV_not, unV_neg, isB_t, isB_f, isB_u, binV_add, binV_sub, binV_mul, binV_eql, binV_neq, binV_lss, binV_leq, binV_gtr, binV_geq, binV_seql, binV_sneq, binV_slss, binV_beql, binV_bneq, binV_peql, binV_pneq, add_add, add_none, Go.Al.add_zero, Nat.zero_add, Nat.add_zero, IfB_t, IfB_f, Gd_t, Gd_f, Ld_ptr, LdN_ptr, Option.isNone_some, Option.isNone_none, Option.isSome_some, Option.isSome_none, Bool.not_true, Bool.not_false, drew_cell, drew_heap, e1, e2, e3]
      refine ⟨?_, (by trivial)⟩
      congr 1
      rw [beq_dec, decide_eq_decide]; omega
    · have e2 : decide (m ≤ 1024) = false := by simpa using h2
      simp only [Pu_some, extV_0, extV_1, extV_2, extV_3, nilV_ptr, nilV_fn, faV_ptr, lenV_sl, lenS_s, capV_sl, pickV_t, pickV_f, unV_not, unV_neg, isB_t, isB_f, isB_u, binV_add, binV_sub, binV_mul, binV_eql, binV_neq, binV_lss, binV_leq, binV_gtr, binV_geq, binV_seql, binV_sneq, binV_slss, binV_beql, binV_bneq, binV_peql, binV_pneq, add_add, add_none, Go.Al.add_zero, Nat.zero_add, Nat.add_zero, IfB_t, IfB_f, Gd_t, Gd_f, Ld_ptr, LdN_ptr, Option.isNone_some, Option.isNone_none, Option.isSome_some, Option.isSome_none, Bool.not_true, Bool.not_false, drew_cell, drew_heap, e1, e2]
      refine ⟨?_, (by trivial)⟩
      congr 1; symm; rw [decide_eq_false_iff_not]; omega
  · have e1 : decide (16 ≤ m) = false := by simpa using h1
    simp only [Pu_some, extV_0, extV_1, extV_2, extV_3, nilV_ptr, nilV_fn, faV_ptr, lenV_sl, lenS_s, capV_sl, pickV_t, pickV_f, unV_not, unV_neg, isB_t, isB_f, isB_u, binV_add, binV_sub, binV_mul, binV_eql, binV_neq, binV_lss, binV_leq, binV_gtr, binV_geq, binV_seql, binV_sneq, binV_slss, binV_beql, binV_bneq, binV_peql, binV_pneq, add_add, add_none, Go.Al.add_zero, Nat.zero_add, Nat.add_zero, IfB_t, IfB_f, Gd_t, Gd_f, Ld_ptr, LdN_ptr, Option.isNone_some, Option.isNone_none, Option.isSome_some, Option.isSome_none, Bool.not_true, Bool.not_false, drew_cell, drew_heap, e1]
    refine ⟨?_, (by trivial)⟩
    congr 1; symm; rw [decide_eq_false_iff_not]; omega
theorem rid_spec (w : World) (m x : Int) : Cl Try.prog 89 [iv m, iv x] w fun v w' => v = .bool (idOk m x) ∧ w' = w := by
  refine c89 ?_; unfold T89
  unfold idOk
  by_cases h1 : 1 ≤ x
  · have e1 : decide (1 ≤ x) = true := by simpa using h1
    simp only [Pu_some, extV_0, extV_1, extV_2, extV_3, nilV_ptr, nilV_fn, faV_ptr, lenV_sl, lenS_s, capV_sl, pickV_t, pickV_f, unV_not, unV_neg, isB_t, isB_f, isB_u, binV_add, binV_sub, binV_mul, binV_eql, binV_neq, binV_lss, binV_leq, binV_gtr, binV_geq, binV_seql, binV_sneq, binV_slss, binV_beql, binV_bneq, binV_peql, binV_pneq, add_add, add_none, Go.Al.add_zero, Nat.zero_add, Nat.add_zero, IfB_t, IfB_f, Gd_t, Gd_f, Ld_ptr, LdN_ptr, Option.isNone_some, Option.isNone_none, Option.isSome_some, Option.isSome_none, Bool.not_true, Bool.not_false, drew_cell, drew_heap, e1]
    refine ⟨?_, (by trivial)⟩
    congr 1
    rw [decide_eq_decide]; omega
  · have e1 : decide (1 ≤ x) = false := by simpa using h1
    simp only [Pu_some, extV_0, extV_1, extV_2, extV_3, nilV_ptr, nilV_fn, faV_ptr, lenV_sl, lenS_s, capV_sl, pickV_t, pickV_f, unV_not, unV_neg, isB_t, isB_f, isB_u, binV_add, binV_sub, binV_mul, binV_eql, binV_neq, binV_lss, binV_leq, binV_gtr, binV_geq, binV_seql, binV_sneq, binV_slss, binV_beql, binV_bneq, binV_peql, binV_pneq, add_add, add_none, Go.Al.add_zero, Nat.zero_add, Nat.add_zero, IfB_t, IfB_f, Gd_t, Gd_f, Ld_ptr, LdN_ptr, Option.isNone_some, Option.isNone_none, Option.isSome_some, Option.isSome_none, Bool.not_true, Bool.not_false, drew_cell, drew_heap, e1]
    refine ⟨?_, (by trivial)⟩
    congr 1; symm; rw [decide_eq_false_iff_not]; omega
theorem radd_spec (w : World) {m x n : Int} (hm : In m) : Cl Try.prog 42 [iv m, iv x, iv n] w fun r w' => r = iv (xAdd m x n) ∧ w' = w := by
  refine c42 ?_; unfold T42
  refine (rright_spec w hm).mono ?_
  rintro _ _ ⟨rfl, rfl⟩
  unfold xAdd
  cases h1 : modOk m with
  | false =>
    simp only [Pu_some, extV_0, extV_1, extV_2, extV_3, nilV_ptr, nilV_fn, faV_ptr, lenV_sl, lenS_s, capV_sl, pickV_t, pickV_f, unV_not, unV_neg, isB_t, isB_f, isB_u, binV_add, binV_sub, binV_mul, binV_eql, binV_neq, binV_lss, binV_leq, binV_gtr, binV_geq, binV_seql, binV_sneq, binV_slss, binV_beql, binV_bneq, binV_peql, binV_pneq, add_add, add_none, Go.Al.add_zero, Nat.zero_add, Nat.add_zero, IfB_t, IfB_f, Gd_t, Gd_f, Ld_ptr, LdN_ptr, Option.isNone_some, Option.isNone_none, Option.isSome_some, Option.isSome_none, Bool.not_true, Bool.not_false, drew_cell, drew_heap, Bool.false_and, cond_false]
    exact ⟨(by trivial), (by trivial)⟩
  | true =>
    simp only [Pu_some, extV_0, extV_1, extV_2, extV_3, nilV_ptr, nilV_fn, faV_ptr, lenV_sl, lenS_s, capV_sl, pickV_t, pickV_f, unV_not, unV_neg, isB_t, isB_f, isB_u, binV_add, binV_sub, binV_mul, binV_eql, binV_neq, binV_lss, binV_leq, binV_gtr, binV_geq, binV_seql, binV_sneq, binV_slss, binV_beql, binV_bneq, binV_peql, binV_pneq, add_add, add_none, Go.Al.add_zero, Nat.zero_add, Nat.add_zero, IfB_t, IfB_f, Gd_t, Gd_f, Ld_ptr, LdN_ptr, Option.isNone_some, Option.isNone_none, Option.isSome_some, Option.isSome_none, Bool.not_true, Bool.not_false, drew_cell, drew_heap, Bool.true_and]
    refine (rid_spec _ m x).mono ?_
    rintro _ w ⟨rfl, rfl⟩
    cases h2 : idOk m x with
    | false =>
      simp only [Pu_some, extV_0, extV_1, extV_2, extV_3, nilV_ptr, nilV_fn, faV_ptr, lenV_sl, lenS_s, capV_sl, pickV_t, pickV_f, unV_not, unV_neg, isB_t, isB_f, isB_u, binV_add, binV_sub, binV_mul, binV_eql, binV_neq, binV_lss, binV_leq, binV_gtr, binV_geq, binV_seql, binV_sneq, binV_slss, binV_beql, binV_bneq, binV_peql, binV_pneq, add_add, add_none, Go.Al.add_zero, Nat.zero_add, Nat.add_zero, IfB_t, IfB_f, Gd_t, Gd_f, Ld_ptr, LdN_ptr, Option.isNone_some, Option.isNone_none, Option.isSome_some, Option.isSome_none, Bool.not_true, Bool.not_false, drew_cell, drew_heap, cond_false]
      exact ⟨(by trivial), (by trivial)⟩
    | true =>
      have hid := idOk_in h1 h2
      have e1 := rem_emod (TypeDesc.int IntKind.i64) (a := n) (b := m) (by omega)
      have b1 := Int.tmod_lt_of_pos n (show 0 < m by omega)
      have b2 := Int.lt_tmod_of_pos n (show 0 < m by omega)
      have b3 := Int.emod_nonneg n (show m ≠ 0 by omega)
      have b4 := Int.emod_lt_of_pos n (show 0 < m by omega)
      simp only [Pu_some, extV_0, extV_1, extV_2, extV_3, nilV_ptr, nilV_fn, faV_ptr, lenV_sl, lenS_s, capV_sl, pickV_t, pickV_f, unV_not, unV_neg, isB_t, isB_f, isB_u, binV_add, binV_sub, binV_mul, binV_eql, binV_neq, binV_lss, binV_leq, binV_gtr, binV_geq, binV_seql, binV_sneq, binV_slss, binV_beql, binV_bneq, binV_peql, binV_pneq, add_add, add_none, Go.Al.add_zero, Nat.zero_add, Nat.add_zero, IfB_t, IfB_f, Gd_t, Gd_f, Ld_ptr, LdN_ptr, Option.isNone_some, Option.isNone_none, Option.isSome_some, Option.isSome_none, Bool.not_true, Bool.not_false, drew_cell, drew_heap, cond_true, e1]
      refine Jn_at (fun vs w2 => vs = [iv (n % m)] ∧ w2 = w) ?_ ?_
      · rintro _ _ ⟨rfl, rfl⟩ _
        refine ⟨_, rfl, ?_⟩
        have e2 : IntKind.i64.wrap (x - 1) = x - 1 := wrap_id (by omega)
        have e3 : IntKind.i64.wrap (x - 1 + n % m) = x - 1 + n % m := wrap_id (by omega)
        have e4 := rem_pos (TypeDesc.int IntKind.i64) (a := x - 1 + n % m) (b := m) (by omega) (by omega) (by omega)
        have b5 := Int.emod_nonneg (x - 1 + n % m) (show m ≠ 0 by omega)
        have b6 := Int.emod_lt_of_pos (x - 1 + n % m) (show 0 < m by omega)
        have e5 : IntKind.i64.wrap ((x - 1 + n % m) % m + 1) = (x - 1 + n % m) % m + 1 := wrap_id (by omega)
        simp only [Pu_some, extV_0, extV_1, extV_2, extV_3, nilV_ptr, nilV_fn, faV_ptr, lenV_sl, lenS_s, capV_sl, pickV_t, pickV_f, unV_not, unV_neg, isB_t, isB_f, isB_u, binV_add, binV_sub, binV_mul, binV_eql, binV_neq, binV_lss, binV_leq, binV_gtr, binV_geq, binV_seql, binV_sneq, binV_slss, binV_beql, binV_bneq, binV_peql, binV_pneq, add_add, add_none, Go.Al.add_zero, Nat.zero_add, Nat.add_zero, IfB_t, IfB_f, Gd_t, Gd_f, Ld_ptr, LdN_ptr, Option.isNone_some, Option.isNone_none, Option.isSome_some, Option.isSome_none, Bool.not_true, Bool.not_false, drew_cell, drew_heap, e2, e3, e4, e5]
        exact ⟨(by trivial), (by trivial)⟩
      · intro kk hkk
        have key : n.tmod m = n % m ∨ (n.tmod m < 0 ∧ n.tmod m + m = n % m) := by
          have h3 : (n.tmod m) % m = n % m := tmod_emod n (show 0 < m by omega)
          rcases Int.lt_or_le (n.tmod m) 0 with h | h
          · right
            refine ⟨h, ?_⟩
            rw [← h3, ← Int.add_emod_right, Int.emod_eq_of_lt (by omega) (by omega)]
          · left
            rw [← h3, Int.emod_eq_of_lt h b1]
        by_cases hneg : n.tmod m < 0
        · have e2 : decide (n.tmod m < 0) = true := by simpa using hneg
          have e3 : n.tmod m + m = n % m := by rcases key with h | h <;> omega
          have e4 : IntKind.i64.wrap (n % m) = n % m := wrap_id (by omega)
          simp only [Pu_some, extV_0, extV_1, extV_2, extV_3, nilV_ptr, nilV_fn, faV_ptr, lenV_sl, lenS_s, capV_sl, pickV_t, pickV_f, unV_not, unV_neg, isB_t, isB_f, isB_u, binV_add, binV_sub, binV_mul, binV_eql, binV_neq, binV_lss, binV_leq, binV_gtr, binV_geq, binV_seql, binV_sneq, binV_slss, binV_beql, binV_bneq, binV_peql, binV_pneq, add_add, add_none, Go.Al.add_zero, Nat.zero_add, Nat.add_zero, IfB_t, IfB_f, Gd_t, Gd_f, Ld_ptr, LdN_ptr, Option.isNone_some, Option.isNone_none, Option.isSome_some, Option.isSome_none, Bool.not_true, Bool.not_false, drew_cell, drew_heap, e2, e3, e4]
          exact hkk _ _ ⟨rfl, rfl⟩
        · have e2 : decide (n.tmod m < 0) = false := by simpa using hneg
          have e3 : n.tmod m = n % m := by rcases key with h | h <;> omega
          simp only [Pu_some, extV_0, extV_1, extV_2, extV_3, nilV_ptr, nilV_fn, faV_ptr, lenV_sl, lenS_s, capV_sl, pickV_t, pickV_f, unV_not, unV_neg, isB_t, isB_f, isB_u, binV_add, binV_sub, binV_mul, binV_eql, binV_neq, binV_lss, binV_leq, binV_gtr, binV_geq, binV_seql, binV_sneq, binV_slss, binV_beql, binV_bneq, binV_peql, binV_pneq, add_add, add_none, Go.Al.add_zero, Nat.zero_add, Nat.add_zero, IfB_t, IfB_f, Gd_t, Gd_f, Ld_ptr, LdN_ptr, Option.isNone_some, Option.isNone_none, Option.isSome_some, Option.isSome_none, Bool.not_true, Bool.not_false, drew_cell, drew_heap, e2]
          rw [e3]
          exact hkk _ _ ⟨rfl, rfl⟩
theorem rgap_spec (w : World) {m a b : Int} (hm : In m) : Cl Try.prog 43 [iv m, iv a, iv b] w fun r w' => r = iv (xGap m a b) ∧ w' = w := by
  refine c43 ?_; unfold T43
  refine (rright_spec w hm).mono ?_
  rintro _ _ ⟨rfl, rfl⟩
  unfold xGap
  cases h1 : modOk m with
  | false =>
    simp only [Pu_some, extV_0, extV_1, extV_2, extV_3, nilV_ptr, nilV_fn, faV_ptr, lenV_sl, lenS_s, capV_sl, pickV_t, pickV_f, unV_not, unV_neg, isB_t, isB_f, isB_u, binV_add, binV_sub, binV_mul, binV_eql, binV_neq, binV_lss, binV_leq, binV_gtr, binV_geq, binV_seql, binV_sneq, binV_slss, binV_beql, binV_bneq, binV_peql, binV_pneq, add_add, add_none, Go.Al.add_zero, Nat.zero_add, Nat.add_zero, IfB_t, IfB_f, Gd_t, Gd_f, Ld_ptr, LdN_ptr, Option.isNone_some, Option.isNone_none, Option.isSome_some, Option.isSome_none, Bool.not_true, Bool.not_false, drew_cell, drew_heap, Bool.false_and, cond_false]
    exact ⟨(by trivial), (by trivial)⟩
  | true =>
    simp only [Pu_some, extV_0, extV_1, extV_2, extV_3, nilV_ptr, nilV_fn, faV_ptr, lenV_sl, lenS_s, capV_sl, pickV_t, pickV_f, unV_not, unV_neg, isB_t, isB_f, isB_u, binV_add, binV_sub, binV_mul, binV_eql, binV_neq, binV_lss, binV_leq, binV_gtr, binV_geq, binV_seql, binV_sneq, binV_slss, binV_beql, binV_bneq, binV_peql, binV_pneq, add_add, add_none, Go.Al.add_zero, Nat.zero_add, Nat.add_zero, IfB_t, IfB_f, Gd_t, Gd_f, Ld_ptr, LdN_ptr, Option.isNone_some, Option.isNone_none, Option.isSome_some, Option.isSome_none, Bool.not_true, Bool.not_false, drew_cell, drew_heap, Bool.true_and]
    refine (rid_spec _ m a).mono ?_
    rintro _ w ⟨rfl, rfl⟩
    cases h2 : idOk m a with
    | false =>
      simp only [Pu_some, extV_0, extV_1, extV_2, extV_3, nilV_ptr, nilV_fn, faV_ptr, lenV_sl, lenS_s, capV_sl, pickV_t, pickV_f, unV_not, unV_neg, isB_t, isB_f, isB_u, binV_add, binV_sub, binV_mul, binV_eql, binV_neq, binV_lss, binV_leq, binV_gtr, binV_geq, binV_seql, binV_sneq, binV_slss, binV_beql, binV_bneq, binV_peql, binV_pneq, add_add, add_none, Go.Al.add_zero, Nat.zero_add, Nat.add_zero, IfB_t, IfB_f, Gd_t, Gd_f, Ld_ptr, LdN_ptr, Option.isNone_some, Option.isNone_none, Option.isSome_some, Option.isSome_none, Bool.not_true, Bool.not_false, drew_cell, drew_heap, Bool.false_and, cond_false]
      exact ⟨(by trivial), (by trivial)⟩
    | true =>
      simp only [Pu_some, extV_0, extV_1, extV_2, extV_3, nilV_ptr, nilV_fn, faV_ptr, lenV_sl, lenS_s, capV_sl, pickV_t, pickV_f, unV_not, unV_neg, isB_t, isB_f, isB_u, binV_add, binV_sub, binV_mul, binV_eql, binV_neq, binV_lss, binV_leq, binV_gtr, binV_geq, binV_seql, binV_sneq, binV_slss, binV_beql, binV_bneq, binV_peql, binV_pneq, add_add, add_none, Go.Al.add_zero, Nat.zero_add, Nat.add_zero, IfB_t, IfB_f, Gd_t, Gd_f, Ld_ptr, LdN_ptr, Option.isNone_some, Option.isNone_none, Option.isSome_some, Option.isSome_none, Bool.not_true, Bool.not_false, drew_cell, drew_heap, Bool.true_and]
      refine (rid_spec _ m b).mono ?_
      rintro _ w ⟨rfl, rfl⟩
      cases h3 : idOk m b with
      | false =>
        simp only [Pu_some, extV_0, extV_1, extV_2, extV_3, nilV_ptr, nilV_fn, faV_ptr, lenV_sl, lenS_s, capV_sl, pickV_t, pickV_f, unV_not, unV_neg, isB_t, isB_f, isB_u, binV_add, binV_sub, binV_mul, binV_eql, binV_neq, binV_lss, binV_leq, binV_gtr, binV_geq, binV_seql, binV_sneq, binV_slss, binV_beql, binV_bneq, binV_peql, binV_pneq, add_add, add_none, Go.Al.add_zero, Nat.zero_add, Nat.add_zero, IfB_t, IfB_f, Gd_t, Gd_f, Ld_ptr, LdN_ptr, Option.isNone_some, Option.isNone_none, Option.isSome_some, Option.isSome_none, Bool.not_true, Bool.not_false, drew_cell, drew_heap, cond_false]
        exact ⟨(by trivial), (by trivial)⟩
      | true =>
        have i1 := idOk_in h1 h2
        have i2 := idOk_in h1 h3
        have b1 := Int.emod_nonneg (b - a) (show m ≠ 0 by omega)
        have b2 := Int.emod_lt_of_pos (b - a) (show 0 < m by omega)
        obtain ⟨g, hg⟩ := Int.eq_ofNat_of_zero_le b1
        have hadd : ∀ k : Nat, xAdd m a k = b ↔ (k : Int) % m = g := by
          intro k
          unfold xAdd
          rw [h1, h2]
          simp only [Bool.and_true, cond_true]
          have c1 := Int.emod_nonneg (k : Int) (show m ≠ 0 by omega)
          have c2 := Int.emod_lt_of_pos (k : Int) (show 0 < m by omega)
          have e : (b - a) % m = g := hg
          have hb : b - a = g ∨ b - a = g - m := by
            rcases Int.lt_or_le (b - a) 0 with h | h
            · right
              have : (b - a + m) % m = (b - a) % m := Int.add_emod_right _ _
              rw [Int.emod_eq_of_lt (by omega) (by omega)] at this
              omega
            · left
              rw [Int.emod_eq_of_lt (by omega) (by omega)] at e; exact e
          generalize (k : Int) % m = r at *
          rcases Int.lt_or_le (a - 1 + r) m with h | h
          · rw [Int.emod_eq_of_lt (by omega) h]; omega
          · have : (a - 1 + r) % m = a - 1 + r - m := by
              have : (a - 1 + r - m + m) % m = (a - 1 + r - m) % m := Int.add_emod_right _ _
              rw [show a - 1 + r - m + m = a - 1 + r by omega] at this
              rw [this, Int.emod_eq_of_lt (by omega) (by omega)]
            rw [this]; omega
        simp only [Pu_some, extV_0, extV_1, extV_2, extV_3, nilV_ptr, nilV_fn, faV_ptr, lenV_sl, lenS_s, capV_sl, pickV_t, pickV_f, unV_not, unV_neg, isB_t, isB_f, isB_u, binV_add, binV_sub, binV_mul, binV_eql, binV_neq, binV_lss, binV_leq, binV_gtr, binV_geq, binV_seql, binV_sneq, binV_slss, binV_beql, binV_bneq, binV_peql, binV_pneq, add_add, add_none, Go.Al.add_zero, Nat.zero_add, Nat.add_zero, IfB_t, IfB_f, Gd_t, Gd_f, Ld_ptr, LdN_ptr, Option.isNone_some, Option.isNone_none, Option.isSome_some, Option.isSome_none, Bool.not_true, Bool.not_false, drew_cell, drew_heap, cond_true]
        refine ⟨fun vs w2 => ∃ k : Nat, vs = [iv k] ∧ k ≤ g ∧ w2 = w, fun vs _ => (g - nth vs 0).toNat, ⟨0, rfl, by omega, rfl⟩, ?_⟩
        rintro _ w2 ik ⟨k, hvs, hk, rfl⟩
        cases hvs
        refine (radd_spec w2 hm).mono ?_
        rintro _ w2 ⟨rfl, rfl⟩
        have hkm : (k : Int) % m = k := Int.emod_eq_of_lt (by omega) (by omega)
        by_cases hkg : k = g
        · have e1 : (xAdd m a k != b) = false := by rw [(hadd k).2 (by rw [hkm, hkg])]; simp
          simp only [Pu_some, extV_0, extV_1, extV_2, extV_3, nilV_ptr, nilV_fn, faV_ptr, lenV_sl, lenS_s, capV_sl, pickV_t, pickV_f, unV_not, unV_neg, isB_t, isB_f, isB_u, binV_add, binV_sub, binV_mul, binV_eql, binV_neq, binV_lss, binV_leq, binV_gtr, binV_geq, binV_seql, binV_sneq, binV_slss, binV_beql, binV_bneq, binV_peql, binV_pneq, add_add, add_none, Go.Al.add_zero, Nat.zero_add, Nat.add_zero, IfB_t, IfB_f, Gd_t, Gd_f, Ld_ptr, LdN_ptr, Option.isNone_some, Option.isNone_none, Option.isSome_some, Option.isSome_none, Bool.not_true, Bool.not_false, drew_cell, drew_heap, e1]
          rw [hg, hkg]
          exact ⟨(by trivial), (by trivial)⟩
        · have e1 : (xAdd m a k != b) = true := by
            rw [bne_dec]
            have : ¬ xAdd m a k = b := fun h => hkg (by have := (hadd k).1 h; rw [hkm] at this; omega)
            simp [this]
          have e2 : IntKind.i64.wrap ((k : Int) + 1) = ((k + 1 : Nat) : Int) := by rw [wrap_id] <;> omega
          simp only [Pu_some, extV_0, extV_1, extV_2, extV_3, nilV_ptr, nilV_fn, faV_ptr, lenV_sl, lenS_s, capV_sl, pickV_t, pickV_f, unV_not, unV_neg, isB_t, isB_f, isB_u, binV_add, binV_sub, binV_mul, binV_eql, binV_neq, binV_lss, binV_leq, binV_gtr, binV_geq, binV_seql, binV_sneq, binV_slss, binV_beql, binV_bneq, binV_peql, binV_pneq, add_add, add_none, Go.Al.add_zero, Nat.zero_add, Nat.add_zero, IfB_t, IfB_f, Gd_t, Gd_f, Ld_ptr, LdN_ptr, Option.isNone_some, Option.isNone_none, Option.isSome_some, Option.isSome_none, Bool.not_true, Bool.not_false, drew_cell, drew_heap, e1, e2]
          exact ⟨⟨k + 1, rfl, by omega, (by trivial)⟩, by simp only [nth_0]; omega⟩
theorem rbefore_spec (w : World) {m a b : Int} (hm : In m) : Cl Try.prog 45 [iv m, iv a, iv b] w fun r w' => r = .bool (xBefore m a b) ∧ w' = w := by
  refine c45 ?_; unfold T45
  refine (rgap_spec w hm).mono ?_
  rintro _ w1 ⟨rfl, rfl⟩
  have hg := xGap_in m a b
  unfold xBefore
  by_cases h0 : 1 ≤ xGap m a b
  · have hmm : 16 ≤ m ∧ m ≤ 1024 := by
      unfold xGap at h0
      cases h : modOk m && idOk m a && idOk m b with
      | false => rw [h] at h0; simp at h0
      | true => simp only [Bool.and_eq_true] at h; have := idOk_in h.1.1 h.1.2; omega
    have e1 : decide (1 ≤ xGap m a b) = true := by simpa using h0
    have e2 := quo_pos (TypeDesc.int IntKind.i64) (a := m) (b := 2) (by omega) (by decide) (by omega)
    have e3 : IntKind.i64.wrap (m / 2 - 1) = m / 2 - 1 := wrap_id (by omega)
    simp only [Pu_some, extV_0, extV_1, extV_2, extV_3, nilV_ptr, nilV_fn, faV_ptr, lenV_sl, lenS_s, capV_sl, pickV_t, pickV_f, unV_not, unV_neg, isB_t, isB_f, isB_u, binV_add, binV_sub, binV_mul, binV_eql, binV_neq, binV_lss, binV_leq, binV_gtr, binV_geq, binV_seql, binV_sneq, binV_slss, binV_beql, binV_bneq, binV_peql, binV_pneq, add_add, add_none, Go.Al.add_zero, Nat.zero_add, Nat.add_zero, IfB_t, IfB_f, Gd_t, Gd_f, Ld_ptr, LdN_ptr, Option.isNone_some, Option.isNone_none, Option.isSome_some, Option.isSome_none, Bool.not_true, Bool.not_false, drew_cell, drew_heap, e1, e2, e3]
    refine ⟨?_, (by trivial)⟩
    congr 1
    rw [decide_eq_decide]; omega
  · have e1 : decide (1 ≤ xGap m a b) = false := by simpa using h0
    simp only [Pu_some, extV_0, extV_1, extV_2, extV_3, nilV_ptr, nilV_fn, faV_ptr, lenV_sl, lenS_s, capV_sl, pickV_t, pickV_f, unV_not, unV_neg, isB_t, isB_f, isB_u, binV_add, binV_sub, binV_mul, binV_eql, binV_neq, binV_lss, binV_leq, binV_gtr, binV_geq, binV_seql, binV_sneq, binV_slss, binV_beql, binV_bneq, binV_peql, binV_pneq, add_add, add_none, Go.Al.add_zero, Nat.zero_add, Nat.add_zero, IfB_t, IfB_f, Gd_t, Gd_f, Ld_ptr, LdN_ptr, Option.isNone_some, Option.isNone_none, Option.isSome_some, Option.isSome_none, Bool.not_true, Bool.not_false, drew_cell, drew_heap, e1]
    refine ⟨?_, (by trivial)⟩
    congr 1; symm; rw [decide_eq_false_iff_not]; omega

end Go.Proofs.Ythgdinjgdjiknaa
