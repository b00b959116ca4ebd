/- What the statements share: lists that are the same, lent, kept, apart. -/
import Derived.Test.YthgdinjgdjiknaaDiskAwake
namespace Go.Proofs.Ythgdinjgdjiknaa
open Go.Al Go.Proofs
set_option linter.unusedVariables false
set_option linter.unusedSimpArgs false
set_option linter.unusedSectionVars false

theorem E34k : ElemT Try.prog 34 3 1 8 := elemT_of Try.underlying34 (by kernel_rfl)

theorem sameints_spec {w : World} {u v : Value} {xs ys : List Int} (hu : CellsAt w u xs.length 1 (xs.map iv)) (hv : CellsAt w v ys.length 1 (ys.map iv)) :
    Cl Try.prog 65 [u, v] w fun r w' => r = .bool (decide (xs = ys)) ∧ Fm (fun _ => False) w w' := by
  have hl1 := hu.lt
  have hl2 := hv.lt
  unfold maxLen at hl1 hl2
  refine c65 ?_; unfold T65
  by_cases hl : xs.length = ys.length
  · have e1 : ((xs.length : Int) != (ys.length : Int)) = false := by rw [hl]; simp
    simp only [Pu_some, extV_0, extV_1, extV_2, extV_3, nilV_ptr, nilV_fn, faV_ptr, lenV_sl, lenS_s, capV_sl, pickV_t, pickV_f, unV_not, unV_neg, isB_t, isB_f, isB_u, binV_add, binV_sub, binV_mul, binV_eql, binV_neq, binV_lss, binV_leq, binV_gtr, binV_geq, binV_seql, binV_sneq, binV_slss, binV_beql, binV_bneq, binV_peql, binV_pneq, add_add, add_none, Go.Al.add_zero, Nat.zero_add, Nat.add_zero, IfB_t, IfB_f, Gd_t, Gd_f, Ld_ptr, LdN_ptr, Option.isNone_some, Option.isNone_none, Option.isSome_some, Option.isSome_none, Bool.not_true, Bool.not_false, drew_cell, drew_heap, hu.lenV, hv.lenV, e1]
    refine ⟨fun vs w2 => ∃ k : Nat, vs = [iv k] ∧ k ≤ xs.length ∧ xs.take k = ys.take k ∧ Fm (fun _ => False) w w2, fun vs _ => (xs.length - nth vs 0).toNat, ⟨0, rfl, by omega, by simp, Fm.refl _ _⟩, ?_⟩
    rintro _ w2 ik ⟨k, hvs, hk, hsame, hf⟩
    cases hvs
    have hfd := Fmf hf (Fm.drew (fun _ => False) w2)
    by_cases hlt : k < xs.length
    · have e2 : decide ((k : Int) < (xs.length : Int)) = true := by rw [decide_eq_true_eq]; omega
      have e3 : IntKind.i64.wrap ((k : Int) + 1) = ((k + 1 : Nat) : Int) := by rw [wrap_id] <;> omega
      have hx : xs[k]? = some xs[k] := List.getElem?_eq_getElem hlt
      have hy : ys[k]? = some (ys[k]'(by omega)) := List.getElem?_eq_getElem _
      generalize xs[k] = x at hx
      generalize ys[k]'(by omega) = y at hy
      obtain ⟨a1, h1, _, q1⟩ := (hu.keep hfd (fun _ _ e => e)).at1 (i := k) (x := iv x) (by rw [List.getElem?_map, hx]; rfl) .i64
      obtain ⟨a2, h2, _, q2⟩ := (hv.keep hfd (fun _ _ e => e)).at1 (i := k) (x := iv y) (by rw [List.getElem?_map, hy]; rfl) .i64
      rw [drew_cell] at q1 q2
      simp only [Pu_some, extV_0, extV_1, extV_2, extV_3, nilV_ptr, nilV_fn, faV_ptr, lenV_sl, lenS_s, capV_sl, pickV_t, pickV_f, unV_not, unV_neg, isB_t, isB_f, isB_u, binV_add, binV_sub, binV_mul, binV_eql, binV_neq, binV_lss, binV_leq, binV_gtr, binV_geq, binV_seql, binV_sneq, binV_slss, binV_beql, binV_bneq, binV_peql, binV_pneq, add_add, add_none, Go.Al.add_zero, Nat.zero_add, Nat.add_zero, IfB_t, IfB_f, Gd_t, Gd_f, Ld_ptr, LdN_ptr, Option.isNone_some, Option.isNone_none, Option.isSome_some, Option.isSome_none, Bool.not_true, Bool.not_false, drew_cell, drew_heap, hu.lenV, e2, h1, q1, h2, q2, true_and]
      by_cases hxy : x = y
      · have e4 : (x != y) = false := by simp [hxy]
        simp only [Pu_some, extV_0, extV_1, extV_2, extV_3, nilV_ptr, nilV_fn, faV_ptr, lenV_sl, lenS_s, capV_sl, pickV_t, pickV_f, unV_not, unV_neg, isB_t, isB_f, isB_u, binV_add, binV_sub, binV_mul, binV_eql, binV_neq, binV_lss, binV_leq, binV_gtr, binV_geq, binV_seql, binV_sneq, binV_slss, binV_beql, binV_bneq, binV_peql, binV_pneq, add_add, add_none, Go.Al.add_zero, Nat.zero_add, Nat.add_zero, IfB_t, IfB_f, Gd_t, Gd_f, Ld_ptr, LdN_ptr, Option.isNone_some, Option.isNone_none, Option.isSome_some, Option.isSome_none, Bool.not_true, Bool.not_false, drew_cell, drew_heap, e4, e3]
        refine ⟨⟨k + 1, rfl, by omega, ?_, hfd⟩, by simp only [nth_0]; omega⟩
        rw [List.take_add_one, List.take_add_one, hsame, hx, hy, hxy]
      · have e4 : (x != y) = true := by simp [hxy]
        simp only [Pu_some, extV_0, extV_1, extV_2, extV_3, nilV_ptr, nilV_fn, faV_ptr, lenV_sl, lenS_s, capV_sl, pickV_t, pickV_f, unV_not, unV_neg, isB_t, isB_f, isB_u, binV_add, binV_sub, binV_mul, binV_eql, binV_neq, binV_lss, binV_leq, binV_gtr, binV_geq, binV_seql, binV_sneq, binV_slss, binV_beql, binV_bneq, binV_peql, binV_pneq, add_add, add_none, Go.Al.add_zero, Nat.zero_add, Nat.add_zero, IfB_t, IfB_f, Gd_t, Gd_f, Ld_ptr, LdN_ptr, Option.isNone_some, Option.isNone_none, Option.isSome_some, Option.isSome_none, Bool.not_true, Bool.not_false, drew_cell, drew_heap, e4]
        refine ⟨?_, hfd⟩
        congr 1
        symm
        rw [decide_eq_false_iff_not]
        rintro rfl
        rw [hx] at hy; cases hy; exact hxy rfl
    · have hke : k = xs.length := by omega
      subst hke
      have e2 : decide (((xs.length : Nat) : Int) < (xs.length : Int)) = false := by simp
      simp only [Pu_some, extV_0, extV_1, extV_2, extV_3, nilV_ptr, nilV_fn, faV_ptr, lenV_sl, lenS_s, capV_sl, pickV_t, pickV_f, unV_not, unV_neg, isB_t, isB_f, isB_u, binV_add, binV_sub, binV_mul, binV_eql, binV_neq, binV_lss, binV_leq, binV_gtr, binV_geq, binV_seql, binV_sneq, binV_slss, binV_beql, binV_bneq, binV_peql, binV_pneq, add_add, add_none, Go.Al.add_zero, Nat.zero_add, Nat.add_zero, IfB_t, IfB_f, Gd_t, Gd_f, Ld_ptr, LdN_ptr, Option.isNone_some, Option.isNone_none, Option.isSome_some, Option.isSome_none, Bool.not_true, Bool.not_false, drew_cell, drew_heap, hu.lenV, e2]
      refine ⟨?_, hf⟩
      rw [List.take_length, hl, List.take_length] at hsame
      rw [decide_eq_true hsame]
  · have e1 : ((xs.length : Int) != (ys.length : Int)) = true := by simp; omega
    simp only [Pu_some, extV_0, extV_1, extV_2, extV_3, nilV_ptr, nilV_fn, faV_ptr, lenV_sl, lenS_s, capV_sl, pickV_t, pickV_f, unV_not, unV_neg, isB_t, isB_f, isB_u, binV_add, binV_sub, binV_mul, binV_eql, binV_neq, binV_lss, binV_leq, binV_gtr, binV_geq, binV_seql, binV_sneq, binV_slss, binV_beql, binV_bneq, binV_peql, binV_pneq, add_add, add_none, Go.Al.add_zero, Nat.zero_add, Nat.add_zero, IfB_t, IfB_f, Gd_t, Gd_f, Ld_ptr, LdN_ptr, Option.isNone_some, Option.isNone_none, Option.isSome_some, Option.isSome_none, Bool.not_true, Bool.not_false, drew_cell, drew_heap, hu.lenV, hv.lenV, e1]
    refine ⟨?_, Fm.refl _ _⟩
    congr 1
    symm
    rw [decide_eq_false_iff_not]
    rintro rfl; exact hl rfl

def marks4 : List Value := List.replicate 4 (iv (-7770777))
/-- A run of cells at the head of a block. -/
theorem PRow.run {w : World} {g : Nat} {e : TypeId} {xs : List Value} (h : PRow w g e xs) {n c : Nat} (hn : n ≤ xs.length) (hc : n ≤ c) (hm : c ≤ maxLen) : CellsAt w (.slice (some ⟨g, 0, none⟩) n c) n 1 (xs.take n) := by
  refine ⟨⟨_, c, rfl, hc, hm, fun e => (by cases e), fun j u hj => ⟨_, rfl, ?_⟩⟩, by rw [List.length_take]; omega⟩
  rw [List.getElem?_take] at hj
  split at hj
  · rw [add_none, Nat.zero_add]; exact h.cell hj
  · cases hj

theorem lent_spec {w : World} {v : Value} {L : List Int} (hL : CellsAt w v L.length 1 (L.map iv)) (hsm : L.length * 8 ≤ 140737488351232) :
    Cl Try.prog 63 [v] w fun r w' => ∃ g cap, r = .slice (some ⟨g, 0, none⟩) L.length cap ∧ L.length + 4 ≤ cap ∧ cap ≤ maxLen ∧ w.heap.size ≤ g ∧ PRow w' g 3 (L.map iv ++ marks4) ∧ Fm (fun _ => False) w w' := by
  refine c63 ?_; unfold T63
  have e1 : IntKind.i64.wrap ((L.length : Int) + 4) = ((L.length + 4 : Nat) : Int) := by rw [wrap_id] <;> omega
  simp only [Pu_some, extV_0, extV_1, extV_2, extV_3, nilV_ptr, nilV_fn, faV_ptr, lenV_sl, lenS_s, capV_sl, pickV_t, pickV_f, unV_not, unV_neg, isB_t, isB_f, isB_u, binV_add, binV_sub, binV_mul, binV_eql, binV_neq, binV_lss, binV_leq, binV_gtr, binV_geq, binV_seql, binV_sneq, binV_slss, binV_beql, binV_bneq, binV_peql, binV_pneq, add_add, add_none, Go.Al.add_zero, Nat.zero_add, Nat.add_zero, IfB_t, IfB_f, Gd_t, Gd_f, Ld_ptr, LdN_ptr, Option.isNone_some, Option.isNone_none, Option.isSome_some, Option.isSome_none, Bool.not_true, Bool.not_false, drew_cell, drew_heap, hL.lenV, e1]
  obtain ⟨i, h1, h2, h3, h4⟩ := info_of (P := Try.prog) (e := 3) (z := iv 0) (n := 1) (b := 8) (by kernel_rfl)
  obtain ⟨w1, hr1, ho1, hg1⟩ := run_make_own (P := Try.prog) w w.heap.size 34 3 i (iv 0) 1 Try.underlying34 h1 h2 h3 .i64 .i64 (L.length + 4) (by rw [h4]; omega) (by unfold maxLen; omega) (Nat.le_refl _)
  refine RunS_ok hr1 ?_
  have hf1 : Fm (fun _ => False) w w1 := Fm.grown hg1 (fun k hk _ => by cases hk)
  obtain ⟨v2, w2, hr2, ho2, hf2, _⟩ := append_src E34k (by omega) ho1 (hL.keep hf1 (fun _ _ e => e)) (by intro u hu; obtain ⟨x, _, rfl⟩ := List.mem_map.1 hu; rfl) 34 (by unfold maxLen; omega) (by omega) hf1.size
  refine RunS_ok hr2 ?_
  rw [List.nil_append, Nat.zero_add] at ho2
  have hF2 : Fm (fun _ => False) w w2 := Fm.own hf1 hf2 (fun _ hx => hx)
  refine ⟨fun vs w3 => ∃ (k : Nat) (u : Value), vs = [u, iv k] ∧ k ≤ 4 ∧ w3.ownsRow w.heap.size 3 1 u (L.length + k) (L.map iv ++ List.replicate k (iv (-7770777))) ∧ Fm (fun _ => False) w w3, fun vs _ => (4 - nth vs 1).toNat, ⟨0, v2, rfl, by omega, by simpa using ho2, hF2⟩, ?_⟩
  rintro _ w3 u ik ⟨k, _, hvs, hk, ho, hF⟩
  cases hvs
  by_cases hlt : k < 4
  · have e2 : decide ((k : Int) < 4) = true := by rw [decide_eq_true_eq]; omega
    have e3 : IntKind.i64.wrap ((k : Int) + 1) = ((k + 1 : Nat) : Int) := by rw [wrap_id] <;> omega
    simp only [Pu_some, extV_0, extV_1, extV_2, extV_3, nilV_ptr, nilV_fn, faV_ptr, lenV_sl, lenS_s, capV_sl, pickV_t, pickV_f, unV_not, unV_neg, isB_t, isB_f, isB_u, binV_add, binV_sub, binV_mul, binV_eql, binV_neq, binV_lss, binV_leq, binV_gtr, binV_geq, binV_seql, binV_sneq, binV_slss, binV_beql, binV_bneq, binV_peql, binV_pneq, add_add, add_none, Go.Al.add_zero, Nat.zero_add, Nat.add_zero, IfB_t, IfB_f, Gd_t, Gd_f, Ld_ptr, LdN_ptr, Option.isNone_some, Option.isNone_none, Option.isSome_some, Option.isSome_none, Bool.not_true, Bool.not_false, drew_cell, drew_heap, e2]
    refine append_el E34k (by omega) 34 (cs := [iv (-7770777)]) rfl (bs34 _ _) (by intro u hu; simp at hu; subst hu; rfl) ho (by unfold maxLen; omega) (by omega) hF.size ?_
    intro u' w4 ho4 _ hf4
    simp only [Pu_some, extV_0, extV_1, extV_2, extV_3, nilV_ptr, nilV_fn, faV_ptr, lenV_sl, lenS_s, capV_sl, pickV_t, pickV_f, unV_not, unV_neg, isB_t, isB_f, isB_u, binV_add, binV_sub, binV_mul, binV_eql, binV_neq, binV_lss, binV_leq, binV_gtr, binV_geq, binV_seql, binV_sneq, binV_slss, binV_beql, binV_bneq, binV_peql, binV_pneq, add_add, add_none, Go.Al.add_zero, Nat.zero_add, Nat.add_zero, IfB_t, IfB_f, Gd_t, Gd_f, Ld_ptr, LdN_ptr, Option.isNone_some, Option.isNone_none, Option.isSome_some, Option.isSome_none, Bool.not_true, Bool.not_false, drew_cell, drew_heap, e3]
    refine ⟨⟨k + 1, u', rfl, by omega, ?_, Fm.own hF hf4 (fun _ hx => hx)⟩, by simp only [nth_1]; omega⟩
    rw [List.replicate_succ', ← List.append_assoc]; exact ho4
  · have hke : k = 4 := by omega
    subst hke
    have e2 : decide (((4 : Nat) : Int) < 4) = false := rfl
    obtain ⟨g, cap, rfl, g1, g2, g3, g4⟩ := PRow.of_own ho (by omega)
    have hcm : cap ≤ maxLen := by obtain ⟨⟨a, c, he, h1, h2, _⟩, _⟩ := CellsAt.of_own ho; cases he; exact h2
    have hs := slV_hi1 (g := g) (o := 0) (n := L.length + 4) (c := cap) (j := L.length) (by omega) .i64
    simp only [Pu_some, extV_0, extV_1, extV_2, extV_3, nilV_ptr, nilV_fn, faV_ptr, lenV_sl, lenS_s, capV_sl, pickV_t, pickV_f, unV_not, unV_neg, isB_t, isB_f, isB_u, binV_add, binV_sub, binV_mul, binV_eql, binV_neq, binV_lss, binV_leq, binV_gtr, binV_geq, binV_seql, binV_sneq, binV_slss, binV_beql, binV_bneq, binV_peql, binV_pneq, add_add, add_none, Go.Al.add_zero, Nat.zero_add, Nat.add_zero, IfB_t, IfB_f, Gd_t, Gd_f, Ld_ptr, LdN_ptr, Option.isNone_some, Option.isNone_none, Option.isSome_some, Option.isSome_none, Bool.not_true, Bool.not_false, drew_cell, drew_heap, e2, hL.lenV, hs]
    exact ⟨g, cap, rfl, g3, hcm, g1, g4, hF⟩

theorem kept_spec {w : World} {g cap : Nat} {v : Value} {L : List Int} (hp : PRow w g 3 (L.map iv ++ marks4)) (hc : L.length + 4 ≤ cap) (hm : cap ≤ maxLen) (hL : CellsAt w v L.length 1 (L.map iv)) :
    Cl Try.prog 64 [.slice (some ⟨g, 0, none⟩) L.length cap, v] w fun r w' => r = .bool true ∧ Fm (fun _ => False) w w' := by
  have hmm := hm
  unfold maxLen at hmm
  refine c64 ?_; unfold T64
  have h1 := PRow.run hp (n := L.length) (c := cap) (by simp) (by omega) hm
  rw [List.take_append_of_le_length (by simp), List.take_of_length_le (by simp)] at h1
  refine (sameints_spec h1 hL).mono ?_
  rintro _ w1 ⟨rfl, hf1⟩
  have e1 : IntKind.i64.wrap ((L.length : Int) + 4) = ((L.length + 4 : Nat) : Int) := by rw [wrap_id] <;> omega
  have e2 := slV_hi1 (g := g) (o := 0) (n := L.length) (c := cap) (j := L.length + 4) hc .i64
  simp only [Pu_some, extV_0, extV_1, extV_2, extV_3, nilV_ptr, nilV_fn, faV_ptr, lenV_sl, lenS_s, capV_sl, pickV_t, pickV_f, unV_not, unV_neg, isB_t, isB_f, isB_u, binV_add, binV_sub, binV_mul, binV_eql, binV_neq, binV_lss, binV_leq, binV_gtr, binV_geq, binV_seql, binV_sneq, binV_slss, binV_beql, binV_bneq, binV_peql, binV_pneq, add_add, add_none, Go.Al.add_zero, Nat.zero_add, Nat.add_zero, IfB_t, IfB_f, Gd_t, Gd_f, Ld_ptr, LdN_ptr, Option.isNone_some, Option.isNone_none, Option.isSome_some, Option.isSome_none, Bool.not_true, Bool.not_false, drew_cell, drew_heap, decide_true, hL.lenV, e1, e2]
  refine ⟨fun vs w3 => ∃ (k : Nat), vs = [iv ((L.length + k : Nat) : Int)] ∧ k ≤ 4 ∧ PRow w3 g 3 (L.map iv ++ marks4) ∧ Fm (fun _ => False) w w3, fun vs _ => (L.length + 4 - nth vs 0).toNat, ⟨0, rfl, by omega, hp.keep hf1 (fun e => e), hf1⟩, ?_⟩
  rintro _ w3 ik ⟨k, hvs, hk, hp3, hf3⟩
  cases hvs
  by_cases hlt : k < 4
  · have e3 : decide (((L.length + k : Nat) : Int) < ((L.length + 4 : Nat) : Int)) = true := by rw [decide_eq_true_eq]; omega
    have e4 : IntKind.i64.wrap (((L.length + k : Nat) : Int) + 1) = ((L.length + (k + 1) : Nat) : Int) := by rw [wrap_id] <;> omega
    have hlt2 : L.length + k < L.length + 4 := by omega
    have hcell : w3.cell? ⟨g, L.length + k, none⟩ = some (iv (-7770777)) := hp3.cell (by
      rw [List.getElem?_append_right (by simp), List.length_map, Nat.add_sub_cancel_left]
      unfold marks4
      rw [List.getElem?_replicate, if_pos hlt])
    simp only [Pu_some, extV_0, extV_1, extV_2, extV_3, nilV_ptr, nilV_fn, faV_ptr, lenV_sl, lenS_s, capV_sl, pickV_t, pickV_f, unV_not, unV_neg, isB_t, isB_f, isB_u, binV_add, binV_sub, binV_mul, binV_eql, binV_neq, binV_lss, binV_leq, binV_gtr, binV_geq, binV_seql, binV_sneq, binV_slss, binV_beql, binV_bneq, binV_peql, binV_pneq, add_add, add_none, Go.Al.add_zero, Nat.zero_add, Nat.add_zero, IfB_t, IfB_f, Gd_t, Gd_f, Ld_ptr, LdN_ptr, Option.isNone_some, Option.isNone_none, Option.isSome_some, Option.isSome_none, Bool.not_true, Bool.not_false, drew_cell, drew_heap, e3, ixV_at hlt2, Nat.mul_one, hcell, bne_self_eq_false, e4]
    exact ⟨⟨k + 1, rfl, by omega, hp3, hf3⟩, by simp only [nth_0]; omega⟩
  · have hke : k = 4 := by omega
    subst hke
    have e3 : decide (((L.length + 4 : Nat) : Int) < ((L.length + 4 : Nat) : Int)) = false := by simp
    simp only [Pu_some, extV_0, extV_1, extV_2, extV_3, nilV_ptr, nilV_fn, faV_ptr, lenV_sl, lenS_s, capV_sl, pickV_t, pickV_f, unV_not, unV_neg, isB_t, isB_f, isB_u, binV_add, binV_sub, binV_mul, binV_eql, binV_neq, binV_lss, binV_leq, binV_gtr, binV_geq, binV_seql, binV_sneq, binV_slss, binV_beql, binV_bneq, binV_peql, binV_pneq, add_add, add_none, Go.Al.add_zero, Nat.zero_add, Nat.add_zero, IfB_t, IfB_f, Gd_t, Gd_f, Ld_ptr, LdN_ptr, Option.isNone_some, Option.isNone_none, Option.isSome_some, Option.isSome_none, Bool.not_true, Bool.not_false, drew_cell, drew_heap, e3]
    exact ⟨(by trivial), hf3⟩

end Go.Proofs.Ythgdinjgdjiknaa
