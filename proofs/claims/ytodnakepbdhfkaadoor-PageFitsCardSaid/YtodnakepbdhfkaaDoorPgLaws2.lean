/- Laws of pages: what is written is read, and the other way round; bytes of which one is another one. -/
import Derived.Test.YtodnakepbdhfkaaDoorPgViews
namespace Go.Proofs.YtodnakepbdhfkaaDoor
open Go.Al Go.Proofs
set_option linter.unusedVariables false
set_option linter.unusedSimpArgs false
set_option linter.unusedSectionVars false
set_option maxRecDepth 100000

def fixedB (d : Bs) (right : Bool) : Bs := bif !decide (d.length = 512) || !right then d else beN 4 (crc (d.drop 4)) ++ d.drop 4
theorem fixedB_len {d : Bs} (r : Bool) (h : d.length ≤ 140737488355328) : (fixedB d r).length ≤ 140737488355328 := by
  unfold fixedB
  cases hc : !decide (d.length = 512) || !r with
  | true => exact h
  | false =>
    have : d.length = 512 := by
      rw [Bool.or_eq_false_iff] at hc
      simpa using hc.1
    simp only [cond_false, List.length_append, beN_len, List.length_drop]; omega
theorem fixed_spec (w : World) (d : Bs) (r : Bool) (hd : d.length ≤ 140737488355328) : Cl Tryd.prog 26 [stv d, .bool r] w fun v w' => v = stv (fixedB d r) ∧ Fm (fun _ => False) w w' := by
  refine c26 ?_; unfold T26
  have d0 : decide ((d.length : Int) = 512) = decide (d.length = 512) := by rw [decide_eq_decide]; omega
  unfold fixedB
  simp only [Pu_some, extV_0, extV_1, extV_2, extV_3, nilV_ptr, nilV_fn, faV_ptr, lenV_sl, lenS_s, capV_sl, pickV_t, pickV_f, unV_not, unV_neg, isB_t, isB_f, isB_u, binV_add, binV_sub, binV_mul, binV_eql, binV_neq, binV_lss, binV_leq, binV_gtr, binV_geq, binV_seql, binV_sneq, binV_slss, binV_beql, binV_bneq, binV_peql, binV_pneq, add_add, add_none, Go.Al.add_zero, Nat.zero_add, Nat.add_zero, IfB_t, IfB_f, Gd_t, Gd_f, Ld_ptr, LdN_ptr, Option.isNone_some, Option.isNone_none, Option.isSome_some, Option.isSome_none, Bool.not_true, Bool.not_false, drew_cell, drew_heap, str_size, bne_dec, d0]
  cases h0 : decide (d.length = 512) with
  | false =>
    simp only [Pu_some, extV_0, extV_1, extV_2, extV_3, nilV_ptr, nilV_fn, faV_ptr, lenV_sl, lenS_s, capV_sl, pickV_t, pickV_f, unV_not, unV_neg, isB_t, isB_f, isB_u, binV_add, binV_sub, binV_mul, binV_eql, binV_neq, binV_lss, binV_leq, binV_gtr, binV_geq, binV_seql, binV_sneq, binV_slss, binV_beql, binV_bneq, binV_peql, binV_pneq, add_add, add_none, Go.Al.add_zero, Nat.zero_add, Nat.add_zero, IfB_t, IfB_f, Gd_t, Gd_f, Ld_ptr, LdN_ptr, Option.isNone_some, Option.isNone_none, Option.isSome_some, Option.isSome_none, Bool.not_true, Bool.not_false, drew_cell, drew_heap, Bool.true_or, cond_true]
    exact ⟨(by trivial), Fm.refl _ _⟩
  | true =>
  have h512 : d.length = 512 := by simpa using h0
  simp only [Pu_some, extV_0, extV_1, extV_2, extV_3, nilV_ptr, nilV_fn, faV_ptr, lenV_sl, lenS_s, capV_sl, pickV_t, pickV_f, unV_not, unV_neg, isB_t, isB_f, isB_u, binV_add, binV_sub, binV_mul, binV_eql, binV_neq, binV_lss, binV_leq, binV_gtr, binV_geq, binV_seql, binV_sneq, binV_slss, binV_beql, binV_bneq, binV_peql, binV_pneq, add_add, add_none, Go.Al.add_zero, Nat.zero_add, Nat.add_zero, IfB_t, IfB_f, Gd_t, Gd_f, Ld_ptr, LdN_ptr, Option.isNone_some, Option.isNone_none, Option.isSome_some, Option.isSome_none, Bool.not_true, Bool.not_false, drew_cell, drew_heap, Bool.false_or]
  cases r with
  | false =>
    simp only [Pu_some, extV_0, extV_1, extV_2, extV_3, nilV_ptr, nilV_fn, faV_ptr, lenV_sl, lenS_s, capV_sl, pickV_t, pickV_f, unV_not, unV_neg, isB_t, isB_f, isB_u, binV_add, binV_sub, binV_mul, binV_eql, binV_neq, binV_lss, binV_leq, binV_gtr, binV_geq, binV_seql, binV_sneq, binV_slss, binV_beql, binV_bneq, binV_peql, binV_pneq, add_add, add_none, Go.Al.add_zero, Nat.zero_add, Nat.add_zero, IfB_t, IfB_f, Gd_t, Gd_f, Ld_ptr, LdN_ptr, Option.isNone_some, Option.isNone_none, Option.isSome_some, Option.isSome_none, Bool.not_true, Bool.not_false, drew_cell, drew_heap, Bool.not_false, cond_true]
    exact ⟨(by trivial), Fm.refl _ _⟩
  | true =>
  have s1 : slS (stv d) (some (Value.int .i64 4)) none = some (stv (d.drop 4)) := slS_lo (i := 4) (by omega) .i64
  have hf1 := Fm.drew (fun _ => False) w
  simp only [Pu_some, extV_0, extV_1, extV_2, extV_3, nilV_ptr, nilV_fn, faV_ptr, lenV_sl, lenS_s, capV_sl, pickV_t, pickV_f, unV_not, unV_neg, isB_t, isB_f, isB_u, binV_add, binV_sub, binV_mul, binV_eql, binV_neq, binV_lss, binV_leq, binV_gtr, binV_geq, binV_seql, binV_sneq, binV_slss, binV_beql, binV_bneq, binV_peql, binV_pneq, add_add, add_none, Go.Al.add_zero, Nat.zero_add, Nat.add_zero, IfB_t, IfB_f, Gd_t, Gd_f, Ld_ptr, LdN_ptr, Option.isNone_some, Option.isNone_none, Option.isSome_some, Option.isSome_none, Bool.not_true, Bool.not_false, drew_cell, drew_heap, Bool.not_true, cond_false, s1]
  generalize w.drew = w1 at hf1
  refine (rsum_spec w1 (d.drop 4) (by rw [List.length_drop]; omega)).mono ?_
  rintro _ w1 ⟨rfl, rfl⟩
  obtain ⟨q1, q2⟩ := crc_in (d.drop 4)
  simp only [Pu_some, extV_0, extV_1, extV_2, extV_3, nilV_ptr, nilV_fn, faV_ptr, lenV_sl, lenS_s, capV_sl, pickV_t, pickV_f, unV_not, unV_neg, isB_t, isB_f, isB_u, binV_add, binV_sub, binV_mul, binV_eql, binV_neq, binV_lss, binV_leq, binV_gtr, binV_geq, binV_seql, binV_sneq, binV_slss, binV_beql, binV_bneq, binV_peql, binV_pneq, add_add, add_none, Go.Al.add_zero, Nat.zero_add, Nat.add_zero, IfB_t, IfB_f, Gd_t, Gd_f, Ld_ptr, LdN_ptr, Option.isNone_some, Option.isNone_none, Option.isSome_some, Option.isSome_none, Bool.not_true, Bool.not_false, drew_cell, drew_heap, cvI_int, q2]
  refine (rbig_spec w1 q1 4).mono ?_
  rintro _ w2 ⟨rfl, hf2⟩
  have g8 : bigB (crc (d.drop 4) : Nat) 4 = beN 4 (crc (d.drop 4)) := bigB_of (n := crc (d.drop 4)) (w := 4) (by omega) (by omega)
  rw [g8, sadd (by rw [beN_len, List.length_drop]; omega)]
  try simp only [Pu_some, extV_0, extV_1, extV_2, extV_3, nilV_ptr, nilV_fn, faV_ptr, lenV_sl, lenS_s, capV_sl, pickV_t, pickV_f, unV_not, unV_neg, isB_t, isB_f, isB_u, binV_add, binV_sub, binV_mul, binV_eql, binV_neq, binV_lss, binV_leq, binV_gtr, binV_geq, binV_seql, binV_sneq, binV_slss, binV_beql, binV_bneq, binV_peql, binV_pneq, add_add, add_none, Go.Al.add_zero, Nat.zero_add, Nat.add_zero, IfB_t, IfB_f, Gd_t, Gd_f, Ld_ptr, LdN_ptr, Option.isNone_some, Option.isNone_none, Option.isSome_some, Option.isSome_none, Bool.not_true, Bool.not_false, drew_cell, drew_heap]
  exact ⟨(by trivial), Fmf hf1 hf2⟩
theorem pDec_bad {d : Bs} (h : (pDec d).2 ≠ 0) : (pDec d).1 = pg0 := by
  by_cases h1 : d.length = 512
  · by_cases h2 : beN 4 (crc (d.drop 4)) = d.take 4
    · cases h3 : pItems (dMany d) (dRest d) with
      | none => rw [pDec_none h1 h2 h3]
      | some q =>
        obtain ⟨l, t⟩ := q
        have h4 := pDec_some h1 h2 h3
        cases hb : badD d t with
        | true => rw [hb, cond_true] at h4; rw [h4]
        | false => rw [hb, cond_false] at h4; rw [h4] at h; exact absurd rfl h
    · rw [pDec_sum h1 h2]
  · rw [pDec_len h1]

set_option maxHeartbeats 8000000 in
theorem back_law {w : World} {cs : Array Value} {p : Pg} (h : PgAs w cs p) (d : Bs) (hd : d.length ≤ 140737488355328) : Cl Tryd.prog 7 [.agg cs, stv d] w fun r w' => r = .bool true ∧ Fm (fun _ => False) w w' := by
  obtain ⟨v, hcs, hone, hc⟩ := h.ex
  refine c7 ?_; unfold T7
  refine New_any ?_
  intro x2 w2 hx2 hs2 hw2 hf2
  rw [hcs] at hw2
  replace hw2 : PB w2 x2 p v := hw2
  have pa : ∀ {w' : World}, Fm (fun _ => False) w w' → PgAs w' (pcs p v) p := fun hf => hcs ▸ h.keep hf
  simp only [Pu_some, extV_0, extV_1, extV_2, extV_3, nilV_ptr, nilV_fn, faV_ptr, lenV_sl, lenS_s, capV_sl, pickV_t, pickV_f, unV_not, unV_neg, isB_t, isB_f, isB_u, binV_add, binV_sub, binV_mul, binV_eql, binV_neq, binV_lss, binV_leq, binV_gtr, binV_geq, binV_seql, binV_sneq, binV_slss, binV_beql, binV_bneq, binV_peql, binV_pneq, add_add, add_none, Go.Al.add_zero, Nat.zero_add, Nat.add_zero, IfB_t, IfB_f, Gd_t, Gd_f, Ld_ptr, LdN_ptr, Option.isNone_some, Option.isNone_none, Option.isSome_some, Option.isSome_none, Bool.not_true, Bool.not_false, drew_cell, drew_heap, hw2.all]
  refine (encode_spec (pa hf2)).mono ?_
  rintro _ w3 ⟨rfl, hf3⟩
  have hP3 := hw2.keep hf3 (fun e => e)
  have hF3 := Fmf hf2 hf3
  have he : encR p = .tuple #[stv (pEnc p).1, iv (pErr p)] := by unfold encR; rw [pEnc_err]
  rw [he]
  simp only [Pu_some, extV_0, extV_1, extV_2, extV_3, nilV_ptr, nilV_fn, faV_ptr, lenV_sl, lenS_s, capV_sl, pickV_t, pickV_f, unV_not, unV_neg, isB_t, isB_f, isB_u, binV_add, binV_sub, binV_mul, binV_eql, binV_neq, binV_lss, binV_leq, binV_gtr, binV_geq, binV_seql, binV_sneq, binV_slss, binV_beql, binV_bneq, binV_peql, binV_pneq, add_add, add_none, Go.Al.add_zero, Nat.zero_add, Nat.add_zero, IfB_t, IfB_f, Gd_t, Gd_f, Ld_ptr, LdN_ptr, Option.isNone_some, Option.isNone_none, Option.isSome_some, Option.isSome_none, Bool.not_true, Bool.not_false, drew_cell, drew_heap]
  refine Jn_at (fun vs w4 => vs = [] ∧ Fm (fun _ => False) w w4) ?_ ?_
  · rintro _ w4 ⟨rfl, hF4⟩ _
    refine ⟨(by trivial), ?_⟩
    refine (fixed_spec w4 d true hd).mono ?_
    rintro _ w5 ⟨rfl, hf5⟩
    have hfl := fixedB_len true hd
    generalize fixedB d true = s at hfl
    refine (decode_spec w5 s (by omega)).mono ?_
    rintro _ w6 ⟨cs6, rfl, hO6, hf6⟩
    have hA6 := hO6.as
    simp only [Pu_some, extV_0, extV_1, extV_2, extV_3, nilV_ptr, nilV_fn, faV_ptr, lenV_sl, lenS_s, capV_sl, pickV_t, pickV_f, unV_not, unV_neg, isB_t, isB_f, isB_u, binV_add, binV_sub, binV_mul, binV_eql, binV_neq, binV_lss, binV_leq, binV_gtr, binV_geq, binV_seql, binV_sneq, binV_slss, binV_beql, binV_bneq, binV_peql, binV_pneq, add_add, add_none, Go.Al.add_zero, Nat.zero_add, Nat.add_zero, IfB_t, IfB_f, Gd_t, Gd_f, Ld_ptr, LdN_ptr, Option.isNone_some, Option.isNone_none, Option.isSome_some, Option.isSome_none, Bool.not_true, Bool.not_false, drew_cell, drew_heap]
    refine New_any ?_
    intro x10 w7 hx10 hs7 hw7 hf7
    refine St_all hw7 rfl hA6.size hA6.one ?_
    intro w8 hw8 hs8 hf8
    have hf68 : Fm (fun _ => False) w6 w8 := Fm.own hf7 hf8 (by rintro y rfl; omega)
    have hA8 := hA6.keep hf68
    have hq8 : cellsV w8 ⟨x10, 0, none⟩ 6 = some (.agg cs6) := cellsV_blk hw8 hA6.size
    have hF8 := Fmf (Fmf hF4 hf5) (Fmf hf6 hf68)
    simp only [Pu_some, extV_0, extV_1, extV_2, extV_3, nilV_ptr, nilV_fn, faV_ptr, lenV_sl, lenS_s, capV_sl, pickV_t, pickV_f, unV_not, unV_neg, isB_t, isB_f, isB_u, binV_add, binV_sub, binV_mul, binV_eql, binV_neq, binV_lss, binV_leq, binV_gtr, binV_geq, binV_seql, binV_sneq, binV_slss, binV_beql, binV_bneq, binV_peql, binV_pneq, add_add, add_none, Go.Al.add_zero, Nat.zero_add, Nat.add_zero, IfB_t, IfB_f, Gd_t, Gd_f, Ld_ptr, LdN_ptr, Option.isNone_some, Option.isNone_none, Option.isSome_some, Option.isSome_none, Bool.not_true, Bool.not_false, drew_cell, drew_heap, bne_dec]
    cases hz : decide ((pDec s).2 = 0) with
    | false =>
      have hne : (pDec s).2 ≠ 0 := by simpa using hz
      simp only [Pu_some, extV_0, extV_1, extV_2, extV_3, nilV_ptr, nilV_fn, faV_ptr, lenV_sl, lenS_s, capV_sl, pickV_t, pickV_f, unV_not, unV_neg, isB_t, isB_f, isB_u, binV_add, binV_sub, binV_mul, binV_eql, binV_neq, binV_lss, binV_leq, binV_gtr, binV_geq, binV_seql, binV_sneq, binV_slss, binV_beql, binV_bneq, binV_peql, binV_pneq, add_add, add_none, Go.Al.add_zero, Nat.zero_add, Nat.add_zero, IfB_t, IfB_f, Gd_t, Gd_f, Ld_ptr, LdN_ptr, Option.isNone_some, Option.isNone_none, Option.isSome_some, Option.isSome_none, Bool.not_true, Bool.not_false, drew_cell, drew_heap]
      refine (awake_spec w8).mono ?_
      rintro _ w9 ⟨rfl, hf9⟩
      have hq9 := cellsV_keep hq8 hf9 (fun e => e)
      simp only [Pu_some, extV_0, extV_1, extV_2, extV_3, nilV_ptr, nilV_fn, faV_ptr, lenV_sl, lenS_s, capV_sl, pickV_t, pickV_f, unV_not, unV_neg, isB_t, isB_f, isB_u, binV_add, binV_sub, binV_mul, binV_eql, binV_neq, binV_lss, binV_leq, binV_gtr, binV_geq, binV_seql, binV_sneq, binV_slss, binV_beql, binV_bneq, binV_peql, binV_pneq, add_add, add_none, Go.Al.add_zero, Nat.zero_add, Nat.add_zero, IfB_t, IfB_f, Gd_t, Gd_f, Ld_ptr, LdN_ptr, Option.isNone_some, Option.isNone_none, Option.isSome_some, Option.isSome_none, Bool.not_true, Bool.not_false, drew_cell, drew_heap, hq9]
      refine RunS_ok (bld24z _) ?_
      have hA9 := hA8.keep hf9
      rw [pDec_bad hne] at hA9
      try simp only [Pu_some, extV_0, extV_1, extV_2, extV_3, nilV_ptr, nilV_fn, faV_ptr, lenV_sl, lenS_s, capV_sl, pickV_t, pickV_f, unV_not, unV_neg, isB_t, isB_f, isB_u, binV_add, binV_sub, binV_mul, binV_eql, binV_neq, binV_lss, binV_leq, binV_gtr, binV_geq, binV_seql, binV_sneq, binV_slss, binV_beql, binV_bneq, binV_peql, binV_pneq, add_add, add_none, Go.Al.add_zero, Nat.zero_add, Nat.add_zero, IfB_t, IfB_f, Gd_t, Gd_f, Ld_ptr, LdN_ptr, Option.isNone_some, Option.isNone_none, Option.isSome_some, Option.isSome_none, Bool.not_true, Bool.not_false, drew_cell, drew_heap]
      refine (same_spec hA9 (pgAs0 w9)).mono ?_
      rintro _ w10 ⟨rfl, hf10⟩
      simp only [Pu_some, extV_0, extV_1, extV_2, extV_3, nilV_ptr, nilV_fn, faV_ptr, lenV_sl, lenS_s, capV_sl, pickV_t, pickV_f, unV_not, unV_neg, isB_t, isB_f, isB_u, binV_add, binV_sub, binV_mul, binV_eql, binV_neq, binV_lss, binV_leq, binV_gtr, binV_geq, binV_seql, binV_sneq, binV_slss, binV_beql, binV_bneq, binV_peql, binV_pneq, add_add, add_none, Go.Al.add_zero, Nat.zero_add, Nat.add_zero, IfB_t, IfB_f, Gd_t, Gd_f, Ld_ptr, LdN_ptr, Option.isNone_some, Option.isNone_none, Option.isSome_some, Option.isSome_none, Bool.not_true, Bool.not_false, drew_cell, drew_heap, decide_true]
      exact ⟨(by trivial), Fmf hF8 (Fmf hf9 hf10)⟩
    | true =>
      have h0 : (pDec s).2 = 0 := by simpa using hz
      obtain ⟨e1, e2, e3⟩ := enc_dec h0
      simp only [Pu_some, extV_0, extV_1, extV_2, extV_3, nilV_ptr, nilV_fn, faV_ptr, lenV_sl, lenS_s, capV_sl, pickV_t, pickV_f, unV_not, unV_neg, isB_t, isB_f, isB_u, binV_add, binV_sub, binV_mul, binV_eql, binV_neq, binV_lss, binV_leq, binV_gtr, binV_geq, binV_seql, binV_sneq, binV_slss, binV_beql, binV_bneq, binV_peql, binV_pneq, add_add, add_none, Go.Al.add_zero, Nat.zero_add, Nat.add_zero, IfB_t, IfB_f, Gd_t, Gd_f, Ld_ptr, LdN_ptr, Option.isNone_some, Option.isNone_none, Option.isSome_some, Option.isSome_none, Bool.not_true, Bool.not_false, drew_cell, drew_heap, hq8]
      refine (encode_spec hA8).mono ?_
      rintro _ w9 ⟨rfl, hf9⟩
      have he2 : encR (pDec s).1 = .tuple #[stv s, iv 0] := by unfold encR; rw [pEnc_err, e1, e2]
      rw [he2]
      simp only [Pu_some, extV_0, extV_1, extV_2, extV_3, nilV_ptr, nilV_fn, faV_ptr, lenV_sl, lenS_s, capV_sl, pickV_t, pickV_f, unV_not, unV_neg, isB_t, isB_f, isB_u, binV_add, binV_sub, binV_mul, binV_eql, binV_neq, binV_lss, binV_leq, binV_gtr, binV_geq, binV_seql, binV_sneq, binV_slss, binV_beql, binV_bneq, binV_peql, binV_pneq, add_add, add_none, Go.Al.add_zero, Nat.zero_add, Nat.add_zero, IfB_t, IfB_f, Gd_t, Gd_f, Ld_ptr, LdN_ptr, Option.isNone_some, Option.isNone_none, Option.isSome_some, Option.isSome_none, Bool.not_true, Bool.not_false, drew_cell, drew_heap]
      refine (awake_spec w9).mono ?_
      rintro _ w10 ⟨rfl, hf10⟩
      simp only [Pu_some, extV_0, extV_1, extV_2, extV_3, nilV_ptr, nilV_fn, faV_ptr, lenV_sl, lenS_s, capV_sl, pickV_t, pickV_f, unV_not, unV_neg, isB_t, isB_f, isB_u, binV_add, binV_sub, binV_mul, binV_eql, binV_neq, binV_lss, binV_leq, binV_gtr, binV_geq, binV_seql, binV_sneq, binV_slss, binV_beql, binV_bneq, binV_peql, binV_pneq, add_add, add_none, Go.Al.add_zero, Nat.zero_add, Nat.add_zero, IfB_t, IfB_f, Gd_t, Gd_f, Ld_ptr, LdN_ptr, Option.isNone_some, Option.isNone_none, Option.isSome_some, Option.isSome_none, Bool.not_true, Bool.not_false, drew_cell, drew_heap, beq_self_eq_true, decide_true]
      exact ⟨(by trivial), Fmf hF8 (Fmf hf9 hf10)⟩
  · intro jj hjj
    simp only [Pu_some, extV_0, extV_1, extV_2, extV_3, nilV_ptr, nilV_fn, faV_ptr, lenV_sl, lenS_s, capV_sl, pickV_t, pickV_f, unV_not, unV_neg, isB_t, isB_f, isB_u, binV_add, binV_sub, binV_mul, binV_eql, binV_neq, binV_lss, binV_leq, binV_gtr, binV_geq, binV_seql, binV_sneq, binV_slss, binV_beql, binV_bneq, binV_peql, binV_pneq, add_add, add_none, Go.Al.add_zero, Nat.zero_add, Nat.add_zero, IfB_t, IfB_f, Gd_t, Gd_f, Ld_ptr, LdN_ptr, Option.isNone_some, Option.isNone_none, Option.isSome_some, Option.isSome_none, Bool.not_true, Bool.not_false, drew_cell, drew_heap, beq_dec]
    cases hz : decide (pErr p = 0) with
    | false =>
      simp only [Pu_some, extV_0, extV_1, extV_2, extV_3, nilV_ptr, nilV_fn, faV_ptr, lenV_sl, lenS_s, capV_sl, pickV_t, pickV_f, unV_not, unV_neg, isB_t, isB_f, isB_u, binV_add, binV_sub, binV_mul, binV_eql, binV_neq, binV_lss, binV_leq, binV_gtr, binV_geq, binV_seql, binV_sneq, binV_slss, binV_beql, binV_bneq, binV_peql, binV_pneq, add_add, add_none, Go.Al.add_zero, Nat.zero_add, Nat.add_zero, IfB_t, IfB_f, Gd_t, Gd_f, Ld_ptr, LdN_ptr, Option.isNone_some, Option.isNone_none, Option.isSome_some, Option.isSome_none, Bool.not_true, Bool.not_false, drew_cell, drew_heap]
      exact hjj _ _ ⟨rfl, hF3⟩
    | true =>
      have h0 : pErr p = 0 := by simpa using hz
      have hlen := pEnc_len h0
      have hde := dec_enc h0 h.ins.1.2
      generalize (pEnc p).1 = s at hlen hde
      simp only [Pu_some, extV_0, extV_1, extV_2, extV_3, nilV_ptr, nilV_fn, faV_ptr, lenV_sl, lenS_s, capV_sl, pickV_t, pickV_f, unV_not, unV_neg, isB_t, isB_f, isB_u, binV_add, binV_sub, binV_mul, binV_eql, binV_neq, binV_lss, binV_leq, binV_gtr, binV_geq, binV_seql, binV_sneq, binV_slss, binV_beql, binV_bneq, binV_peql, binV_pneq, add_add, add_none, Go.Al.add_zero, Nat.zero_add, Nat.add_zero, IfB_t, IfB_f, Gd_t, Gd_f, Ld_ptr, LdN_ptr, Option.isNone_some, Option.isNone_none, Option.isSome_some, Option.isSome_none, Bool.not_true, Bool.not_false, drew_cell, drew_heap]
      refine (decode_spec w3 s (by omega)).mono ?_
      rintro _ w6 ⟨cs6, rfl, hO6, hf6⟩
      have hA6 := hO6.as
      rw [hde] at hA6 ⊢
      simp only [Pu_some, extV_0, extV_1, extV_2, extV_3, nilV_ptr, nilV_fn, faV_ptr, lenV_sl, lenS_s, capV_sl, pickV_t, pickV_f, unV_not, unV_neg, isB_t, isB_f, isB_u, binV_add, binV_sub, binV_mul, binV_eql, binV_neq, binV_lss, binV_leq, binV_gtr, binV_geq, binV_seql, binV_sneq, binV_slss, binV_beql, binV_bneq, binV_peql, binV_pneq, add_add, add_none, Go.Al.add_zero, Nat.zero_add, Nat.add_zero, IfB_t, IfB_f, Gd_t, Gd_f, Ld_ptr, LdN_ptr, Option.isNone_some, Option.isNone_none, Option.isSome_some, Option.isSome_none, Bool.not_true, Bool.not_false, drew_cell, drew_heap]
      refine New_any ?_
      intro x10 w7 hx10 hs7 hw7 hf7
      refine St_all hw7 rfl hA6.size hA6.one ?_
      intro w8 hw8 hs8 hf8
      have hf68 : Fm (fun _ => False) w6 w8 := Fm.own hf7 hf8 (by rintro y rfl; omega)
      have hA8 := hA6.keep hf68
      have hq8 : cellsV w8 ⟨x10, 0, none⟩ 6 = some (.agg cs6) := cellsV_blk hw8 hA6.size
      have hP8 := hP3.keep (Fmf hf6 hf68) (fun e => e)
      have hF8 := Fmf hF3 (Fmf hf6 hf68)
      simp only [Pu_some, extV_0, extV_1, extV_2, extV_3, nilV_ptr, nilV_fn, faV_ptr, lenV_sl, lenS_s, capV_sl, pickV_t, pickV_f, unV_not, unV_neg, isB_t, isB_f, isB_u, binV_add, binV_sub, binV_mul, binV_eql, binV_neq, binV_lss, binV_leq, binV_gtr, binV_geq, binV_seql, binV_sneq, binV_slss, binV_beql, binV_bneq, binV_peql, binV_pneq, add_add, add_none, Go.Al.add_zero, Nat.zero_add, Nat.add_zero, IfB_t, IfB_f, Gd_t, Gd_f, Ld_ptr, LdN_ptr, Option.isNone_some, Option.isNone_none, Option.isSome_some, Option.isSome_none, Bool.not_true, Bool.not_false, drew_cell, drew_heap, bne_self_eq_false, hP8.all, hq8]
      refine (same_spec (pa hF8) hA8).mono ?_
      rintro _ w9 ⟨rfl, hf9⟩
      have e512 : ((s.length : Int) != 512) = false := by rw [hlen]; rfl
      simp only [Pu_some, extV_0, extV_1, extV_2, extV_3, nilV_ptr, nilV_fn, faV_ptr, lenV_sl, lenS_s, capV_sl, pickV_t, pickV_f, unV_not, unV_neg, isB_t, isB_f, isB_u, binV_add, binV_sub, binV_mul, binV_eql, binV_neq, binV_lss, binV_leq, binV_gtr, binV_geq, binV_seql, binV_sneq, binV_slss, binV_beql, binV_bneq, binV_peql, binV_pneq, add_add, add_none, Go.Al.add_zero, Nat.zero_add, Nat.add_zero, IfB_t, IfB_f, Gd_t, Gd_f, Ld_ptr, LdN_ptr, Option.isNone_some, Option.isNone_none, Option.isSome_some, Option.isSome_none, Bool.not_true, Bool.not_false, drew_cell, drew_heap, decide_true, str_size, e512]
      exact hjj _ _ ⟨rfl, Fmf hF8 hf9⟩

/-! ### Torn -/
theorem beN_lt_inj {a b : Nat} (ha : a < 2 ^ 32) (hb : b < 2 ^ 32) (h : beN 4 a = beN 4 b) : a = b := by
  have := beN_inj h
  rw [Nat.mod_eq_of_lt (by omega), Nat.mod_eq_of_lt (by omega)] at this; exact this
theorem set_split {s : Bs} {j : Nat} {b : UInt8} (h : s[j]? = some b) (c : UInt8) : ∃ l t, s = l ++ b :: t ∧ s.set j c = l ++ c :: t ∧ l.length = j := by
  have hj := (List.getElem?_eq_some_iff.1 h).1
  have hb := (List.getElem?_eq_some_iff.1 h).2
  refine ⟨s.take j, s.drop (j + 1), ?_, ?_, by rw [List.length_take]; omega⟩
  · rw [← hb, ← List.drop_eq_getElem_cons hj, List.take_append_drop]
  · rw [List.set_eq_take_append_cons_drop, if_pos hj]
theorem torn_pure {p : Pg} (h : pErr p = 0) {j : Nat} {b c : UInt8} (hj : (pEnc p).1[j]? = some b) (hne : c ≠ b) : pDec ((pEnc p).1.set j c) = (pg0, 30) := by
  have hlen := pEnc_len h
  rw [pEnc_ok h] at hlen hj ⊢
  simp only at hlen hj ⊢
  have hd4 : (beN 4 (crc (pText p)) ++ pText p).drop 4 = pText p := drop_beN _ _ _
  have ht4 : (beN 4 (crc (pText p)) ++ pText p).take 4 = beN 4 (crc (pText p)) := take_beN _ _ _
  generalize beN 4 (crc (pText p)) ++ pText p = s at hlen hj hd4 ht4
  refine pDec_sum (by rw [List.length_set]; exact hlen) ?_
  obtain ⟨l, t, e1, e2, e3⟩ := set_split hj c
  by_cases h4 : j < 4
  · rw [List.drop_set_of_lt h4, hd4, ← ht4]
    intro e
    have := congrArg (fun q : Bs => q[j]?) e
    simp only [List.getElem?_take, if_pos h4] at this
    rw [hj, List.getElem?_set_self (by have := (List.getElem?_eq_some_iff.1 hj).1; exact this)] at this
    exact hne (Option.some.inj this).symm
  · have ht : (s.set j c).take 4 = s.take 4 := by
      rw [List.take_set]
      exact List.set_eq_of_length_le (by rw [List.length_take]; omega)
    rw [ht, ht4]
    intro e
    have hcrc := beN_lt_inj (crc_lt _) (crc_lt _) e
    rw [← hd4, e2] at hcrc
    rw [e1] at hcrc
    rw [List.drop_append_of_le_length (by omega), List.drop_append_of_le_length (by omega)] at hcrc
    exact hne (crc_torn _ _ hcrc)

end Go.Proofs.YtodnakepbdhfkaaDoor
