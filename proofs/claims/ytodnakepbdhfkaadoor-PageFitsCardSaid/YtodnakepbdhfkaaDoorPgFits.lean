/- An item of as many bytes as there is room for fits, one of a byte more does not. -/
import Derived.Test.YtodnakepbdhfkaaDoorPgLaws5
import Derived.Test.YtodnakepbdhfkaaDoorCpsF
namespace Go.Proofs.YtodnakepbdhfkaaDoor
open Go.Al Go.Proofs
set_option linter.unusedVariables false
set_option linter.unusedSimpArgs false
set_option linter.unusedSectionVars false
set_option maxRecDepth 100000

theorem itF_shift (l : List Bs) (n : Nat) : l.foldl (fun n it => n + (2 + it.length)) n = n + l.foldl (fun n it => n + (2 + it.length)) 0 := by
  rw [foldl_len, foldl_len l 0]; omega
theorem pSize_ins (p : Pg) (j : Nat) (x : Bs) : pSize (withL p (insAt p.items j x)) = pSize p + 2 + x.length := by
  have h0 : p.items.flatMap itB = (p.items.take j).flatMap itB ++ (p.items.drop j).flatMap itB := by rw [← List.flatMap_append, List.take_append_drop]
  have h1 : (withL p (insAt p.items j x)).items = p.items.take j ++ [x] ++ p.items.drop j := rfl
  have h2 : (withL p (insAt p.items j x)).high = p.high := rfl
  unfold pSize
  rw [foldl_len, foldl_len, h0, h1, h2]
  simp only [List.flatMap_append, List.length_append, List.flatMap_cons, List.flatMap_nil, List.length_nil, itB_len]
  omega
theorem room_of {p : Pg} (h : pErr p = 0) : (roomN p = -1 ∧ (510 < pSize p ∨ p.items.length = 255)) ∨ (∃ n : Nat, roomN p = n ∧ pSize p + n = 510 ∧ p.items.length < 255) := by
  obtain ⟨_, _, h3, h4⟩ := pErr_ok h
  have hw : IntKind.i64.wrap (510 - (pSize p : Int)) = 510 - (pSize p : Int) := by rw [wrap_id]; omega
  unfold roomN
  rw [hw]
  by_cases h5 : 510 < pSize p
  · rw [decide_eq_true (by omega)]
    exact .inl ⟨rfl, .inl h5⟩
  · rw [decide_eq_false (by omega), Bool.false_or]
    by_cases h6 : 255 ≤ p.items.length
    · rw [decide_eq_true h6]
      exact .inl ⟨rfl, .inr (by omega)⟩
    · rw [decide_eq_false h6]
      exact .inr ⟨510 - pSize p, by simp only [cond_false]; omega, by omega, by omega⟩
theorem put_at {p : Pg} {j : Nat} (hj : j ≤ p.items.length) (x : Bs) : putP p (j : Int) x = turnedP p (insAt p.items j x) := by
  unfold putP
  rw [decide_eq_false (by omega), decide_eq_false (by omega)]; rfl
theorem put_long {p : Pg} {j : Nat} (hj : j ≤ p.items.length) {x : Bs} (h : 510 < pSize p + x.length ∨ 255 ≤ p.items.length) : putP p (j : Int) x = (pg0, 3) := by
  rw [put_at hj]
  have hs := pSize_ins p j x
  have hi := insAt_len x hj
  have e0 : (withL p (insAt p.items j x)).items = insAt p.items j x := rfl
  have : fitsB (withL p (insAt p.items j x)) = false := by
    unfold fitsB
    rw [hs, e0, hi]
    rcases h with h | h
    · rw [show decide (pSize p + 2 + x.length ≤ 512) = false from decide_eq_false (by omega), Bool.and_false]
    · rw [show decide (p.items.length + 1 ≤ 255) = false from decide_eq_false (by omega), Bool.false_and]
  unfold turnedP
  rw [this]; rfl
theorem put_fits {p : Pg} {j : Nat} (hj : j ≤ p.items.length) {x : Bs} (h : pSize p + x.length = 510) (h2 : p.items.length < 255) : putP p (j : Int) x = (withL p (insAt p.items j x), 0) := by
  rw [put_at hj]
  have hs := pSize_ins p j x
  have hi := insAt_len x hj
  have e0 : (withL p (insAt p.items j x)).items = insAt p.items j x := rfl
  have : fitsB (withL p (insAt p.items j x)) = true := by
    unfold fitsB
    rw [hs, e0, hi, decide_eq_true (by omega), decide_eq_true (by omega)]; rfl
  unfold turnedP
  rw [this]; rfl
theorem ins_erase {l : List Bs} {j : Nat} (hj : j ≤ l.length) (x : Bs) : (insAt l j x).eraseIdx j = l := by
  have ht : (l.take j).length = j := by rw [List.length_take]; omega
  unfold insAt
  rw [List.eraseIdx_eq_take_drop_succ, List.append_assoc, List.take_left' ht, List.drop_append, ht, List.drop_eq_nil_of_le (by omega), List.nil_append, show j + 1 - j = 1 by omega]
  simp
theorem out_ins {p : Pg} {j : Nat} (hj : j ≤ p.items.length) (x : Bs) : outP (withL p (insAt p.items j x)) (j : Int) = (p, 0) := by
  have hi := insAt_len x hj
  have e0 : (withL p (insAt p.items j x)).items = insAt p.items j x := rfl
  unfold outP
  rw [e0, hi, decide_eq_false (by omega), decide_eq_false (by omega), Int.toNat_natCast, ins_erase hj]
  rfl
theorem err_ins {p : Pg} (h : pErr p = 0) {j : Nat} (hj : j ≤ p.items.length) {x : Bs} (h1 : pSize p + x.length = 510) (h2 : p.items.length < 255) : pErr (withL p (insAt p.items j x)) = 0 := by
  obtain ⟨q1, q2, q3, q4⟩ := pErr_ok h
  have hs := pSize_ins p j x
  have hi := insAt_len x hj
  refine pErr_of ⟨q1, q2, ?_, by omega⟩
  show (insAt p.items j x).length ≤ 255
  omega

/-- An item of zeros is put. -/
theorem putz {w : World} {p : Pg} {v : Value} {x2 : Nat} (hp : PB w x2 p v) (h : PgAs w (pcs p v) p) (hl : p.items.length * 16 ≤ 140737488351232) (j : Int) (n : Nat) (hn : n ≤ 1000) {w0 : World} (hF : Fm (fun _ => False) w0 w) {k : KV}
    (hk : ∀ cs w', PgFr w' w.heap.size cs (putP p j (zeros n)).1 → Fm (fun _ => False) w w' → k (.tuple #[.agg cs, iv (putP p j (zeros n)).2]) w') : Cl Tryd.prog 31 [.agg (pcs p v), iv j, stv (zeros n)] w k := by
  refine (put_spec h hl (i := j) (x := zeros n) (by rw [zeros_len]; omega)).mono ?_
  rintro _ w' ⟨cs, rfl, h1, h2⟩
  exact hk cs w' h1 h2

set_option maxHeartbeats 16000000 in
theorem fits_law {w : World} {cs : Array Value} {p : Pg} (h : PgAs w cs p) (hl : p.items.length * 16 ≤ 140737488351232) {a : Int} (ha : In a) : Cl Tryd.prog 9 [.agg cs, iv a] w fun r w' => r = .bool true ∧ Fm (fun _ => False) w w' := by
  obtain ⟨v, hcs, hone, hc⟩ := h.ex
  refine c9f ?_; unfold T9f
  refine New_any ?_
  intro x2 w2 hx2 hs2 hw2 hf2
  rw [hcs] at hw2
  replace hw2 : PB w2 x2 p v := hw2
  have pa : ∀ {w' : World}, Fm (fun _ => False) w w' → PgAs w' (pcs p v) p := fun hf => hcs ▸ h.keep hf
  simp only [Pu_some, extV_0, extV_1, extV_2, extV_3, nilV_ptr, nilV_fn, faV_ptr, lenV_sl, lenS_s, capV_sl, pickV_t, pickV_f, unV_not, unV_neg, isB_t, isB_f, isB_u, binV_add, binV_sub, binV_mul, binV_eql, binV_neq, binV_lss, binV_leq, binV_gtr, binV_geq, binV_seql, binV_sneq, binV_slss, binV_beql, binV_bneq, binV_peql, binV_pneq, add_add, add_none, Go.Al.add_zero, Nat.zero_add, Nat.add_zero, IfB_t, IfB_f, Gd_t, Gd_f, Ld_ptr, LdN_ptr, Option.isNone_some, Option.isNone_none, Option.isSome_some, Option.isSome_none, Bool.not_true, Bool.not_false, drew_cell, drew_heap, hw2.all]
  refine (encode_spec (pa hf2)).mono ?_
  rintro _ w3 ⟨rfl, hf3⟩
  have hF3 := Fmf hf2 hf3
  have hP3 := hw2.keep hf3 (fun e => e)
  have he : encR p = .tuple #[stv (pEnc p).1, iv (pErr p)] := by unfold encR; rw [pEnc_err]
  rw [he]
  have hmk : ByteArray.mk #[] = str [] := rfl
  simp only [Pu_some, extV_0, extV_1, extV_2, extV_3, nilV_ptr, nilV_fn, faV_ptr, lenV_sl, lenS_s, capV_sl, pickV_t, pickV_f, unV_not, unV_neg, isB_t, isB_f, isB_u, binV_add, binV_sub, binV_mul, binV_eql, binV_neq, binV_lss, binV_leq, binV_gtr, binV_geq, binV_seql, binV_sneq, binV_slss, binV_beql, binV_bneq, binV_peql, binV_pneq, add_add, add_none, Go.Al.add_zero, Nat.zero_add, Nat.add_zero, IfB_t, IfB_f, Gd_t, Gd_f, Ld_ptr, LdN_ptr, Option.isNone_some, Option.isNone_none, Option.isSome_some, Option.isSome_none, Bool.not_true, Bool.not_false, drew_cell, drew_heap, bne_dec, hmk]
  cases hz : decide (pErr p = 0) with
  | false =>
    have hne : pErr p ≠ 0 := by simpa using hz
    rw [pEnc_bad hne]
    simp only [Pu_some, extV_0, extV_1, extV_2, extV_3, nilV_ptr, nilV_fn, faV_ptr, lenV_sl, lenS_s, capV_sl, pickV_t, pickV_f, unV_not, unV_neg, isB_t, isB_f, isB_u, binV_add, binV_sub, binV_mul, binV_eql, binV_neq, binV_lss, binV_leq, binV_gtr, binV_geq, binV_seql, binV_sneq, binV_slss, binV_beql, binV_bneq, binV_peql, binV_pneq, add_add, add_none, Go.Al.add_zero, Nat.zero_add, Nat.add_zero, IfB_t, IfB_f, Gd_t, Gd_f, Ld_ptr, LdN_ptr, Option.isNone_some, Option.isNone_none, Option.isSome_some, Option.isSome_none, Bool.not_true, Bool.not_false, drew_cell, drew_heap]
    refine (awake_spec w3).mono ?_
    rintro _ w4 ⟨rfl, hf4⟩
    simp only [Pu_some, extV_0, extV_1, extV_2, extV_3, nilV_ptr, nilV_fn, faV_ptr, lenV_sl, lenS_s, capV_sl, pickV_t, pickV_f, unV_not, unV_neg, isB_t, isB_f, isB_u, binV_add, binV_sub, binV_mul, binV_eql, binV_neq, binV_lss, binV_leq, binV_gtr, binV_geq, binV_seql, binV_sneq, binV_slss, binV_beql, binV_bneq, binV_peql, binV_pneq, add_add, add_none, Go.Al.add_zero, Nat.zero_add, Nat.add_zero, IfB_t, IfB_f, Gd_t, Gd_f, Ld_ptr, LdN_ptr, Option.isNone_some, Option.isNone_none, Option.isSome_some, Option.isSome_none, Bool.not_true, Bool.not_false, drew_cell, drew_heap, beq_self_eq_true, str_nil, str_inj, decide_true]
    exact ⟨(by trivial), Fmf hF3 hf4⟩
  | true =>
  have h0 : pErr p = 0 := by simpa using hz
  have hlen := pEnc_len h0
  have hne : decide ((pEnc p).1 = []) = false := by
    rw [decide_eq_false_iff_not]
    intro e; rw [e] at hlen; simp at hlen
  simp only [Pu_some, extV_0, extV_1, extV_2, extV_3, nilV_ptr, nilV_fn, faV_ptr, lenV_sl, lenS_s, capV_sl, pickV_t, pickV_f, unV_not, unV_neg, isB_t, isB_f, isB_u, binV_add, binV_sub, binV_mul, binV_eql, binV_neq, binV_lss, binV_leq, binV_gtr, binV_geq, binV_seql, binV_sneq, binV_slss, binV_beql, binV_bneq, binV_peql, binV_pneq, add_add, add_none, Go.Al.add_zero, Nat.zero_add, Nat.add_zero, IfB_t, IfB_f, Gd_t, Gd_f, Ld_ptr, LdN_ptr, Option.isNone_some, Option.isNone_none, Option.isSome_some, Option.isSome_none, Bool.not_true, Bool.not_false, drew_cell, drew_heap, str_nil, str_inj, hne, hP3.all]
  refine (room_spec (pa hF3)).mono ?_
  rintro _ w4 ⟨rfl, hf4⟩
  have hF4 := Fmf hF3 hf4
  have hP4 := hP3.keep hf4 (fun e => e)
  have hlt4 := hP4.lt
  obtain ⟨q1, q2, q3, q4⟩ := pErr_ok h0
  have hroom := room_of h0
  refine Jn_at (fun vs w5 => ∃ n : Nat, vs = [iv n] ∧ n ≤ 9223372036854775807 ∧ w5 = w4) ?_ ?_
  · rintro _ w5 ⟨n, rfl, hn, rfl⟩ _
    refine ⟨_, rfl, ?_⟩
    have e1 : IntKind.i64.wrap ((p.items.length : Int) + 1) = ((p.items.length + 1 : Nat) : Int) := by rw [wrap_id] <;> omega
    have hrem := rem_nat (TypeDesc.int IntKind.i64) (n := n) (m := p.items.length + 1) (by omega) (by omega) (b := ((p.items.length + 1 : Nat) : Int)) rfl
    have hj : n % (p.items.length + 1) ≤ p.items.length := by have := Nat.mod_lt n (show 0 < p.items.length + 1 by omega); omega
    simp only [Pu_some, extV_0, extV_1, extV_2, extV_3, nilV_ptr, nilV_fn, faV_ptr, lenV_sl, lenS_s, capV_sl, pickV_t, pickV_f, unV_not, unV_neg, isB_t, isB_f, isB_u, binV_add, binV_sub, binV_mul, binV_eql, binV_neq, binV_lss, binV_leq, binV_gtr, binV_geq, binV_seql, binV_sneq, binV_slss, binV_beql, binV_bneq, binV_peql, binV_pneq, add_add, add_none, Go.Al.add_zero, Nat.zero_add, Nat.add_zero, IfB_t, IfB_f, Gd_t, Gd_f, Ld_ptr, LdN_ptr, Option.isNone_some, Option.isNone_none, Option.isSome_some, Option.isSome_none, Bool.not_true, Bool.not_false, drew_cell, drew_heap, hP4.c5, (hc.keep hF4 (fun _ _ e => e)).lenV, e1, hrem]
    generalize n % (p.items.length + 1) = j at hj
    -- one byte more
    obtain ⟨m, hm, hmr, hlong⟩ : ∃ m : Nat, m ≤ 600 ∧ IntKind.i64.wrap (roomN p + 1) = m ∧ putP p (j : Int) (zeros m) = (pg0, 3) := by
      rcases hroom with ⟨e, hh⟩ | ⟨n', e, hh, hh2⟩
      · refine ⟨0, by omega, by rw [e]; rfl, put_long hj ?_⟩
        rw [zeros_len]; omega
      · refine ⟨n' + 1, by omega, by rw [e, wrap_id] <;> omega, put_long hj ?_⟩
        rw [zeros_len]; omega
    refine Jn_at (fun vs w6 => vs = [iv 3] ∧ Fm (fun _ => False) w w6 ∧ PB w6 x2 p v) ?_ ?_
    · rintro _ w6 ⟨rfl, hF6, hP6⟩ _
      refine ⟨_, rfl, ?_⟩
      rcases hroom with ⟨e, hh⟩ | ⟨n', e, hh, hh2⟩
      · rw [e]
        have d1 : decide ((-1 : Int) < 0) = true := by decide
        simp only [Pu_some, extV_0, extV_1, extV_2, extV_3, nilV_ptr, nilV_fn, faV_ptr, lenV_sl, lenS_s, capV_sl, pickV_t, pickV_f, unV_not, unV_neg, isB_t, isB_f, isB_u, binV_add, binV_sub, binV_mul, binV_eql, binV_neq, binV_lss, binV_leq, binV_gtr, binV_geq, binV_seql, binV_sneq, binV_slss, binV_beql, binV_bneq, binV_peql, binV_pneq, add_add, add_none, Go.Al.add_zero, Nat.zero_add, Nat.add_zero, IfB_t, IfB_f, Gd_t, Gd_f, Ld_ptr, LdN_ptr, Option.isNone_some, Option.isNone_none, Option.isSome_some, Option.isSome_none, Bool.not_true, Bool.not_false, drew_cell, drew_heap, d1]
        refine (awake_spec w6).mono ?_
        rintro _ w7 ⟨rfl, hf7⟩
        simp only [Pu_some, extV_0, extV_1, extV_2, extV_3, nilV_ptr, nilV_fn, faV_ptr, lenV_sl, lenS_s, capV_sl, pickV_t, pickV_f, unV_not, unV_neg, isB_t, isB_f, isB_u, binV_add, binV_sub, binV_mul, binV_eql, binV_neq, binV_lss, binV_leq, binV_gtr, binV_geq, binV_seql, binV_sneq, binV_slss, binV_beql, binV_bneq, binV_peql, binV_pneq, add_add, add_none, Go.Al.add_zero, Nat.zero_add, Nat.add_zero, IfB_t, IfB_f, Gd_t, Gd_f, Ld_ptr, LdN_ptr, Option.isNone_some, Option.isNone_none, Option.isSome_some, Option.isSome_none, Bool.not_true, Bool.not_false, drew_cell, drew_heap, beq_self_eq_true]
        exact ⟨(by trivial), Fmf hF6 hf7⟩
      · rw [e]
        have d1 : decide ((n' : Int) < 0) = false := by rw [decide_eq_false_iff_not]; omega
        have hput := put_fits hj (x := zeros n') (by rw [zeros_len]; exact hh) hh2
        have hout := out_ins hj (zeros n')
        have herr := err_ins h0 hj (x := zeros n') (by rw [zeros_len]; exact hh) hh2
        have hsz : pSize (withL p (insAt p.items j (zeros n'))) = 512 := by rw [pSize_ins, zeros_len]; omega
        have hokq : PgOk (withL p (insAt p.items j (zeros n'))) := by
          have := okPut ⟨h.small, h.ins⟩ hl (j : Int) (x := zeros n') (by rw [zeros_len]; omega)
          rw [hput] at this; exact this
        simp only [Pu_some, extV_0, extV_1, extV_2, extV_3, nilV_ptr, nilV_fn, faV_ptr, lenV_sl, lenS_s, capV_sl, pickV_t, pickV_f, unV_not, unV_neg, isB_t, isB_f, isB_u, binV_add, binV_sub, binV_mul, binV_eql, binV_neq, binV_lss, binV_leq, binV_gtr, binV_geq, binV_seql, binV_sneq, binV_slss, binV_beql, binV_bneq, binV_peql, binV_pneq, add_add, add_none, Go.Al.add_zero, Nat.zero_add, Nat.add_zero, IfB_t, IfB_f, Gd_t, Gd_f, Ld_ptr, LdN_ptr, Option.isNone_some, Option.isNone_none, Option.isSome_some, Option.isSome_none, Bool.not_true, Bool.not_false, drew_cell, drew_heap, d1]
        refine Jn_at (fun vs w9 => ∃ (xq : Nat) (cq : Array Value) (b : Nat), vs = [pv xq, iv 0] ∧ w9.heap[xq]? = some (.cells cq 24) ∧ PgFr w9 b cq (withL p (insAt p.items j (zeros n'))) ∧ Fm (fun _ => False) w w9 ∧ PB w9 x2 p v) ?_ ?_
        · rintro _ w9 ⟨xq, cq, b, rfl, hw9, hq9, hF9, hP9⟩ _
          refine ⟨_, _, rfl, ?_⟩
          have hA9 := hq9.asOk hokq
          simp only [Pu_some, extV_0, extV_1, extV_2, extV_3, nilV_ptr, nilV_fn, faV_ptr, lenV_sl, lenS_s, capV_sl, pickV_t, pickV_f, unV_not, unV_neg, isB_t, isB_f, isB_u, binV_add, binV_sub, binV_mul, binV_eql, binV_neq, binV_lss, binV_leq, binV_gtr, binV_geq, binV_seql, binV_sneq, binV_slss, binV_beql, binV_bneq, binV_peql, binV_pneq, add_add, add_none, Go.Al.add_zero, Nat.zero_add, Nat.add_zero, IfB_t, IfB_f, Gd_t, Gd_f, Ld_ptr, LdN_ptr, Option.isNone_some, Option.isNone_none, Option.isSome_some, Option.isSome_none, Bool.not_true, Bool.not_false, drew_cell, drew_heap, cellsV_blk hw9 hq9.size]
          refine (out_spec hA9).mono ?_
          rintro _ w10 ⟨cr, rfl, hr10, hf10⟩
          rw [hout] at hr10 ⊢
          have hq10 := hf10.heap hw9 (fun e => e)
          simp only [Pu_some, extV_0, extV_1, extV_2, extV_3, nilV_ptr, nilV_fn, faV_ptr, lenV_sl, lenS_s, capV_sl, pickV_t, pickV_f, unV_not, unV_neg, isB_t, isB_f, isB_u, binV_add, binV_sub, binV_mul, binV_eql, binV_neq, binV_lss, binV_leq, binV_gtr, binV_geq, binV_seql, binV_sneq, binV_slss, binV_beql, binV_bneq, binV_peql, binV_pneq, add_add, add_none, Go.Al.add_zero, Nat.zero_add, Nat.add_zero, IfB_t, IfB_f, Gd_t, Gd_f, Ld_ptr, LdN_ptr, Option.isNone_some, Option.isNone_none, Option.isSome_some, Option.isSome_none, Bool.not_true, Bool.not_false, drew_cell, drew_heap]
          refine New_any ?_
          intro xr w11 hxr hs11 hw11 hf11
          refine St_all hw11 rfl hr10.size hr10.one ?_
          intro w12 hw12 hs12 hf12
          have hf1012 : Fm (fun _ => False) w10 w12 := Fm.own hf11 hf12 (by rintro y rfl; omega)
          have hf912 := Fmf hf10 hf1012
          have hq12 := hf912.heap hw9 (fun e => e)
          have hA12 := hA9.keep hf912
          simp only [Pu_some, extV_0, extV_1, extV_2, extV_3, nilV_ptr, nilV_fn, faV_ptr, lenV_sl, lenS_s, capV_sl, pickV_t, pickV_f, unV_not, unV_neg, isB_t, isB_f, isB_u, binV_add, binV_sub, binV_mul, binV_eql, binV_neq, binV_lss, binV_leq, binV_gtr, binV_geq, binV_seql, binV_sneq, binV_slss, binV_beql, binV_bneq, binV_peql, binV_pneq, add_add, add_none, Go.Al.add_zero, Nat.zero_add, Nat.add_zero, IfB_t, IfB_f, Gd_t, Gd_f, Ld_ptr, LdN_ptr, Option.isNone_some, Option.isNone_none, Option.isSome_some, Option.isSome_none, Bool.not_true, Bool.not_false, drew_cell, drew_heap, cellsV_blk hq12 hq9.size]
          refine (encode_spec hA12).mono ?_
          rintro _ w13 ⟨rfl, hf13⟩
          have he2 : encR (withL p (insAt p.items j (zeros n'))) = .tuple #[stv (pEnc (withL p (insAt p.items j (zeros n')))).1, iv 0] := by unfold encR; rw [pEnc_err, herr]
          rw [he2]
          simp only [Pu_some, extV_0, extV_1, extV_2, extV_3, nilV_ptr, nilV_fn, faV_ptr, lenV_sl, lenS_s, capV_sl, pickV_t, pickV_f, unV_not, unV_neg, isB_t, isB_f, isB_u, binV_add, binV_sub, binV_mul, binV_eql, binV_neq, binV_lss, binV_leq, binV_gtr, binV_geq, binV_seql, binV_sneq, binV_slss, binV_beql, binV_bneq, binV_peql, binV_pneq, add_add, add_none, Go.Al.add_zero, Nat.zero_add, Nat.add_zero, IfB_t, IfB_f, Gd_t, Gd_f, Ld_ptr, LdN_ptr, Option.isNone_some, Option.isNone_none, Option.isSome_some, Option.isSome_none, Bool.not_true, Bool.not_false, drew_cell, drew_heap]
          refine (awake_spec w13).mono ?_
          rintro _ w14 ⟨rfl, hf14⟩
          have hf1214 := Fmf hf13 hf14
          have hF14 := Fmf hF9 (Fmf hf912 hf1214)
          have hq14 := hf1214.heap hq12 (fun e => e)
          have hr14 := hf1214.heap hw12 (fun e => e)
          have hP14 := hP9.keep (Fmf hf912 hf1214) (fun e => e)
          have hR14 := (hr10.keep (Fmf hf1012 hf1214)).asOk ⟨h.small, h.ins⟩
          simp only [Pu_some, extV_0, extV_1, extV_2, extV_3, nilV_ptr, nilV_fn, faV_ptr, lenV_sl, lenS_s, capV_sl, pickV_t, pickV_f, unV_not, unV_neg, isB_t, isB_f, isB_u, binV_add, binV_sub, binV_mul, binV_eql, binV_neq, binV_lss, binV_leq, binV_gtr, binV_geq, binV_seql, binV_sneq, binV_slss, binV_beql, binV_bneq, binV_peql, binV_pneq, add_add, add_none, Go.Al.add_zero, Nat.zero_add, Nat.add_zero, IfB_t, IfB_f, Gd_t, Gd_f, Ld_ptr, LdN_ptr, Option.isNone_some, Option.isNone_none, Option.isSome_some, Option.isSome_none, Bool.not_true, Bool.not_false, drew_cell, drew_heap, beq_self_eq_true, cellsV_blk hr14 hr10.size, hP14.all]
          refine (same_spec hR14 (pa hF14)).mono ?_
          rintro _ w15 ⟨rfl, hf15⟩
          simp only [Pu_some, extV_0, extV_1, extV_2, extV_3, nilV_ptr, nilV_fn, faV_ptr, lenV_sl, lenS_s, capV_sl, pickV_t, pickV_f, unV_not, unV_neg, isB_t, isB_f, isB_u, binV_add, binV_sub, binV_mul, binV_eql, binV_neq, binV_lss, binV_leq, binV_gtr, binV_geq, binV_seql, binV_sneq, binV_slss, binV_beql, binV_bneq, binV_peql, binV_pneq, add_add, add_none, Go.Al.add_zero, Nat.zero_add, Nat.add_zero, IfB_t, IfB_f, Gd_t, Gd_f, Ld_ptr, LdN_ptr, Option.isNone_some, Option.isNone_none, Option.isSome_some, Option.isSome_none, Bool.not_true, Bool.not_false, drew_cell, drew_heap, decide_true, cellsV_blk (hf15.heap hq14 (fun e => e)) hq9.size]
          refine (size_spec ((hA12.keep hf1214).keep hf15)).mono ?_
          rintro _ w16 ⟨rfl, hf16⟩
          have d2 : decide (IntKind.i64.wrap (pSize (withL p (insAt p.items j (zeros n')))) ≤ 512) = true := by rw [hsz]; decide
          simp only [Pu_some, extV_0, extV_1, extV_2, extV_3, nilV_ptr, nilV_fn, faV_ptr, lenV_sl, lenS_s, capV_sl, pickV_t, pickV_f, unV_not, unV_neg, isB_t, isB_f, isB_u, binV_add, binV_sub, binV_mul, binV_eql, binV_neq, binV_lss, binV_leq, binV_gtr, binV_geq, binV_seql, binV_sneq, binV_slss, binV_beql, binV_bneq, binV_peql, binV_pneq, add_add, add_none, Go.Al.add_zero, Nat.zero_add, Nat.add_zero, IfB_t, IfB_f, Gd_t, Gd_f, Ld_ptr, LdN_ptr, Option.isNone_some, Option.isNone_none, Option.isSome_some, Option.isSome_none, Bool.not_true, Bool.not_false, drew_cell, drew_heap, d2]
          exact ⟨(by trivial), Fmf hF14 (Fmf hf15 hf16)⟩
        · intro jj hjj
          have hf7 := Fm.drew (fun _ => False) w6
          have hP7 : PB w6.drew x2 p v := hP6.keep hf7 (fun e => e)
          have hF7 := Fmf hF6 hf7
          refine ⟨fun w => PB w x2 p v, hP7, .agg (pcs p v), fun w8 h8 => ?_, ?_, ?_, trivial⟩
          · simp only [Pu_some, extV_0, extV_1, extV_2, extV_3, nilV_ptr, nilV_fn, faV_ptr, lenV_sl, lenS_s, capV_sl, pickV_t, pickV_f, unV_not, unV_neg, isB_t, isB_f, isB_u, binV_add, binV_sub, binV_mul, binV_eql, binV_neq, binV_lss, binV_leq, binV_gtr, binV_geq, binV_seql, binV_sneq, binV_slss, binV_beql, binV_bneq, binV_peql, binV_pneq, add_add, add_none, Go.Al.add_zero, Nat.zero_add, Nat.add_zero, IfB_t, IfB_f, Gd_t, Gd_f, Ld_ptr, LdN_ptr, Option.isNone_some, Option.isNone_none, Option.isSome_some, Option.isSome_none, Bool.not_true, Bool.not_false, drew_cell, drew_heap, h8.all]; trivial
          · generalize w6.drew = w7 at hf7 hP7 hF7
            obtain ⟨w8, hr8, hb8, hf8⟩ := make_zeros w7 n' (by omega)
            have hP8 := hP7.keep hf8 (fun e => e)
            have hF8 := Fmf hF7 hf8
            refine RunS_ok hr8 ⟨fun w => PB w x2 p v ∧ BRow w w7.heap.size 5 (zeros n'), fun _ h => h.1, ⟨hP8, hb8⟩, stv (zeros n'), fun w9 h9 => RunS_ok (conv_zeros h9.2) ⟨rfl, rfl⟩, ?_, ?_, trivial⟩
            · refine putz hP8 (pa hF8) hl j n' (by omega) hF8 ?_
              intro cq w9 hq9 hf9
              rw [hput] at hq9 ⊢
              have hP9 := hP8.keep hf9 (fun e => e)
              have hF9 := Fmf hF8 hf9
              simp only [Pu_some, extV_0, extV_1, extV_2, extV_3, nilV_ptr, nilV_fn, faV_ptr, lenV_sl, lenS_s, capV_sl, pickV_t, pickV_f, unV_not, unV_neg, isB_t, isB_f, isB_u, binV_add, binV_sub, binV_mul, binV_eql, binV_neq, binV_lss, binV_leq, binV_gtr, binV_geq, binV_seql, binV_sneq, binV_slss, binV_beql, binV_bneq, binV_peql, binV_pneq, add_add, add_none, Go.Al.add_zero, Nat.zero_add, Nat.add_zero, IfB_t, IfB_f, Gd_t, Gd_f, Ld_ptr, LdN_ptr, Option.isNone_some, Option.isNone_none, Option.isSome_some, Option.isSome_none, Bool.not_true, Bool.not_false, drew_cell, drew_heap]
              refine New_any ?_
              intro xq w10 hxq hs10 hw10 hf10
              refine St_all hw10 rfl hq9.size hq9.one ?_
              intro w11 hw11 hs11 hf11
              have hf911 : Fm (fun _ => False) w9 w11 := Fm.own hf10 hf11 (by rintro y rfl; omega)
              exact hjj _ _ ⟨xq, cq, _, rfl, hw11, hq9.keep hf911, Fmf hF9 hf911, hP9.keep hf911 (fun e => e)⟩
            · refine New_any ?_
              intro xq w9 hxq hs9 hw9 hf9
              have hP9 := hP8.keep hf9 (fun e => e)
              have hF9 := Fmf hF8 hf9
              refine ⟨fun w => PB w x2 p v ∧ BRow w w7.heap.size 5 (zeros n'), fun _ h => h, ⟨hP9, hf9.heap hb8 (fun e => e)⟩, ?_⟩
              refine putz hP9 (pa hF9) hl j n' (by omega) hF9 ?_
              intro cq w10 hq10 hf10
              rw [hput] at hq10 ⊢
              have hP10 := hP9.keep hf10 (fun e => e)
              have hF10 := Fmf hF9 hf10
              have hw10 := hf10.heap hw9 (fun e => e)
              have hz8 := hF8.size
              simp only [Pu_some, extV_0, extV_1, extV_2, extV_3, nilV_ptr, nilV_fn, faV_ptr, lenV_sl, lenS_s, capV_sl, pickV_t, pickV_f, unV_not, unV_neg, isB_t, isB_f, isB_u, binV_add, binV_sub, binV_mul, binV_eql, binV_neq, binV_lss, binV_leq, binV_gtr, binV_geq, binV_seql, binV_sneq, binV_slss, binV_beql, binV_bneq, binV_peql, binV_pneq, add_add, add_none, Go.Al.add_zero, Nat.zero_add, Nat.add_zero, IfB_t, IfB_f, Gd_t, Gd_f, Ld_ptr, LdN_ptr, Option.isNone_some, Option.isNone_none, Option.isSome_some, Option.isSome_none, Bool.not_true, Bool.not_false, drew_cell, drew_heap]
              refine St_all hw10 rfl hq10.size hq10.one ?_
              intro w11 hw11 hs11 hf11
              have hP11 := hP10.keep hf11 (fun e => by have := hP8.lt; omega)
              exact hjj _ _ ⟨xq, cq, _, rfl, hw11, hq10.keepS hf11 (fun y h1 h2 e => by have := lt_of_heap hw9; omega), Fm.own hF10 hf11 (by rintro y rfl; omega), hP11⟩
          · generalize w6.drew = w7 at hf7 hP7 hF7
            refine New_any ?_
            intro xq w8 hxq hs8 hw8 hf8
            have hP8 := hP7.keep hf8 (fun e => e)
            have hF8 := Fmf hF7 hf8
            refine ⟨fun w => PB w x2 p v, fun _ h => h, hP8, ?_⟩
            obtain ⟨w9, hr9, hb9, hf9⟩ := make_zeros w8 n' (by omega)
            have hP9 := hP8.keep hf9 (fun e => e)
            have hF9 := Fmf hF8 hf9
            have hw9 := hf9.heap hw8 (fun e => e)
            refine RunS_ok hr9 ⟨fun w => PB w x2 p v, fun _ h => h, hP9, ?_⟩
            refine RunS_ok (conv_zeros hb9) ⟨rfl, ?_⟩
            refine putz hP9 (pa hF9) hl j n' (by omega) hF9 ?_
            intro cq w10 hq10 hf10
            rw [hput] at hq10 ⊢
            have hP10 := hP9.keep hf10 (fun e => e)
            have hF10 := Fmf hF9 hf10
            have hw10 := hf10.heap hw9 (fun e => e)
            have hz7 := hF7.size
            simp only [Pu_some, extV_0, extV_1, extV_2, extV_3, nilV_ptr, nilV_fn, faV_ptr, lenV_sl, lenS_s, capV_sl, pickV_t, pickV_f, unV_not, unV_neg, isB_t, isB_f, isB_u, binV_add, binV_sub, binV_mul, binV_eql, binV_neq, binV_lss, binV_leq, binV_gtr, binV_geq, binV_seql, binV_sneq, binV_slss, binV_beql, binV_bneq, binV_peql, binV_pneq, add_add, add_none, Go.Al.add_zero, Nat.zero_add, Nat.add_zero, IfB_t, IfB_f, Gd_t, Gd_f, Ld_ptr, LdN_ptr, Option.isNone_some, Option.isNone_none, Option.isSome_some, Option.isSome_none, Bool.not_true, Bool.not_false, drew_cell, drew_heap]
            refine St_all hw10 rfl hq10.size hq10.one ?_
            intro w11 hw11 hs11 hf11
            have hP11 := hP10.keep hf11 (fun e => by have := hP7.lt; omega)
            exact hjj _ _ ⟨xq, cq, _, rfl, hw11, hq10.keepS hf11 (fun y h1 h2 e => by have := lt_of_heap hw9; omega), Fm.own hF10 hf11 (by rintro y rfl; omega), hP11⟩
    · intro jj hjj
      have hf5 := Fm.drew (fun _ => False) w5
      have hP5 : PB w5.drew x2 p v := hP4.keep hf5 (fun e => e)
      have hF5 := Fmf hF4 hf5
      refine ⟨fun w => PB w x2 p v, hP5, .agg (pcs p v), fun w8 h8 => ?_, ?_⟩
      · simp only [Pu_some, extV_0, extV_1, extV_2, extV_3, nilV_ptr, nilV_fn, faV_ptr, lenV_sl, lenS_s, capV_sl, pickV_t, pickV_f, unV_not, unV_neg, isB_t, isB_f, isB_u, binV_add, binV_sub, binV_mul, binV_eql, binV_neq, binV_lss, binV_leq, binV_gtr, binV_geq, binV_seql, binV_sneq, binV_slss, binV_beql, binV_bneq, binV_peql, binV_pneq, add_add, add_none, Go.Al.add_zero, Nat.zero_add, Nat.add_zero, IfB_t, IfB_f, Gd_t, Gd_f, Ld_ptr, LdN_ptr, Option.isNone_some, Option.isNone_none, Option.isSome_some, Option.isSome_none, Bool.not_true, Bool.not_false, drew_cell, drew_heap, h8.all]; trivial
      simp only [Pu_some, extV_0, extV_1, extV_2, extV_3, nilV_ptr, nilV_fn, faV_ptr, lenV_sl, lenS_s, capV_sl, pickV_t, pickV_f, unV_not, unV_neg, isB_t, isB_f, isB_u, binV_add, binV_sub, binV_mul, binV_eql, binV_neq, binV_lss, binV_leq, binV_gtr, binV_geq, binV_seql, binV_sneq, binV_slss, binV_beql, binV_bneq, binV_peql, binV_pneq, add_add, add_none, Go.Al.add_zero, Nat.zero_add, Nat.add_zero, IfB_t, IfB_f, Gd_t, Gd_f, Ld_ptr, LdN_ptr, Option.isNone_some, Option.isNone_none, Option.isSome_some, Option.isSome_none, Bool.not_true, Bool.not_false, drew_cell, drew_heap, hmr]
      refine ⟨?_, ?_, trivial⟩
      · generalize w5.drew = w7 at hf5 hP5 hF5
        obtain ⟨w8, hr8, hb8, hf8⟩ := make_zeros w7 m (by omega)
        have hP8 := hP5.keep hf8 (fun e => e)
        have hF8 := Fmf hF5 hf8
        refine RunS_ok hr8 ⟨fun w => PB w x2 p v ∧ BRow w w7.heap.size 5 (zeros m), fun _ h => h.1, ⟨hP8, hb8⟩, stv (zeros m), fun w9 h9 => RunS_ok (conv_zeros h9.2) ⟨rfl, rfl⟩, ?_, ?_, trivial⟩
        · refine putz hP8 (pa hF8) hl j m (by omega) hF8 ?_
          intro cq w9 hq9 hf9
          rw [hlong] at hq9 ⊢
          have hP9 := hP8.keep hf9 (fun e => e)
          have hF9 := Fmf hF8 hf9
          simp only [Pu_some, extV_0, extV_1, extV_2, extV_3, nilV_ptr, nilV_fn, faV_ptr, lenV_sl, lenS_s, capV_sl, pickV_t, pickV_f, unV_not, unV_neg, isB_t, isB_f, isB_u, binV_add, binV_sub, binV_mul, binV_eql, binV_neq, binV_lss, binV_leq, binV_gtr, binV_geq, binV_seql, binV_sneq, binV_slss, binV_beql, binV_bneq, binV_peql, binV_pneq, add_add, add_none, Go.Al.add_zero, Nat.zero_add, Nat.add_zero, IfB_t, IfB_f, Gd_t, Gd_f, Ld_ptr, LdN_ptr, Option.isNone_some, Option.isNone_none, Option.isSome_some, Option.isSome_none, Bool.not_true, Bool.not_false, drew_cell, drew_heap]
          refine New_any ?_
          intro xq w10 hxq hs10 hw10 hf10
          refine St_all hw10 rfl hq9.size hq9.one ?_
          intro w11 hw11 hs11 hf11
          have hf911 : Fm (fun _ => False) w9 w11 := Fm.own hf10 hf11 (by rintro y rfl; omega)
          exact hjj _ _ ⟨rfl, Fmf hF9 hf911, hP9.keep hf911 (fun e => e)⟩
        · refine New_any ?_
          intro xq w9 hxq hs9 hw9 hf9
          have hP9 := hP8.keep hf9 (fun e => e)
          have hF9 := Fmf hF8 hf9
          refine ⟨fun w => PB w x2 p v ∧ BRow w w7.heap.size 5 (zeros m), fun _ h => h, ⟨hP9, hf9.heap hb8 (fun e => e)⟩, ?_⟩
          refine putz hP9 (pa hF9) hl j m (by omega) hF9 ?_
          intro cq w10 hq10 hf10
          rw [hlong] at hq10 ⊢
          have hP10 := hP9.keep hf10 (fun e => e)
          have hF10 := Fmf hF9 hf10
          have hw10 := hf10.heap hw9 (fun e => e)
          have hz8 := hF8.size
          simp only [Pu_some, extV_0, extV_1, extV_2, extV_3, nilV_ptr, nilV_fn, faV_ptr, lenV_sl, lenS_s, capV_sl, pickV_t, pickV_f, unV_not, unV_neg, isB_t, isB_f, isB_u, binV_add, binV_sub, binV_mul, binV_eql, binV_neq, binV_lss, binV_leq, binV_gtr, binV_geq, binV_seql, binV_sneq, binV_slss, binV_beql, binV_bneq, binV_peql, binV_pneq, add_add, add_none, Go.Al.add_zero, Nat.zero_add, Nat.add_zero, IfB_t, IfB_f, Gd_t, Gd_f, Ld_ptr, LdN_ptr, Option.isNone_some, Option.isNone_none, Option.isSome_some, Option.isSome_none, Bool.not_true, Bool.not_false, drew_cell, drew_heap]
          refine St_all hw10 rfl hq10.size hq10.one ?_
          intro w11 hw11 hs11 hf11
          have hP11 := hP10.keep hf11 (fun e => by have := hP8.lt; omega)
          exact hjj _ _ ⟨rfl, Fm.own hF10 hf11 (by rintro y rfl; omega), hP11⟩
      · generalize w5.drew = w7 at hf5 hP5 hF5
        refine New_any ?_
        intro xq w8 hxq hs8 hw8 hf8
        have hP8 := hP5.keep hf8 (fun e => e)
        have hF8 := Fmf hF5 hf8
        refine ⟨fun w => PB w x2 p v, fun _ h => h, hP8, ?_⟩
        obtain ⟨w9, hr9, hb9, hf9⟩ := make_zeros w8 m (by omega)
        have hP9 := hP8.keep hf9 (fun e => e)
        have hF9 := Fmf hF8 hf9
        have hw9 := hf9.heap hw8 (fun e => e)
        refine RunS_ok hr9 ⟨fun w => PB w x2 p v, fun _ h => h, hP9, ?_⟩
        refine RunS_ok (conv_zeros hb9) ⟨rfl, ?_⟩
        refine putz hP9 (pa hF9) hl j m (by omega) hF9 ?_
        intro cq w10 hq10 hf10
        rw [hlong] at hq10 ⊢
        have hP10 := hP9.keep hf10 (fun e => e)
        have hF10 := Fmf hF9 hf10
        have hw10 := hf10.heap hw9 (fun e => e)
        have hz7 := hF5.size
        simp only [Pu_some, extV_0, extV_1, extV_2, extV_3, nilV_ptr, nilV_fn, faV_ptr, lenV_sl, lenS_s, capV_sl, pickV_t, pickV_f, unV_not, unV_neg, isB_t, isB_f, isB_u, binV_add, binV_sub, binV_mul, binV_eql, binV_neq, binV_lss, binV_leq, binV_gtr, binV_geq, binV_seql, binV_sneq, binV_slss, binV_beql, binV_bneq, binV_peql, binV_pneq, add_add, add_none, Go.Al.add_zero, Nat.zero_add, Nat.add_zero, IfB_t, IfB_f, Gd_t, Gd_f, Ld_ptr, LdN_ptr, Option.isNone_some, Option.isNone_none, Option.isSome_some, Option.isSome_none, Bool.not_true, Bool.not_false, drew_cell, drew_heap]
        refine St_all hw10 rfl hq10.size hq10.one ?_
        intro w11 hw11 hs11 hf11
        have hP11 := hP10.keep hf11 (fun e => by have := hP5.lt; omega)
        exact hjj _ _ ⟨rfl, Fm.own hF10 hf11 (by rintro y rfl; omega), hP11⟩
  · intro jj hjj
    unfold In at ha
    cases hneg : decide (a < 0) with
    | true =>
      rw [decide_eq_true_eq] at hneg
      have e1 : IntKind.i64.wrap (a + 1) = a + 1 := by rw [wrap_id]; omega
      have e2 : IntKind.i64.wrap (0 - (a + 1)) = (((0 - (a + 1)).toNat : Nat) : Int) := by rw [wrap_id] <;> omega
      simp only [Pu_some, extV_0, extV_1, extV_2, extV_3, nilV_ptr, nilV_fn, faV_ptr, lenV_sl, lenS_s, capV_sl, pickV_t, pickV_f, unV_not, unV_neg, isB_t, isB_f, isB_u, binV_add, binV_sub, binV_mul, binV_eql, binV_neq, binV_lss, binV_leq, binV_gtr, binV_geq, binV_seql, binV_sneq, binV_slss, binV_beql, binV_bneq, binV_peql, binV_pneq, add_add, add_none, Go.Al.add_zero, Nat.zero_add, Nat.add_zero, IfB_t, IfB_f, Gd_t, Gd_f, Ld_ptr, LdN_ptr, Option.isNone_some, Option.isNone_none, Option.isSome_some, Option.isSome_none, Bool.not_true, Bool.not_false, drew_cell, drew_heap, e1, e2]
      exact hjj _ _ ⟨_, rfl, by omega, rfl⟩
    | false =>
      rw [decide_eq_false_iff_not] at hneg
      obtain ⟨n, rfl⟩ := Int.eq_ofNat_of_zero_le (show 0 ≤ a by omega)
      simp only [Pu_some, extV_0, extV_1, extV_2, extV_3, nilV_ptr, nilV_fn, faV_ptr, lenV_sl, lenS_s, capV_sl, pickV_t, pickV_f, unV_not, unV_neg, isB_t, isB_f, isB_u, binV_add, binV_sub, binV_mul, binV_eql, binV_neq, binV_lss, binV_leq, binV_gtr, binV_geq, binV_seql, binV_sneq, binV_slss, binV_beql, binV_bneq, binV_peql, binV_pneq, add_add, add_none, Go.Al.add_zero, Nat.zero_add, Nat.add_zero, IfB_t, IfB_f, Gd_t, Gd_f, Ld_ptr, LdN_ptr, Option.isNone_some, Option.isNone_none, Option.isSome_some, Option.isSome_none, Bool.not_true, Bool.not_false, drew_cell, drew_heap]
      exact hjj _ _ ⟨n, rfl, by omega, rfl⟩
theorem fits_in {w : World} {ca : Array Value} {x : PgT} (hx : vPage.rel w ca.toList x) {a : Int} (ha : (Lit.int .i64 a).wf = true) : Cl Tryd.prog 9 [.agg ca, iv a] w fun r w' => r = .bool true ∧ Fm (fun _ => False) w w' :=
  fits_law (page_of hx).isA (page_of hx).many (i64_of_wf ha)

end Go.Proofs.YtodnakepbdhfkaaDoor
