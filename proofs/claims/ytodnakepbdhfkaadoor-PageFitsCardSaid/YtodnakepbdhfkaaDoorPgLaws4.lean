/- Laws of pages: which page bytes are; a page with another item, one less. -/
import Derived.Test.YtodnakepbdhfkaaDoorPgLaws3
namespace Go.Proofs.YtodnakepbdhfkaaDoor
open Go.Al Go.Proofs
set_option linter.unusedVariables false
set_option linter.unusedSimpArgs false
set_option linter.unusedSectionVars false
set_option maxRecDepth 100000

theorem pDec_items (d : Bs) : (pDec d).1.items.length ≤ 255 := by
  by_cases h1 : d.length = 512
  · by_cases h2 : beN 4 (crc (d.drop 4)) = d.take 4
    · cases h3 : pItems (dMany d) (dRest d) with
      | none => rw [pDec_none h1 h2 h3]; simp [pg0]
      | some q =>
        obtain ⟨l, t⟩ := q
        have h4 := pDec_some h1 h2 h3
        have h5 := (pItems_is _ _ _ _ h3).1
        have hmy : dMany d < 256 := UInt8.toNat_lt _
        rw [h4]
        cases badD d t with
        | true => simp [pg0]
        | false => show l.length ≤ 255; omega
    · rw [pDec_sum h1 h2]; simp [pg0]
  · rw [pDec_len h1]; simp [pg0]
def moreB : Bs := [109, 111, 114, 101]

set_option maxHeartbeats 8000000 in
theorem decodes_law {w : World} (d : Bs) (r : Bool) (hd : d.length ≤ 140737488355328) : Cl Tryd.prog 5 [stv d, .bool r] w fun r w' => r = .bool true ∧ Fm (fun _ => False) w w' := by
  refine c5 ?_; unfold T5
  refine (fixed_spec w d r hd).mono ?_
  rintro _ w1 ⟨rfl, hf1⟩
  have hfl := fixedB_len r hd
  generalize fixedB d r = s at hfl
  have hni := pDec_items s
  refine (decode_spec w1 s (by omega)).mono ?_
  rintro _ w2 ⟨cs2, rfl, hO2, hf2⟩
  obtain ⟨v, rfl, hov⟩ := hO2.ex
  have hA2 := hO2.as
  simp only [Pu_some, extV_0, extV_1, extV_2, extV_3, nilV_ptr, nilV_fn, faV_ptr, lenV_sl, lenS_s, capV_sl, pickV_t, pickV_f, unV_not, unV_neg, isB_t, isB_f, isB_u, binV_add, binV_sub, binV_mul, binV_eql, binV_neq, binV_lss, binV_leq, binV_gtr, binV_geq, binV_seql, binV_sneq, binV_slss, binV_beql, binV_bneq, binV_peql, binV_pneq, add_add, add_none, Go.Al.add_zero, Nat.zero_add, Nat.add_zero, IfB_t, IfB_f, Gd_t, Gd_f, Ld_ptr, LdN_ptr, Option.isNone_some, Option.isNone_none, Option.isSome_some, Option.isSome_none, Bool.not_true, Bool.not_false, drew_cell, drew_heap]
  refine New_any ?_
  intro x6 w3 hx6 hs3 hw3 hf3
  refine St_all hw3 rfl rfl hA2.one ?_
  intro w4 hw4 hs4 hf4
  have hP4 : PB w4 x6 (pDec s).1 v := hw4
  have hf24 : Fm (fun _ => False) w2 w4 := Fm.own hf3 hf4 (by rintro y rfl; omega)
  have hov4 := own_keep hov hf24 (fun _ _ _ _ e => e)
  have hF4 := Fmf (Fmf hf1 hf2) hf24
  have hvlt := own_lt hov
  refine (decode_spec w4 s (by omega)).mono ?_
  rintro _ w5 ⟨cs5, rfl, hO5, hf5⟩
  have hA5 := hO5.as
  simp only [Pu_some, extV_0, extV_1, extV_2, extV_3, nilV_ptr, nilV_fn, faV_ptr, lenV_sl, lenS_s, capV_sl, pickV_t, pickV_f, unV_not, unV_neg, isB_t, isB_f, isB_u, binV_add, binV_sub, binV_mul, binV_eql, binV_neq, binV_lss, binV_leq, binV_gtr, binV_geq, binV_seql, binV_sneq, binV_slss, binV_beql, binV_bneq, binV_peql, binV_pneq, add_add, add_none, Go.Al.add_zero, Nat.zero_add, Nat.add_zero, IfB_t, IfB_f, Gd_t, Gd_f, Ld_ptr, LdN_ptr, Option.isNone_some, Option.isNone_none, Option.isSome_some, Option.isSome_none, Bool.not_true, Bool.not_false, drew_cell, drew_heap]
  refine New_any ?_
  intro x8 w6 hx8 hs6 hw6 hf6
  refine St_all hw6 rfl hA5.size hA5.one ?_
  intro w7 hw7 hs7 hf7
  have hf57 : Fm (fun _ => False) w5 w7 := Fm.own hf6 hf7 (by rintro y rfl; omega)
  have hO7 := hO5.keep hf57
  have hF7 := Fmf hF4 (Fmf hf5 hf57)
  have hP7 := hP4.keep (Fmf hf5 hf57) (fun e => e)
  have hov7 := own_keep hov4 (Fmf hf5 hf57) (fun _ _ _ _ e => e)
  refine (rdecode_spec w7 s (by omega)).mono ?_
  rintro _ w8 ⟨cs8, rfl, hO8, hf8⟩
  have hA8 := hO8.as
  simp only [Pu_some, extV_0, extV_1, extV_2, extV_3, nilV_ptr, nilV_fn, faV_ptr, lenV_sl, lenS_s, capV_sl, pickV_t, pickV_f, unV_not, unV_neg, isB_t, isB_f, isB_u, binV_add, binV_sub, binV_mul, binV_eql, binV_neq, binV_lss, binV_leq, binV_gtr, binV_geq, binV_seql, binV_sneq, binV_slss, binV_beql, binV_bneq, binV_peql, binV_pneq, add_add, add_none, Go.Al.add_zero, Nat.zero_add, Nat.add_zero, IfB_t, IfB_f, Gd_t, Gd_f, Ld_ptr, LdN_ptr, Option.isNone_some, Option.isNone_none, Option.isSome_some, Option.isSome_none, Bool.not_true, Bool.not_false, drew_cell, drew_heap]
  refine New_any ?_
  intro x10 w9 hx10 hs9 hw9 hf9
  refine St_all hw9 rfl hA8.size hA8.one ?_
  intro w10 hw10 hs10 hf10
  have hf810 : Fm (fun _ => False) w8 w10 := Fm.own hf9 hf10 (by rintro y rfl; omega)
  have hf710 := Fmf hf8 hf810
  have hP10 := hP7.keep hf710 (fun e => e)
  have hq10 : w10.heap[x8]? = some (.cells cs5 24) := hf710.heap hw7 (fun e => e)
  have hO10 := hO7.keep hf710
  have hw10' := hO8.keep hf810
  have hov10 := own_keep hov7 hf710 (fun _ _ _ _ e => e)
  have hF10 := Fmf hF7 hf710
  have hA10 : PgAs w10 (pcs (pDec s).1 v) (pDec s).1 := hA2.keep (Fmf hf24 (Fmf (Fmf hf5 hf57) hf710))
  have hz24 := hf24.size
  have hz4 := hf5.size
  have hz7 := hf8.size
  have hx6l := hP4.lt
  have hx8l := lt_of_heap hw7
  have hz57 := hf57.size
  simp only [Pu_some, extV_0, extV_1, extV_2, extV_3, nilV_ptr, nilV_fn, faV_ptr, lenV_sl, lenS_s, capV_sl, pickV_t, pickV_f, unV_not, unV_neg, isB_t, isB_f, isB_u, binV_add, binV_sub, binV_mul, binV_eql, binV_neq, binV_lss, binV_leq, binV_gtr, binV_geq, binV_seql, binV_sneq, binV_slss, binV_beql, binV_bneq, binV_peql, binV_pneq, add_add, add_none, Go.Al.add_zero, Nat.zero_add, Nat.add_zero, IfB_t, IfB_f, Gd_t, Gd_f, Ld_ptr, LdN_ptr, Option.isNone_some, Option.isNone_none, Option.isSome_some, Option.isSome_none, Bool.not_true, Bool.not_false, drew_cell, drew_heap, bne_self_eq_false, hP10.all, cellsV_blk hw10 hA8.size]
  refine (rsame_spec hA10 hw10'.as).mono ?_
  rintro _ w11 ⟨rfl, hf11⟩
  have hP11 := hP10.keep hf11 (fun e => e)
  have hq11 := hf11.heap hq10 (fun e => e)
  have hx11 := hf11.heap hw10 (fun e => e)
  have hO11 := hO10.keep hf11
  have hW11 := hw10'.keep hf11
  have hov11 := own_keep hov10 hf11 (fun _ _ _ _ e => e)
  have hF11 := Fmf hF10 hf11
  have hlv := own_len hov11
  simp only [Pu_some, extV_0, extV_1, extV_2, extV_3, nilV_ptr, nilV_fn, faV_ptr, lenV_sl, lenS_s, capV_sl, pickV_t, pickV_f, unV_not, unV_neg, isB_t, isB_f, isB_u, binV_add, binV_sub, binV_mul, binV_eql, binV_neq, binV_lss, binV_leq, binV_gtr, binV_geq, binV_seql, binV_sneq, binV_slss, binV_beql, binV_bneq, binV_peql, binV_pneq, add_add, add_none, Go.Al.add_zero, Nat.zero_add, Nat.add_zero, IfB_t, IfB_f, Gd_t, Gd_f, Ld_ptr, LdN_ptr, Option.isNone_some, Option.isNone_none, Option.isSome_some, Option.isSome_none, Bool.not_true, Bool.not_false, drew_cell, drew_heap, decide_true]
  refine ⟨fun vs w' => ∃ (i : Nat) (xs : List Value), vs = [iv i] ∧ i ≤ (pDec s).1.items.length ∧ w'.ownsRow w1.heap.size 9 1 v (pDec s).1.items.length xs ∧ Fm (fun y => v.ownBlock = some y) w11 w', fun vs _ => ((pDec s).1.items.length - nth vs 0).toNat, ⟨0, _, rfl, by omega, hov11, Fm.refl _ _⟩, ?_⟩
  rintro _ w12 ivv ⟨i, xs, hvs, hi, ho12, hf12⟩
  cases hvs
  have hne : ∀ y, v.ownBlock = some y → y < x6 := fun y hy => by have := hvlt y hy; omega
  have hP12 := hP11.keep hf12 (fun e => by have := hne _ e; omega)
  by_cases hlt : i < (pDec s).1.items.length
  · have d1 : decide ((i : Int) < ((pDec s).1.items.length : Int)) = true := by rw [decide_eq_true_eq]; omega
    have e2 : IntKind.i64.wrap ((i : Int) + 1) = ((i + 1 : Nat) : Int) := by rw [wrap_id] <;> omega
    obtain ⟨ad, hix, hob, hst⟩ := own_set ho12 hlt
    simp only [Pu_some, extV_0, extV_1, extV_2, extV_3, nilV_ptr, nilV_fn, faV_ptr, lenV_sl, lenS_s, capV_sl, pickV_t, pickV_f, unV_not, unV_neg, isB_t, isB_f, isB_u, binV_add, binV_sub, binV_mul, binV_eql, binV_neq, binV_lss, binV_leq, binV_gtr, binV_geq, binV_seql, binV_sneq, binV_slss, binV_beql, binV_bneq, binV_peql, binV_pneq, add_add, add_none, Go.Al.add_zero, Nat.zero_add, Nat.add_zero, IfB_t, IfB_f, Gd_t, Gd_f, Ld_ptr, LdN_ptr, Option.isNone_some, Option.isNone_none, Option.isSome_some, Option.isSome_none, Bool.not_true, Bool.not_false, drew_cell, drew_heap, hP12.c5, hlv, d1, hix]
    refine hst rfl ?_
    intro w13 ho13 hs13 hf13
    simp only [Pu_some, extV_0, extV_1, extV_2, extV_3, nilV_ptr, nilV_fn, faV_ptr, lenV_sl, lenS_s, capV_sl, pickV_t, pickV_f, unV_not, unV_neg, isB_t, isB_f, isB_u, binV_add, binV_sub, binV_mul, binV_eql, binV_neq, binV_lss, binV_leq, binV_gtr, binV_geq, binV_seql, binV_sneq, binV_slss, binV_beql, binV_bneq, binV_peql, binV_pneq, add_add, add_none, Go.Al.add_zero, Nat.zero_add, Nat.add_zero, IfB_t, IfB_f, Gd_t, Gd_f, Ld_ptr, LdN_ptr, Option.isNone_some, Option.isNone_none, Option.isSome_some, Option.isSome_none, Bool.not_true, Bool.not_false, drew_cell, drew_heap, e2]
    exact ⟨⟨i + 1, _, rfl, by omega, ho13, hf12.trans hf13 (fun _ _ e => e) (fun _ _ e => e)⟩, by simp only [nth_0]; omega⟩
  · have d1 : decide ((i : Int) < ((pDec s).1.items.length : Int)) = false := by rw [decide_eq_false_iff_not]; omega
    have hz12 := hf12.size
    have hz1 : w1.heap.size ≤ w12.heap.size := by have := hf2.size; have := hf11.size; have := hf810.size; omega
    have hmk : ByteArray.mk #[109, 111, 114, 101] = str moreB := rfl
    simp only [Pu_some, extV_0, extV_1, extV_2, extV_3, nilV_ptr, nilV_fn, faV_ptr, lenV_sl, lenS_s, capV_sl, pickV_t, pickV_f, unV_not, unV_neg, isB_t, isB_f, isB_u, binV_add, binV_sub, binV_mul, binV_eql, binV_neq, binV_lss, binV_leq, binV_gtr, binV_geq, binV_seql, binV_sneq, binV_slss, binV_beql, binV_bneq, binV_peql, binV_pneq, add_add, add_none, Go.Al.add_zero, Nat.zero_add, Nat.add_zero, IfB_t, IfB_f, Gd_t, Gd_f, Ld_ptr, LdN_ptr, Option.isNone_some, Option.isNone_none, Option.isSome_some, Option.isSome_none, Bool.not_true, Bool.not_false, drew_cell, drew_heap, hP12.c5, hlv, d1, hmk]
    refine append_el' E22 (by omega) 22 (cs := [stv moreB]) rfl (bs22 _ _) (by intro u hu; simp at hu; subst hu; rfl) ho12 (by unfold maxLen; omega) (by omega) hz1 ?_
    intro v13 w13 ho13 _ hf13
    have hP13 := hP12.keep hf13 (fun e => by have := hne _ e; omega)
    try simp only [Pu_some, extV_0, extV_1, extV_2, extV_3, nilV_ptr, nilV_fn, faV_ptr, lenV_sl, lenS_s, capV_sl, pickV_t, pickV_f, unV_not, unV_neg, isB_t, isB_f, isB_u, binV_add, binV_sub, binV_mul, binV_eql, binV_neq, binV_lss, binV_leq, binV_gtr, binV_geq, binV_seql, binV_sneq, binV_slss, binV_beql, binV_bneq, binV_peql, binV_pneq, add_add, add_none, Go.Al.add_zero, Nat.zero_add, Nat.add_zero, IfB_t, IfB_f, Gd_t, Gd_f, Ld_ptr, LdN_ptr, Option.isNone_some, Option.isNone_none, Option.isSome_some, Option.isSome_none, Bool.not_true, Bool.not_false, drew_cell, drew_heap]
    refine St_blk hP13 (by show 5 < 6; decide) (own_one ho13) ?_
    intro w14 hw14 hs14 hf14
    have hf1114 : Fm (fun y => v.ownBlock = some y ∨ y = x6) w11 w14 := (hf12.trans hf13 (fun _ _ e => e) (fun _ _ e => e)).trans hf14 (fun _ _ e => .inl e) (fun _ _ e => .inr e)
    have hno : ∀ y, x6 < y → ¬ (v.ownBlock = some y ∨ y = x6) := fun y hy e => by
      rcases e with e | e
      · have := hne y e; omega
      · omega
    have hq14 := hf1114.heap hq11 (hno x8 (by omega))
    have hx14 := hf1114.heap hx11 (hno x10 (by omega))
    have hO14 : PgAs w14 cs5 (pDec s).1 := by
      obtain ⟨vq, e1, e2⟩ := hO11.ex
      exact (show PgOw w14 w4.heap.size cs5 (pDec s).1 from ⟨⟨vq, e1, own_keep e2 hf1114 (fun k h1 h2 h3 => hno k (by omega))⟩, hO11.small, hO11.ins⟩).as
    have hW14 : PgAs w14 cs8 (pDec s).1 := by
      obtain ⟨vq, e1, e2⟩ := hW11.ex
      exact (show PgOw w14 w7.heap.size cs8 (pDec s).1 from ⟨⟨vq, e1, own_keep e2 hf1114 (fun k h1 h2 h3 => hno k (by omega))⟩, hW11.small, hW11.ins⟩).as
    have hz1' := hf1.size
    have hF14 : Fm (fun _ => False) w w14 := Fm.own hF11 hf1114 (fun y hy => by
      rcases hy with e | e
      · have := hvlt y e; omega
      · have := hf2.size; omega)
    refine (awake_spec w14).mono ?_
    rintro _ w15 ⟨rfl, hf15⟩
    simp only [Pu_some, extV_0, extV_1, extV_2, extV_3, nilV_ptr, nilV_fn, faV_ptr, lenV_sl, lenS_s, capV_sl, pickV_t, pickV_f, unV_not, unV_neg, isB_t, isB_f, isB_u, binV_add, binV_sub, binV_mul, binV_eql, binV_neq, binV_lss, binV_leq, binV_gtr, binV_geq, binV_seql, binV_sneq, binV_slss, binV_beql, binV_bneq, binV_peql, binV_pneq, add_add, add_none, Go.Al.add_zero, Nat.zero_add, Nat.add_zero, IfB_t, IfB_f, Gd_t, Gd_f, Ld_ptr, LdN_ptr, Option.isNone_some, Option.isNone_none, Option.isSome_some, Option.isSome_none, Bool.not_true, Bool.not_false, drew_cell, drew_heap, cellsV_blk (hf15.heap hq14 (fun e => e)) hA5.size, cellsV_blk (hf15.heap hx14 (fun e => e)) hA8.size]
    refine (rsame_spec (hO14.keep hf15) (hW14.keep hf15)).mono ?_
    rintro _ w16 ⟨rfl, hf16⟩
    simp only [Pu_some, extV_0, extV_1, extV_2, extV_3, nilV_ptr, nilV_fn, faV_ptr, lenV_sl, lenS_s, capV_sl, pickV_t, pickV_f, unV_not, unV_neg, isB_t, isB_f, isB_u, binV_add, binV_sub, binV_mul, binV_eql, binV_neq, binV_lss, binV_leq, binV_gtr, binV_geq, binV_seql, binV_sneq, binV_slss, binV_beql, binV_bneq, binV_peql, binV_pneq, add_add, add_none, Go.Al.add_zero, Nat.zero_add, Nat.add_zero, IfB_t, IfB_f, Gd_t, Gd_f, Ld_ptr, LdN_ptr, Option.isNone_some, Option.isNone_none, Option.isSome_some, Option.isSome_none, Bool.not_true, Bool.not_false, drew_cell, drew_heap, decide_true]
    exact ⟨(by trivial), Fmf hF14 (Fmf hf15 hf16)⟩

/-! ### Another item, one less -/
set_option maxHeartbeats 4000000 in
theorem with_spec {w : World} {cs : Array Value} {p : Pg} (h : PgAs w cs p) {i : Int} {x : Bs} (hx : x.length ≤ 140737488355328) :
    Cl Tryd.prog 33 [.agg cs, iv i, stv x] w fun r w' => ∃ cs', r = .tuple #[.agg cs', iv (withP p i x).2] ∧ PgFr w' w.heap.size cs' (withP p i x).1 ∧ Fm (fun _ => False) w w' := by
  obtain ⟨v, hcs, hone, hc⟩ := h.ex
  refine c33 ?_; unfold T33
  refine New_any ?_
  intro x3 w1 hx3 hs1 hw1 hf1
  refine New_any ?_
  intro x6 w2 hx6 hs2 hw2 hf2
  have hP2 : PB w2 x3 p v := by rw [PB, ← hcs]; exact hf2.heap hw1 (fun e => e)
  have hF2 := Fmf hf1 hf2
  have hxw : x3 = w.heap.size ∧ x6 = w.heap.size + 1 ∧ w2.heap.size = w.heap.size + 2 := by omega
  unfold withP
  have bad : RunS Tryd.prog (Instr.build 24 #[]) w2 (fun t17_17 w_18 =>
      St 6 w_18 (pv x6) t17_17 fun u_19 w_20 =>
      RetO (resL Tryd.prog (fun j => bif Nat.beq j 6 then pv x6 else bif Nat.beq j 7 then (Value.int IntKind.i64 1) else undef) w_20 [(ResultVar.cell 6 24), (ResultVar.tmp 7)]) w_20 (fun r w' => ∃ cs', r = .tuple #[.agg cs', iv 1] ∧ PgFr w' w.heap.size cs' pg0 ∧ Fm (fun _ => False) w w')) := by
    refine RunS_ok (bld24z _) ?_
    refine St_all hw2 rfl rfl zone24 ?_
    intro w5 hw5 hs5 hf5
    exact retPg (g := x6) (i := 6) (j := 7) (u := iv 1) hw5 rfl rfl rfl _ ⟨_, rfl, PgFr.zero _ _, Fm.own hF2 hf5 (by rintro y rfl; omega)⟩
  simp only [Pu_some, extV_0, extV_1, extV_2, extV_3, nilV_ptr, nilV_fn, faV_ptr, lenV_sl, lenS_s, capV_sl, pickV_t, pickV_f, unV_not, unV_neg, isB_t, isB_f, isB_u, binV_add, binV_sub, binV_mul, binV_eql, binV_neq, binV_lss, binV_leq, binV_gtr, binV_geq, binV_seql, binV_sneq, binV_slss, binV_beql, binV_bneq, binV_peql, binV_pneq, add_add, add_none, Go.Al.add_zero, Nat.zero_add, Nat.add_zero, IfB_t, IfB_f, Gd_t, Gd_f, Ld_ptr, LdN_ptr, Option.isNone_some, Option.isNone_none, Option.isSome_some, Option.isSome_none, Bool.not_true, Bool.not_false, drew_cell, drew_heap]
  cases h1 : decide (i < 0) with
  | true => simp only [Pu_some, extV_0, extV_1, extV_2, extV_3, nilV_ptr, nilV_fn, faV_ptr, lenV_sl, lenS_s, capV_sl, pickV_t, pickV_f, unV_not, unV_neg, isB_t, isB_f, isB_u, binV_add, binV_sub, binV_mul, binV_eql, binV_neq, binV_lss, binV_leq, binV_gtr, binV_geq, binV_seql, binV_sneq, binV_slss, binV_beql, binV_bneq, binV_peql, binV_pneq, add_add, add_none, Go.Al.add_zero, Nat.zero_add, Nat.add_zero, IfB_t, IfB_f, Gd_t, Gd_f, Ld_ptr, LdN_ptr, Option.isNone_some, Option.isNone_none, Option.isSome_some, Option.isSome_none, Bool.not_true, Bool.not_false, drew_cell, drew_heap, Bool.true_or, cond_true]; exact bad
  | false =>
  simp only [Pu_some, extV_0, extV_1, extV_2, extV_3, nilV_ptr, nilV_fn, faV_ptr, lenV_sl, lenS_s, capV_sl, pickV_t, pickV_f, unV_not, unV_neg, isB_t, isB_f, isB_u, binV_add, binV_sub, binV_mul, binV_eql, binV_neq, binV_lss, binV_leq, binV_gtr, binV_geq, binV_seql, binV_sneq, binV_slss, binV_beql, binV_bneq, binV_peql, binV_pneq, add_add, add_none, Go.Al.add_zero, Nat.zero_add, Nat.add_zero, IfB_t, IfB_f, Gd_t, Gd_f, Ld_ptr, LdN_ptr, Option.isNone_some, Option.isNone_none, Option.isSome_some, Option.isSome_none, Bool.not_true, Bool.not_false, drew_cell, drew_heap, hP2.c5, hc.lenV]
  cases h2 : decide ((p.items.length : Int) ≤ i) with
  | true => simp only [Pu_some, extV_0, extV_1, extV_2, extV_3, nilV_ptr, nilV_fn, faV_ptr, lenV_sl, lenS_s, capV_sl, pickV_t, pickV_f, unV_not, unV_neg, isB_t, isB_f, isB_u, binV_add, binV_sub, binV_mul, binV_eql, binV_neq, binV_lss, binV_leq, binV_gtr, binV_geq, binV_seql, binV_sneq, binV_slss, binV_beql, binV_bneq, binV_peql, binV_pneq, add_add, add_none, Go.Al.add_zero, Nat.zero_add, Nat.add_zero, IfB_t, IfB_f, Gd_t, Gd_f, Ld_ptr, LdN_ptr, Option.isNone_some, Option.isNone_none, Option.isSome_some, Option.isSome_none, Bool.not_true, Bool.not_false, drew_cell, drew_heap, Bool.or_true, cond_true]; exact bad
  | false =>
  rw [decide_eq_false_iff_not] at h1 h2
  obtain ⟨j, rfl⟩ := Int.eq_ofNat_of_zero_le (show 0 ≤ i by omega)
  have hj : j < p.items.length := by omega
  simp only [Pu_some, extV_0, extV_1, extV_2, extV_3, nilV_ptr, nilV_fn, faV_ptr, lenV_sl, lenS_s, capV_sl, pickV_t, pickV_f, unV_not, unV_neg, isB_t, isB_f, isB_u, binV_add, binV_sub, binV_mul, binV_eql, binV_neq, binV_lss, binV_leq, binV_gtr, binV_geq, binV_seql, binV_sneq, binV_slss, binV_beql, binV_bneq, binV_peql, binV_pneq, add_add, add_none, Go.Al.add_zero, Nat.zero_add, Nat.add_zero, IfB_t, IfB_f, Gd_t, Gd_f, Ld_ptr, LdN_ptr, Option.isNone_some, Option.isNone_none, Option.isSome_some, Option.isSome_none, Bool.not_true, Bool.not_false, drew_cell, drew_heap, Bool.or_false, cond_false, hP2.c5]
  refine (clone_spec (hc.keep hF2 (fun _ _ e => e)) h.ins.2.2.2.2.2).mono ?_
  rintro lv w3 ⟨ho3, hf3⟩
  have hP3 := hP2.keep hf3 (fun e => e)
  have hx63 := hf3.heap hw2 (fun e => e)
  have hF3 := Fmf hF2 hf3
  obtain ⟨ad, hix, hob, hst⟩ := own_set ho3 hj
  have hlt3 := own_lt ho3
  have hix' : ixV 1 lv (Value.int .i64 (j : Int)) = some (.pointer (some ad)) := hix
  simp only [Pu_some, extV_0, extV_1, extV_2, extV_3, nilV_ptr, nilV_fn, faV_ptr, lenV_sl, lenS_s, capV_sl, pickV_t, pickV_f, unV_not, unV_neg, isB_t, isB_f, isB_u, binV_add, binV_sub, binV_mul, binV_eql, binV_neq, binV_lss, binV_leq, binV_gtr, binV_geq, binV_seql, binV_sneq, binV_slss, binV_beql, binV_bneq, binV_peql, binV_pneq, add_add, add_none, Go.Al.add_zero, Nat.zero_add, Nat.add_zero, IfB_t, IfB_f, Gd_t, Gd_f, Ld_ptr, LdN_ptr, Option.isNone_some, Option.isNone_none, Option.isSome_some, Option.isSome_none, Bool.not_true, Bool.not_false, drew_cell, drew_heap, hix']
  refine hst rfl ?_
  intro w4 ho4 hs4 hf4
  have hP4 := hP3.keep hf4 (fun e => by have := hlt3 _ e; omega)
  have hx64 := hf4.heap hx63 (fun e => by have := hlt3 _ e; omega)
  have hF4 : Fm (fun _ => False) w w4 := Fm.own hF3 hf4 (fun y hy => by have := hlt3 _ hy; omega)
  have hcs4 : PgAs w4 (pcs p v) p := ⟨⟨v, rfl, hone, hc.keep hF4 (fun _ _ e => e)⟩, h.small, h.ins⟩
  have hset : (p.items.map stv).set j (stv x) = (p.items.set j x).map stv := by rw [List.map_set]
  have hll : (p.items.set j x).length = p.items.length := List.length_set ..
  rw [hset] at ho4
  have hr : CellsAt w4 lv (p.items.set j x).length 1 ((p.items.set j x).map stv) := by rw [hll]; exact CellsAt.of_own ho4
  have hrb : ∀ g, blockOf lv = some g → w2.heap.size ≤ g := by
    intro g hg
    obtain ⟨hl4, hc4⟩ := own_cases ho4
    rcases hc4 with ⟨rfl, _⟩ | ⟨q, cap, rfl, hq, _⟩
    · cases hg
    · cases hg; exact hq
  have hone4 := own_one ho4
  simp only [Pu_some, extV_0, extV_1, extV_2, extV_3, nilV_ptr, nilV_fn, faV_ptr, lenV_sl, lenS_s, capV_sl, pickV_t, pickV_f, unV_not, unV_neg, isB_t, isB_f, isB_u, binV_add, binV_sub, binV_mul, binV_eql, binV_neq, binV_lss, binV_leq, binV_gtr, binV_geq, binV_seql, binV_sneq, binV_slss, binV_beql, binV_bneq, binV_peql, binV_pneq, add_add, add_none, Go.Al.add_zero, Nat.zero_add, Nat.add_zero, IfB_t, IfB_f, Gd_t, Gd_f, Ld_ptr, LdN_ptr, Option.isNone_some, Option.isNone_none, Option.isSome_some, Option.isSome_none, Bool.not_true, Bool.not_false, drew_cell, drew_heap, hP4.all]
  refine (turned_page hcs4 hr hone4 (fun y hy => ?_) (by rw [hll]; exact h.ins.2.2.2.2.2)).mono ?_
  · rcases List.mem_or_eq_of_mem_set hy with hy | rfl
    · exact h.small y hy
    · exact hx
  rintro _ w8 ⟨cs', rfl, hcs', hf8⟩
  have hx68 := hf8.heap hx64 (fun e => e)
  have hF8 := Fmf hF4 hf8
  have hfr := turned_fr (p := p) (hr.keep hf8 (fun _ _ e => e)) hone4 (fun _ => hrb)
  rw [← hcs'] at hfr
  simp only [Pu_some, extV_0, extV_1, extV_2, extV_3, nilV_ptr, nilV_fn, faV_ptr, lenV_sl, lenS_s, capV_sl, pickV_t, pickV_f, unV_not, unV_neg, isB_t, isB_f, isB_u, binV_add, binV_sub, binV_mul, binV_eql, binV_neq, binV_lss, binV_leq, binV_gtr, binV_geq, binV_seql, binV_sneq, binV_slss, binV_beql, binV_bneq, binV_peql, binV_pneq, add_add, add_none, Go.Al.add_zero, Nat.zero_add, Nat.add_zero, IfB_t, IfB_f, Gd_t, Gd_f, Ld_ptr, LdN_ptr, Option.isNone_some, Option.isNone_none, Option.isSome_some, Option.isSome_none, Bool.not_true, Bool.not_false, drew_cell, drew_heap]
  refine St_all hx68 rfl hfr.size hfr.one ?_
  intro w9 hw9 hs9 hf9
  refine retPg (g := x6) (i := 6) (j := 7) (u := iv (turnedP p (p.items.set j x)).2) hw9 hfr.size rfl rfl _ ⟨_, rfl, ?_, Fm.own hF8 hf9 (by rintro y rfl; omega)⟩
  obtain ⟨v', e1, e2, e3, e4⟩ := hfr
  have hgt : (turnedP p (p.items.set j x)).1.items ≠ [] → ∀ g, blockOf v' = some g → w2.heap.size ≤ g := e4
  exact ⟨v', e1, e2, e3.keepAny hf9 (fun hne g hg e => by have := hgt (by simpa using hne) g hg; omega), fun hn g hg => by have := hgt hn g hg; omega⟩
set_option maxHeartbeats 4000000 in
theorem out_spec {w : World} {cs : Array Value} {p : Pg} (h : PgAs w cs p) {i : Int} :
    Cl Tryd.prog 32 [.agg cs, iv i] w fun r w' => ∃ cs', r = .tuple #[.agg cs', iv (outP p i).2] ∧ PgFr w' w.heap.size cs' (outP p i).1 ∧ Fm (fun _ => False) w w' := by
  obtain ⟨v, hcs, hone, hc⟩ := h.ex
  have hsm := h.ins.2.2.2.2.2
  refine c32 ?_; unfold T32
  refine New_any ?_
  intro x3 w1 hx3 hs1 hw1 hf1
  refine New_any ?_
  intro x6 w2 hx6 hs2 hw2 hf2
  have hP2 : PB w2 x3 p v := by rw [PB, ← hcs]; exact hf2.heap hw1 (fun e => e)
  have hF2 := Fmf hf1 hf2
  have hxw : x3 = w.heap.size ∧ x6 = w.heap.size + 1 ∧ w2.heap.size = w.heap.size + 2 := by omega
  unfold outP
  have bad : RunS Tryd.prog (Instr.build 24 #[]) w2 (fun t17_17 w_18 =>
      St 6 w_18 (pv x6) t17_17 fun u_19 w_20 =>
      RetO (resL Tryd.prog (fun j => bif Nat.beq j 4 then pv x6 else bif Nat.beq j 5 then (Value.int IntKind.i64 1) else undef) w_20 [(ResultVar.cell 4 24), (ResultVar.tmp 5)]) w_20 (fun r w' => ∃ cs', r = .tuple #[.agg cs', iv 1] ∧ PgFr w' w.heap.size cs' pg0 ∧ Fm (fun _ => False) w w')) := by
    refine RunS_ok (bld24z _) ?_
    refine St_all hw2 rfl rfl zone24 ?_
    intro w5 hw5 hs5 hf5
    exact retPg (g := x6) (i := 4) (j := 5) (u := iv 1) hw5 rfl rfl rfl _ ⟨_, rfl, PgFr.zero _ _, Fm.own hF2 hf5 (by rintro y rfl; omega)⟩
  simp only [Pu_some, extV_0, extV_1, extV_2, extV_3, nilV_ptr, nilV_fn, faV_ptr, lenV_sl, lenS_s, capV_sl, pickV_t, pickV_f, unV_not, unV_neg, isB_t, isB_f, isB_u, binV_add, binV_sub, binV_mul, binV_eql, binV_neq, binV_lss, binV_leq, binV_gtr, binV_geq, binV_seql, binV_sneq, binV_slss, binV_beql, binV_bneq, binV_peql, binV_pneq, add_add, add_none, Go.Al.add_zero, Nat.zero_add, Nat.add_zero, IfB_t, IfB_f, Gd_t, Gd_f, Ld_ptr, LdN_ptr, Option.isNone_some, Option.isNone_none, Option.isSome_some, Option.isSome_none, Bool.not_true, Bool.not_false, drew_cell, drew_heap]
  cases h1 : decide (i < 0) with
  | true => simp only [Pu_some, extV_0, extV_1, extV_2, extV_3, nilV_ptr, nilV_fn, faV_ptr, lenV_sl, lenS_s, capV_sl, pickV_t, pickV_f, unV_not, unV_neg, isB_t, isB_f, isB_u, binV_add, binV_sub, binV_mul, binV_eql, binV_neq, binV_lss, binV_leq, binV_gtr, binV_geq, binV_seql, binV_sneq, binV_slss, binV_beql, binV_bneq, binV_peql, binV_pneq, add_add, add_none, Go.Al.add_zero, Nat.zero_add, Nat.add_zero, IfB_t, IfB_f, Gd_t, Gd_f, Ld_ptr, LdN_ptr, Option.isNone_some, Option.isNone_none, Option.isSome_some, Option.isSome_none, Bool.not_true, Bool.not_false, drew_cell, drew_heap, Bool.true_or, cond_true]; exact bad
  | false =>
  simp only [Pu_some, extV_0, extV_1, extV_2, extV_3, nilV_ptr, nilV_fn, faV_ptr, lenV_sl, lenS_s, capV_sl, pickV_t, pickV_f, unV_not, unV_neg, isB_t, isB_f, isB_u, binV_add, binV_sub, binV_mul, binV_eql, binV_neq, binV_lss, binV_leq, binV_gtr, binV_geq, binV_seql, binV_sneq, binV_slss, binV_beql, binV_bneq, binV_peql, binV_pneq, add_add, add_none, Go.Al.add_zero, Nat.zero_add, Nat.add_zero, IfB_t, IfB_f, Gd_t, Gd_f, Ld_ptr, LdN_ptr, Option.isNone_some, Option.isNone_none, Option.isSome_some, Option.isSome_none, Bool.not_true, Bool.not_false, drew_cell, drew_heap, hP2.c5, hc.lenV]
  cases h2 : decide ((p.items.length : Int) ≤ i) with
  | true => simp only [Pu_some, extV_0, extV_1, extV_2, extV_3, nilV_ptr, nilV_fn, faV_ptr, lenV_sl, lenS_s, capV_sl, pickV_t, pickV_f, unV_not, unV_neg, isB_t, isB_f, isB_u, binV_add, binV_sub, binV_mul, binV_eql, binV_neq, binV_lss, binV_leq, binV_gtr, binV_geq, binV_seql, binV_sneq, binV_slss, binV_beql, binV_bneq, binV_peql, binV_pneq, add_add, add_none, Go.Al.add_zero, Nat.zero_add, Nat.add_zero, IfB_t, IfB_f, Gd_t, Gd_f, Ld_ptr, LdN_ptr, Option.isNone_some, Option.isNone_none, Option.isSome_some, Option.isSome_none, Bool.not_true, Bool.not_false, drew_cell, drew_heap, Bool.or_true, cond_true]; exact bad
  | false =>
  rw [decide_eq_false_iff_not] at h1 h2
  obtain ⟨j, rfl⟩ := Int.eq_ofNat_of_zero_le (show 0 ≤ i by omega)
  have hj : j < p.items.length := by omega
  simp only [Pu_some, extV_0, extV_1, extV_2, extV_3, nilV_ptr, nilV_fn, faV_ptr, lenV_sl, lenS_s, capV_sl, pickV_t, pickV_f, unV_not, unV_neg, isB_t, isB_f, isB_u, binV_add, binV_sub, binV_mul, binV_eql, binV_neq, binV_lss, binV_leq, binV_gtr, binV_geq, binV_seql, binV_sneq, binV_slss, binV_beql, binV_bneq, binV_peql, binV_pneq, add_add, add_none, Go.Al.add_zero, Nat.zero_add, Nat.add_zero, IfB_t, IfB_f, Gd_t, Gd_f, Ld_ptr, LdN_ptr, Option.isNone_some, Option.isNone_none, Option.isSome_some, Option.isSome_none, Bool.not_true, Bool.not_false, drew_cell, drew_heap, Bool.or_false, cond_false, hP2.c5]
  refine (clone_spec (hc.keep hF2 (fun _ _ e => e)) hsm).mono ?_
  rintro lv w3 ⟨ho3, hf3⟩
  have hP3 := hP2.keep hf3 (fun e => e)
  have hx63 := hf3.heap hw2 (fun e => e)
  have hF3 := Fmf hF2 hf3
  have e1 : IntKind.i64.wrap ((j : Int) + 1) = ((j + 1 : Nat) : Int) := by rw [wrap_id] <;> omega
  simp only [Pu_some, extV_0, extV_1, extV_2, extV_3, nilV_ptr, nilV_fn, faV_ptr, lenV_sl, lenS_s, capV_sl, pickV_t, pickV_f, unV_not, unV_neg, isB_t, isB_f, isB_u, binV_add, binV_sub, binV_mul, binV_eql, binV_neq, binV_lss, binV_leq, binV_gtr, binV_geq, binV_seql, binV_sneq, binV_slss, binV_beql, binV_bneq, binV_peql, binV_pneq, add_add, add_none, Go.Al.add_zero, Nat.zero_add, Nat.add_zero, IfB_t, IfB_f, Gd_t, Gd_f, Ld_ptr, LdN_ptr, Option.isNone_some, Option.isNone_none, Option.isSome_some, Option.isSome_none, Bool.not_true, Bool.not_false, drew_cell, drew_heap, e1]
  refine (delete_spec ho3 hj).mono ?_
  rintro r w4 ⟨⟨a, c, rfl⟩, hr, hrb, hf4⟩
  have hP4 := hP3.keep hf4 (by omega)
  have hx64 := hf4.heap hx63 (by omega)
  have hF4 : Fm (fun _ => False) w w4 := Fm.own hF3 hf4 (fun y hy => by omega)
  have hll : (p.items.eraseIdx j).length = p.items.length - 1 := by rw [List.length_eraseIdx]; simp [hj]
  refine St_blk hP4 (by show 5 < 6; decide) rfl ?_
  intro w5 hw5 hs5 hf5
  replace hw5 : PB w5 x3 (withL p (p.items.eraseIdx j)) (.slice a (p.items.length - 1) c) := hw5
  have hx65 := hf5.heap hx64 (by omega)
  have hF5 : Fm (fun _ => False) w w5 := Fm.own hF4 hf5 (by rintro y rfl; omega)
  simp only [Pu_some, extV_0, extV_1, extV_2, extV_3, nilV_ptr, nilV_fn, faV_ptr, lenV_sl, lenS_s, capV_sl, pickV_t, pickV_f, unV_not, unV_neg, isB_t, isB_f, isB_u, binV_add, binV_sub, binV_mul, binV_eql, binV_neq, binV_lss, binV_leq, binV_gtr, binV_geq, binV_seql, binV_sneq, binV_slss, binV_beql, binV_bneq, binV_peql, binV_pneq, add_add, add_none, Go.Al.add_zero, Nat.zero_add, Nat.add_zero, IfB_t, IfB_f, Gd_t, Gd_f, Ld_ptr, LdN_ptr, Option.isNone_some, Option.isNone_none, Option.isSome_some, Option.isSome_none, Bool.not_true, Bool.not_false, drew_cell, drew_heap, hw5.all]
  refine St_all hx65 rfl rfl (one24 _ rfl) ?_
  intro w6 hw6 hs6 hf6
  refine retPg (g := x6) (i := 4) (j := 5) (u := iv 0) hw6 rfl rfl rfl _ ⟨_, rfl, ?_, Fm.own hF5 hf6 (by rintro y rfl; omega)⟩
  refine ⟨_, rfl, rfl, ?_, fun hn g hg => by have := hrb g hg; omega⟩
  show CellsAt w6 (.slice a (p.items.length - 1) c) (p.items.eraseIdx j).length 1 ((p.items.eraseIdx j).map stv)
  rw [hll]
  exact (hr.keepAny hf5 (fun hne g hg e => by have := hrb g hg; omega)).keepAny hf6 (fun hne g hg e => by have := hrb g hg; omega)

end Go.Proofs.YtodnakepbdhfkaaDoor
