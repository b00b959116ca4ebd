/- A page with another item, one more, one less: the document's answer, and the law. -/
import Derived.Test.YtodnakepbdhfkaaDoorPgLaws4
namespace Go.Proofs.YtodnakepbdhfkaaDoor
open Go.Al Go.Proofs
set_option linter.unusedVariables false
set_option linter.unusedSimpArgs false
set_option linter.unusedSectionVars false
set_option maxRecDepth 100000

def changedP (p : Pg) (l : List Bs) (more : Bool) : Pg × Int := bif more && !fitsB (withL p l) then (pg0, 3) else (withL p l, 0)
theorem changed_more (p : Pg) (l : List Bs) : changedP p l true = turnedP p l := by
  unfold changedP turnedP
  cases fitsB (withL p l) <;> rfl
theorem changed_less (p : Pg) (l : List Bs) : changedP p l false = (withL p l, 0) := rfl
set_option maxHeartbeats 4000000 in
theorem changed_spec {w : World} {cs : Array Value} {p : Pg} (h : PgAs w cs p) {va vb vc : Value} {la lb lc : List Bs} (ha : CellsAt w va la.length 1 (la.map stv)) (hb : CellsAt w vb lb.length 1 (lb.map stv)) (hc : CellsAt w vc lc.length 1 (lc.map stv)) (more : Bool)
    (hsm : ∀ x ∈ la ++ lb ++ lc, x.length ≤ 140737488355328) (hln : (la.length + lb.length + lc.length) * 16 ≤ 140737488355328) :
    Cl Tryd.prog 63 [.agg cs, va, vb, vc, .bool more] w fun r w' => ∃ cs', r = .tuple #[.agg cs', iv (changedP p (la ++ lb ++ lc) more).2] ∧ PgFr w' w.heap.size cs' (changedP p (la ++ lb ++ lc) more).1 ∧ Fm (fun _ => False) w w' := by
  obtain ⟨v, rfl, hone, hcv⟩ := h.ex
  refine c63 ?_; unfold T63
  refine New_any ?_
  intro x1 w1 hx1 hs1 hw1 hf1
  refine New_any ?_
  intro x2 w2 hx2 hs2 hw2 hf2
  have hP2 : PB w2 x1 p v := hf2.heap hw1 (fun e => e)
  have hF2 := Fmf hf1 hf2
  have hsz : x1 = w.heap.size ∧ x2 = w.heap.size + 1 ∧ w2.heap.size = w.heap.size + 2 := by omega
  obtain ⟨v3, w3, hr3, ho3, hf3⟩ := append_srcO E22 (by omega) (World.ownsRow_nil w2 w2.heap.size 9 1) (ha.keep hF2 (fun _ _ e => e)) (stv_one _) 22 (by unfold maxLen; omega) (by omega) (Nat.le_refl _)
  refine RunS_ok hr3 ?_
  rw [Nat.zero_add, List.nil_append] at ho3
  replace hf3 : Fm (fun _ => False) w2 w3 := hf3.mono (fun y _ e => by cases e)
  have hP3 := hP2.keep hf3 (fun e => e)
  have hx3 := hf3.heap hw2 (fun e => e)
  have hF3 := Fmf hF2 hf3
  have hz3 := hf3.size
  have hlt3 := own_lt ho3
  obtain ⟨v4, w4, hr4, ho4, hf4⟩ := append_srcO E22 (by omega) ho3 (hb.keep hF3 (fun _ _ e => e)) (stv_one _) 22 (by unfold maxLen; omega) (by omega) hz3
  refine RunS_ok hr4 ?_
  have hP4 := hP3.keep hf4 (fun e => by have := hlt3 _ e; omega)
  have hx4 := hf4.heap hx3 (fun e => by have := hlt3 _ e; omega)
  have hF4 : Fm (fun _ => False) w w4 := Fm.own hF3 hf4 (fun y hy => by have := hlt3 _ hy; omega)
  have hz4 := hf4.size
  have hlt4 := own_lt ho4
  obtain ⟨v5, w5, hr5, ho5, hf5⟩ := append_srcO E22 (by omega) ho4 (hc.keep hF4 (fun _ _ e => e)) (stv_one _) 22 (by unfold maxLen; omega) (by omega) (by omega)
  refine RunS_ok hr5 ?_
  have hP5 := hP4.keep hf5 (fun e => by have := hlt4 _ e; omega)
  have hx5 := hf5.heap hx4 (fun e => by have := hlt4 _ e; omega)
  have hF5 : Fm (fun _ => False) w w5 := Fm.own hF4 hf5 (fun y hy => by have := hlt4 _ hy; omega)
  have hlt5 := own_lt ho5
  have hl5 : la.length + lb.length + lc.length = (la ++ lb ++ lc).length := by simp only [List.length_append]
  have hm5 : la.map stv ++ lb.map stv ++ lc.map stv = (la ++ lb ++ lc).map stv := by simp only [List.map_append]
  rw [hl5, hm5] at ho5
  rw [hl5] at hln
  generalize la ++ lb ++ lc = l at ho5 hsm hln
  have hone5 := own_one ho5
  simp only [Pu_some, extV_0, extV_1, extV_2, extV_3, nilV_ptr, nilV_fn, faV_ptr, lenV_sl, lenS_s, capV_sl, pickV_t, pickV_f, unV_not, unV_neg, isB_t, isB_f, isB_u, binV_add, binV_sub, binV_mul, binV_eql, binV_neq, binV_lss, binV_leq, binV_gtr, binV_geq, binV_seql, binV_sneq, binV_slss, binV_beql, binV_bneq, binV_peql, binV_pneq, add_add, add_none, Go.Al.add_zero, Nat.zero_add, Nat.add_zero, IfB_t, IfB_f, Gd_t, Gd_f, Ld_ptr, LdN_ptr, Option.isNone_some, Option.isNone_none, Option.isSome_some, Option.isSome_none, Bool.not_true, Bool.not_false, drew_cell, drew_heap]
  refine St_blk hP5 (by show 5 < 6; decide) hone5 ?_
  intro w6 hw6 hs6 hf6
  replace hw6 : PB w6 x1 (withL p l) v5 := hw6
  have hx6 := hf6.heap hx5 (by omega)
  have hF6 : Fm (fun _ => False) w w6 := Fm.own hF5 hf6 (by rintro y rfl; omega)
  have ho6 := own_keep ho5 hf6 (fun k h1 h2 h3 => by omega)
  have hAs : PgAs w6 (pcs (withL p l) v5) (withL p l) := ⟨⟨v5, rfl, hone5, CellsAt.of_own ho6⟩, hsm, h.ins.1, h.ins.2.1, h.ins.2.2.1, h.ins.2.2.2.1, h.ins.2.2.2.2.1, hln⟩
  have bad : ∀ w', w'.heap[x2]? = some (.cells (pcs pg0 (.slice none 0 0)) 24) → Fm (fun _ => False) w w' → RunS Tryd.prog (Instr.build 24 #[]) w' (fun t35_31 w_32 =>
      St 6 w_32 (pv x2) t35_31 fun u_33 w_34 =>
      RetO (resL Tryd.prog (fun j => bif Nat.beq j 10 then pv x2 else bif Nat.beq j 11 then (Value.int IntKind.i64 3) else undef) w_34 [(ResultVar.cell 10 24), (ResultVar.tmp 11)]) w_34 (fun r w' => ∃ cs', r = .tuple #[.agg cs', iv 3] ∧ PgFr w' w.heap.size cs' pg0 ∧ Fm (fun _ => False) w w')) := by
    intro w' hw' hF'
    refine RunS_ok (bld24z _) ?_
    refine St_all hw' rfl rfl zone24 ?_
    intro w7 hw7 hs7 hf7
    exact retPg (g := x2) (i := 10) (j := 11) (u := iv 3) hw7 rfl rfl rfl _ ⟨_, rfl, PgFr.zero _ _, Fm.own hF' hf7 (by rintro y rfl; omega)⟩
  have good : ∀ w', PB w' x1 (withL p l) v5 → w'.heap[x2]? = some (.cells (pcs pg0 (.slice none 0 0)) 24) → w'.ownsRow w2.heap.size 9 1 v5 l.length (l.map stv) → Fm (fun _ => False) w w' → Pu (cellsV w' ⟨x1, 0, none⟩ 6) (fun t36_35 =>
      St 6 w' (pv x2) t36_35 fun u_37 w_38 =>
      RetO (resL Tryd.prog (fun j => bif Nat.beq j 10 then pv x2 else bif Nat.beq j 11 then (Value.int IntKind.i64 0) else undef) w_38 [(ResultVar.cell 10 24), (ResultVar.tmp 11)]) w_38 (fun r w' => ∃ cs', r = .tuple #[.agg cs', iv 0] ∧ PgFr w' w.heap.size cs' (withL p l) ∧ Fm (fun _ => False) w w')) := by
    intro w' hP' hw' ho' hF'
    simp only [Pu_some, extV_0, extV_1, extV_2, extV_3, nilV_ptr, nilV_fn, faV_ptr, lenV_sl, lenS_s, capV_sl, pickV_t, pickV_f, unV_not, unV_neg, isB_t, isB_f, isB_u, binV_add, binV_sub, binV_mul, binV_eql, binV_neq, binV_lss, binV_leq, binV_gtr, binV_geq, binV_seql, binV_sneq, binV_slss, binV_beql, binV_bneq, binV_peql, binV_pneq, add_add, add_none, Go.Al.add_zero, Nat.zero_add, Nat.add_zero, IfB_t, IfB_f, Gd_t, Gd_f, Ld_ptr, LdN_ptr, Option.isNone_some, Option.isNone_none, Option.isSome_some, Option.isSome_none, Bool.not_true, Bool.not_false, drew_cell, drew_heap, hP'.all]
    refine St_all hw' rfl rfl (one24 _ hone5) ?_
    intro w7 hw7 hs7 hf7
    have hlt' := own_lt ho'
    refine retPg (g := x2) (i := 10) (j := 11) (u := iv 0) hw7 rfl rfl rfl _ ⟨_, rfl, ⟨v5, rfl, hone5, (CellsAt.of_own ho').keepAny hf7 (fun _ g hg e => ?_), fun _ g hg => ?_⟩, Fm.own hF' hf7 (by rintro y rfl; omega)⟩
    · obtain ⟨_, hcc⟩ := own_cases ho'
      rcases hcc with ⟨rfl, _⟩ | ⟨q, cap, rfl, hq, _⟩
      · cases hg
      · have hgq : g = q := (Option.some.inj hg).symm
        omega
    · obtain ⟨_, hcc⟩ := own_cases ho'
      rcases hcc with ⟨rfl, _⟩ | ⟨q, cap, rfl, hq, _⟩
      · cases hg
      · have hgq : g = q := (Option.some.inj hg).symm
        omega
  cases more with
  | false =>
    rw [changed_less]
    simp only [Pu_some, extV_0, extV_1, extV_2, extV_3, nilV_ptr, nilV_fn, faV_ptr, lenV_sl, lenS_s, capV_sl, pickV_t, pickV_f, unV_not, unV_neg, isB_t, isB_f, isB_u, binV_add, binV_sub, binV_mul, binV_eql, binV_neq, binV_lss, binV_leq, binV_gtr, binV_geq, binV_seql, binV_sneq, binV_slss, binV_beql, binV_bneq, binV_peql, binV_pneq, add_add, add_none, Go.Al.add_zero, Nat.zero_add, Nat.add_zero, IfB_t, IfB_f, Gd_t, Gd_f, Ld_ptr, LdN_ptr, Option.isNone_some, Option.isNone_none, Option.isSome_some, Option.isSome_none, Bool.not_true, Bool.not_false, drew_cell, drew_heap]
    exact good w6 hw6 hx6 ho6 hF6
  | true =>
  rw [changed_more]
  unfold turnedP fitsB
  have hcl := hAs.ex
  have d1 : decide ((255 : Int) < (l.length : Int)) = !decide (l.length ≤ 255) := by
    by_cases h5 : l.length ≤ 255
    · rw [decide_eq_true h5, decide_eq_false (by omega)]; rfl
    · rw [decide_eq_false h5, decide_eq_true (by omega)]; rfl
  have e0 : (withL p l).items = l := rfl
  rw [e0]
  simp only [Pu_some, extV_0, extV_1, extV_2, extV_3, nilV_ptr, nilV_fn, faV_ptr, lenV_sl, lenS_s, capV_sl, pickV_t, pickV_f, unV_not, unV_neg, isB_t, isB_f, isB_u, binV_add, binV_sub, binV_mul, binV_eql, binV_neq, binV_lss, binV_leq, binV_gtr, binV_geq, binV_seql, binV_sneq, binV_slss, binV_beql, binV_bneq, binV_peql, binV_pneq, add_add, add_none, Go.Al.add_zero, Nat.zero_add, Nat.add_zero, IfB_t, IfB_f, Gd_t, Gd_f, Ld_ptr, LdN_ptr, Option.isNone_some, Option.isNone_none, Option.isSome_some, Option.isSome_none, Bool.not_true, Bool.not_false, drew_cell, drew_heap, (CellsAt.of_own ho6).lenV, d1]
  cases hd : decide (l.length ≤ 255) with
  | false =>
    simp only [Pu_some, extV_0, extV_1, extV_2, extV_3, nilV_ptr, nilV_fn, faV_ptr, lenV_sl, lenS_s, capV_sl, pickV_t, pickV_f, unV_not, unV_neg, isB_t, isB_f, isB_u, binV_add, binV_sub, binV_mul, binV_eql, binV_neq, binV_lss, binV_leq, binV_gtr, binV_geq, binV_seql, binV_sneq, binV_slss, binV_beql, binV_bneq, binV_peql, binV_pneq, add_add, add_none, Go.Al.add_zero, Nat.zero_add, Nat.add_zero, IfB_t, IfB_f, Gd_t, Gd_f, Ld_ptr, LdN_ptr, Option.isNone_some, Option.isNone_none, Option.isSome_some, Option.isSome_none, Bool.not_true, Bool.not_false, drew_cell, drew_heap, Bool.not_false, Bool.false_and, cond_false]
    exact bad w6 hx6 hF6
  | true =>
    have hsb := size_bound hAs (by show l.length ≤ 255; simpa using hd)
    simp only [Pu_some, extV_0, extV_1, extV_2, extV_3, nilV_ptr, nilV_fn, faV_ptr, lenV_sl, lenS_s, capV_sl, pickV_t, pickV_f, unV_not, unV_neg, isB_t, isB_f, isB_u, binV_add, binV_sub, binV_mul, binV_eql, binV_neq, binV_lss, binV_leq, binV_gtr, binV_geq, binV_seql, binV_sneq, binV_slss, binV_beql, binV_bneq, binV_peql, binV_pneq, add_add, add_none, Go.Al.add_zero, Nat.zero_add, Nat.add_zero, IfB_t, IfB_f, Gd_t, Gd_f, Ld_ptr, LdN_ptr, Option.isNone_some, Option.isNone_none, Option.isSome_some, Option.isSome_none, Bool.not_true, Bool.not_false, drew_cell, drew_heap, hw6.all, Bool.not_true]
    refine (rsize_spec hAs).mono ?_
    rintro _ w7 ⟨rfl, hf7⟩
    have d2 : decide ((512 : Int) < IntKind.i64.wrap (pSize (withL p l))) = !decide (pSize (withL p l) ≤ 512) := by
      rw [wrap_nat (by omega)]
      by_cases h5 : pSize (withL p l) ≤ 512
      · rw [decide_eq_true h5, decide_eq_false (by omega)]; rfl
      · rw [decide_eq_false h5, decide_eq_true (by omega)]; rfl
    have hP7 := hw6.keep hf7 (fun e => e)
    have hx7 := hf7.heap hx6 (fun e => e)
    have hF7 := Fmf hF6 hf7
    simp only [Pu_some, extV_0, extV_1, extV_2, extV_3, nilV_ptr, nilV_fn, faV_ptr, lenV_sl, lenS_s, capV_sl, pickV_t, pickV_f, unV_not, unV_neg, isB_t, isB_f, isB_u, binV_add, binV_sub, binV_mul, binV_eql, binV_neq, binV_lss, binV_leq, binV_gtr, binV_geq, binV_seql, binV_sneq, binV_slss, binV_beql, binV_bneq, binV_peql, binV_pneq, add_add, add_none, Go.Al.add_zero, Nat.zero_add, Nat.add_zero, IfB_t, IfB_f, Gd_t, Gd_f, Ld_ptr, LdN_ptr, Option.isNone_some, Option.isNone_none, Option.isSome_some, Option.isSome_none, Bool.not_true, Bool.not_false, drew_cell, drew_heap, d2, Bool.true_and]
    cases hq5 : decide (pSize (withL p l) ≤ 512) with
    | false =>
      simp only [Pu_some, extV_0, extV_1, extV_2, extV_3, nilV_ptr, nilV_fn, faV_ptr, lenV_sl, lenS_s, capV_sl, pickV_t, pickV_f, unV_not, unV_neg, isB_t, isB_f, isB_u, binV_add, binV_sub, binV_mul, binV_eql, binV_neq, binV_lss, binV_leq, binV_gtr, binV_geq, binV_seql, binV_sneq, binV_slss, binV_beql, binV_bneq, binV_peql, binV_pneq, add_add, add_none, Go.Al.add_zero, Nat.zero_add, Nat.add_zero, IfB_t, IfB_f, Gd_t, Gd_f, Ld_ptr, LdN_ptr, Option.isNone_some, Option.isNone_none, Option.isSome_some, Option.isSome_none, Bool.not_true, Bool.not_false, drew_cell, drew_heap, Bool.not_false, cond_false]
      exact bad w7 hx7 hF7
    | true =>
      simp only [Pu_some, extV_0, extV_1, extV_2, extV_3, nilV_ptr, nilV_fn, faV_ptr, lenV_sl, lenS_s, capV_sl, pickV_t, pickV_f, unV_not, unV_neg, isB_t, isB_f, isB_u, binV_add, binV_sub, binV_mul, binV_eql, binV_neq, binV_lss, binV_leq, binV_gtr, binV_geq, binV_seql, binV_sneq, binV_slss, binV_beql, binV_bneq, binV_peql, binV_pneq, add_add, add_none, Go.Al.add_zero, Nat.zero_add, Nat.add_zero, IfB_t, IfB_f, Gd_t, Gd_f, Ld_ptr, LdN_ptr, Option.isNone_some, Option.isNone_none, Option.isSome_some, Option.isSome_none, Bool.not_true, Bool.not_false, drew_cell, drew_heap, Bool.not_true, cond_true]
      exact good w7 hP7 hx7 (own_keep ho6 hf7 (fun _ _ _ _ e => e)) hF7

/-! ### The document's three changes -/
theorem bs22c (x : Bs) (w : World) : CellsAt (w.alloc (.cells #[stv x] 9)) (.slice (some ⟨w.heap.size, 0, none⟩) 1 1) [x].length 1 ([x].map stv) := by
  refine ⟨⟨_, 1, rfl, Nat.le_refl _, by simp [maxLen], (fun h => by cases h), fun j u hj => ?_⟩, rfl⟩
  have h0 := alloc_new w (.cells #[stv x] 9)
  cases j with
  | zero => cases hj; exact ⟨_, rfl, by rw [add_zero, cell_at h0]; rfl⟩
  | succ j => simp at hj
set_option maxHeartbeats 4000000 in
theorem rwith_spec {w : World} {cs : Array Value} {p : Pg} (h : PgAs w cs p) {i : Int} {x : Bs} (hx : x.length ≤ 140737488355328) :
    Cl Tryd.prog 34 [.agg cs, iv i, stv x] w fun r w' => ∃ cs', r = .tuple #[.agg cs', iv (withP p i x).2] ∧ PgFr w' w.heap.size cs' (withP p i x).1 ∧ Fm (fun _ => False) w w' := by
  obtain ⟨v, hcs, hone, hc⟩ := h.ex
  refine c34 ?_; unfold T34
  refine New_any ?_
  intro x3 w1 hx3 hs1 hw1 hf1
  refine New_any ?_
  intro x6 w2 hx6 hs2 hw2 hf2
  have hP2 : PB w2 x3 p v := by rw [PB, ← hcs]; exact hf2.heap hw1 (fun e => e)
  have hF2 := Fmf hf1 hf2
  have hxw : x3 = w.heap.size ∧ x6 = w.heap.size + 1 ∧ w2.heap.size = w.heap.size + 2 := by omega
  unfold withP
  have bad : RunS Tryd.prog (Instr.build 24 #[]) w2 (fun t17_17 w_18 =>
      St 6 w_18 (pv x6) t17_17 fun u_19 w_20 =>
      RetO (resL Tryd.prog (fun j => bif Nat.beq j 6 then pv x6 else bif Nat.beq j 7 then (Value.int IntKind.i64 1) else undef) w_20 [(ResultVar.cell 6 24), (ResultVar.tmp 7)]) w_20 (fun r w' => ∃ cs', r = .tuple #[.agg cs', iv 1] ∧ PgFr w' w.heap.size cs' pg0 ∧ Fm (fun _ => False) w w')) := by
    refine RunS_ok (bld24z _) ?_
    refine St_all hw2 rfl rfl zone24 ?_
    intro w5 hw5 hs5 hf5
    exact retPg (g := x6) (i := 6) (j := 7) (u := iv 1) hw5 rfl rfl rfl _ ⟨_, rfl, PgFr.zero _ _, Fm.own hF2 hf5 (by rintro y rfl; omega)⟩
  simp only [Pu_some, extV_0, extV_1, extV_2, extV_3, nilV_ptr, nilV_fn, faV_ptr, lenV_sl, lenS_s, capV_sl, pickV_t, pickV_f, unV_not, unV_neg, isB_t, isB_f, isB_u, binV_add, binV_sub, binV_mul, binV_eql, binV_neq, binV_lss, binV_leq, binV_gtr, binV_geq, binV_seql, binV_sneq, binV_slss, binV_beql, binV_bneq, binV_peql, binV_pneq, add_add, add_none, Go.Al.add_zero, Nat.zero_add, Nat.add_zero, IfB_t, IfB_f, Gd_t, Gd_f, Ld_ptr, LdN_ptr, Option.isNone_some, Option.isNone_none, Option.isSome_some, Option.isSome_none, Bool.not_true, Bool.not_false, drew_cell, drew_heap]
  cases h1 : decide (i < 0) with
  | true => simp only [Pu_some, extV_0, extV_1, extV_2, extV_3, nilV_ptr, nilV_fn, faV_ptr, lenV_sl, lenS_s, capV_sl, pickV_t, pickV_f, unV_not, unV_neg, isB_t, isB_f, isB_u, binV_add, binV_sub, binV_mul, binV_eql, binV_neq, binV_lss, binV_leq, binV_gtr, binV_geq, binV_seql, binV_sneq, binV_slss, binV_beql, binV_bneq, binV_peql, binV_pneq, add_add, add_none, Go.Al.add_zero, Nat.zero_add, Nat.add_zero, IfB_t, IfB_f, Gd_t, Gd_f, Ld_ptr, LdN_ptr, Option.isNone_some, Option.isNone_none, Option.isSome_some, Option.isSome_none, Bool.not_true, Bool.not_false, drew_cell, drew_heap, Bool.true_or, cond_true]; exact bad
  | false =>
  simp only [Pu_some, extV_0, extV_1, extV_2, extV_3, nilV_ptr, nilV_fn, faV_ptr, lenV_sl, lenS_s, capV_sl, pickV_t, pickV_f, unV_not, unV_neg, isB_t, isB_f, isB_u, binV_add, binV_sub, binV_mul, binV_eql, binV_neq, binV_lss, binV_leq, binV_gtr, binV_geq, binV_seql, binV_sneq, binV_slss, binV_beql, binV_bneq, binV_peql, binV_pneq, add_add, add_none, Go.Al.add_zero, Nat.zero_add, Nat.add_zero, IfB_t, IfB_f, Gd_t, Gd_f, Ld_ptr, LdN_ptr, Option.isNone_some, Option.isNone_none, Option.isSome_some, Option.isSome_none, Bool.not_true, Bool.not_false, drew_cell, drew_heap, hP2.c5, hc.lenV]
  cases h2 : decide ((p.items.length : Int) ≤ i) with
  | true => simp only [Pu_some, extV_0, extV_1, extV_2, extV_3, nilV_ptr, nilV_fn, faV_ptr, lenV_sl, lenS_s, capV_sl, pickV_t, pickV_f, unV_not, unV_neg, isB_t, isB_f, isB_u, binV_add, binV_sub, binV_mul, binV_eql, binV_neq, binV_lss, binV_leq, binV_gtr, binV_geq, binV_seql, binV_sneq, binV_slss, binV_beql, binV_bneq, binV_peql, binV_pneq, add_add, add_none, Go.Al.add_zero, Nat.zero_add, Nat.add_zero, IfB_t, IfB_f, Gd_t, Gd_f, Ld_ptr, LdN_ptr, Option.isNone_some, Option.isNone_none, Option.isSome_some, Option.isSome_none, Bool.not_true, Bool.not_false, drew_cell, drew_heap, Bool.or_true, cond_true]; exact bad
  | false =>
  rw [decide_eq_false_iff_not] at h1 h2
  obtain ⟨j, rfl⟩ := Int.eq_ofNat_of_zero_le (show 0 ≤ i by omega)
  have hj : j < p.items.length := by omega
  have hil := h.ins.2.2.2.2.2
  simp only [Pu_some, extV_0, extV_1, extV_2, extV_3, nilV_ptr, nilV_fn, faV_ptr, lenV_sl, lenS_s, capV_sl, pickV_t, pickV_f, unV_not, unV_neg, isB_t, isB_f, isB_u, binV_add, binV_sub, binV_mul, binV_eql, binV_neq, binV_lss, binV_leq, binV_gtr, binV_geq, binV_seql, binV_sneq, binV_slss, binV_beql, binV_bneq, binV_peql, binV_pneq, add_add, add_none, Go.Al.add_zero, Nat.zero_add, Nat.add_zero, IfB_t, IfB_f, Gd_t, Gd_f, Ld_ptr, LdN_ptr, Option.isNone_some, Option.isNone_none, Option.isSome_some, Option.isSome_none, Bool.not_true, Bool.not_false, drew_cell, drew_heap, Bool.or_false, cond_false]
  have hf3 := Fm.drew (fun _ => False) w2
  have hP3 : PB w2.drew x3 p v := hP2.keep hf3 (fun e => e)
  have hx63 : w2.drew.heap[x6]? = some (.cells #[iv 0, iv 0, iv 0, iv 0, stv [], .slice none 0 0] 24) := hw2
  have hF3 := Fmf hF2 hf3
  have hs3 : w2.drew.heap.size = w.heap.size + 2 := hxw.2.2
  refine ⟨fun w => PB w x3 p v, hP3, ?_⟩
  generalize w2.drew = w3 at hf3 hP3 hx63 hF3 hs3
  have hc3 := hc.keep hF3 (fun _ _ e => e)
  have e1 : IntKind.i64.wrap ((j : Int) + 1) = ((j + 1 : Nat) : Int) := by rw [wrap_id] <;> omega
  obtain ⟨va, hva, hca, _⟩ := hc3.hi (i := j) (by omega) .i64
  obtain ⟨vb, hvb, hcb, _⟩ := hc3.lo (i := j + 1) (by omega) .i64
  rw [Nat.mul_one, ← List.map_take] at hca
  rw [Nat.mul_one, ← List.map_drop] at hcb
  refine ⟨.agg (pcs p v), fun w6 h6 => ?_, ?_⟩
  · simp only [Pu_some, extV_0, extV_1, extV_2, extV_3, nilV_ptr, nilV_fn, faV_ptr, lenV_sl, lenS_s, capV_sl, pickV_t, pickV_f, unV_not, unV_neg, isB_t, isB_f, isB_u, binV_add, binV_sub, binV_mul, binV_eql, binV_neq, binV_lss, binV_leq, binV_gtr, binV_geq, binV_seql, binV_sneq, binV_slss, binV_beql, binV_bneq, binV_peql, binV_pneq, add_add, add_none, Go.Al.add_zero, Nat.zero_add, Nat.add_zero, IfB_t, IfB_f, Gd_t, Gd_f, Ld_ptr, LdN_ptr, Option.isNone_some, Option.isNone_none, Option.isSome_some, Option.isSome_none, Bool.not_true, Bool.not_false, drew_cell, drew_heap, h6.all]; trivial
  simp only [Pu_some, extV_0, extV_1, extV_2, extV_3, nilV_ptr, nilV_fn, faV_ptr, lenV_sl, lenS_s, capV_sl, pickV_t, pickV_f, unV_not, unV_neg, isB_t, isB_f, isB_u, binV_add, binV_sub, binV_mul, binV_eql, binV_neq, binV_lss, binV_leq, binV_gtr, binV_geq, binV_seql, binV_sneq, binV_slss, binV_beql, binV_bneq, binV_peql, binV_pneq, add_add, add_none, Go.Al.add_zero, Nat.zero_add, Nat.add_zero, IfB_t, IfB_f, Gd_t, Gd_f, Ld_ptr, LdN_ptr, Option.isNone_some, Option.isNone_none, Option.isSome_some, Option.isSome_none, Bool.not_true, Bool.not_false, drew_cell, drew_heap]
  refine ⟨v, fun w6 h6 => ?_, ?_⟩
  · simp only [Pu_some, extV_0, extV_1, extV_2, extV_3, nilV_ptr, nilV_fn, faV_ptr, lenV_sl, lenS_s, capV_sl, pickV_t, pickV_f, unV_not, unV_neg, isB_t, isB_f, isB_u, binV_add, binV_sub, binV_mul, binV_eql, binV_neq, binV_lss, binV_leq, binV_gtr, binV_geq, binV_seql, binV_sneq, binV_slss, binV_beql, binV_bneq, binV_peql, binV_pneq, add_add, add_none, Go.Al.add_zero, Nat.zero_add, Nat.add_zero, IfB_t, IfB_f, Gd_t, Gd_f, Ld_ptr, LdN_ptr, Option.isNone_some, Option.isNone_none, Option.isSome_some, Option.isSome_none, Bool.not_true, Bool.not_false, drew_cell, drew_heap, h6.c5]; trivial
  simp only [Pu_some, extV_0, extV_1, extV_2, extV_3, nilV_ptr, nilV_fn, faV_ptr, lenV_sl, lenS_s, capV_sl, pickV_t, pickV_f, unV_not, unV_neg, isB_t, isB_f, isB_u, binV_add, binV_sub, binV_mul, binV_eql, binV_neq, binV_lss, binV_leq, binV_gtr, binV_geq, binV_seql, binV_sneq, binV_slss, binV_beql, binV_bneq, binV_peql, binV_pneq, add_add, add_none, Go.Al.add_zero, Nat.zero_add, Nat.add_zero, IfB_t, IfB_f, Gd_t, Gd_f, Ld_ptr, LdN_ptr, Option.isNone_some, Option.isNone_none, Option.isSome_some, Option.isSome_none, Bool.not_true, Bool.not_false, drew_cell, drew_heap, hva]
  refine ⟨v, fun w6 h6 => ?_, ?_⟩
  · simp only [Pu_some, extV_0, extV_1, extV_2, extV_3, nilV_ptr, nilV_fn, faV_ptr, lenV_sl, lenS_s, capV_sl, pickV_t, pickV_f, unV_not, unV_neg, isB_t, isB_f, isB_u, binV_add, binV_sub, binV_mul, binV_eql, binV_neq, binV_lss, binV_leq, binV_gtr, binV_geq, binV_seql, binV_sneq, binV_slss, binV_beql, binV_bneq, binV_peql, binV_pneq, add_add, add_none, Go.Al.add_zero, Nat.zero_add, Nat.add_zero, IfB_t, IfB_f, Gd_t, Gd_f, Ld_ptr, LdN_ptr, Option.isNone_some, Option.isNone_none, Option.isSome_some, Option.isSome_none, Bool.not_true, Bool.not_false, drew_cell, drew_heap, h6.c5]; trivial
  simp only [Pu_some, extV_0, extV_1, extV_2, extV_3, nilV_ptr, nilV_fn, faV_ptr, lenV_sl, lenS_s, capV_sl, pickV_t, pickV_f, unV_not, unV_neg, isB_t, isB_f, isB_u, binV_add, binV_sub, binV_mul, binV_eql, binV_neq, binV_lss, binV_leq, binV_gtr, binV_geq, binV_seql, binV_sneq, binV_slss, binV_beql, binV_bneq, binV_peql, binV_pneq, add_add, add_none, Go.Al.add_zero, Nat.zero_add, Nat.add_zero, IfB_t, IfB_f, Gd_t, Gd_f, Ld_ptr, LdN_ptr, Option.isNone_some, Option.isNone_none, Option.isSome_some, Option.isSome_none, Bool.not_true, Bool.not_false, drew_cell, drew_heap, e1, hvb]
  refine RunS_ok (bs22 x w3) ⟨hP3.keep (Fm.alloc (fun _ => False) _ _) (fun e => e), ?_⟩
  have hf4 := Fm.alloc (fun _ => False) w3 (.cells #[stv x] 9)
  have hcx := bs22c x w3
  generalize w3.alloc (.cells #[stv x] 9) = w4 at hf4 hcx
  have hF4 := Fmf hF3 hf4
  have hx64 := hf4.heap hx63 (fun e => e)
  have hta : (p.items.take j).length = j := by rw [List.length_take]; omega
  have htb : (p.items.drop (j + 1)).length = p.items.length - (j + 1) := by rw [List.length_drop]
  have hset : p.items.take j ++ [x] ++ p.items.drop (j + 1) = p.items.set j x := by
    rw [List.set_eq_take_append_cons_drop, if_pos hj]; simp
  refine (changed_spec (show PgAs w4 (pcs p v) p from hcs ▸ h.keep hF4) (la := p.items.take j) (lb := [x]) (lc := p.items.drop (j + 1)) (by rw [hta]; exact hca.keep hf4 (fun _ _ e => e)) hcx (by rw [htb]; exact hcb.keep hf4 (fun _ _ e => e)) true ?_ ?_).mono ?_
  · rw [hset]
    intro y hy
    rcases List.mem_or_eq_of_mem_set hy with hy | rfl
    · exact h.small y hy
    · exact hx
  · rw [hta, htb]; show (j + 1 + (p.items.length - (j + 1))) * 16 ≤ _; omega
  rw [hset, changed_more]
  rintro _ w8 ⟨cs', rfl, hfr, hf8⟩
  have hx68 := hf8.heap hx64 (fun e => e)
  have hF8 := Fmf hF4 hf8
  simp only [Pu_some, extV_0, extV_1, extV_2, extV_3, nilV_ptr, nilV_fn, faV_ptr, lenV_sl, lenS_s, capV_sl, pickV_t, pickV_f, unV_not, unV_neg, isB_t, isB_f, isB_u, binV_add, binV_sub, binV_mul, binV_eql, binV_neq, binV_lss, binV_leq, binV_gtr, binV_geq, binV_seql, binV_sneq, binV_slss, binV_beql, binV_bneq, binV_peql, binV_pneq, add_add, add_none, Go.Al.add_zero, Nat.zero_add, Nat.add_zero, IfB_t, IfB_f, Gd_t, Gd_f, Ld_ptr, LdN_ptr, Option.isNone_some, Option.isNone_none, Option.isSome_some, Option.isSome_none, Bool.not_true, Bool.not_false, drew_cell, drew_heap]
  refine St_all hx68 rfl hfr.size hfr.one ?_
  intro w9 hw9 hs9 hf9
  refine retPg (g := x6) (i := 6) (j := 7) (u := iv (turnedP p (p.items.set j x)).2) hw9 hfr.size rfl rfl _ ⟨_, rfl, ?_, Fm.own hF8 hf9 (by rintro y rfl; omega)⟩
  have hz4 := hf4.size
  obtain ⟨v', e1, e2, e3, e4⟩ := hfr
  exact ⟨v', e1, e2, e3.keepAny hf9 (fun hne g hg e => by have := e4 (by simpa using hne) g hg; omega), fun hn g hg => by have := e4 hn g hg; omega⟩
set_option maxHeartbeats 4000000 in
theorem rput_spec {w : World} {cs : Array Value} {p : Pg} (h : PgAs w cs p) (hl : p.items.length * 16 ≤ 140737488351232) {i : Int} {x : Bs} (hx : x.length ≤ 140737488355328) :
    Cl Tryd.prog 35 [.agg cs, iv i, stv x] w fun r w' => ∃ cs', r = .tuple #[.agg cs', iv (putP p i x).2] ∧ PgFr w' w.heap.size cs' (putP p i x).1 ∧ Fm (fun _ => False) w w' := by
  obtain ⟨v, hcs, hone, hc⟩ := h.ex
  refine c35 ?_; unfold T35
  refine New_any ?_
  intro x3 w1 hx3 hs1 hw1 hf1
  refine New_any ?_
  intro x6 w2 hx6 hs2 hw2 hf2
  have hP2 : PB w2 x3 p v := by rw [PB, ← hcs]; exact hf2.heap hw1 (fun e => e)
  have hF2 := Fmf hf1 hf2
  have hxw : x3 = w.heap.size ∧ x6 = w.heap.size + 1 ∧ w2.heap.size = w.heap.size + 2 := by omega
  unfold putP
  have bad : RunS Tryd.prog (Instr.build 24 #[]) w2 (fun t17_17 w_18 =>
      St 6 w_18 (pv x6) t17_17 fun u_19 w_20 =>
      RetO (resL Tryd.prog (fun j => bif Nat.beq j 6 then pv x6 else bif Nat.beq j 7 then (Value.int IntKind.i64 1) else undef) w_20 [(ResultVar.cell 6 24), (ResultVar.tmp 7)]) w_20 (fun r w' => ∃ cs', r = .tuple #[.agg cs', iv 1] ∧ PgFr w' w.heap.size cs' pg0 ∧ Fm (fun _ => False) w w')) := by
    refine RunS_ok (bld24z _) ?_
    refine St_all hw2 rfl rfl zone24 ?_
    intro w5 hw5 hs5 hf5
    exact retPg (g := x6) (i := 6) (j := 7) (u := iv 1) hw5 rfl rfl rfl _ ⟨_, rfl, PgFr.zero _ _, Fm.own hF2 hf5 (by rintro y rfl; omega)⟩
  simp only [Pu_some, extV_0, extV_1, extV_2, extV_3, nilV_ptr, nilV_fn, faV_ptr, lenV_sl, lenS_s, capV_sl, pickV_t, pickV_f, unV_not, unV_neg, isB_t, isB_f, isB_u, binV_add, binV_sub, binV_mul, binV_eql, binV_neq, binV_lss, binV_leq, binV_gtr, binV_geq, binV_seql, binV_sneq, binV_slss, binV_beql, binV_bneq, binV_peql, binV_pneq, add_add, add_none, Go.Al.add_zero, Nat.zero_add, Nat.add_zero, IfB_t, IfB_f, Gd_t, Gd_f, Ld_ptr, LdN_ptr, Option.isNone_some, Option.isNone_none, Option.isSome_some, Option.isSome_none, Bool.not_true, Bool.not_false, drew_cell, drew_heap]
  cases h1 : decide (i < 0) with
  | true => simp only [Pu_some, extV_0, extV_1, extV_2, extV_3, nilV_ptr, nilV_fn, faV_ptr, lenV_sl, lenS_s, capV_sl, pickV_t, pickV_f, unV_not, unV_neg, isB_t, isB_f, isB_u, binV_add, binV_sub, binV_mul, binV_eql, binV_neq, binV_lss, binV_leq, binV_gtr, binV_geq, binV_seql, binV_sneq, binV_slss, binV_beql, binV_bneq, binV_peql, binV_pneq, add_add, add_none, Go.Al.add_zero, Nat.zero_add, Nat.add_zero, IfB_t, IfB_f, Gd_t, Gd_f, Ld_ptr, LdN_ptr, Option.isNone_some, Option.isNone_none, Option.isSome_some, Option.isSome_none, Bool.not_true, Bool.not_false, drew_cell, drew_heap, Bool.true_or, cond_true]; exact bad
  | false =>
  simp only [Pu_some, extV_0, extV_1, extV_2, extV_3, nilV_ptr, nilV_fn, faV_ptr, lenV_sl, lenS_s, capV_sl, pickV_t, pickV_f, unV_not, unV_neg, isB_t, isB_f, isB_u, binV_add, binV_sub, binV_mul, binV_eql, binV_neq, binV_lss, binV_leq, binV_gtr, binV_geq, binV_seql, binV_sneq, binV_slss, binV_beql, binV_bneq, binV_peql, binV_pneq, add_add, add_none, Go.Al.add_zero, Nat.zero_add, Nat.add_zero, IfB_t, IfB_f, Gd_t, Gd_f, Ld_ptr, LdN_ptr, Option.isNone_some, Option.isNone_none, Option.isSome_some, Option.isSome_none, Bool.not_true, Bool.not_false, drew_cell, drew_heap, hP2.c5, hc.lenV]
  cases h2 : decide ((p.items.length : Int) < i) with
  | true => simp only [Pu_some, extV_0, extV_1, extV_2, extV_3, nilV_ptr, nilV_fn, faV_ptr, lenV_sl, lenS_s, capV_sl, pickV_t, pickV_f, unV_not, unV_neg, isB_t, isB_f, isB_u, binV_add, binV_sub, binV_mul, binV_eql, binV_neq, binV_lss, binV_leq, binV_gtr, binV_geq, binV_seql, binV_sneq, binV_slss, binV_beql, binV_bneq, binV_peql, binV_pneq, add_add, add_none, Go.Al.add_zero, Nat.zero_add, Nat.add_zero, IfB_t, IfB_f, Gd_t, Gd_f, Ld_ptr, LdN_ptr, Option.isNone_some, Option.isNone_none, Option.isSome_some, Option.isSome_none, Bool.not_true, Bool.not_false, drew_cell, drew_heap, Bool.or_true, cond_true]; exact bad
  | false =>
  rw [decide_eq_false_iff_not] at h1 h2
  obtain ⟨j, rfl⟩ := Int.eq_ofNat_of_zero_le (show 0 ≤ i by omega)
  have hj : j ≤ p.items.length := by omega
  simp only [Pu_some, extV_0, extV_1, extV_2, extV_3, nilV_ptr, nilV_fn, faV_ptr, lenV_sl, lenS_s, capV_sl, pickV_t, pickV_f, unV_not, unV_neg, isB_t, isB_f, isB_u, binV_add, binV_sub, binV_mul, binV_eql, binV_neq, binV_lss, binV_leq, binV_gtr, binV_geq, binV_seql, binV_sneq, binV_slss, binV_beql, binV_bneq, binV_peql, binV_pneq, add_add, add_none, Go.Al.add_zero, Nat.zero_add, Nat.add_zero, IfB_t, IfB_f, Gd_t, Gd_f, Ld_ptr, LdN_ptr, Option.isNone_some, Option.isNone_none, Option.isSome_some, Option.isSome_none, Bool.not_true, Bool.not_false, drew_cell, drew_heap, Bool.or_false, cond_false]
  have hf3 := Fm.drew (fun _ => False) w2
  have hP3 : PB w2.drew x3 p v := hP2.keep hf3 (fun e => e)
  have hx63 : w2.drew.heap[x6]? = some (.cells #[iv 0, iv 0, iv 0, iv 0, stv [], .slice none 0 0] 24) := hw2
  have hF3 := Fmf hF2 hf3
  have hs3 : w2.drew.heap.size = w.heap.size + 2 := hxw.2.2
  refine ⟨fun w => PB w x3 p v, hP3, ?_⟩
  generalize w2.drew = w3 at hf3 hP3 hx63 hF3 hs3
  have hc3 := hc.keep hF3 (fun _ _ e => e)
  obtain ⟨va, hva, hca, _⟩ := hc3.hi (i := j) (by omega) .i64
  obtain ⟨vb, hvb, hcb, _⟩ := hc3.lo (i := j) (by omega) .i64
  rw [Nat.mul_one, ← List.map_take] at hca
  rw [Nat.mul_one, ← List.map_drop] at hcb
  refine ⟨.agg (pcs p v), fun w6 h6 => ?_, ?_⟩
  · simp only [Pu_some, extV_0, extV_1, extV_2, extV_3, nilV_ptr, nilV_fn, faV_ptr, lenV_sl, lenS_s, capV_sl, pickV_t, pickV_f, unV_not, unV_neg, isB_t, isB_f, isB_u, binV_add, binV_sub, binV_mul, binV_eql, binV_neq, binV_lss, binV_leq, binV_gtr, binV_geq, binV_seql, binV_sneq, binV_slss, binV_beql, binV_bneq, binV_peql, binV_pneq, add_add, add_none, Go.Al.add_zero, Nat.zero_add, Nat.add_zero, IfB_t, IfB_f, Gd_t, Gd_f, Ld_ptr, LdN_ptr, Option.isNone_some, Option.isNone_none, Option.isSome_some, Option.isSome_none, Bool.not_true, Bool.not_false, drew_cell, drew_heap, h6.all]; trivial
  simp only [Pu_some, extV_0, extV_1, extV_2, extV_3, nilV_ptr, nilV_fn, faV_ptr, lenV_sl, lenS_s, capV_sl, pickV_t, pickV_f, unV_not, unV_neg, isB_t, isB_f, isB_u, binV_add, binV_sub, binV_mul, binV_eql, binV_neq, binV_lss, binV_leq, binV_gtr, binV_geq, binV_seql, binV_sneq, binV_slss, binV_beql, binV_bneq, binV_peql, binV_pneq, add_add, add_none, Go.Al.add_zero, Nat.zero_add, Nat.add_zero, IfB_t, IfB_f, Gd_t, Gd_f, Ld_ptr, LdN_ptr, Option.isNone_some, Option.isNone_none, Option.isSome_some, Option.isSome_none, Bool.not_true, Bool.not_false, drew_cell, drew_heap]
  refine ⟨v, fun w6 h6 => ?_, ?_⟩
  · simp only [Pu_some, extV_0, extV_1, extV_2, extV_3, nilV_ptr, nilV_fn, faV_ptr, lenV_sl, lenS_s, capV_sl, pickV_t, pickV_f, unV_not, unV_neg, isB_t, isB_f, isB_u, binV_add, binV_sub, binV_mul, binV_eql, binV_neq, binV_lss, binV_leq, binV_gtr, binV_geq, binV_seql, binV_sneq, binV_slss, binV_beql, binV_bneq, binV_peql, binV_pneq, add_add, add_none, Go.Al.add_zero, Nat.zero_add, Nat.add_zero, IfB_t, IfB_f, Gd_t, Gd_f, Ld_ptr, LdN_ptr, Option.isNone_some, Option.isNone_none, Option.isSome_some, Option.isSome_none, Bool.not_true, Bool.not_false, drew_cell, drew_heap, h6.c5]; trivial
  simp only [Pu_some, extV_0, extV_1, extV_2, extV_3, nilV_ptr, nilV_fn, faV_ptr, lenV_sl, lenS_s, capV_sl, pickV_t, pickV_f, unV_not, unV_neg, isB_t, isB_f, isB_u, binV_add, binV_sub, binV_mul, binV_eql, binV_neq, binV_lss, binV_leq, binV_gtr, binV_geq, binV_seql, binV_sneq, binV_slss, binV_beql, binV_bneq, binV_peql, binV_pneq, add_add, add_none, Go.Al.add_zero, Nat.zero_add, Nat.add_zero, IfB_t, IfB_f, Gd_t, Gd_f, Ld_ptr, LdN_ptr, Option.isNone_some, Option.isNone_none, Option.isSome_some, Option.isSome_none, Bool.not_true, Bool.not_false, drew_cell, drew_heap, hva]
  refine ⟨v, fun w6 h6 => ?_, ?_⟩
  · simp only [Pu_some, extV_0, extV_1, extV_2, extV_3, nilV_ptr, nilV_fn, faV_ptr, lenV_sl, lenS_s, capV_sl, pickV_t, pickV_f, unV_not, unV_neg, isB_t, isB_f, isB_u, binV_add, binV_sub, binV_mul, binV_eql, binV_neq, binV_lss, binV_leq, binV_gtr, binV_geq, binV_seql, binV_sneq, binV_slss, binV_beql, binV_bneq, binV_peql, binV_pneq, add_add, add_none, Go.Al.add_zero, Nat.zero_add, Nat.add_zero, IfB_t, IfB_f, Gd_t, Gd_f, Ld_ptr, LdN_ptr, Option.isNone_some, Option.isNone_none, Option.isSome_some, Option.isSome_none, Bool.not_true, Bool.not_false, drew_cell, drew_heap, h6.c5]; trivial
  simp only [Pu_some, extV_0, extV_1, extV_2, extV_3, nilV_ptr, nilV_fn, faV_ptr, lenV_sl, lenS_s, capV_sl, pickV_t, pickV_f, unV_not, unV_neg, isB_t, isB_f, isB_u, binV_add, binV_sub, binV_mul, binV_eql, binV_neq, binV_lss, binV_leq, binV_gtr, binV_geq, binV_seql, binV_sneq, binV_slss, binV_beql, binV_bneq, binV_peql, binV_pneq, add_add, add_none, Go.Al.add_zero, Nat.zero_add, Nat.add_zero, IfB_t, IfB_f, Gd_t, Gd_f, Ld_ptr, LdN_ptr, Option.isNone_some, Option.isNone_none, Option.isSome_some, Option.isSome_none, Bool.not_true, Bool.not_false, drew_cell, drew_heap, hvb]
  refine RunS_ok (bs22 x w3) ⟨hP3.keep (Fm.alloc (fun _ => False) _ _) (fun e => e), ?_⟩
  have hf4 := Fm.alloc (fun _ => False) w3 (.cells #[stv x] 9)
  have hcx := bs22c x w3
  generalize w3.alloc (.cells #[stv x] 9) = w4 at hf4 hcx
  have hF4 := Fmf hF3 hf4
  have hx64 := hf4.heap hx63 (fun e => e)
  have hta : (p.items.take j).length = j := by rw [List.length_take]; omega
  have htb : (p.items.drop j).length = p.items.length - j := by rw [List.length_drop]
  have hset : p.items.take j ++ [x] ++ p.items.drop j = insAt p.items j x := rfl
  refine (changed_spec (show PgAs w4 (pcs p v) p from hcs ▸ h.keep hF4) (la := p.items.take j) (lb := [x]) (lc := p.items.drop j) (by rw [hta]; exact hca.keep hf4 (fun _ _ e => e)) hcx (by rw [htb]; exact hcb.keep hf4 (fun _ _ e => e)) true ?_ ?_).mono ?_
  · intro y hy
    rcases List.mem_append.1 hy with hy | hy
    · rcases List.mem_append.1 hy with hy | hy
      · exact h.small y (List.mem_of_mem_take hy)
      · obtain rfl : y = x := by simpa using hy
        exact hx
    · exact h.small y (List.mem_of_mem_drop hy)
  · rw [hta, htb]; show (j + 1 + (p.items.length - j)) * 16 ≤ _; omega
  rw [hset, changed_more]
  rintro _ w8 ⟨cs', rfl, hfr, hf8⟩
  have hx68 := hf8.heap hx64 (fun e => e)
  have hF8 := Fmf hF4 hf8
  simp only [Pu_some, extV_0, extV_1, extV_2, extV_3, nilV_ptr, nilV_fn, faV_ptr, lenV_sl, lenS_s, capV_sl, pickV_t, pickV_f, unV_not, unV_neg, isB_t, isB_f, isB_u, binV_add, binV_sub, binV_mul, binV_eql, binV_neq, binV_lss, binV_leq, binV_gtr, binV_geq, binV_seql, binV_sneq, binV_slss, binV_beql, binV_bneq, binV_peql, binV_pneq, add_add, add_none, Go.Al.add_zero, Nat.zero_add, Nat.add_zero, IfB_t, IfB_f, Gd_t, Gd_f, Ld_ptr, LdN_ptr, Option.isNone_some, Option.isNone_none, Option.isSome_some, Option.isSome_none, Bool.not_true, Bool.not_false, drew_cell, drew_heap]
  refine St_all hx68 rfl hfr.size hfr.one ?_
  intro w9 hw9 hs9 hf9
  refine retPg (g := x6) (i := 6) (j := 7) (u := iv (turnedP p (insAt p.items j x)).2) hw9 hfr.size rfl rfl _ ⟨_, rfl, ?_, Fm.own hF8 hf9 (by rintro y rfl; omega)⟩
  have hz4 := hf4.size
  obtain ⟨v', e1, e2, e3, e4⟩ := hfr
  exact ⟨v', e1, e2, e3.keepAny hf9 (fun hne g hg e => by have := e4 (by simpa using hne) g hg; omega), fun hn g hg => by have := e4 hn g hg; omega⟩
set_option maxHeartbeats 4000000 in
theorem rout_spec {w : World} {cs : Array Value} {p : Pg} (h : PgAs w cs p) {i : Int} :
    Cl Tryd.prog 36 [.agg cs, iv i] w fun r w' => ∃ cs', r = .tuple #[.agg cs', iv (outP p i).2] ∧ PgFr w' w.heap.size cs' (outP p i).1 ∧ Fm (fun _ => False) w w' := by
  obtain ⟨v, hcs, hone, hc⟩ := h.ex
  refine c36 ?_; unfold T36
  refine New_any ?_
  intro x3 w1 hx3 hs1 hw1 hf1
  refine New_any ?_
  intro x6 w2 hx6 hs2 hw2 hf2
  have hP2 : PB w2 x3 p v := by rw [PB, ← hcs]; exact hf2.heap hw1 (fun e => e)
  have hF2 := Fmf hf1 hf2
  have hxw : x3 = w.heap.size ∧ x6 = w.heap.size + 1 ∧ w2.heap.size = w.heap.size + 2 := by omega
  unfold outP
  have bad : RunS Tryd.prog (Instr.build 24 #[]) w2 (fun t17_17 w_18 =>
      St 6 w_18 (pv x6) t17_17 fun u_19 w_20 =>
      RetO (resL Tryd.prog (fun j => bif Nat.beq j 4 then pv x6 else bif Nat.beq j 5 then (Value.int IntKind.i64 1) else undef) w_20 [(ResultVar.cell 4 24), (ResultVar.tmp 5)]) w_20 (fun r w' => ∃ cs', r = .tuple #[.agg cs', iv 1] ∧ PgFr w' w.heap.size cs' pg0 ∧ Fm (fun _ => False) w w')) := by
    refine RunS_ok (bld24z _) ?_
    refine St_all hw2 rfl rfl zone24 ?_
    intro w5 hw5 hs5 hf5
    exact retPg (g := x6) (i := 4) (j := 5) (u := iv 1) hw5 rfl rfl rfl _ ⟨_, rfl, PgFr.zero _ _, Fm.own hF2 hf5 (by rintro y rfl; omega)⟩
  simp only [Pu_some, extV_0, extV_1, extV_2, extV_3, nilV_ptr, nilV_fn, faV_ptr, lenV_sl, lenS_s, capV_sl, pickV_t, pickV_f, unV_not, unV_neg, isB_t, isB_f, isB_u, binV_add, binV_sub, binV_mul, binV_eql, binV_neq, binV_lss, binV_leq, binV_gtr, binV_geq, binV_seql, binV_sneq, binV_slss, binV_beql, binV_bneq, binV_peql, binV_pneq, add_add, add_none, Go.Al.add_zero, Nat.zero_add, Nat.add_zero, IfB_t, IfB_f, Gd_t, Gd_f, Ld_ptr, LdN_ptr, Option.isNone_some, Option.isNone_none, Option.isSome_some, Option.isSome_none, Bool.not_true, Bool.not_false, drew_cell, drew_heap]
  cases h1 : decide (i < 0) with
  | true => simp only [Pu_some, extV_0, extV_1, extV_2, extV_3, nilV_ptr, nilV_fn, faV_ptr, lenV_sl, lenS_s, capV_sl, pickV_t, pickV_f, unV_not, unV_neg, isB_t, isB_f, isB_u, binV_add, binV_sub, binV_mul, binV_eql, binV_neq, binV_lss, binV_leq, binV_gtr, binV_geq, binV_seql, binV_sneq, binV_slss, binV_beql, binV_bneq, binV_peql, binV_pneq, add_add, add_none, Go.Al.add_zero, Nat.zero_add, Nat.add_zero, IfB_t, IfB_f, Gd_t, Gd_f, Ld_ptr, LdN_ptr, Option.isNone_some, Option.isNone_none, Option.isSome_some, Option.isSome_none, Bool.not_true, Bool.not_false, drew_cell, drew_heap, Bool.true_or, cond_true]; exact bad
  | false =>
  simp only [Pu_some, extV_0, extV_1, extV_2, extV_3, nilV_ptr, nilV_fn, faV_ptr, lenV_sl, lenS_s, capV_sl, pickV_t, pickV_f, unV_not, unV_neg, isB_t, isB_f, isB_u, binV_add, binV_sub, binV_mul, binV_eql, binV_neq, binV_lss, binV_leq, binV_gtr, binV_geq, binV_seql, binV_sneq, binV_slss, binV_beql, binV_bneq, binV_peql, binV_pneq, add_add, add_none, Go.Al.add_zero, Nat.zero_add, Nat.add_zero, IfB_t, IfB_f, Gd_t, Gd_f, Ld_ptr, LdN_ptr, Option.isNone_some, Option.isNone_none, Option.isSome_some, Option.isSome_none, Bool.not_true, Bool.not_false, drew_cell, drew_heap, hP2.c5, hc.lenV]
  cases h2 : decide ((p.items.length : Int) ≤ i) with
  | true => simp only [Pu_some, extV_0, extV_1, extV_2, extV_3, nilV_ptr, nilV_fn, faV_ptr, lenV_sl, lenS_s, capV_sl, pickV_t, pickV_f, unV_not, unV_neg, isB_t, isB_f, isB_u, binV_add, binV_sub, binV_mul, binV_eql, binV_neq, binV_lss, binV_leq, binV_gtr, binV_geq, binV_seql, binV_sneq, binV_slss, binV_beql, binV_bneq, binV_peql, binV_pneq, add_add, add_none, Go.Al.add_zero, Nat.zero_add, Nat.add_zero, IfB_t, IfB_f, Gd_t, Gd_f, Ld_ptr, LdN_ptr, Option.isNone_some, Option.isNone_none, Option.isSome_some, Option.isSome_none, Bool.not_true, Bool.not_false, drew_cell, drew_heap, Bool.or_true, cond_true]; exact bad
  | false =>
  rw [decide_eq_false_iff_not] at h1 h2
  obtain ⟨j, rfl⟩ := Int.eq_ofNat_of_zero_le (show 0 ≤ i by omega)
  have hj : j < p.items.length := by omega
  have hil := h.ins.2.2.2.2.2
  simp only [Pu_some, extV_0, extV_1, extV_2, extV_3, nilV_ptr, nilV_fn, faV_ptr, lenV_sl, lenS_s, capV_sl, pickV_t, pickV_f, unV_not, unV_neg, isB_t, isB_f, isB_u, binV_add, binV_sub, binV_mul, binV_eql, binV_neq, binV_lss, binV_leq, binV_gtr, binV_geq, binV_seql, binV_sneq, binV_slss, binV_beql, binV_bneq, binV_peql, binV_pneq, add_add, add_none, Go.Al.add_zero, Nat.zero_add, Nat.add_zero, IfB_t, IfB_f, Gd_t, Gd_f, Ld_ptr, LdN_ptr, Option.isNone_some, Option.isNone_none, Option.isSome_some, Option.isSome_none, Bool.not_true, Bool.not_false, drew_cell, drew_heap, Bool.or_false, cond_false]
  have hf3 := Fm.drew (fun _ => False) w2
  have hP3 : PB w2.drew x3 p v := hP2.keep hf3 (fun e => e)
  have hx63 : w2.drew.heap[x6]? = some (.cells #[iv 0, iv 0, iv 0, iv 0, stv [], .slice none 0 0] 24) := hw2
  have hF3 := Fmf hF2 hf3
  have hs3 : w2.drew.heap.size = w.heap.size + 2 := hxw.2.2
  generalize w2.drew = w3 at hf3 hP3 hx63 hF3 hs3
  have hc3 := hc.keep hF3 (fun _ _ e => e)
  have e1 : IntKind.i64.wrap ((j : Int) + 1) = ((j + 1 : Nat) : Int) := by rw [wrap_id] <;> omega
  obtain ⟨va, hva, hca, _⟩ := hc3.hi (i := j) (by omega) .i64
  obtain ⟨vb, hvb, hcb, _⟩ := hc3.lo (i := j + 1) (by omega) .i64
  rw [Nat.mul_one, ← List.map_take] at hca
  rw [Nat.mul_one, ← List.map_drop] at hcb
  simp only [Pu_some, extV_0, extV_1, extV_2, extV_3, nilV_ptr, nilV_fn, faV_ptr, lenV_sl, lenS_s, capV_sl, pickV_t, pickV_f, unV_not, unV_neg, isB_t, isB_f, isB_u, binV_add, binV_sub, binV_mul, binV_eql, binV_neq, binV_lss, binV_leq, binV_gtr, binV_geq, binV_seql, binV_sneq, binV_slss, binV_beql, binV_bneq, binV_peql, binV_pneq, add_add, add_none, Go.Al.add_zero, Nat.zero_add, Nat.add_zero, IfB_t, IfB_f, Gd_t, Gd_f, Ld_ptr, LdN_ptr, Option.isNone_some, Option.isNone_none, Option.isSome_some, Option.isSome_none, Bool.not_true, Bool.not_false, drew_cell, drew_heap, hP3.all, hP3.c5, hva, hvb, e1, true_and]
  have hta : (p.items.take j).length = j := by rw [List.length_take]; omega
  have htb : (p.items.drop (j + 1)).length = p.items.length - (j + 1) := by rw [List.length_drop]
  have hset : p.items.take j ++ [] ++ p.items.drop (j + 1) = p.items.eraseIdx j := by
    rw [List.append_nil, List.eraseIdx_eq_take_drop_succ]
  have hA3 : PgAs w3 (pcs p v) p := hcs ▸ h.keep hF3
  refine (changed_spec hA3 (la := p.items.take j) (lb := []) (lc := p.items.drop (j + 1)) (by rw [hta]; exact hca) (items_nil w3) (by rw [htb]; exact hcb) false ?_ ?_).mono ?_
  · rw [hset]
    intro y hy
    exact h.small y (List.mem_of_mem_eraseIdx hy)
  · rw [hta, htb]; show (j + 0 + (p.items.length - (j + 1))) * 16 ≤ _; omega
  rw [hset, changed_less]
  rintro _ w8 ⟨cs', rfl, hfr, hf8⟩
  have hx68 := hf8.heap hx63 (fun e => e)
  have hF8 := Fmf hF3 hf8
  simp only [Pu_some, extV_0, extV_1, extV_2, extV_3, nilV_ptr, nilV_fn, faV_ptr, lenV_sl, lenS_s, capV_sl, pickV_t, pickV_f, unV_not, unV_neg, isB_t, isB_f, isB_u, binV_add, binV_sub, binV_mul, binV_eql, binV_neq, binV_lss, binV_leq, binV_gtr, binV_geq, binV_seql, binV_sneq, binV_slss, binV_beql, binV_bneq, binV_peql, binV_pneq, add_add, add_none, Go.Al.add_zero, Nat.zero_add, Nat.add_zero, IfB_t, IfB_f, Gd_t, Gd_f, Ld_ptr, LdN_ptr, Option.isNone_some, Option.isNone_none, Option.isSome_some, Option.isSome_none, Bool.not_true, Bool.not_false, drew_cell, drew_heap]
  refine St_all hx68 rfl hfr.size hfr.one ?_
  intro w9 hw9 hs9 hf9
  refine retPg (g := x6) (i := 4) (j := 5) (u := iv 0) hw9 hfr.size rfl rfl _ ⟨_, rfl, ?_, Fm.own hF8 hf9 (by rintro y rfl; omega)⟩
  obtain ⟨v', e1, e2, e3, e4⟩ := hfr
  exact ⟨v', e1, e2, e3.keepAny hf9 (fun hne g hg e => by have := e4 (by simpa using hne) g hg; omega), fun hn g hg => by have := e4 hn g hg; omega⟩

/-! ### The law -/
def PgOk (p : Pg) : Prop := (∀ x ∈ p.items, x.length ≤ 140737488355328) ∧ (In p.lsn ∧ In p.kind ∧ In p.level ∧ In p.right ∧ p.high.length ≤ 140737488355328 ∧ p.items.length * 16 ≤ 140737488355328)
theorem PgFr.asOk {w : World} {base : Nat} {cs : Array Value} {p : Pg} (h : PgFr w base cs p) (hk : PgOk p) : PgAs w cs p := h.as hk.1 hk.2
theorem ok0 : PgOk pg0 := by simp [PgOk, pg0, In]
theorem okL {p : Pg} (h : PgOk p) {l : List Bs} (h1 : ∀ x ∈ l, x.length ≤ 140737488355328) (h2 : l.length * 16 ≤ 140737488355328) : PgOk (withL p l) := ⟨h1, h.2.1, h.2.2.1, h.2.2.2.1, h.2.2.2.2.1, h.2.2.2.2.2.1, h2⟩
theorem okT {p : Pg} (h : PgOk p) {l : List Bs} (h1 : ∀ x ∈ l, x.length ≤ 140737488355328) (h2 : l.length * 16 ≤ 140737488355328) : PgOk (turnedP p l).1 := by
  unfold turnedP
  cases fitsB (withL p l) with
  | true => exact okL h h1 h2
  | false => exact ok0
theorem okWith {p : Pg} (h : PgOk p) (i : Int) {x : Bs} (hx : x.length ≤ 140737488355328) : PgOk (withP p i x).1 := by
  unfold withP
  cases hb : decide (i < 0) || decide ((p.items.length : Int) ≤ i) with
  | true => exact ok0
  | false =>
    refine okT h (fun y hy => ?_) (by rw [List.length_set]; exact h.2.2.2.2.2.2)
    rcases List.mem_or_eq_of_mem_set hy with hy | rfl
    · exact h.1 y hy
    · exact hx
theorem okPut {p : Pg} (h : PgOk p) (hl : p.items.length * 16 ≤ 140737488351232) (i : Int) {x : Bs} (hx : x.length ≤ 140737488355328) : PgOk (putP p i x).1 := by
  unfold putP
  cases hb : decide (i < 0) || decide ((p.items.length : Int) < i) with
  | true => exact ok0
  | false =>
    have hle : i.toNat ≤ p.items.length := by
      rw [Bool.or_eq_false_iff, decide_eq_false_iff_not, decide_eq_false_iff_not] at hb; omega
    refine okT h (fun y hy => ?_) (by rw [insAt_len x hle]; omega)
    unfold insAt at hy
    rcases List.mem_append.1 hy with hy | hy
    · rcases List.mem_append.1 hy with hy | hy
      · exact h.1 y (List.mem_of_mem_take hy)
      · obtain rfl : y = x := by simpa using hy
        exact hx
    · exact h.1 y (List.mem_of_mem_drop hy)
theorem okOut {p : Pg} (h : PgOk p) (i : Int) : PgOk (outP p i).1 := by
  unfold outP
  cases hb : decide (i < 0) || decide ((p.items.length : Int) ≤ i) with
  | true => exact ok0
  | false =>
    have := h.2.2.2.2.2.2
    have h2 := List.length_eraseIdx_le p.items i.toNat
    exact okL h (fun y hy => h.1 y (List.mem_of_mem_eraseIdx hy)) (by omega)
theorem PgFr.keepS {S : Nat → Prop} {w w' : World} {base : Nat} {cs : Array Value} {p : Pg} (h : PgFr w base cs p) (hf : Fm S w w') (hs : ∀ y, base ≤ y → y < w.heap.size → ¬ S y) : PgFr w' base cs p := by
  obtain ⟨v, h1, h2, h3, h4⟩ := h
  exact ⟨v, h1, h2, h3.keepAny hf (fun hne g hg => hs g (h4 (by simpa using hne) g hg) (h3.blt hne g hg)), h4⟩
theorem lent_as {w : World} {base g cap : Nat} {cs : Array Value} {p : Pg} (h : PgAs w cs p) (ho : w.ownsRow base 9 1 (.slice (some ⟨g, 0, none⟩) (p.items.length + 1) cap) (p.items.length + 1) (p.items.map stv ++ [stv markB])) : PgAs w (pcs p (.slice (some ⟨g, 0, none⟩) p.items.length cap)) p := by
  obtain ⟨hcap, hbg⟩ := own_set_slice ho
  have hcA := CellsAt.of_own ho
  obtain ⟨v', h1, h2, _⟩ := hcA.hi (i := p.items.length) (by omega) .i64
  have h3 := slV_hi1 (g := g) (o := 0) (n := p.items.length + 1) (c := cap) (j := p.items.length) (by omega) .i64
  rw [h3] at h1
  cases h1
  rw [Nat.mul_one, show (p.items.map stv ++ [stv markB]).take p.items.length = p.items.map stv by rw [List.take_append_of_le_length (by simp), List.take_of_length_le (by simp)]] at h2
  exact ⟨⟨_, rfl, rfl, h2⟩, h.small, h.ins⟩

set_option maxHeartbeats 16000000 in
theorem changes_law {w : World} {cs : Array Value} {p : Pg} (h : PgAs w cs p) (hl : p.items.length * 16 ≤ 140737488351232) (i : Int) {x : Bs} (hx : x.length ≤ 140737488355328) : Cl Tryd.prog 10 [.agg cs, .agg #[iv i, stv x]] w fun r w' => r = .bool true ∧ Fm (fun _ => False) w w' := by
  obtain ⟨v, hcs, hone, hc⟩ := h.ex
  have hok : PgOk p := ⟨h.small, h.ins⟩
  refine c10 ?_; unfold T10
  refine New_any ?_
  intro x2 w1 hx2 hs1 hw1 hf1
  refine New_any ?_
  intro x3 w2 hx3 hs2 hw2 hf2
  have hP2 : PB w2 x2 p v := by rw [PB, ← hcs]; exact hf2.heap hw1 (fun e => e)
  have hF2 := Fmf hf1 hf2
  have pa : ∀ {w' : World}, Fm (fun _ => False) w w' → PgAs w' (pcs p v) p := fun hf => hcs ▸ h.keep hf
  have q0 : ∀ {w' : World}, w'.heap[x3]? = some (.cells #[iv i, stv x] 44) → w'.cell? ⟨x3, 0, none⟩ = some (iv i) := fun e => by rw [cell_at e]; rfl
  have q1 : ∀ {w' : World}, w'.heap[x3]? = some (.cells #[iv i, stv x] 44) → w'.cell? ⟨x3, 1, none⟩ = some (stv x) := fun e => by rw [cell_at e]; rfl
  have hw2' : w2.heap[x3]? = some (.cells #[iv i, stv x] 44) := hw2
  clear hw2
  simp only [Pu_some, extV_0, extV_1, extV_2, extV_3, nilV_ptr, nilV_fn, faV_ptr, lenV_sl, lenS_s, capV_sl, pickV_t, pickV_f, unV_not, unV_neg, isB_t, isB_f, isB_u, binV_add, binV_sub, binV_mul, binV_eql, binV_neq, binV_lss, binV_leq, binV_gtr, binV_geq, binV_seql, binV_sneq, binV_slss, binV_beql, binV_bneq, binV_peql, binV_pneq, add_add, add_none, Go.Al.add_zero, Nat.zero_add, Nat.add_zero, IfB_t, IfB_f, Gd_t, Gd_f, Ld_ptr, LdN_ptr, Option.isNone_some, Option.isNone_none, Option.isSome_some, Option.isSome_none, Bool.not_true, Bool.not_false, drew_cell, drew_heap, hP2.all]
  refine (lent_spec (pa hF2) hl).mono ?_
  rintro _ w3 ⟨g, cap, rfl, ho3, hf3⟩
  have hgl : w2.heap.size ≤ g ∧ g < w3.heap.size := own_lt ho3 g rfl
  have hP3 := hP2.keep hf3 (fun e => e)
  have hq3 := hf3.heap hw2' (fun e => e)
  have hF3 := Fmf hF2 hf3
  refine New_any ?_
  intro x5 w4 hx5 hs4 hw4 hf4
  refine St_all hw4 rfl rfl (one24 p rfl) ?_
  intro w5 hw5 hs5 hf5
  have hf35 : Fm (fun _ => False) w3 w5 := Fm.own hf4 hf5 (by rintro y rfl; omega)
  have hO5 : PB w5 x5 p (.slice (some ⟨g, 0, none⟩) p.items.length cap) := hw5
  have hP5 := hP3.keep hf35 (fun e => e)
  have hq5 := hf35.heap hq3 (fun e => e)
  have hF5 := Fmf hF3 hf35
  have ho5 := own_keep ho3 hf35 (fun _ _ _ _ e => e)
  have hz5 := hf35.size
  simp only [Pu_some, extV_0, extV_1, extV_2, extV_3, nilV_ptr, nilV_fn, faV_ptr, lenV_sl, lenS_s, capV_sl, pickV_t, pickV_f, unV_not, unV_neg, isB_t, isB_f, isB_u, binV_add, binV_sub, binV_mul, binV_eql, binV_neq, binV_lss, binV_leq, binV_gtr, binV_geq, binV_seql, binV_sneq, binV_slss, binV_beql, binV_bneq, binV_peql, binV_pneq, add_add, add_none, Go.Al.add_zero, Nat.zero_add, Nat.add_zero, IfB_t, IfB_f, Gd_t, Gd_f, Ld_ptr, LdN_ptr, Option.isNone_some, Option.isNone_none, Option.isSome_some, Option.isSome_none, Bool.not_true, Bool.not_false, drew_cell, drew_heap, hO5.all, q0 hq5, q1 hq5]
  refine (with_spec (lent_as (h.keep hF5) ho5) hx).mono ?_
  rintro _ w6 ⟨ca, rfl, hA6, hf6⟩
  simp only [Pu_some, extV_0, extV_1, extV_2, extV_3, nilV_ptr, nilV_fn, faV_ptr, lenV_sl, lenS_s, capV_sl, pickV_t, pickV_f, unV_not, unV_neg, isB_t, isB_f, isB_u, binV_add, binV_sub, binV_mul, binV_eql, binV_neq, binV_lss, binV_leq, binV_gtr, binV_geq, binV_seql, binV_sneq, binV_slss, binV_beql, binV_bneq, binV_peql, binV_pneq, add_add, add_none, Go.Al.add_zero, Nat.zero_add, Nat.add_zero, IfB_t, IfB_f, Gd_t, Gd_f, Ld_ptr, LdN_ptr, Option.isNone_some, Option.isNone_none, Option.isSome_some, Option.isSome_none, Bool.not_true, Bool.not_false, drew_cell, drew_heap]
  refine New_any ?_
  intro xa w7 hxa hs7 hw7 hf7
  refine St_all hw7 rfl hA6.size hA6.one ?_
  intro w8 hw8 hs8 hf8
  have hf68 : Fm (fun _ => False) w6 w8 := Fm.own hf7 hf8 (by rintro y rfl; omega)
  have hf58 := Fmf hf6 hf68
  have hA8 := hA6.keep hf68
  have hO8 := hO5.keep hf58 (fun e => e)
  have hP8 := hP5.keep hf58 (fun e => e)
  have hq8 := hf58.heap hq5 (fun e => e)
  have hF8 := Fmf hF5 hf58
  have ho8 := own_keep ho5 hf58 (fun _ _ _ _ e => e)
  have hz8 := hf58.size
  simp only [Pu_some, extV_0, extV_1, extV_2, extV_3, nilV_ptr, nilV_fn, faV_ptr, lenV_sl, lenS_s, capV_sl, pickV_t, pickV_f, unV_not, unV_neg, isB_t, isB_f, isB_u, binV_add, binV_sub, binV_mul, binV_eql, binV_neq, binV_lss, binV_leq, binV_gtr, binV_geq, binV_seql, binV_sneq, binV_slss, binV_beql, binV_bneq, binV_peql, binV_pneq, add_add, add_none, Go.Al.add_zero, Nat.zero_add, Nat.add_zero, IfB_t, IfB_f, Gd_t, Gd_f, Ld_ptr, LdN_ptr, Option.isNone_some, Option.isNone_none, Option.isSome_some, Option.isSome_none, Bool.not_true, Bool.not_false, drew_cell, drew_heap, hO8.all, q0 hq8, q1 hq8]
  refine (put_spec (lent_as (h.keep hF8) ho8) hl hx).mono ?_
  rintro _ w9 ⟨cb, rfl, hB9, hf9⟩
  simp only [Pu_some, extV_0, extV_1, extV_2, extV_3, nilV_ptr, nilV_fn, faV_ptr, lenV_sl, lenS_s, capV_sl, pickV_t, pickV_f, unV_not, unV_neg, isB_t, isB_f, isB_u, binV_add, binV_sub, binV_mul, binV_eql, binV_neq, binV_lss, binV_leq, binV_gtr, binV_geq, binV_seql, binV_sneq, binV_slss, binV_beql, binV_bneq, binV_peql, binV_pneq, add_add, add_none, Go.Al.add_zero, Nat.zero_add, Nat.add_zero, IfB_t, IfB_f, Gd_t, Gd_f, Ld_ptr, LdN_ptr, Option.isNone_some, Option.isNone_none, Option.isSome_some, Option.isSome_none, Bool.not_true, Bool.not_false, drew_cell, drew_heap]
  refine New_any ?_
  intro xb w10 hxb hs10 hw10 hf10
  refine St_all hw10 rfl hB9.size hB9.one ?_
  intro w11 hw11 hs11 hf11
  have hf911 : Fm (fun _ => False) w9 w11 := Fm.own hf10 hf11 (by rintro y rfl; omega)
  have hf811 := Fmf hf9 hf911
  have hA11 := hA8.keep hf811
  have ha11 := hf811.heap hw8 (fun e => e)
  have hB11 := hB9.keep hf911
  have hO11 := hO8.keep hf811 (fun e => e)
  have hP11 := hP8.keep hf811 (fun e => e)
  have hq11 := hf811.heap hq8 (fun e => e)
  have hF11 := Fmf hF8 hf811
  have ho11 := own_keep ho8 hf811 (fun _ _ _ _ e => e)
  have hz11 := hf811.size
  simp only [Pu_some, extV_0, extV_1, extV_2, extV_3, nilV_ptr, nilV_fn, faV_ptr, lenV_sl, lenS_s, capV_sl, pickV_t, pickV_f, unV_not, unV_neg, isB_t, isB_f, isB_u, binV_add, binV_sub, binV_mul, binV_eql, binV_neq, binV_lss, binV_leq, binV_gtr, binV_geq, binV_seql, binV_sneq, binV_slss, binV_beql, binV_bneq, binV_peql, binV_pneq, add_add, add_none, Go.Al.add_zero, Nat.zero_add, Nat.add_zero, IfB_t, IfB_f, Gd_t, Gd_f, Ld_ptr, LdN_ptr, Option.isNone_some, Option.isNone_none, Option.isSome_some, Option.isSome_none, Bool.not_true, Bool.not_false, drew_cell, drew_heap, hO11.all, q0 hq11]
  refine (out_spec (lent_as (h.keep hF11) ho11)).mono ?_
  rintro _ w12 ⟨cc, rfl, hC12, hf12⟩
  simp only [Pu_some, extV_0, extV_1, extV_2, extV_3, nilV_ptr, nilV_fn, faV_ptr, lenV_sl, lenS_s, capV_sl, pickV_t, pickV_f, unV_not, unV_neg, isB_t, isB_f, isB_u, binV_add, binV_sub, binV_mul, binV_eql, binV_neq, binV_lss, binV_leq, binV_gtr, binV_geq, binV_seql, binV_sneq, binV_slss, binV_beql, binV_bneq, binV_peql, binV_pneq, add_add, add_none, Go.Al.add_zero, Nat.zero_add, Nat.add_zero, IfB_t, IfB_f, Gd_t, Gd_f, Ld_ptr, LdN_ptr, Option.isNone_some, Option.isNone_none, Option.isSome_some, Option.isSome_none, Bool.not_true, Bool.not_false, drew_cell, drew_heap]
  refine New_any ?_
  intro xc w13 hxc hs13 hw13 hf13
  refine St_all hw13 rfl hC12.size hC12.one ?_
  intro w14 hw14 hs14 hf14
  have hf1214 : Fm (fun _ => False) w12 w14 := Fm.own hf13 hf14 (by rintro y rfl; omega)
  have hf1114 := Fmf hf12 hf1214
  have hA14 := hA11.keep hf1114
  have ha14 := hf1114.heap ha11 (fun e => e)
  have hB14 := hB11.keep hf1114
  have hb14 := hf1114.heap hw11 (fun e => e)
  have hC14 := hC12.keep hf1214
  have hO14 := hO11.keep hf1114 (fun e => e)
  have hP14 := hP11.keep hf1114 (fun e => e)
  have hq14 := hf1114.heap hq11 (fun e => e)
  have hF14 := Fmf hF11 hf1114
  have ho14 := own_keep ho11 hf1114 (fun _ _ _ _ e => e)
  have hz14 := hf1114.size
  have hz6 := hf6.size
  have hz9 := hf9.size
  have hz12 := hf12.size
  simp only [Pu_some, extV_0, extV_1, extV_2, extV_3, nilV_ptr, nilV_fn, faV_ptr, lenV_sl, lenS_s, capV_sl, pickV_t, pickV_f, unV_not, unV_neg, isB_t, isB_f, isB_u, binV_add, binV_sub, binV_mul, binV_eql, binV_neq, binV_lss, binV_leq, binV_gtr, binV_geq, binV_seql, binV_sneq, binV_slss, binV_beql, binV_bneq, binV_peql, binV_pneq, add_add, add_none, Go.Al.add_zero, Nat.zero_add, Nat.add_zero, IfB_t, IfB_f, Gd_t, Gd_f, Ld_ptr, LdN_ptr, Option.isNone_some, Option.isNone_none, Option.isSome_some, Option.isSome_none, Bool.not_true, Bool.not_false, drew_cell, drew_heap, hO14.all, hP14.all]
  refine (kept_spec (pa hF14) ho14).mono ?_
  rintro _ w15 ⟨rfl, hf15⟩
  have hA15 := hA14.keepS hf15 (fun y h1 h2 e => by omega)
  have ha15 := hf15.heap ha14 (fun e => by omega)
  have hB15 := hB14.keepS hf15 (fun y h1 h2 e => by omega)
  have hb15 := hf15.heap hb14 (fun e => by omega)
  have hC15 := hC14.keepS hf15 (fun y h1 h2 e => by omega)
  have hc15 := hf15.heap hw14 (fun e => by omega)
  have hP15 := hP14.keep hf15 (fun e => by omega)
  have hq15 := hf15.heap hq14 (fun e => by omega)
  have hz2 := hF2.size
  have hF15 : Fm (fun _ => False) w w15 := Fm.own hF14 hf15 (fun y e => by omega)
  simp only [Pu_some, extV_0, extV_1, extV_2, extV_3, nilV_ptr, nilV_fn, faV_ptr, lenV_sl, lenS_s, capV_sl, pickV_t, pickV_f, unV_not, unV_neg, isB_t, isB_f, isB_u, binV_add, binV_sub, binV_mul, binV_eql, binV_neq, binV_lss, binV_leq, binV_gtr, binV_geq, binV_seql, binV_sneq, binV_slss, binV_beql, binV_bneq, binV_peql, binV_pneq, add_add, add_none, Go.Al.add_zero, Nat.zero_add, Nat.add_zero, IfB_t, IfB_f, Gd_t, Gd_f, Ld_ptr, LdN_ptr, Option.isNone_some, Option.isNone_none, Option.isSome_some, Option.isSome_none, Bool.not_true, Bool.not_false, drew_cell, drew_heap, hP15.all, q0 hq15, q1 hq15]
  refine (rwith_spec (pa hF15) hx).mono ?_
  rintro _ w16 ⟨cd, rfl, hD16, hf16⟩
  simp only [Pu_some, extV_0, extV_1, extV_2, extV_3, nilV_ptr, nilV_fn, faV_ptr, lenV_sl, lenS_s, capV_sl, pickV_t, pickV_f, unV_not, unV_neg, isB_t, isB_f, isB_u, binV_add, binV_sub, binV_mul, binV_eql, binV_neq, binV_lss, binV_leq, binV_gtr, binV_geq, binV_seql, binV_sneq, binV_slss, binV_beql, binV_bneq, binV_peql, binV_pneq, add_add, add_none, Go.Al.add_zero, Nat.zero_add, Nat.add_zero, IfB_t, IfB_f, Gd_t, Gd_f, Ld_ptr, LdN_ptr, Option.isNone_some, Option.isNone_none, Option.isSome_some, Option.isSome_none, Bool.not_true, Bool.not_false, drew_cell, drew_heap]
  refine New_any ?_
  intro xd w17 hxd hs17 hw17 hf17
  refine St_all hw17 rfl hD16.size hD16.one ?_
  intro w18 hw18 hs18 hf18
  have hf1618 : Fm (fun _ => False) w16 w18 := Fm.own hf17 hf18 (by rintro y rfl; omega)
  have hf1518 := Fmf hf16 hf1618
  have hP18 := hP15.keep hf1518 (fun e => e)
  have hq18 := hf1518.heap hq15 (fun e => e)
  have hF18 := Fmf hF15 hf1518
  simp only [Pu_some, extV_0, extV_1, extV_2, extV_3, nilV_ptr, nilV_fn, faV_ptr, lenV_sl, lenS_s, capV_sl, pickV_t, pickV_f, unV_not, unV_neg, isB_t, isB_f, isB_u, binV_add, binV_sub, binV_mul, binV_eql, binV_neq, binV_lss, binV_leq, binV_gtr, binV_geq, binV_seql, binV_sneq, binV_slss, binV_beql, binV_bneq, binV_peql, binV_pneq, add_add, add_none, Go.Al.add_zero, Nat.zero_add, Nat.add_zero, IfB_t, IfB_f, Gd_t, Gd_f, Ld_ptr, LdN_ptr, Option.isNone_some, Option.isNone_none, Option.isSome_some, Option.isSome_none, Bool.not_true, Bool.not_false, drew_cell, drew_heap, hP18.all, q0 hq18, q1 hq18]
  refine (rput_spec (pa hF18) hl hx).mono ?_
  rintro _ w19 ⟨ce, rfl, hE19, hf19⟩
  simp only [Pu_some, extV_0, extV_1, extV_2, extV_3, nilV_ptr, nilV_fn, faV_ptr, lenV_sl, lenS_s, capV_sl, pickV_t, pickV_f, unV_not, unV_neg, isB_t, isB_f, isB_u, binV_add, binV_sub, binV_mul, binV_eql, binV_neq, binV_lss, binV_leq, binV_gtr, binV_geq, binV_seql, binV_sneq, binV_slss, binV_beql, binV_bneq, binV_peql, binV_pneq, add_add, add_none, Go.Al.add_zero, Nat.zero_add, Nat.add_zero, IfB_t, IfB_f, Gd_t, Gd_f, Ld_ptr, LdN_ptr, Option.isNone_some, Option.isNone_none, Option.isSome_some, Option.isSome_none, Bool.not_true, Bool.not_false, drew_cell, drew_heap]
  refine New_any ?_
  intro xe w20 hxe hs20 hw20 hf20
  refine St_all hw20 rfl hE19.size hE19.one ?_
  intro w21 hw21 hs21 hf21
  have hf1921 : Fm (fun _ => False) w19 w21 := Fm.own hf20 hf21 (by rintro y rfl; omega)
  have hf1821 := Fmf hf19 hf1921
  have hP21 := hP18.keep hf1821 (fun e => e)
  have hq21 := hf1821.heap hq18 (fun e => e)
  have hF21 := Fmf hF18 hf1821
  simp only [Pu_some, extV_0, extV_1, extV_2, extV_3, nilV_ptr, nilV_fn, faV_ptr, lenV_sl, lenS_s, capV_sl, pickV_t, pickV_f, unV_not, unV_neg, isB_t, isB_f, isB_u, binV_add, binV_sub, binV_mul, binV_eql, binV_neq, binV_lss, binV_leq, binV_gtr, binV_geq, binV_seql, binV_sneq, binV_slss, binV_beql, binV_bneq, binV_peql, binV_pneq, add_add, add_none, Go.Al.add_zero, Nat.zero_add, Nat.add_zero, IfB_t, IfB_f, Gd_t, Gd_f, Ld_ptr, LdN_ptr, Option.isNone_some, Option.isNone_none, Option.isSome_some, Option.isSome_none, Bool.not_true, Bool.not_false, drew_cell, drew_heap, hP21.all, q0 hq21]
  refine (rout_spec (pa hF21)).mono ?_
  rintro _ w22 ⟨cf, rfl, hG22, hf22⟩
  simp only [Pu_some, extV_0, extV_1, extV_2, extV_3, nilV_ptr, nilV_fn, faV_ptr, lenV_sl, lenS_s, capV_sl, pickV_t, pickV_f, unV_not, unV_neg, isB_t, isB_f, isB_u, binV_add, binV_sub, binV_mul, binV_eql, binV_neq, binV_lss, binV_leq, binV_gtr, binV_geq, binV_seql, binV_sneq, binV_slss, binV_beql, binV_bneq, binV_peql, binV_pneq, add_add, add_none, Go.Al.add_zero, Nat.zero_add, Nat.add_zero, IfB_t, IfB_f, Gd_t, Gd_f, Ld_ptr, LdN_ptr, Option.isNone_some, Option.isNone_none, Option.isSome_some, Option.isSome_none, Bool.not_true, Bool.not_false, drew_cell, drew_heap]
  refine New_any ?_
  intro xf w23 hxf hs23 hw23 hf23
  refine St_all hw23 rfl hG22.size hG22.one ?_
  intro w24 hw24 hs24 hf24
  have hf2224 : Fm (fun _ => False) w22 w24 := Fm.own hf23 hf24 (by rintro y rfl; omega)
  refine (awake_spec w24).mono ?_
  rintro _ w25 ⟨rfl, hf25⟩
  have hf2225 := Fmf hf2224 hf25
  have hf2125 := Fmf hf22 hf2225
  have hf1825 := Fmf hf1821 hf2125
  have hf1525 := Fmf hf1518 hf1825
  have hF25 := Fmf hF21 hf2125
  have oA := okWith hok i hx
  have oB := okPut hok hl i hx
  have oC := okOut hok i
  have hA25 := (hA15.keep hf1525).asOk oA
  have hB25 := (hB15.keep hf1525).asOk oB
  have hC25 := (hC15.keep hf1525).asOk oC
  have hD25 := (hD16.keep (Fmf hf1618 hf1825)).asOk oA
  have hE25 := (hE19.keep (Fmf hf1921 hf2125)).asOk oB
  have hG25 := (hG22.keep hf2225).asOk oC
  have ka := hf1525.heap ha15 (fun e => e)
  have kb := hf1525.heap hb15 (fun e => e)
  have kc := hf1525.heap hc15 (fun e => e)
  have kd := hf1825.heap hw18 (fun e => e)
  have ke := hf2125.heap hw21 (fun e => e)
  have kf := hf25.heap hw24 (fun e => e)
  simp only [Pu_some, extV_0, extV_1, extV_2, extV_3, nilV_ptr, nilV_fn, faV_ptr, lenV_sl, lenS_s, capV_sl, pickV_t, pickV_f, unV_not, unV_neg, isB_t, isB_f, isB_u, binV_add, binV_sub, binV_mul, binV_eql, binV_neq, binV_lss, binV_leq, binV_gtr, binV_geq, binV_seql, binV_sneq, binV_slss, binV_beql, binV_bneq, binV_peql, binV_pneq, add_add, add_none, Go.Al.add_zero, Nat.zero_add, Nat.add_zero, IfB_t, IfB_f, Gd_t, Gd_f, Ld_ptr, LdN_ptr, Option.isNone_some, Option.isNone_none, Option.isSome_some, Option.isSome_none, Bool.not_true, Bool.not_false, drew_cell, drew_heap, cellsV_blk ka hA25.size, cellsV_blk kd hD25.size]
  refine (rsame_spec hA25 hD25).mono ?_
  rintro _ w26 ⟨rfl, hf26⟩
  simp only [Pu_some, extV_0, extV_1, extV_2, extV_3, nilV_ptr, nilV_fn, faV_ptr, lenV_sl, lenS_s, capV_sl, pickV_t, pickV_f, unV_not, unV_neg, isB_t, isB_f, isB_u, binV_add, binV_sub, binV_mul, binV_eql, binV_neq, binV_lss, binV_leq, binV_gtr, binV_geq, binV_seql, binV_sneq, binV_slss, binV_beql, binV_bneq, binV_peql, binV_pneq, add_add, add_none, Go.Al.add_zero, Nat.zero_add, Nat.add_zero, IfB_t, IfB_f, Gd_t, Gd_f, Ld_ptr, LdN_ptr, Option.isNone_some, Option.isNone_none, Option.isSome_some, Option.isSome_none, Bool.not_true, Bool.not_false, drew_cell, drew_heap, decide_true, beq_self_eq_true, cellsV_blk (hf26.heap kb (fun e => e)) hB25.size, cellsV_blk (hf26.heap ke (fun e => e)) hE25.size]
  refine (rsame_spec (hB25.keep hf26) (hE25.keep hf26)).mono ?_
  rintro _ w27 ⟨rfl, hf27⟩
  have hf2527 := Fmf hf26 hf27
  simp only [Pu_some, extV_0, extV_1, extV_2, extV_3, nilV_ptr, nilV_fn, faV_ptr, lenV_sl, lenS_s, capV_sl, pickV_t, pickV_f, unV_not, unV_neg, isB_t, isB_f, isB_u, binV_add, binV_sub, binV_mul, binV_eql, binV_neq, binV_lss, binV_leq, binV_gtr, binV_geq, binV_seql, binV_sneq, binV_slss, binV_beql, binV_bneq, binV_peql, binV_pneq, add_add, add_none, Go.Al.add_zero, Nat.zero_add, Nat.add_zero, IfB_t, IfB_f, Gd_t, Gd_f, Ld_ptr, LdN_ptr, Option.isNone_some, Option.isNone_none, Option.isSome_some, Option.isSome_none, Bool.not_true, Bool.not_false, drew_cell, drew_heap, decide_true, beq_self_eq_true, cellsV_blk (hf2527.heap kc (fun e => e)) hC25.size, cellsV_blk (hf2527.heap kf (fun e => e)) hG25.size]
  refine (rsame_spec (hC25.keep hf2527) (hG25.keep hf2527)).mono ?_
  rintro _ w28 ⟨rfl, hf28⟩
  simp only [Pu_some, extV_0, extV_1, extV_2, extV_3, nilV_ptr, nilV_fn, faV_ptr, lenV_sl, lenS_s, capV_sl, pickV_t, pickV_f, unV_not, unV_neg, isB_t, isB_f, isB_u, binV_add, binV_sub, binV_mul, binV_eql, binV_neq, binV_lss, binV_leq, binV_gtr, binV_geq, binV_seql, binV_sneq, binV_slss, binV_beql, binV_bneq, binV_peql, binV_pneq, add_add, add_none, Go.Al.add_zero, Nat.zero_add, Nat.add_zero, IfB_t, IfB_f, Gd_t, Gd_f, Ld_ptr, LdN_ptr, Option.isNone_some, Option.isNone_none, Option.isSome_some, Option.isSome_none, Bool.not_true, Bool.not_false, drew_cell, drew_heap, decide_true, beq_self_eq_true]
  exact ⟨(by trivial), Fmf hF25 (Fmf hf2527 hf28)⟩
abbrev PlT := Int × Bs × Unit
def vPlace : Vw Tryd.prog 44 PlT := vStruct Tryd.underlying44 (fvCons rfl 1 (by kernel_rfl) vI (fvCons rfl 1 (by kernel_rfl) vS fvNil)) (by kernel_rfl)
theorem place_of {w : World} {cs : Array Value} {x : PlT} (h : vPlace.rel w cs.toList x) : cs = #[iv x.1, stv x.2.1] ∧ x.2.1.length ≤ 140737488355328 := by
  obtain ⟨i, s, u⟩ := x
  obtain ⟨c0, r0, he, ⟨rfl, h0⟩, c1, r1, rfl, ⟨rfl, h1⟩, h6⟩ := h
  cases h6
  simp only at h0 h1
  unfold reachBytes at h1
  exact ⟨by apply Array.ext'; rw [he]; rfl, by show s.length ≤ _; omega⟩
theorem changes_in {w : World} {ca cb : Array Value} {x : PgT} {y : PlT} (hx : vPage.rel w ca.toList x) (hy : vPlace.rel w cb.toList y) : Cl Tryd.prog 10 [.agg ca, .agg cb] w fun r w' => r = .bool true ∧ Fm (fun _ => False) w w' := by
  obtain ⟨rfl, h2⟩ := place_of hy
  exact changes_law (page_of hx).isA (page_of hx).many _ h2

end Go.Proofs.YtodnakepbdhfkaaDoor
