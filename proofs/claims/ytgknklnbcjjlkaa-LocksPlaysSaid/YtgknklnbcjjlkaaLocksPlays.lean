/- LocksPlays: who holds what, and who waits, call by call: the law. -/
import Derived.Test.YtgknklnbcjjlkaaLocksRef4
namespace Go.Proofs.Ytgknklnbcjjlkaa
open Go.Al Go.Proofs
set_option linter.unusedVariables false
set_option linter.unusedSimpArgs false
set_option linter.unusedSectionVars false

theorem QRel.nil : QRel [] [] [] [] := ⟨List.Pairwise.nil, List.Pairwise.nil, by simp, by simp, by simp, by simp⟩

set_option maxHeartbeats 4000000 in
theorem lplays_law (w : World) (a0 : Option Addr) (c0 : Nat) (ops : List LOp) (h0 : LopsAt w a0 ops) (hsm : ops.length * 32 ≤ 140737488351232) :
    Cl Try.prog 8 [.slice a0 ops.length c0] w fun v w' => v = .bool true ∧ Fm (fun _ => False) w w' := by
  refine c8 ?_
  unfold T8
  refine (lnew_spec w).mono ?_
  rintro _ w1 ⟨b, bh, bw, rfl, hb, hbh, hbw, hT, hf1⟩
  simp only [Pu_some, extV_0, extV_1, extV_2, extV_3, nilV_ptr, nilV_fn, faV_ptr, lenV_sl, lenS_s, capV_sl, pickV_t, pickV_f, unV_not, unV_neg, isB_t, isB_f, isB_u, binV_add, binV_sub, binV_mul, binV_eql, binV_neq, binV_lss, binV_leq, binV_gtr, binV_geq, binV_seql, binV_sneq, binV_slss, binV_beql, binV_bneq, binV_peql, binV_pneq, add_add, add_none, Go.Al.add_zero, Nat.zero_add, Nat.add_zero, IfB_t, IfB_f, Gd_t, Gd_f, Ld_ptr, LdN_ptr, Option.isNone_some, Option.isNone_none, Option.isSome_some, Option.isSome_none, Bool.not_true, Bool.not_false, drew_cell, drew_heap]
  refine New_any ?_
  intro rb w2 hrb hs2 hq2 hf2
  have hbl := lt_of_heap hT.st
  have hbhl := hT.hs.lt
  have hbwl := hT.ws.lt
  have hz1 := hf1.size
  have hT2 := hT.keep hf2 (fun e => e) (fun e => e) (fun e => e)
  obtain ⟨base, hbase⟩ : ∃ base, base = rb + 1 := ⟨_, rfl⟩
  have hQ : IsQ w2 base rb [] [] := ⟨by omega, by omega, _, _, hq2, World.ownsRow_nil _ _ _ _, World.ownsRow_nil _ _ _ _⟩
  refine ⟨fun vs w3 => ∃ (k : Nat) (H : HL) (W : WL) (hs ws : QL), vs = [jv k] ∧ k ≤ ops.length ∧ LI w3 b bh bw H W k ∧ IsQ w3 base rb hs ws ∧ QRel H W hs ws ∧ hs.length ≤ k ∧ ws.length ≤ k ∧ Fm (fun _ => False) w w3, fun vs _ => (ops.length - nth vs 0).toNat, ⟨0, [], [], [], [], rfl, by omega, ⟨hT2, Sound.nil, by simp, by simp, by simp⟩, hQ, QRel.nil, by simp, by simp, Fmf hf1 hf2⟩, ?_⟩
  clear hQ hT hT2 hf1 hf2 hq2 hs2 w2
  rintro g w2 iw ⟨k, H, W, hs, ws, ⟨⟩, hk, hL, hQ, hR, hhl, hwl, hf⟩
  by_cases hlt : k < ops.length
  · have e1 : decide ((k : Int) < (ops.length : Int)) = true := by simpa using hlt
    obtain ⟨x, rfl, q0, q1, q2⟩ := (h0.keep hf).at_ k _ (List.getElem?_eq_getElem hlt)
    have hw1 := h0.wf _ (List.getElem_mem hlt)
    generalize ops[k] = o at q0 q1 q2 hw1
    obtain ⟨d, p, key⟩ := o
    simp only at q0 q1 q2 hw1
    have cv := cellsV_3 q0 (show w2.cell? ((x.add (k * 3)).add 1) = _ by rw [add_add]; exact q1) (show w2.cell? ((x.add (k * 3)).add 2) = _ by rw [add_add]; exact q2)
    simp only [Pu_some, extV_0, extV_1, extV_2, extV_3, nilV_ptr, nilV_fn, faV_ptr, lenV_sl, lenS_s, capV_sl, pickV_t, pickV_f, unV_not, unV_neg, isB_t, isB_f, isB_u, binV_add, binV_sub, binV_mul, binV_eql, binV_neq, binV_lss, binV_leq, binV_gtr, binV_geq, binV_seql, binV_sneq, binV_slss, binV_beql, binV_bneq, binV_peql, binV_pneq, add_add, add_none, Go.Al.add_zero, Nat.zero_add, Nat.add_zero, IfB_t, IfB_f, Gd_t, Gd_f, Ld_ptr, LdN_ptr, Option.isNone_some, Option.isNone_none, Option.isSome_some, Option.isSome_none, Bool.not_true, Bool.not_false, drew_cell, drew_heap, e1, ixV_at hlt, cv]
    refine New_any ?_
    intro x6 w3 hx6 hs3 hw3 hf3
    refine St_blkN hw3 rfl (by simp) (by intro u hu; simp at hu; rcases hu with rfl | rfl | rfl <;> rfl) ?_
    intro w4 hw4 hs4 hf4
    replace hw4 : w4.heap[x6]? = some (.cells #[.bool d, jv p, sv key] 45) := hw4
    have hf24 : Fm (fun _ => False) w2 w4 := hf3.trans hf4 (fun _ _ e => e) (fun x hx e => by omega)
    have hL4 := hL.keep hf24
    have hQ4 := hQ.keep0 hf24
    have hF4 := Fmf hf hf24
    have hz := hQ.le
    have hxb : base ≤ x6 := by omega
    refine Jn_at (fun vs w5 => vs = [] ∧ ∃ H' W' hs' ws', LI w5 b bh bw H' W' (k + 1) ∧ IsQ w5 base rb hs' ws' ∧ QRel H' W' hs' ws' ∧ hs'.length ≤ k + 1 ∧ ws'.length ≤ k + 1 ∧ w5.heap[x6]? = some (.cells #[.bool d, jv p, sv key] 45) ∧ Fm (fun _ => False) w w5) ?_ ?_
    · clear hL hQ hR hhl hwl hf H W hs ws hL4 hQ4 hF4 hf24 hf4 hs4 hw4 w4 hf3 hw3 hs3 w3 hx6 q0 q1 q2 cv hz
      rintro _ w5 ⟨rfl, H, W, hs, ws, hL, hQ, hR, hhl, hwl, hx, hf⟩ _
      refine ⟨rfl, ?_⟩
      have hsz := hL.st (by omega)
      have hHl := hL.hl
      have hWl := hL.wl
      have c1 : w5.cell? ⟨x6, 1, none⟩ = some (jv p) := by rw [cell_at hx]; rfl
      have c2 : w5.cell? ⟨x6, 2, none⟩ = some (sv key) := by rw [cell_at hx]; rfl
      simp only [Pu_some, extV_0, extV_1, extV_2, extV_3, nilV_ptr, nilV_fn, faV_ptr, lenV_sl, lenS_s, capV_sl, pickV_t, pickV_f, unV_not, unV_neg, isB_t, isB_f, isB_u, binV_add, binV_sub, binV_mul, binV_eql, binV_neq, binV_lss, binV_leq, binV_gtr, binV_geq, binV_seql, binV_sneq, binV_slss, binV_beql, binV_bneq, binV_peql, binV_pneq, add_add, add_none, Go.Al.add_zero, Nat.zero_add, Nat.add_zero, IfB_t, IfB_f, Gd_t, Gd_f, Ld_ptr, LdN_ptr, Option.isNone_some, Option.isNone_none, Option.isSome_some, Option.isSome_none, Bool.not_true, Bool.not_false, drew_cell, drew_heap, c2]
      refine (holder_spec hL.t key).mono ?_
      rintro _ w5 ⟨rfl, rfl⟩
      simp only [Pu_some, extV_0, extV_1, extV_2, extV_3, nilV_ptr, nilV_fn, faV_ptr, lenV_sl, lenS_s, capV_sl, pickV_t, pickV_f, unV_not, unV_neg, isB_t, isB_f, isB_u, binV_add, binV_sub, binV_mul, binV_eql, binV_neq, binV_lss, binV_leq, binV_gtr, binV_geq, binV_seql, binV_sneq, binV_slss, binV_beql, binV_bneq, binV_peql, binV_pneq, add_add, add_none, Go.Al.add_zero, Nat.zero_add, Nat.add_zero, IfB_t, IfB_f, Gd_t, Gd_f, Ld_ptr, LdN_ptr, Option.isNone_some, Option.isNone_none, Option.isSome_some, Option.isSome_none, Bool.not_true, Bool.not_false, drew_cell, drew_heap, holderV, c2]
      refine (qholder_spec hQ (by omega) key).mono ?_
      rintro _ w5 ⟨rfl, rfl⟩
      rw [qholder, hR.get]
      simp only [Pu_some, extV_0, extV_1, extV_2, extV_3, nilV_ptr, nilV_fn, faV_ptr, lenV_sl, lenS_s, capV_sl, pickV_t, pickV_f, unV_not, unV_neg, isB_t, isB_f, isB_u, binV_add, binV_sub, binV_mul, binV_eql, binV_neq, binV_lss, binV_leq, binV_gtr, binV_geq, binV_seql, binV_sneq, binV_slss, binV_beql, binV_bneq, binV_peql, binV_pneq, add_add, add_none, Go.Al.add_zero, Nat.zero_add, Nat.add_zero, IfB_t, IfB_f, Gd_t, Gd_f, Ld_ptr, LdN_ptr, Option.isNone_some, Option.isNone_none, Option.isSome_some, Option.isSome_none, Bool.not_true, Bool.not_false, drew_cell, drew_heap, c1]
      refine (waits_spec hL.t p).mono ?_
      rintro _ w5 ⟨rfl, rfl⟩
      simp only [Pu_some, extV_0, extV_1, extV_2, extV_3, nilV_ptr, nilV_fn, faV_ptr, lenV_sl, lenS_s, capV_sl, pickV_t, pickV_f, unV_not, unV_neg, isB_t, isB_f, isB_u, binV_add, binV_sub, binV_mul, binV_eql, binV_neq, binV_lss, binV_leq, binV_gtr, binV_geq, binV_seql, binV_sneq, binV_slss, binV_beql, binV_bneq, binV_peql, binV_pneq, add_add, add_none, Go.Al.add_zero, Nat.zero_add, Nat.add_zero, IfB_t, IfB_f, Gd_t, Gd_f, Ld_ptr, LdN_ptr, Option.isNone_some, Option.isNone_none, Option.isSome_some, Option.isSome_none, Bool.not_true, Bool.not_false, drew_cell, drew_heap, waitsV, c1]
      refine (qfor_spec hQ (by omega) p).mono ?_
      rintro _ w5 ⟨rfl, rfl⟩
      rw [qfor, hR.for]
      simp only [Pu_some, extV_0, extV_1, extV_2, extV_3, nilV_ptr, nilV_fn, faV_ptr, lenV_sl, lenS_s, capV_sl, pickV_t, pickV_f, unV_not, unV_neg, isB_t, isB_f, isB_u, binV_add, binV_sub, binV_mul, binV_eql, binV_neq, binV_lss, binV_leq, binV_gtr, binV_geq, binV_seql, binV_sneq, binV_slss, binV_beql, binV_bneq, binV_peql, binV_pneq, add_add, add_none, Go.Al.add_zero, Nat.zero_add, Nat.add_zero, IfB_t, IfB_f, Gd_t, Gd_f, Ld_ptr, LdN_ptr, Option.isNone_some, Option.isNone_none, Option.isSome_some, Option.isSome_none, Bool.not_true, Bool.not_false, drew_cell, drew_heap]
      have hL5 := hL.keep (Fm.drew (fun _ => False) w5)
      have hQ5 := hQ.keep0 (Fm.drew (fun _ => False) w5)
      have hf5 := Fmf hf (Fm.drew (fun _ => False) w5)
      refine ⟨fun w => w.cell? ⟨x6, 1, none⟩ = some (jv p), c1, ?_⟩
      simp only [Pu_some, extV_0, extV_1, extV_2, extV_3, nilV_ptr, nilV_fn, faV_ptr, lenV_sl, lenS_s, capV_sl, pickV_t, pickV_f, unV_not, unV_neg, isB_t, isB_f, isB_u, binV_add, binV_sub, binV_mul, binV_eql, binV_neq, binV_lss, binV_leq, binV_gtr, binV_geq, binV_seql, binV_sneq, binV_slss, binV_beql, binV_bneq, binV_peql, binV_pneq, add_add, add_none, Go.Al.add_zero, Nat.zero_add, Nat.add_zero, IfB_t, IfB_f, Gd_t, Gd_f, Ld_ptr, LdN_ptr, Option.isNone_some, Option.isNone_none, Option.isSome_some, Option.isSome_none, Bool.not_true, Bool.not_false, drew_cell, drew_heap, bne_self_eq_false, decide_true, c1, true_and]
      refine ⟨jv p, ?_, ?_⟩
      · intro w hw
        simp only [Pu_some, extV_0, extV_1, extV_2, extV_3, nilV_ptr, nilV_fn, faV_ptr, lenV_sl, lenS_s, capV_sl, pickV_t, pickV_f, unV_not, unV_neg, isB_t, isB_f, isB_u, binV_add, binV_sub, binV_mul, binV_eql, binV_neq, binV_lss, binV_leq, binV_gtr, binV_geq, binV_seql, binV_sneq, binV_slss, binV_beql, binV_bneq, binV_peql, binV_pneq, add_add, add_none, Go.Al.add_zero, Nat.zero_add, Nat.add_zero, IfB_t, IfB_f, Gd_t, Gd_f, Ld_ptr, LdN_ptr, Option.isNone_some, Option.isNone_none, Option.isSome_some, Option.isSome_none, Bool.not_true, Bool.not_false, drew_cell, drew_heap, hw, true_and]
        try trivial
      refine (held_spec hL5.t hsz.2 p).mono ?_
      rintro hv1 w6 ⟨ls, hrow6, hls1, hls2, hll, hf6⟩
      have hlse := hR.held hls1 hls2
      have c6 : w6.cell? ⟨x6, 1, none⟩ = some (jv p) := hf6.cell' (show w5.drew.cell? _ = _ from c1) (fun e => e)
      refine ⟨c6, ?_⟩
      try simp only [Pu_some, extV_0, extV_1, extV_2, extV_3, nilV_ptr, nilV_fn, faV_ptr, lenV_sl, lenS_s, capV_sl, pickV_t, pickV_f, unV_not, unV_neg, isB_t, isB_f, isB_u, binV_add, binV_sub, binV_mul, binV_eql, binV_neq, binV_lss, binV_leq, binV_gtr, binV_geq, binV_seql, binV_sneq, binV_slss, binV_beql, binV_bneq, binV_peql, binV_pneq, add_add, add_none, Go.Al.add_zero, Nat.zero_add, Nat.add_zero, IfB_t, IfB_f, Gd_t, Gd_f, Ld_ptr, LdN_ptr, Option.isNone_some, Option.isNone_none, Option.isSome_some, Option.isSome_none, Bool.not_true, Bool.not_false, drew_cell, drew_heap]
      refine (qheld_spec (hQ5.keep0 hf6) (by omega) p).mono ?_
      rintro hv2 w7 ⟨hrow7, hf7⟩
      have c7 : w7.cell? ⟨x6, 1, none⟩ = some (jv p) := hf7.cell' c6 (fun e => e)
      refine ⟨c7, ?_⟩
      try simp only [Pu_some, extV_0, extV_1, extV_2, extV_3, nilV_ptr, nilV_fn, faV_ptr, lenV_sl, lenS_s, capV_sl, pickV_t, pickV_f, unV_not, unV_neg, isB_t, isB_f, isB_u, binV_add, binV_sub, binV_mul, binV_eql, binV_neq, binV_lss, binV_leq, binV_gtr, binV_geq, binV_seql, binV_sneq, binV_slss, binV_beql, binV_bneq, binV_peql, binV_pneq, add_add, add_none, Go.Al.add_zero, Nat.zero_add, Nat.add_zero, IfB_t, IfB_f, Gd_t, Gd_f, Ld_ptr, LdN_ptr, Option.isNone_some, Option.isNone_none, Option.isSome_some, Option.isSome_none, Bool.not_true, Bool.not_false, drew_cell, drew_heap]
      rw [show (fun q : ByteArray × Int => sv q.1) = sv ∘ (fun q => q.1) from rfl, ← List.map_map, ← hlse] at hrow7
      refine (qsame_spec (CellsAt.of_own (own_keep hrow6 hf7 (fun k hk hk' _ => fun e => e))) (CellsAt.of_own hrow7) (by omega)).mono ?_
      rintro r8 w8 ⟨hr8, hf8⟩
      obtain rfl : r8 = .bool true := by rw [hr8]; simp
      have c8' : w8.cell? ⟨x6, 1, none⟩ = some (jv p) := hf8.cell' c7 (fun e => e)
      refine ⟨c8', ?_⟩
      try simp only [Pu_some, extV_0, extV_1, extV_2, extV_3, nilV_ptr, nilV_fn, faV_ptr, lenV_sl, lenS_s, capV_sl, pickV_t, pickV_f, unV_not, unV_neg, isB_t, isB_f, isB_u, binV_add, binV_sub, binV_mul, binV_eql, binV_neq, binV_lss, binV_leq, binV_gtr, binV_geq, binV_seql, binV_sneq, binV_slss, binV_beql, binV_bneq, binV_peql, binV_pneq, add_add, add_none, Go.Al.add_zero, Nat.zero_add, Nat.add_zero, IfB_t, IfB_f, Gd_t, Gd_f, Ld_ptr, LdN_ptr, Option.isNone_some, Option.isNone_none, Option.isSome_some, Option.isSome_none, Bool.not_true, Bool.not_false, drew_cell, drew_heap]
      have hf58 := Fmf hf6 (Fmf hf7 hf8)
      refine (waiting_spec (hL5.keep hf58).t hL.wf hsz.1).mono ?_
      rintro l w9 ⟨hrow9, _, hf9⟩
      have c9' : w9.cell? ⟨x6, 1, none⟩ = some (jv p) := hf9.cell' c8' (fun e => e)
      refine ⟨c9', ?_⟩
      try simp only [Pu_some, extV_0, extV_1, extV_2, extV_3, nilV_ptr, nilV_fn, faV_ptr, lenV_sl, lenS_s, capV_sl, pickV_t, pickV_f, unV_not, unV_neg, isB_t, isB_f, isB_u, binV_add, binV_sub, binV_mul, binV_eql, binV_neq, binV_lss, binV_leq, binV_gtr, binV_geq, binV_seql, binV_sneq, binV_slss, binV_beql, binV_bneq, binV_peql, binV_pneq, add_add, add_none, Go.Al.add_zero, Nat.zero_add, Nat.add_zero, IfB_t, IfB_f, Gd_t, Gd_f, Ld_ptr, LdN_ptr, Option.isNone_some, Option.isNone_none, Option.isSome_some, Option.isSome_none, Bool.not_true, Bool.not_false, drew_cell, drew_heap]
      refine (qwaiting_spec (hQ5.keep0 (Fmf hf58 hf9)) (by omega)).mono ?_
      rintro l2 w10 ⟨hrow10, hf10⟩
      have c10' : w10.cell? ⟨x6, 1, none⟩ = some (jv p) := hf10.cell' c9' (fun e => e)
      refine ⟨c10', ?_⟩
      try simp only [Pu_some, extV_0, extV_1, extV_2, extV_3, nilV_ptr, nilV_fn, faV_ptr, lenV_sl, lenS_s, capV_sl, pickV_t, pickV_f, unV_not, unV_neg, isB_t, isB_f, isB_u, binV_add, binV_sub, binV_mul, binV_eql, binV_neq, binV_lss, binV_leq, binV_gtr, binV_geq, binV_seql, binV_sneq, binV_slss, binV_beql, binV_bneq, binV_peql, binV_pneq, add_add, add_none, Go.Al.add_zero, Nat.zero_add, Nat.add_zero, IfB_t, IfB_f, Gd_t, Gd_f, Ld_ptr, LdN_ptr, Option.isNone_some, Option.isNone_none, Option.isSome_some, Option.isSome_none, Bool.not_true, Bool.not_false, drew_cell, drew_heap]
      rw [← hR.waiting, ← hR.wlen] at hrow10
      refine (same_spec (CellsAt.of_own (own_keep hrow9 hf10 (fun k hk hk' _ => fun e => e))) (CellsAt.of_own hrow10) (by omega)).mono ?_
      rintro r11 w11 ⟨hr11, hf11⟩
      obtain rfl : r11 = .bool true := by rw [hr11]; simp
      have c11' : w11.cell? ⟨x6, 1, none⟩ = some (jv p) := hf11.cell' c10' (fun e => e)
      refine ⟨c11', ?_⟩
      have hf511 := Fmf hf58 (Fmf hf9 (Fmf hf10 hf11))
      have hL11 := hL5.keep hf511
      have hQ11 := hQ5.keep0 hf511
      simp only [Pu_some, extV_0, extV_1, extV_2, extV_3, nilV_ptr, nilV_fn, faV_ptr, lenV_sl, lenS_s, capV_sl, pickV_t, pickV_f, unV_not, unV_neg, isB_t, isB_f, isB_u, binV_add, binV_sub, binV_mul, binV_eql, binV_neq, binV_lss, binV_leq, binV_gtr, binV_geq, binV_seql, binV_sneq, binV_slss, binV_beql, binV_bneq, binV_peql, binV_pneq, add_add, add_none, Go.Al.add_zero, Nat.zero_add, Nat.add_zero, IfB_t, IfB_f, Gd_t, Gd_f, Ld_ptr, LdN_ptr, Option.isNone_some, Option.isNone_none, Option.isSome_some, Option.isSome_none, Bool.not_true, Bool.not_false, drew_cell, drew_heap, c11']
      refine (held_spec hL11.t hsz.2 p).mono ?_
      rintro own w12 ⟨ms, hrow12, _, hms, hml, hf12⟩
      refine ⟨fun vs w13 => ∃ (j : Nat) (xs : List Value), vs = [jv j] ∧ j ≤ ms.length ∧ w13.ownsRow w11.heap.size 9 1 own ms.length xs ∧ Fm (fun _ => False) w11 w13, fun vs _ => (ms.length - nth vs 0).toNat, ⟨0, _, rfl, by omega, hrow12, hf12⟩, ?_⟩
      clear hrow12 hrow10 hrow9 hrow7 hrow6
      rintro g w13 jw ⟨j, xs, ⟨⟩, hj, hrow, hf13⟩
      have hlv := own_len hrow
      simp only [Pu_some, extV_0, extV_1, extV_2, extV_3, nilV_ptr, nilV_fn, faV_ptr, lenV_sl, lenS_s, capV_sl, pickV_t, pickV_f, unV_not, unV_neg, isB_t, isB_f, isB_u, binV_add, binV_sub, binV_mul, binV_eql, binV_neq, binV_lss, binV_leq, binV_gtr, binV_geq, binV_seql, binV_sneq, binV_slss, binV_beql, binV_bneq, binV_peql, binV_pneq, add_add, add_none, Go.Al.add_zero, Nat.zero_add, Nat.add_zero, IfB_t, IfB_f, Gd_t, Gd_f, Ld_ptr, LdN_ptr, Option.isNone_some, Option.isNone_none, Option.isSome_some, Option.isSome_none, Bool.not_true, Bool.not_false, drew_cell, drew_heap, hlv]
      by_cases hlt' : j < ms.length
      · have e3 : decide ((j : Int) < (ms.length : Int)) = true := by simpa using hlt'
        rcases (own_cases hrow).2 with ⟨rfl, h0⟩ | ⟨gb, cap, rfl, hg1, hg2, hcell⟩
        · omega
        have hxl := (own_cases hrow).1
        obtain ⟨ho, hgr⟩ := hrow.stored j (.string ⟨#[110, 111]⟩)
        simp only [Pu_some, extV_0, extV_1, extV_2, extV_3, nilV_ptr, nilV_fn, faV_ptr, lenV_sl, lenS_s, capV_sl, pickV_t, pickV_f, unV_not, unV_neg, isB_t, isB_f, isB_u, binV_add, binV_sub, binV_mul, binV_eql, binV_neq, binV_lss, binV_leq, binV_gtr, binV_geq, binV_seql, binV_sneq, binV_slss, binV_beql, binV_bneq, binV_peql, binV_pneq, add_add, add_none, Go.Al.add_zero, Nat.zero_add, Nat.add_zero, IfB_t, IfB_f, Gd_t, Gd_f, Ld_ptr, LdN_ptr, Option.isNone_some, Option.isNone_none, Option.isSome_some, Option.isSome_none, Bool.not_true, Bool.not_false, drew_cell, drew_heap, e3, ixV_at hlt', Nat.mul_one]
        refine St_one rfl (x := xs[j]'(by omega)) (by rw [hcell j hlt']; simp) (hrow.frozenAt j) ?_
        simp only [Pu_some, extV_0, extV_1, extV_2, extV_3, nilV_ptr, nilV_fn, faV_ptr, lenV_sl, lenS_s, capV_sl, pickV_t, pickV_f, unV_not, unV_neg, isB_t, isB_f, isB_u, binV_add, binV_sub, binV_mul, binV_eql, binV_neq, binV_lss, binV_leq, binV_gtr, binV_geq, binV_seql, binV_sneq, binV_slss, binV_beql, binV_bneq, binV_peql, binV_pneq, add_add, add_none, Go.Al.add_zero, Nat.zero_add, Nat.add_zero, IfB_t, IfB_f, Gd_t, Gd_f, Ld_ptr, LdN_ptr, Option.isNone_some, Option.isNone_none, Option.isSome_some, Option.isSome_none, Bool.not_true, Bool.not_false, drew_cell, drew_heap, wrap_succ (i := j) (by omega)]
        exact ⟨⟨j + 1, _, rfl, by omega, ho, hf13.trans (Fm.grown (S := (· = gb)) hgr (fun k hk _ => by simpa using hk.symm)) (fun _ _ e => e) (fun x hx e => by omega)⟩, by simp only [nth_0]; omega⟩
      · have e3 : decide ((j : Int) < (ms.length : Int)) = false := by simpa using hlt'
        simp only [Pu_some, extV_0, extV_1, extV_2, extV_3, nilV_ptr, nilV_fn, faV_ptr, lenV_sl, lenS_s, capV_sl, pickV_t, pickV_f, unV_not, unV_neg, isB_t, isB_f, isB_u, binV_add, binV_sub, binV_mul, binV_eql, binV_neq, binV_lss, binV_leq, binV_gtr, binV_geq, binV_seql, binV_sneq, binV_slss, binV_beql, binV_bneq, binV_peql, binV_pneq, add_add, add_none, Go.Al.add_zero, Nat.zero_add, Nat.add_zero, IfB_t, IfB_f, Gd_t, Gd_f, Ld_ptr, LdN_ptr, Option.isNone_some, Option.isNone_none, Option.isSome_some, Option.isSome_none, Bool.not_true, Bool.not_false, drew_cell, drew_heap, e3]
        have hf14 := Fmf hf13 (Fm.drew (fun _ => False) w13)
        have hL14 := hL11.keep hf14
        have hQ14 := hQ11.keep0 hf14
        have c13' : w13.cell? ⟨x6, 1, none⟩ = some (jv p) := hf13.cell' c11' (fun e => e)
        refine ⟨fun w => w.cell? ⟨x6, 1, none⟩ = some (jv p), c13', ?_⟩
        simp only [Pu_some, extV_0, extV_1, extV_2, extV_3, nilV_ptr, nilV_fn, faV_ptr, lenV_sl, lenS_s, capV_sl, pickV_t, pickV_f, unV_not, unV_neg, isB_t, isB_f, isB_u, binV_add, binV_sub, binV_mul, binV_eql, binV_neq, binV_lss, binV_leq, binV_gtr, binV_geq, binV_seql, binV_sneq, binV_slss, binV_beql, binV_bneq, binV_peql, binV_pneq, add_add, add_none, Go.Al.add_zero, Nat.zero_add, Nat.add_zero, IfB_t, IfB_f, Gd_t, Gd_f, Ld_ptr, LdN_ptr, Option.isNone_some, Option.isNone_none, Option.isSome_some, Option.isSome_none, Bool.not_true, Bool.not_false, drew_cell, drew_heap, c13', true_and]
        refine ⟨jv p, ?_, ?_⟩
        · intro w hw
          simp only [Pu_some, extV_0, extV_1, extV_2, extV_3, nilV_ptr, nilV_fn, faV_ptr, lenV_sl, lenS_s, capV_sl, pickV_t, pickV_f, unV_not, unV_neg, isB_t, isB_f, isB_u, binV_add, binV_sub, binV_mul, binV_eql, binV_neq, binV_lss, binV_leq, binV_gtr, binV_geq, binV_seql, binV_sneq, binV_slss, binV_beql, binV_bneq, binV_peql, binV_pneq, add_add, add_none, Go.Al.add_zero, Nat.zero_add, Nat.add_zero, IfB_t, IfB_f, Gd_t, Gd_f, Ld_ptr, LdN_ptr, Option.isNone_some, Option.isNone_none, Option.isSome_some, Option.isSome_none, Bool.not_true, Bool.not_false, drew_cell, drew_heap, hw, true_and]
          try trivial
        refine (held_spec hL14.t hsz.2 p).mono ?_
        rintro hv1 w15 ⟨ls', hrow15, hls1', hls2', hll', hf15⟩
        have hlse' := hR.held hls1' hls2'
        have c15' : w15.cell? ⟨x6, 1, none⟩ = some (jv p) := hf15.cell' (show w13.drew.cell? _ = _ from c13') (fun e => e)
        refine ⟨c15', ?_⟩
        try simp only [Pu_some, extV_0, extV_1, extV_2, extV_3, nilV_ptr, nilV_fn, faV_ptr, lenV_sl, lenS_s, capV_sl, pickV_t, pickV_f, unV_not, unV_neg, isB_t, isB_f, isB_u, binV_add, binV_sub, binV_mul, binV_eql, binV_neq, binV_lss, binV_leq, binV_gtr, binV_geq, binV_seql, binV_sneq, binV_slss, binV_beql, binV_bneq, binV_peql, binV_pneq, add_add, add_none, Go.Al.add_zero, Nat.zero_add, Nat.add_zero, IfB_t, IfB_f, Gd_t, Gd_f, Ld_ptr, LdN_ptr, Option.isNone_some, Option.isNone_none, Option.isSome_some, Option.isSome_none, Bool.not_true, Bool.not_false, drew_cell, drew_heap]
        refine (qheld_spec (hQ14.keep0 hf15) (by omega) p).mono ?_
        rintro hv2 w16 ⟨hrow16, hf16⟩
        have c16' : w16.cell? ⟨x6, 1, none⟩ = some (jv p) := hf16.cell' c15' (fun e => e)
        refine ⟨c16', ?_⟩
        rw [show (fun q : ByteArray × Int => sv q.1) = sv ∘ (fun q => q.1) from rfl, ← List.map_map, ← hlse'] at hrow16
        refine (qsame_spec (CellsAt.of_own (own_keep hrow15 hf16 (fun k hk hk' _ => fun e => e))) (CellsAt.of_own hrow16) (by omega)).mono ?_
        rintro r17 w17 ⟨hr17, hf17⟩
        obtain rfl : r17 = .bool true := by rw [hr17]; simp
        refine ⟨hf17.cell' c16' (fun e => e), ?_⟩
        simp only [Pu_some, extV_0, extV_1, extV_2, extV_3, nilV_ptr, nilV_fn, faV_ptr, lenV_sl, lenS_s, capV_sl, pickV_t, pickV_f, unV_not, unV_neg, isB_t, isB_f, isB_u, binV_add, binV_sub, binV_mul, binV_eql, binV_neq, binV_lss, binV_leq, binV_gtr, binV_geq, binV_seql, binV_sneq, binV_slss, binV_beql, binV_bneq, binV_peql, binV_pneq, add_add, add_none, Go.Al.add_zero, Nat.zero_add, Nat.add_zero, IfB_t, IfB_f, Gd_t, Gd_f, Ld_ptr, LdN_ptr, Option.isNone_some, Option.isNone_none, Option.isSome_some, Option.isSome_none, Bool.not_true, Bool.not_false, drew_cell, drew_heap, wrap_succ (i := k) (by omega)]
        have hf1417 := Fmf hf15 (Fmf hf16 hf17)
        exact ⟨⟨k + 1, H, W, hs, ws, rfl, by omega, hL14.keep hf1417, hQ14.keep0 hf1417, hR, hhl, hwl, Fmf hf5 (Fmf hf511 (Fmf hf14 hf1417))⟩, by simp only [nth_0]; omega⟩
    · intro kk hkk
      have c0' : w4.cell? ⟨x6, 0, none⟩ = some (.bool d) := by rw [cell_at hw4]; rfl
      have c1 : w4.cell? ⟨x6, 1, none⟩ = some (jv p) := by rw [cell_at hw4]; rfl
      have c2 : w4.cell? ⟨x6, 2, none⟩ = some (sv key) := by rw [cell_at hw4]; rfl
      have hsz := hL.st (by omega)
      have hn1 : ¬ (rb = bh ∨ rb = bw) := by omega
      have hn2 : ∀ k, base ≤ k → k < w4.heap.size → ¬ (k = bh ∨ k = bw) := fun k h1 _ => by omega
      have hxn : ¬ (x6 = bh ∨ x6 = bw) := by omega
      cases d with
      | true =>
        simp only [Pu_some, extV_0, extV_1, extV_2, extV_3, nilV_ptr, nilV_fn, faV_ptr, lenV_sl, lenS_s, capV_sl, pickV_t, pickV_f, unV_not, unV_neg, isB_t, isB_f, isB_u, binV_add, binV_sub, binV_mul, binV_eql, binV_neq, binV_lss, binV_leq, binV_gtr, binV_geq, binV_seql, binV_sneq, binV_slss, binV_beql, binV_bneq, binV_peql, binV_pneq, add_add, add_none, Go.Al.add_zero, Nat.zero_add, Nat.add_zero, IfB_t, IfB_f, Gd_t, Gd_f, Ld_ptr, LdN_ptr, Option.isNone_some, Option.isNone_none, Option.isSome_some, Option.isSome_none, Bool.not_true, Bool.not_false, drew_cell, drew_heap, c0']
        have hLd := hL4.keep (Fm.drew (fun _ => False) w4)
        have hQd := hQ4.keep0 (Fm.drew (fun _ => False) w4)
        refine ⟨fun w => w.cell? ⟨x6, 1, none⟩ = some (jv p), c1, ?_⟩
        simp only [Pu_some, extV_0, extV_1, extV_2, extV_3, nilV_ptr, nilV_fn, faV_ptr, lenV_sl, lenS_s, capV_sl, pickV_t, pickV_f, unV_not, unV_neg, isB_t, isB_f, isB_u, binV_add, binV_sub, binV_mul, binV_eql, binV_neq, binV_lss, binV_leq, binV_gtr, binV_geq, binV_seql, binV_sneq, binV_slss, binV_beql, binV_bneq, binV_peql, binV_pneq, add_add, add_none, Go.Al.add_zero, Nat.zero_add, Nat.add_zero, IfB_t, IfB_f, Gd_t, Gd_f, Ld_ptr, LdN_ptr, Option.isNone_some, Option.isNone_none, Option.isSome_some, Option.isSome_none, Bool.not_true, Bool.not_false, drew_cell, drew_heap, c1, true_and]
        refine ⟨jv p, ?_, ?_⟩
        · intro w hw
          simp only [Pu_some, extV_0, extV_1, extV_2, extV_3, nilV_ptr, nilV_fn, faV_ptr, lenV_sl, lenS_s, capV_sl, pickV_t, pickV_f, unV_not, unV_neg, isB_t, isB_f, isB_u, binV_add, binV_sub, binV_mul, binV_eql, binV_neq, binV_lss, binV_leq, binV_gtr, binV_geq, binV_seql, binV_sneq, binV_slss, binV_beql, binV_bneq, binV_peql, binV_pneq, add_add, add_none, Go.Al.add_zero, Nat.zero_add, Nat.add_zero, IfB_t, IfB_f, Gd_t, Gd_f, Ld_ptr, LdN_ptr, Option.isNone_some, Option.isNone_none, Option.isSome_some, Option.isSome_none, Bool.not_true, Bool.not_false, drew_cell, drew_heap, hw, true_and]
          try trivial
        refine (release_spec hLd.t hsz.1 p).mono ?_
        rintro v w5 ⟨H', W', ls, hrow, hRel, hT5, hf5⟩
        have hx5 := hf5.heap (show w4.drew.heap[x6]? = _ from hw4) hxn
        refine ⟨by rw [cell_at hx5]; rfl, ?_⟩
        have hQ5 := hQd.keep hf5 hn1 hn2
        have hL5 := (hLd.let hRel hT5).more (Nat.le_succ k)
        refine (qrelease_spec hQ5 hR hL.s (by omega) (by omega) p).mono ?_
        rintro v2 w6 ⟨hs', ws', out, hrow2, hQ6, hf6, l1, l2, hto⟩
        obtain ⟨rfl, hR'⟩ := hto H' W' ls hRel hT5.hs.keys hT5.ws.keys
        have hx6 := hf6.heap hx5 (by omega)
        refine ⟨by rw [cell_at hx6]; rfl, ?_⟩
        have hz4 : base ≤ w4.drew.heap.size := hQd.le
        have hrow6 := own_keep hrow hf6 (fun k hk _ _ e => by omega)
        have hol : out.length ≤ k := by
          have := hrow.1
          have : out.length ≤ (sortK W).length := len_sub (hRel.up.imp fun e => by omega) (fun y hy => by
            obtain ⟨_, key, h1, _⟩ := (hRel.told y).1 hy
            exact mem_wk.2 (by rw [(getD_some hL.t.ws.keys).2 h1]; rfl))
          rw [len_wk] at this
          have := hL.wl
          omega
        refine (same_spec (CellsAt.of_own hrow6) (CellsAt.of_own hrow2) (by omega)).mono ?_
        rintro r7 w7 ⟨hr7, hf7⟩
        obtain rfl : r7 = .bool true := by rw [hr7]; simp
        have hx7 := hf7.heap hx6 (fun e => e)
        refine ⟨by rw [cell_at hx7]; rfl, ?_⟩
        simp only [Pu_some, extV_0, extV_1, extV_2, extV_3, nilV_ptr, nilV_fn, faV_ptr, lenV_sl, lenS_s, capV_sl, pickV_t, pickV_f, unV_not, unV_neg, isB_t, isB_f, isB_u, binV_add, binV_sub, binV_mul, binV_eql, binV_neq, binV_lss, binV_leq, binV_gtr, binV_geq, binV_seql, binV_sneq, binV_slss, binV_beql, binV_bneq, binV_peql, binV_pneq, add_add, add_none, Go.Al.add_zero, Nat.zero_add, Nat.add_zero, IfB_t, IfB_f, Gd_t, Gd_f, Ld_ptr, LdN_ptr, Option.isNone_some, Option.isNone_none, Option.isSome_some, Option.isSome_none, Bool.not_true, Bool.not_false, drew_cell, drew_heap]
        have hL7 := (hL5.t.keep hf6 (by omega) (by omega) (by omega)).keep hf7 (fun e => e) (fun e => e) (fun e => e)
        exact hkk _ _ ⟨rfl, _, _, _, _, ⟨hL7, hL5.s, hL5.wf, hL5.hl, hL5.wl⟩, hQ6.keep0 hf7, hR', by omega, by omega, hx7, (((Fmf hF4 (Fm.drew _ w4)).trans hf5 (U := fun _ => False) (fun _ _ e => e) (fun x hx e => by omega)).trans hf6 (U := fun _ => False) (fun _ _ e => e) (fun x hx e => by omega)).trans hf7 (fun _ _ e => e) (fun _ _ e => e)⟩
      | false =>
        simp only [Pu_some, extV_0, extV_1, extV_2, extV_3, nilV_ptr, nilV_fn, faV_ptr, lenV_sl, lenS_s, capV_sl, pickV_t, pickV_f, unV_not, unV_neg, isB_t, isB_f, isB_u, binV_add, binV_sub, binV_mul, binV_eql, binV_neq, binV_lss, binV_leq, binV_gtr, binV_geq, binV_seql, binV_sneq, binV_slss, binV_beql, binV_bneq, binV_peql, binV_pneq, add_add, add_none, Go.Al.add_zero, Nat.zero_add, Nat.add_zero, IfB_t, IfB_f, Gd_t, Gd_f, Ld_ptr, LdN_ptr, Option.isNone_some, Option.isNone_none, Option.isSome_some, Option.isSome_none, Bool.not_true, Bool.not_false, drew_cell, drew_heap, c0', c1, c2]
        refine (try_spec hL4.t hL4.s p key).mono ?_
        rintro _ w5 ⟨H', W', ok, e, rfl, hTry, hT5, hf5⟩
        have hx5 := hf5.heap hw4 hxn
        have c5 : w5.cell? ⟨x6, 1, none⟩ = some (jv p) := by rw [cell_at hx5]; rfl
        have c6 : w5.cell? ⟨x6, 2, none⟩ = some (sv key) := by rw [cell_at hx5]; rfl
        have hQ5 := hQ4.keep hf5 hn1 hn2
        have hL5 := hL4.try hw1 hTry hT5
        simp only [Pu_some, extV_0, extV_1, extV_2, extV_3, nilV_ptr, nilV_fn, faV_ptr, lenV_sl, lenS_s, capV_sl, pickV_t, pickV_f, unV_not, unV_neg, isB_t, isB_f, isB_u, binV_add, binV_sub, binV_mul, binV_eql, binV_neq, binV_lss, binV_leq, binV_gtr, binV_geq, binV_seql, binV_sneq, binV_slss, binV_beql, binV_bneq, binV_peql, binV_pneq, add_add, add_none, Go.Al.add_zero, Nat.zero_add, Nat.add_zero, IfB_t, IfB_f, Gd_t, Gd_f, Ld_ptr, LdN_ptr, Option.isNone_some, Option.isNone_none, Option.isSome_some, Option.isSome_none, Bool.not_true, Bool.not_false, drew_cell, drew_heap, c5, c6]
        refine (qtry_spec hQ5 hR hL.s (by omega) (by omega) p key).mono ?_
        rintro v2 w6 ⟨hs', ws', hQ6, hf6, l1, l2, hto⟩
        obtain ⟨rfl, hR'⟩ := hto _ _ _ _ hTry
        simp only [Pu_some, extV_0, extV_1, extV_2, extV_3, nilV_ptr, nilV_fn, faV_ptr, lenV_sl, lenS_s, capV_sl, pickV_t, pickV_f, unV_not, unV_neg, isB_t, isB_f, isB_u, binV_add, binV_sub, binV_mul, binV_eql, binV_neq, binV_lss, binV_leq, binV_gtr, binV_geq, binV_seql, binV_sneq, binV_slss, binV_beql, binV_bneq, binV_peql, binV_pneq, add_add, add_none, Go.Al.add_zero, Nat.zero_add, Nat.add_zero, IfB_t, IfB_f, Gd_t, Gd_f, Ld_ptr, LdN_ptr, Option.isNone_some, Option.isNone_none, Option.isSome_some, Option.isSome_none, Bool.not_true, Bool.not_false, drew_cell, drew_heap, bne_self_eq_false]
        have hL6 := hL5.t.keep hf6 (by omega) (by omega) (by omega)
        exact hkk _ _ ⟨rfl, _, _, _, _, ⟨hL6, hL5.s, hL5.wf, hL5.hl, hL5.wl⟩, hQ6, hR', by omega, by omega, hf6.heap hx5 (by omega), (hF4.trans hf5 (U := fun _ => False) (fun _ _ e => e) (fun x hx e => by omega)).trans hf6 (fun _ _ e => e) (fun x hx e => by omega)⟩
  · have e1 : decide ((k : Int) < (ops.length : Int)) = false := by simpa using hlt
    simp only [Pu_some, extV_0, extV_1, extV_2, extV_3, nilV_ptr, nilV_fn, faV_ptr, lenV_sl, lenS_s, capV_sl, pickV_t, pickV_f, unV_not, unV_neg, isB_t, isB_f, isB_u, binV_add, binV_sub, binV_mul, binV_eql, binV_neq, binV_lss, binV_leq, binV_gtr, binV_geq, binV_seql, binV_sneq, binV_slss, binV_beql, binV_bneq, binV_peql, binV_pneq, add_add, add_none, Go.Al.add_zero, Nat.zero_add, Nat.add_zero, IfB_t, IfB_f, Gd_t, Gd_f, Ld_ptr, LdN_ptr, Option.isNone_some, Option.isNone_none, Option.isSome_some, Option.isSome_none, Bool.not_true, Bool.not_false, drew_cell, drew_heap, e1]
    refine (awake_locks _).mono ?_
    rintro _ w5 ⟨rfl, hf5⟩
    exact ⟨rfl, Fmf hf hf5⟩

end Go.Proofs.Ytgknklnbcjjlkaa
