/- What the document's answer for layer 2 does: syncing, crashing, pending, new. -/
import Derived.Test.YthgdinjgdjiknaaDiskRef
namespace Go.Proofs.Ythgdinjgdjiknaa
open Go.Al Go.Proofs
set_option linter.unusedVariables false
set_option linter.unusedSimpArgs false
set_option linter.unusedSectionVars false

section
variable {w : World} {b : Nat} {q : RB} {d : Dk} (h : RAt w b q d)
include h

theorem rsync_spec (hw : d.Wf) : Cl Try.prog 60 [pv b] w fun v w' => v = iv d.sync.2 ∧ RAt w' b q d.sync.1 ∧ Fm (q.mine b) w w' := by
  have hn := hw.n1
  refine c60 ?_; unfold T60
  unfold Dk.sync
  cases hg : d.gone with
  | true =>
    simp only [Pu_some, extV_0, extV_1, extV_2, extV_3, nilV_ptr, nilV_fn, faV_ptr, lenV_sl, lenS_s, capV_sl, pickV_t, pickV_f, unV_not, unV_neg, isB_t, isB_f, isB_u, binV_add, binV_sub, binV_mul, binV_eql, binV_neq, binV_lss, binV_leq, binV_gtr, binV_geq, binV_seql, binV_sneq, binV_slss, binV_beql, binV_bneq, binV_peql, binV_pneq, add_add, add_none, Go.Al.add_zero, Nat.zero_add, Nat.add_zero, IfB_t, IfB_f, Gd_t, Gd_f, Ld_ptr, LdN_ptr, Option.isNone_some, Option.isNone_none, Option.isSome_some, Option.isSome_none, Bool.not_true, Bool.not_false, drew_cell, drew_heap, h.c4, hg, cond_true]
    exact ⟨(by trivial), h, Fm.refl _ _⟩
  | false =>
    simp only [Pu_some, extV_0, extV_1, extV_2, extV_3, nilV_ptr, nilV_fn, faV_ptr, lenV_sl, lenS_s, capV_sl, pickV_t, pickV_f, unV_not, unV_neg, isB_t, isB_f, isB_u, binV_add, binV_sub, binV_mul, binV_eql, binV_neq, binV_lss, binV_leq, binV_gtr, binV_geq, binV_seql, binV_sneq, binV_slss, binV_beql, binV_bneq, binV_peql, binV_pneq, add_add, add_none, Go.Al.add_zero, Nat.zero_add, Nat.add_zero, IfB_t, IfB_f, Gd_t, Gd_f, Ld_ptr, LdN_ptr, Option.isNone_some, Option.isNone_none, Option.isSome_some, Option.isSome_none, Bool.not_true, Bool.not_false, drew_cell, drew_heap, h.c4, hg, cond_false]
    refine (ract_spec h hw).mono ?_
    rintro _ w1 ⟨rfl, h1, hf1⟩
    have hw1 := hw.tick
    cases hg1 : d.tick.gone with
    | true =>
      simp only [Pu_some, extV_0, extV_1, extV_2, extV_3, nilV_ptr, nilV_fn, faV_ptr, lenV_sl, lenS_s, capV_sl, pickV_t, pickV_f, unV_not, unV_neg, isB_t, isB_f, isB_u, binV_add, binV_sub, binV_mul, binV_eql, binV_neq, binV_lss, binV_leq, binV_gtr, binV_geq, binV_seql, binV_sneq, binV_slss, binV_beql, binV_bneq, binV_peql, binV_pneq, add_add, add_none, Go.Al.add_zero, Nat.zero_add, Nat.add_zero, IfB_t, IfB_f, Gd_t, Gd_f, Ld_ptr, LdN_ptr, Option.isNone_some, Option.isNone_none, Option.isSome_some, Option.isSome_none, Bool.not_true, Bool.not_false, drew_cell, drew_heap, cond_true]
      exact ⟨(by trivial), h1, hf1⟩
    | false =>
      have hn1 : d.tick.cur.length ≤ 65536 := hw1.n1
      simp only [Pu_some, extV_0, extV_1, extV_2, extV_3, nilV_ptr, nilV_fn, faV_ptr, lenV_sl, lenS_s, capV_sl, pickV_t, pickV_f, unV_not, unV_neg, isB_t, isB_f, isB_u, binV_add, binV_sub, binV_mul, binV_eql, binV_neq, binV_lss, binV_leq, binV_gtr, binV_geq, binV_seql, binV_sneq, binV_slss, binV_beql, binV_bneq, binV_peql, binV_pneq, add_add, add_none, Go.Al.add_zero, Nat.zero_add, Nat.add_zero, IfB_t, IfB_f, Gd_t, Gd_f, Ld_ptr, LdN_ptr, Option.isNone_some, Option.isNone_none, Option.isSome_some, Option.isSome_none, Bool.not_true, Bool.not_false, drew_cell, drew_heap, cond_false]
      generalize d.tick = e at h1 hw1 hg1 hn1
      refine ⟨fun vs w2 => ∃ i : Nat, vs = [iv (i : Nat)] ∧ i ≤ e.cur.length ∧ RAt w2 b q (e.smid i) ∧ Fm (q.mine b) w w2, fun vs _ => (e.cur.length - nth vs 0).toNat, ⟨0, rfl, by omega, by rw [Dk.smid_zero]; exact h1, hf1⟩, ?_⟩
      rintro _ w2 ii ⟨i, hvs, hi, h2, hf2⟩
      cases hvs
      obtain ⟨l1, l2⟩ := Dk.smid_len hw1 hi
      by_cases hlt : i < e.cur.length
      · have e1 : decide ((i : Int) < ((e.smid i).old.length : Int)) = true := by rw [decide_eq_true_eq]; omega
        have e2 : IntKind.i64.wrap ((i : Int) + 1) = ((i + 1 : Nat) : Int) := by rw [wrap_id] <;> omega
        have hio : i < (e.smid i).old.length := by omega
        have hic : i < (e.smid i).chg.length := by omega
        have hin : i < (e.smid i).cur.length := hlt
        have hx : (e.smid i).cur[i]? = some (e.cur.getD i []) := Dk.getD_eq hlt
        have h2d := h2.drew
        simp only [Pu_some, extV_0, extV_1, extV_2, extV_3, nilV_ptr, nilV_fn, faV_ptr, lenV_sl, lenS_s, capV_sl, pickV_t, pickV_f, unV_not, unV_neg, isB_t, isB_f, isB_u, binV_add, binV_sub, binV_mul, binV_eql, binV_neq, binV_lss, binV_leq, binV_gtr, binV_geq, binV_seql, binV_sneq, binV_slss, binV_beql, binV_bneq, binV_peql, binV_pneq, add_add, add_none, Go.Al.add_zero, Nat.zero_add, Nat.add_zero, IfB_t, IfB_f, Gd_t, Gd_f, Ld_ptr, LdN_ptr, Option.isNone_some, Option.isNone_none, Option.isSome_some, Option.isSome_none, Bool.not_true, Bool.not_false, drew_cell, drew_heap, h2.c0, e1, h2.c1, ixV_at hin, Nat.mul_one, h2.cellN hx, ixV_at hio, true_and]
        refine h2d.putO hio _ ?_
        intro w3 h3 hf3
        have hic3 : i < ({ e.smid i with old := (e.smid i).old.set i (e.cur.getD i []) } : Dk).chg.length := hic
        simp only [Pu_some, extV_0, extV_1, extV_2, extV_3, nilV_ptr, nilV_fn, faV_ptr, lenV_sl, lenS_s, capV_sl, pickV_t, pickV_f, unV_not, unV_neg, isB_t, isB_f, isB_u, binV_add, binV_sub, binV_mul, binV_eql, binV_neq, binV_lss, binV_leq, binV_gtr, binV_geq, binV_seql, binV_sneq, binV_slss, binV_beql, binV_bneq, binV_peql, binV_pneq, add_add, add_none, Go.Al.add_zero, Nat.zero_add, Nat.add_zero, IfB_t, IfB_f, Gd_t, Gd_f, Ld_ptr, LdN_ptr, Option.isNone_some, Option.isNone_none, Option.isSome_some, Option.isSome_none, Bool.not_true, Bool.not_false, drew_cell, drew_heap, h3.c2, ixV_at hic3, Nat.mul_one]
        refine h3.putC hic _ ?_
        intro w4 h4 hf4
        simp only [Pu_some, extV_0, extV_1, extV_2, extV_3, nilV_ptr, nilV_fn, faV_ptr, lenV_sl, lenS_s, capV_sl, pickV_t, pickV_f, unV_not, unV_neg, isB_t, isB_f, isB_u, binV_add, binV_sub, binV_mul, binV_eql, binV_neq, binV_lss, binV_leq, binV_gtr, binV_geq, binV_seql, binV_sneq, binV_slss, binV_beql, binV_bneq, binV_peql, binV_pneq, add_add, add_none, Go.Al.add_zero, Nat.zero_add, Nat.add_zero, IfB_t, IfB_f, Gd_t, Gd_f, Ld_ptr, LdN_ptr, Option.isNone_some, Option.isNone_none, Option.isSome_some, Option.isSome_none, Bool.not_true, Bool.not_false, drew_cell, drew_heap, e2]
        refine ⟨⟨i + 1, rfl, by omega, ?_, ?_⟩, by simp only [nth_0]; omega⟩
        · rw [Dk.smid_step hw1 hlt]; exact h4
        · exact ((hf2.trans (Fm.drew (fun _ => False) w2) (U := q.mine b) (fun _ _ e => e) (fun _ _ e => e.elim)).trans hf3 (U := q.mine b) (fun _ _ e => e) (fun _ _ e => e)).trans hf4 (fun _ _ e => e) (fun _ _ e => e)
      · have hie : i = e.cur.length := by omega
        subst hie
        have e1 : decide (((e.cur.length : Nat) : Int) < ((e.smid e.cur.length).old.length : Int)) = false := by rw [decide_eq_false_iff_not]; omega
        simp only [Pu_some, extV_0, extV_1, extV_2, extV_3, nilV_ptr, nilV_fn, faV_ptr, lenV_sl, lenS_s, capV_sl, pickV_t, pickV_f, unV_not, unV_neg, isB_t, isB_f, isB_u, binV_add, binV_sub, binV_mul, binV_eql, binV_neq, binV_lss, binV_leq, binV_gtr, binV_geq, binV_seql, binV_sneq, binV_slss, binV_beql, binV_bneq, binV_peql, binV_pneq, add_add, add_none, Go.Al.add_zero, Nat.zero_add, Nat.add_zero, IfB_t, IfB_f, Gd_t, Gd_f, Ld_ptr, LdN_ptr, Option.isNone_some, Option.isNone_none, Option.isSome_some, Option.isSome_none, Bool.not_true, Bool.not_false, drew_cell, drew_heap, h2.c0, e1]
        refine ⟨(by trivial), ?_, hf2⟩
        rw [Dk.smid_end hw1] at h2
        rw [hg1] at h2; exact h2

theorem rpend_spec (hw : d.Wf) : Cl Try.prog 66 [pv b] w fun v w' => w'.ownsRow w.heap.size 3 1 v d.pend.length (d.pend.map fun i => iv (i : Nat)) ∧ Fm (fun _ => False) w w' := by
  have hn := hw.n1
  have hlc := hw.lc
  refine c66 ?_; unfold T66
  refine ⟨fun vs w2 => ∃ (i : Nat) (u : Value), vs = [u, iv (i : Nat)] ∧ i ≤ d.cur.length ∧ w2.ownsRow w.heap.size 3 1 u ((List.range i).filter (Dk.isC d.chg)).length (((List.range i).filter (Dk.isC d.chg)).map fun i => iv (i : Nat)) ∧ RAt w2 b q d ∧ Fm (fun _ => False) w w2, fun vs _ => (d.cur.length - nth vs 1).toNat, ⟨0, _, rfl, by omega, by simpa using World.ownsRow_nil w _ _ _, h, Fm.refl _ _⟩, ?_⟩
  rintro _ w2 u ii ⟨i, _, hvs, hi, hu, h2, hf⟩
  cases hvs
  by_cases hlt : i < d.cur.length
  · have e1 : decide ((i : Int) < (d.chg.length : Int)) = true := by rw [decide_eq_true_eq]; omega
    have e2 : IntKind.i64.wrap ((i : Int) + 1) = ((i + 1 : Nat) : Int) := by rw [wrap_id] <;> omega
    have hic : i < d.chg.length := by omega
    have hx : d.chg[i]? = some (Dk.isC d.chg i) := Dk.getD_eq hic
    have hsucc : (List.range (i + 1)).filter (Dk.isC d.chg) = (List.range i).filter (Dk.isC d.chg) ++ if Dk.isC d.chg i then [i] else [] := by
      rw [List.range_succ, List.filter_append, List.filter_cons]; rfl
    simp only [Pu_some, extV_0, extV_1, extV_2, extV_3, nilV_ptr, nilV_fn, faV_ptr, lenV_sl, lenS_s, capV_sl, pickV_t, pickV_f, unV_not, unV_neg, isB_t, isB_f, isB_u, binV_add, binV_sub, binV_mul, binV_eql, binV_neq, binV_lss, binV_leq, binV_gtr, binV_geq, binV_seql, binV_sneq, binV_slss, binV_beql, binV_bneq, binV_peql, binV_pneq, add_add, add_none, Go.Al.add_zero, Nat.zero_add, Nat.add_zero, IfB_t, IfB_f, Gd_t, Gd_f, Ld_ptr, LdN_ptr, Option.isNone_some, Option.isNone_none, Option.isSome_some, Option.isSome_none, Bool.not_true, Bool.not_false, drew_cell, drew_heap, h2.c2, e1]
    refine Jn_at (fun vs w3 => ∃ u', vs = [u'] ∧ w3.ownsRow w.heap.size 3 1 u' ((List.range (i + 1)).filter (Dk.isC d.chg)).length (((List.range (i + 1)).filter (Dk.isC d.chg)).map fun i => iv (i : Nat)) ∧ RAt w3 b q d ∧ Fm (fun _ => False) w w3) ?_ ?_
    · rintro _ w3 ⟨u', rfl, hu', h3, hf3⟩ _
      refine ⟨u', rfl, ?_⟩
      simp only [Pu_some, extV_0, extV_1, extV_2, extV_3, nilV_ptr, nilV_fn, faV_ptr, lenV_sl, lenS_s, capV_sl, pickV_t, pickV_f, unV_not, unV_neg, isB_t, isB_f, isB_u, binV_add, binV_sub, binV_mul, binV_eql, binV_neq, binV_lss, binV_leq, binV_gtr, binV_geq, binV_seql, binV_sneq, binV_slss, binV_beql, binV_bneq, binV_peql, binV_pneq, add_add, add_none, Go.Al.add_zero, Nat.zero_add, Nat.add_zero, IfB_t, IfB_f, Gd_t, Gd_f, Ld_ptr, LdN_ptr, Option.isNone_some, Option.isNone_none, Option.isSome_some, Option.isSome_none, Bool.not_true, Bool.not_false, drew_cell, drew_heap, e2]
      exact ⟨⟨i + 1, u', rfl, by omega, hu', h3, hf3⟩, by simp only [nth_1]; omega⟩
    · intro kk hkk
      simp only [Pu_some, extV_0, extV_1, extV_2, extV_3, nilV_ptr, nilV_fn, faV_ptr, lenV_sl, lenS_s, capV_sl, pickV_t, pickV_f, unV_not, unV_neg, isB_t, isB_f, isB_u, binV_add, binV_sub, binV_mul, binV_eql, binV_neq, binV_lss, binV_leq, binV_gtr, binV_geq, binV_seql, binV_sneq, binV_slss, binV_beql, binV_bneq, binV_peql, binV_pneq, add_add, add_none, Go.Al.add_zero, Nat.zero_add, Nat.add_zero, IfB_t, IfB_f, Gd_t, Gd_f, Ld_ptr, LdN_ptr, Option.isNone_some, Option.isNone_none, Option.isSome_some, Option.isSome_none, Bool.not_true, Bool.not_false, drew_cell, drew_heap, h2.c2, ixV_at hic, Nat.mul_one, h2.cellC hx]
      cases hc : Dk.isC d.chg i with
      | false =>
        simp only [Pu_some, extV_0, extV_1, extV_2, extV_3, nilV_ptr, nilV_fn, faV_ptr, lenV_sl, lenS_s, capV_sl, pickV_t, pickV_f, unV_not, unV_neg, isB_t, isB_f, isB_u, binV_add, binV_sub, binV_mul, binV_eql, binV_neq, binV_lss, binV_leq, binV_gtr, binV_geq, binV_seql, binV_sneq, binV_slss, binV_beql, binV_bneq, binV_peql, binV_pneq, add_add, add_none, Go.Al.add_zero, Nat.zero_add, Nat.add_zero, IfB_t, IfB_f, Gd_t, Gd_f, Ld_ptr, LdN_ptr, Option.isNone_some, Option.isNone_none, Option.isSome_some, Option.isSome_none, Bool.not_true, Bool.not_false, drew_cell, drew_heap]
        refine hkk _ _ ⟨u, rfl, ?_, h2, hf⟩
        rw [hsucc, hc]
        simpa using hu
      | true =>
        simp only [Pu_some, extV_0, extV_1, extV_2, extV_3, nilV_ptr, nilV_fn, faV_ptr, lenV_sl, lenS_s, capV_sl, pickV_t, pickV_f, unV_not, unV_neg, isB_t, isB_f, isB_u, binV_add, binV_sub, binV_mul, binV_eql, binV_neq, binV_lss, binV_leq, binV_gtr, binV_geq, binV_seql, binV_sneq, binV_slss, binV_beql, binV_bneq, binV_peql, binV_pneq, add_add, add_none, Go.Al.add_zero, Nat.zero_add, Nat.add_zero, IfB_t, IfB_f, Gd_t, Gd_f, Ld_ptr, LdN_ptr, Option.isNone_some, Option.isNone_none, Option.isSome_some, Option.isSome_none, Bool.not_true, Bool.not_false, drew_cell, drew_heap]
        have hll : ((List.range i).filter (Dk.isC d.chg)).length ≤ i := Nat.le_trans (List.length_filter_le _ _) (by simp)
        refine append_el E34 (by omega) 34 (cs := [iv (i : Nat)]) rfl (bs34 _ _) (by intro u hu; simp at hu; subst hu; rfl) hu (by unfold maxLen; omega) (by omega) hf.size ?_
        intro u' w3 hu' _ hf3
        have hf3' : Fm (fun _ => False) w w3 := hf.trans hf3 (fun _ _ e => e) (fun x hx e => by omega)
        refine hkk _ _ ⟨u', rfl, ?_, h.keep0 hf3', hf3'⟩
        rw [hsucc, hc, if_pos rfl, List.length_append, List.map_append]
        exact hu'
  · have hie : i = d.cur.length := by omega
    subst hie
    have e1 : decide (((d.cur.length : Nat) : Int) < (d.chg.length : Int)) = false := by rw [decide_eq_false_iff_not]; omega
    simp only [Pu_some, extV_0, extV_1, extV_2, extV_3, nilV_ptr, nilV_fn, faV_ptr, lenV_sl, lenS_s, capV_sl, pickV_t, pickV_f, unV_not, unV_neg, isB_t, isB_f, isB_u, binV_add, binV_sub, binV_mul, binV_eql, binV_neq, binV_lss, binV_leq, binV_gtr, binV_geq, binV_seql, binV_sneq, binV_slss, binV_beql, binV_bneq, binV_peql, binV_pneq, add_add, add_none, Go.Al.add_zero, Nat.zero_add, Nat.add_zero, IfB_t, IfB_f, Gd_t, Gd_f, Ld_ptr, LdN_ptr, Option.isNone_some, Option.isNone_none, Option.isSome_some, Option.isSome_none, Bool.not_true, Bool.not_false, drew_cell, drew_heap, h2.c2, e1]
    exact ⟨hu, hf⟩

set_option maxHeartbeats 1000000 in
theorem rcrash_spec (hw : d.Wf) {hv : Value} {L : List Int} (hL : CellsAt w hv L.length 1 (L.map iv)) (hLb : L ≠ [] → ∀ x, blockOf hv = some x → ¬ q.mine b x)
    (hr : ∀ f ∈ L, -9223372036854775808 ≤ f ∧ f ≤ 9223372036854775807) :
    Cl Try.prog 21 [pv b, hv] w fun v w' => v = .tuple #[] ∧ RAt w' b q (d.crash L) ∧ Fm (q.mine b) w w' := by
  have hn := hw.n1
  have hrk : ∀ i, i ≤ d.cur.length → Dk.rank d.chg i ≤ i := fun i _ => Nat.le_trans (List.length_filter_le _ _) (by simp)
  refine c21 ?_; unfold T21
  refine ⟨fun vs w2 => ∃ (i : Nat), vs = [iv (Dk.rank d.chg i : Nat), iv (i : Nat)] ∧ i ≤ d.cur.length ∧ RAt w2 b q (d.rmid L i) ∧ Fm (q.mine b) w w2, fun vs _ => (d.cur.length - nth vs 1).toNat, ⟨0, rfl, by omega, by rw [Dk.rmid_zero]; exact h, Fm.refl _ _⟩, ?_⟩
  rintro _ w2 ik ii ⟨i, hvs, hi, h2, hf⟩
  cases hvs
  obtain ⟨l1, l2, l3⟩ := Dk.rmid_len L hw hi
  have hri := hrk i hi
  by_cases hlt : i < d.cur.length
  · have e1 : decide ((i : Int) < ((d.rmid L i).old.length : Int)) = true := by rw [decide_eq_true_eq]; omega
    have e2 : IntKind.i64.wrap ((i : Int) + 1) = ((i + 1 : Nat) : Int) := by rw [wrap_id] <;> omega
    have hio : i < (d.rmid L i).old.length := by omega
    have hic : i < (d.rmid L i).chg.length := by omega
    have hin : i < (d.rmid L i).cur.length := by omega
    obtain ⟨a1, a2, a3⟩ := Dk.rmid_at L hw hlt
    have hx64 := hw.cur64 hlt
    have hy64 := hw.old64 hlt
    simp only [Pu_some, extV_0, extV_1, extV_2, extV_3, nilV_ptr, nilV_fn, faV_ptr, lenV_sl, lenS_s, capV_sl, pickV_t, pickV_f, unV_not, unV_neg, isB_t, isB_f, isB_u, binV_add, binV_sub, binV_mul, binV_eql, binV_neq, binV_lss, binV_leq, binV_gtr, binV_geq, binV_seql, binV_sneq, binV_slss, binV_beql, binV_bneq, binV_peql, binV_pneq, add_add, add_none, Go.Al.add_zero, Nat.zero_add, Nat.add_zero, IfB_t, IfB_f, Gd_t, Gd_f, Ld_ptr, LdN_ptr, Option.isNone_some, Option.isNone_none, Option.isSome_some, Option.isSome_none, Bool.not_true, Bool.not_false, drew_cell, drew_heap, h2.c0, e1]
    refine Jn_at (fun vs w3 => vs = [iv (Dk.rank d.chg (i + 1) : Nat)] ∧ RAt w3 b q (d.rmid L (i + 1)) ∧ Fm (q.mine b) w w3) ?_ ?_
    · rintro _ w3 ⟨rfl, h3, hf3⟩ _
      refine ⟨_, rfl, ?_⟩
      simp only [Pu_some, extV_0, extV_1, extV_2, extV_3, nilV_ptr, nilV_fn, faV_ptr, lenV_sl, lenS_s, capV_sl, pickV_t, pickV_f, unV_not, unV_neg, isB_t, isB_f, isB_u, binV_add, binV_sub, binV_mul, binV_eql, binV_neq, binV_lss, binV_leq, binV_gtr, binV_geq, binV_seql, binV_sneq, binV_slss, binV_beql, binV_bneq, binV_peql, binV_pneq, add_add, add_none, Go.Al.add_zero, Nat.zero_add, Nat.add_zero, IfB_t, IfB_f, Gd_t, Gd_f, Ld_ptr, LdN_ptr, Option.isNone_some, Option.isNone_none, Option.isSome_some, Option.isSome_none, Bool.not_true, Bool.not_false, drew_cell, drew_heap, e2]
      exact ⟨⟨i + 1, rfl, by omega, h3, hf3⟩, by simp only [nth_1]; omega⟩
    intro kk hkk
    simp only [Pu_some, extV_0, extV_1, extV_2, extV_3, nilV_ptr, nilV_fn, faV_ptr, lenV_sl, lenS_s, capV_sl, pickV_t, pickV_f, unV_not, unV_neg, isB_t, isB_f, isB_u, binV_add, binV_sub, binV_mul, binV_eql, binV_neq, binV_lss, binV_leq, binV_gtr, binV_geq, binV_seql, binV_sneq, binV_slss, binV_beql, binV_bneq, binV_peql, binV_pneq, add_add, add_none, Go.Al.add_zero, Nat.zero_add, Nat.add_zero, IfB_t, IfB_f, Gd_t, Gd_f, Ld_ptr, LdN_ptr, Option.isNone_some, Option.isNone_none, Option.isSome_some, Option.isSome_none, Bool.not_true, Bool.not_false, drew_cell, drew_heap, h2.c2, ixV_at hic, Nat.mul_one, h2.cellC a3]
    cases hc : Dk.isC d.chg i with
    | false =>
      simp only [Pu_some, extV_0, extV_1, extV_2, extV_3, nilV_ptr, nilV_fn, faV_ptr, lenV_sl, lenS_s, capV_sl, pickV_t, pickV_f, unV_not, unV_neg, isB_t, isB_f, isB_u, binV_add, binV_sub, binV_mul, binV_eql, binV_neq, binV_lss, binV_leq, binV_gtr, binV_geq, binV_seql, binV_sneq, binV_slss, binV_beql, binV_bneq, binV_peql, binV_pneq, add_add, add_none, Go.Al.add_zero, Nat.zero_add, Nat.add_zero, IfB_t, IfB_f, Gd_t, Gd_f, Ld_ptr, LdN_ptr, Option.isNone_some, Option.isNone_none, Option.isSome_some, Option.isSome_none, Bool.not_true, Bool.not_false, drew_cell, drew_heap]
      refine hkk _ _ ⟨?_, by rw [Dk.rmid_skip L hw hlt hc]; exact h2, hf⟩
      rw [Dk.rank_succ, hc]; rfl
    | true =>
      simp only [Pu_some, extV_0, extV_1, extV_2, extV_3, nilV_ptr, nilV_fn, faV_ptr, lenV_sl, lenS_s, capV_sl, pickV_t, pickV_f, unV_not, unV_neg, isB_t, isB_f, isB_u, binV_add, binV_sub, binV_mul, binV_eql, binV_neq, binV_lss, binV_leq, binV_gtr, binV_geq, binV_seql, binV_sneq, binV_slss, binV_beql, binV_bneq, binV_peql, binV_pneq, add_add, add_none, Go.Al.add_zero, Nat.zero_add, Nat.add_zero, IfB_t, IfB_f, Gd_t, Gd_f, Ld_ptr, LdN_ptr, Option.isNone_some, Option.isNone_none, Option.isSome_some, Option.isSome_none, Bool.not_true, Bool.not_false, drew_cell, drew_heap]
      have hsucc : Dk.rank d.chg (i + 1) = Dk.rank d.chg i + 1 := by rw [Dk.rank_succ, hc]; rfl
      have hmend : Dk.mend L d i = Dk.torn (Dk.fate L (Dk.rank d.chg i)) (d.cur.getD i []) (d.old.getD i []) := by unfold Dk.mend; rw [hc]; rfl
      have hstep := Dk.rmid_step L hw hlt
      rw [hmend] at hstep
      rw [hsucc, hstep] at hkk
      clear hstep hmend hsucc
      generalize hk : Dk.rank d.chg i = k at hkk hri ⊢
      generalize hX : d.cur.getD i [] = X at *
      generalize hY : d.old.getD i [] = Y at *
      generalize hE : d.rmid L i = E at *
      refine Jn_at (fun vs w3 => w3 = w2 ∧ ∃ f, vs = [iv f] ∧ (-9223372036854775808 ≤ f ∧ f ≤ 9223372036854775807) ∧ Dk.fold1 f = Dk.fate L k) ?_ ?_
      · rintro _ w3 ⟨rfl, f, rfl, hfin, hff⟩ _
        refine ⟨_, rfl, ?_⟩
        refine Jn_at (fun vs w4 => w4 = w3 ∧ vs = [iv (Dk.fate L k)]) ?_ ?_
        · rintro _ w4 ⟨rfl, rfl⟩ _
          refine ⟨_, rfl, ?_⟩
          have e3 : IntKind.i64.wrap ((k : Int) + 1) = ((k + 1 : Nat) : Int) := by rw [wrap_id] <;> omega
          have hfp := Dk.fate_pos hr k
          generalize Dk.fate L k = F at hkk hff hfp
          simp only [Pu_some, extV_0, extV_1, extV_2, extV_3, nilV_ptr, nilV_fn, faV_ptr, lenV_sl, lenS_s, capV_sl, pickV_t, pickV_f, unV_not, unV_neg, isB_t, isB_f, isB_u, binV_add, binV_sub, binV_mul, binV_eql, binV_neq, binV_lss, binV_leq, binV_gtr, binV_geq, binV_seql, binV_sneq, binV_slss, binV_beql, binV_bneq, binV_peql, binV_pneq, add_add, add_none, Go.Al.add_zero, Nat.zero_add, Nat.add_zero, IfB_t, IfB_f, Gd_t, Gd_f, Ld_ptr, LdN_ptr, Option.isNone_some, Option.isNone_none, Option.isSome_some, Option.isSome_none, Bool.not_true, Bool.not_false, drew_cell, drew_heap, e3]
          refine Jn_at (fun vs w5 => vs = [] ∧ RAt w5 b q { E with old := E.old.set i (Dk.torn F X Y) } ∧ Fm (q.mine b) w w5) ?_ ?_
          · rintro _ w5 ⟨rfl, h5, hf5⟩ _
            refine ⟨rfl, ?_⟩
            have h5d := h5.drew
            have hto : ({ E with old := E.old.set i (Dk.torn F X Y) } : Dk).old[i]? = some (Dk.torn F X Y) := by
              show (E.old.set i _)[i]? = _
              rw [List.getElem?_set, if_pos rfl, if_pos hio]
            have hin5 : i < ({ E with old := E.old.set i (Dk.torn F X Y) } : Dk).cur.length := hin
            have hio5 : i < ({ E with old := E.old.set i (Dk.torn F X Y) } : Dk).old.length := by show i < (E.old.set i _).length; simpa using hio
            simp only [Pu_some, extV_0, extV_1, extV_2, extV_3, nilV_ptr, nilV_fn, faV_ptr, lenV_sl, lenS_s, capV_sl, pickV_t, pickV_f, unV_not, unV_neg, isB_t, isB_f, isB_u, binV_add, binV_sub, binV_mul, binV_eql, binV_neq, binV_lss, binV_leq, binV_gtr, binV_geq, binV_seql, binV_sneq, binV_slss, binV_beql, binV_bneq, binV_peql, binV_pneq, add_add, add_none, Go.Al.add_zero, Nat.zero_add, Nat.add_zero, IfB_t, IfB_f, Gd_t, Gd_f, Ld_ptr, LdN_ptr, Option.isNone_some, Option.isNone_none, Option.isSome_some, Option.isSome_none, Bool.not_true, Bool.not_false, drew_cell, drew_heap, h5.c1, h5.c0, ixV_at hio5, Nat.mul_one, h5.cellO hto, ixV_at hin5, true_and]
            refine h5d.putN hin5 _ ?_
            intro w6 h6 hf6
            have hic6 : i < ({ E with old := E.old.set i (Dk.torn F X Y), cur := E.cur.set i (Dk.torn F X Y) } : Dk).chg.length := hic
            simp only [Pu_some, extV_0, extV_1, extV_2, extV_3, nilV_ptr, nilV_fn, faV_ptr, lenV_sl, lenS_s, capV_sl, pickV_t, pickV_f, unV_not, unV_neg, isB_t, isB_f, isB_u, binV_add, binV_sub, binV_mul, binV_eql, binV_neq, binV_lss, binV_leq, binV_gtr, binV_geq, binV_seql, binV_sneq, binV_slss, binV_beql, binV_bneq, binV_peql, binV_pneq, add_add, add_none, Go.Al.add_zero, Nat.zero_add, Nat.add_zero, IfB_t, IfB_f, Gd_t, Gd_f, Ld_ptr, LdN_ptr, Option.isNone_some, Option.isNone_none, Option.isSome_some, Option.isSome_none, Bool.not_true, Bool.not_false, drew_cell, drew_heap, h6.c2, ixV_at hic6, Nat.mul_one]
            refine h6.putC hic _ ?_
            intro w7 h7 hf7
            refine hkk _ _ ⟨rfl, h7, ?_⟩
            exact ((hf5.trans (Fm.drew (fun _ => False) w5) (U := q.mine b) (fun _ _ e => e) (fun _ _ e => e.elim)).trans hf6 (U := q.mine b) (fun _ _ e => e) (fun _ _ e => e)).trans hf7 (fun _ _ e => e) (fun _ _ e => e)
          · intro kk2 hkk2
            have q1 := rem_pos (TypeDesc.int IntKind.i64) (a := F) (b := 3) hfp.1 (by decide) hfp.2
            have h2d := h2.drew
            have fin : ∀ w5, RAt w5 b q { E with old := E.old.set i (Dk.torn F X Y) } → Fm (q.mine b) w4.drew w5 → kk2 [] w5 := fun w5 h5 hf5 => hkk2 _ _ ⟨rfl, h5, (hf.trans (Fm.drew (fun _ => False) w4) (U := q.mine b) (fun _ _ e => e) (fun _ _ e => e.elim)).trans hf5 (fun _ _ e => e) (fun _ _ e => e)⟩
            simp only [Pu_some, extV_0, extV_1, extV_2, extV_3, nilV_ptr, nilV_fn, faV_ptr, lenV_sl, lenS_s, capV_sl, pickV_t, pickV_f, unV_not, unV_neg, isB_t, isB_f, isB_u, binV_add, binV_sub, binV_mul, binV_eql, binV_neq, binV_lss, binV_leq, binV_gtr, binV_geq, binV_seql, binV_sneq, binV_slss, binV_beql, binV_bneq, binV_peql, binV_pneq, add_add, add_none, Go.Al.add_zero, Nat.zero_add, Nat.add_zero, IfB_t, IfB_f, Gd_t, Gd_f, Ld_ptr, LdN_ptr, Option.isNone_some, Option.isNone_none, Option.isSome_some, Option.isSome_none, Bool.not_true, Bool.not_false, drew_cell, drew_heap, q1]
            by_cases f1 : F % 3 = 1
            · have z1 : (F % 3 == 1) = true := by rw [f1]; rfl
              have ht : Dk.torn F X Y = X := by
                have : Dk.kept F = 64 := by unfold Dk.kept; rw [if_neg (by omega), if_pos f1]
                rw [Dk.torn, this, List.take_of_length_le (by omega), List.drop_eq_nil_of_le (by omega), List.append_nil]
              rw [ht] at fin
              simp only [Pu_some, extV_0, extV_1, extV_2, extV_3, nilV_ptr, nilV_fn, faV_ptr, lenV_sl, lenS_s, capV_sl, pickV_t, pickV_f, unV_not, unV_neg, isB_t, isB_f, isB_u, binV_add, binV_sub, binV_mul, binV_eql, binV_neq, binV_lss, binV_leq, binV_gtr, binV_geq, binV_seql, binV_sneq, binV_slss, binV_beql, binV_bneq, binV_peql, binV_pneq, add_add, add_none, Go.Al.add_zero, Nat.zero_add, Nat.add_zero, IfB_t, IfB_f, Gd_t, Gd_f, Ld_ptr, LdN_ptr, Option.isNone_some, Option.isNone_none, Option.isSome_some, Option.isSome_none, Bool.not_true, Bool.not_false, drew_cell, drew_heap, z1, h2.c0, h2.c1, ixV_at hin, Nat.mul_one, h2.cellN a1, ixV_at hio, true_and]
              exact h2d.putO hio _ fin
            · have z1 : (F % 3 == 1) = false := by simpa using f1
              by_cases f2 : F % 3 = 2
              · have z2 : (F % 3 == 2) = true := by rw [f2]; rfl
                have q2 := quo_pos (TypeDesc.int IntKind.i64) (a := F) (b := 3) hfp.1 (by decide) hfp.2
                have q3 := rem_pos (TypeDesc.int IntKind.i64) (a := F / 3) (b := 65) (by omega) (by decide) (by omega)
                have hke : F / 3 % 65 = (Dk.kept F : Nat) := by
                  unfold Dk.kept
                  rw [if_neg (by omega), if_neg f1, Int.toNat_of_nonneg (by omega)]
                have hkl := Dk.kept_le F
                have s1 := slS_hi (l := X) (i := Dk.kept F) (by omega) .i64
                have s2 := slS_lo (l := Y) (i := Dk.kept F) (by omega) .i64
                have s3 := binV_sadd TypeDesc.string (X.take (Dk.kept F)) (Y.drop (Dk.kept F)) (by simp; omega)
                simp only [Pu_some, extV_0, extV_1, extV_2, extV_3, nilV_ptr, nilV_fn, faV_ptr, lenV_sl, lenS_s, capV_sl, pickV_t, pickV_f, unV_not, unV_neg, isB_t, isB_f, isB_u, binV_add, binV_sub, binV_mul, binV_eql, binV_neq, binV_lss, binV_leq, binV_gtr, binV_geq, binV_seql, binV_sneq, binV_slss, binV_beql, binV_bneq, binV_peql, binV_pneq, add_add, add_none, Go.Al.add_zero, Nat.zero_add, Nat.add_zero, IfB_t, IfB_f, Gd_t, Gd_f, Ld_ptr, LdN_ptr, Option.isNone_some, Option.isNone_none, Option.isSome_some, Option.isSome_none, Bool.not_true, Bool.not_false, drew_cell, drew_heap, z1, z2, q2, q3, hke, h2.c0, h2.c1, ixV_at hin, Nat.mul_one, h2.cellN a1, s1, ixV_at hio, h2.cellO a2, s2, s3, true_and]
                exact h2d.putO hio _ fin
              · have z2 : (F % 3 == 2) = false := by simpa using f2
                have ht : Dk.torn F X Y = Y := by
                  have : Dk.kept F = 0 := by unfold Dk.kept; rw [if_pos (by omega)]
                  rw [Dk.torn, this, List.take_zero, List.drop_zero, List.nil_append]
                have hs : E.old.set i Y = E.old := by
                  apply List.ext_getElem?; intro j; rw [List.getElem?_set]; split
                  · rename_i e; subst e; first | rw [a2] | rw [if_pos hio, a2]
                  · rfl
                simp only [Pu_some, extV_0, extV_1, extV_2, extV_3, nilV_ptr, nilV_fn, faV_ptr, lenV_sl, lenS_s, capV_sl, pickV_t, pickV_f, unV_not, unV_neg, isB_t, isB_f, isB_u, binV_add, binV_sub, binV_mul, binV_eql, binV_neq, binV_lss, binV_leq, binV_gtr, binV_geq, binV_seql, binV_sneq, binV_slss, binV_beql, binV_bneq, binV_peql, binV_pneq, add_add, add_none, Go.Al.add_zero, Nat.zero_add, Nat.add_zero, IfB_t, IfB_f, Gd_t, Gd_f, Ld_ptr, LdN_ptr, Option.isNone_some, Option.isNone_none, Option.isSome_some, Option.isSome_none, Bool.not_true, Bool.not_false, drew_cell, drew_heap, z1, z2]
                refine hkk2 _ _ ⟨rfl, ?_, hf⟩
                rw [ht, hs]; exact h2
        · intro kk2 hkk2
          rw [← hff] at hkk2
          unfold Dk.fold1 at hkk2
          by_cases hneg : f < 0
          · have z1 : decide (f < 0) = true := by simpa using hneg
            have z2 : IntKind.i64.wrap (f + 1) = f + 1 := wrap_id (by omega)
            have z3 : IntKind.i64.wrap (0 - (f + 1)) = -(f + 1) := by rw [wrap_id] <;> omega
            rw [if_pos hneg] at hkk2
            simp only [Pu_some, extV_0, extV_1, extV_2, extV_3, nilV_ptr, nilV_fn, faV_ptr, lenV_sl, lenS_s, capV_sl, pickV_t, pickV_f, unV_not, unV_neg, isB_t, isB_f, isB_u, binV_add, binV_sub, binV_mul, binV_eql, binV_neq, binV_lss, binV_leq, binV_gtr, binV_geq, binV_seql, binV_sneq, binV_slss, binV_beql, binV_bneq, binV_peql, binV_pneq, add_add, add_none, Go.Al.add_zero, Nat.zero_add, Nat.add_zero, IfB_t, IfB_f, Gd_t, Gd_f, Ld_ptr, LdN_ptr, Option.isNone_some, Option.isNone_none, Option.isSome_some, Option.isSome_none, Bool.not_true, Bool.not_false, drew_cell, drew_heap, z1, z2, z3]
            exact hkk2 _ _ ⟨rfl, rfl⟩
          · have z1 : decide (f < 0) = false := by simpa using hneg
            rw [if_neg hneg] at hkk2
            simp only [Pu_some, extV_0, extV_1, extV_2, extV_3, nilV_ptr, nilV_fn, faV_ptr, lenV_sl, lenS_s, capV_sl, pickV_t, pickV_f, unV_not, unV_neg, isB_t, isB_f, isB_u, binV_add, binV_sub, binV_mul, binV_eql, binV_neq, binV_lss, binV_leq, binV_gtr, binV_geq, binV_seql, binV_sneq, binV_slss, binV_beql, binV_bneq, binV_peql, binV_pneq, add_add, add_none, Go.Al.add_zero, Nat.zero_add, Nat.add_zero, IfB_t, IfB_f, Gd_t, Gd_f, Ld_ptr, LdN_ptr, Option.isNone_some, Option.isNone_none, Option.isSome_some, Option.isSome_none, Bool.not_true, Bool.not_false, drew_cell, drew_heap, z1]
            exact hkk2 _ _ ⟨rfl, rfl⟩
      · intro kk2 hkk2
        have hL2 := hL.keepAny hf (fun hx x hq => hLb (fun e => hx (by rw [e]; rfl)) x hq)
        simp only [Pu_some, extV_0, extV_1, extV_2, extV_3, nilV_ptr, nilV_fn, faV_ptr, lenV_sl, lenS_s, capV_sl, pickV_t, pickV_f, unV_not, unV_neg, isB_t, isB_f, isB_u, binV_add, binV_sub, binV_mul, binV_eql, binV_neq, binV_lss, binV_leq, binV_gtr, binV_geq, binV_seql, binV_sneq, binV_slss, binV_beql, binV_bneq, binV_peql, binV_pneq, add_add, add_none, Go.Al.add_zero, Nat.zero_add, Nat.add_zero, IfB_t, IfB_f, Gd_t, Gd_f, Ld_ptr, LdN_ptr, Option.isNone_some, Option.isNone_none, Option.isSome_some, Option.isSome_none, Bool.not_true, Bool.not_false, drew_cell, drew_heap, hL2.lenV]
        by_cases hkL : k < L.length
        · have z1 : decide ((k : Int) < (L.length : Int)) = true := by simpa using hkL
          have hLk : L[k]? = some L[k] := List.getElem?_eq_getElem hkL
          have hin := hr _ (List.getElem_mem hkL)
          generalize L[k] = f at hLk hin
          obtain ⟨ad2, hix2, _, hc2⟩ := hL2.at1 (i := k) (x := iv f) (by rw [List.getElem?_map, hLk]; rfl) .i64
          simp only [Pu_some, extV_0, extV_1, extV_2, extV_3, nilV_ptr, nilV_fn, faV_ptr, lenV_sl, lenS_s, capV_sl, pickV_t, pickV_f, unV_not, unV_neg, isB_t, isB_f, isB_u, binV_add, binV_sub, binV_mul, binV_eql, binV_neq, binV_lss, binV_leq, binV_gtr, binV_geq, binV_seql, binV_sneq, binV_slss, binV_beql, binV_bneq, binV_peql, binV_pneq, add_add, add_none, Go.Al.add_zero, Nat.zero_add, Nat.add_zero, IfB_t, IfB_f, Gd_t, Gd_f, Ld_ptr, LdN_ptr, Option.isNone_some, Option.isNone_none, Option.isSome_some, Option.isSome_none, Bool.not_true, Bool.not_false, drew_cell, drew_heap, z1, hix2, hc2]
          refine hkk2 _ _ ⟨rfl, f, rfl, hin, ?_⟩
          unfold Dk.fate; rw [hLk]
        · have z1 : decide ((k : Int) < (L.length : Int)) = false := by simpa using hkL
          simp only [Pu_some, extV_0, extV_1, extV_2, extV_3, nilV_ptr, nilV_fn, faV_ptr, lenV_sl, lenS_s, capV_sl, pickV_t, pickV_f, unV_not, unV_neg, isB_t, isB_f, isB_u, binV_add, binV_sub, binV_mul, binV_eql, binV_neq, binV_lss, binV_leq, binV_gtr, binV_geq, binV_seql, binV_sneq, binV_slss, binV_beql, binV_bneq, binV_peql, binV_pneq, add_add, add_none, Go.Al.add_zero, Nat.zero_add, Nat.add_zero, IfB_t, IfB_f, Gd_t, Gd_f, Ld_ptr, LdN_ptr, Option.isNone_some, Option.isNone_none, Option.isSome_some, Option.isSome_none, Bool.not_true, Bool.not_false, drew_cell, drew_heap, z1]
          refine hkk2 _ _ ⟨rfl, 0, rfl, by omega, ?_⟩
          unfold Dk.fate; rw [List.getElem?_eq_none (by omega)]; rfl
  · have hie : i = d.cur.length := by omega
    subst hie
    have e1 : decide (((d.cur.length : Nat) : Int) < ((d.rmid L d.cur.length).old.length : Int)) = false := by rw [decide_eq_false_iff_not]; omega
    simp only [Pu_some, extV_0, extV_1, extV_2, extV_3, nilV_ptr, nilV_fn, faV_ptr, lenV_sl, lenS_s, capV_sl, pickV_t, pickV_f, unV_not, unV_neg, isB_t, isB_f, isB_u, binV_add, binV_sub, binV_mul, binV_eql, binV_neq, binV_lss, binV_leq, binV_gtr, binV_geq, binV_seql, binV_sneq, binV_slss, binV_beql, binV_bneq, binV_peql, binV_pneq, add_add, add_none, Go.Al.add_zero, Nat.zero_add, Nat.add_zero, IfB_t, IfB_f, Gd_t, Gd_f, Ld_ptr, LdN_ptr, Option.isNone_some, Option.isNone_none, Option.isSome_some, Option.isSome_none, Bool.not_true, Bool.not_false, drew_cell, drew_heap, h2.c0, e1]
    rw [Dk.rmid_end L hw] at h2
    refine h2.putG _ ?_
    intro w3 h3 hf3
    refine h3.putA _ ?_
    intro w4 h4 hf4
    exact ⟨(by trivial), h4, (hf.trans hf3 (U := q.mine b) (fun _ _ e => e) (fun _ _ e => e)).trans hf4 (fun _ _ e => e) (fun _ _ e => e)⟩
end

theorem rnew_spec (w : World) (n : Int) : Cl Try.prog 16 [iv n] w fun v w' =>
    (n < 1 ∨ 65536 < n → v = .tuple #[.pointer none, iv 1] ∧ w' = w) ∧
    (¬ (n < 1 ∨ 65536 < n) → ∃ b q, v = .tuple #[pv b, iv 0] ∧ (∀ x, q.mine b x → w.heap.size ≤ x) ∧ RAt w' b q (Dk.mk0 n.toNat) ∧ Fm (fun _ => False) w w') := by
  refine c16 ?_; unfold T16
  by_cases h1 : n < 1
  · have e1 : decide (n < 1) = true := by simpa using h1
    simp only [Pu_some, extV_0, extV_1, extV_2, extV_3, nilV_ptr, nilV_fn, faV_ptr, lenV_sl, lenS_s, capV_sl, pickV_t, pickV_f, unV_not, unV_neg, isB_t, isB_f, isB_u, binV_add, binV_sub, binV_mul, binV_eql, binV_neq, binV_lss, binV_leq, binV_gtr, binV_geq, binV_seql, binV_sneq, binV_slss, binV_beql, binV_bneq, binV_peql, binV_pneq, add_add, add_none, Go.Al.add_zero, Nat.zero_add, Nat.add_zero, IfB_t, IfB_f, Gd_t, Gd_f, Ld_ptr, LdN_ptr, Option.isNone_some, Option.isNone_none, Option.isSome_some, Option.isSome_none, Bool.not_true, Bool.not_false, drew_cell, drew_heap, e1]
    exact ⟨fun _ => ⟨trivial, trivial⟩, fun h => absurd (.inl h1) h⟩
  have e1 : decide (n < 1) = false := by simpa using h1
  by_cases h2 : 65536 < n
  · have e2 : decide (65536 < n) = true := by simpa using h2
    simp only [Pu_some, extV_0, extV_1, extV_2, extV_3, nilV_ptr, nilV_fn, faV_ptr, lenV_sl, lenS_s, capV_sl, pickV_t, pickV_f, unV_not, unV_neg, isB_t, isB_f, isB_u, binV_add, binV_sub, binV_mul, binV_eql, binV_neq, binV_lss, binV_leq, binV_gtr, binV_geq, binV_seql, binV_sneq, binV_slss, binV_beql, binV_bneq, binV_peql, binV_pneq, add_add, add_none, Go.Al.add_zero, Nat.zero_add, Nat.add_zero, IfB_t, IfB_f, Gd_t, Gd_f, Ld_ptr, LdN_ptr, Option.isNone_some, Option.isNone_none, Option.isSome_some, Option.isSome_none, Bool.not_true, Bool.not_false, drew_cell, drew_heap, e1, e2]
    exact ⟨fun _ => ⟨trivial, trivial⟩, fun h => absurd (.inr h2) h⟩
  have e2 : decide (65536 < n) = false := by simpa using h2
  have hno : ¬ (n < 1 ∨ 65536 < n) := by omega
  obtain ⟨k, rfl⟩ := Int.eq_ofNat_of_zero_le (show 0 ≤ n by omega)
  have hk : 1 ≤ k ∧ k ≤ 65536 := by omega
  simp only [Pu_some, extV_0, extV_1, extV_2, extV_3, nilV_ptr, nilV_fn, faV_ptr, lenV_sl, lenS_s, capV_sl, pickV_t, pickV_f, unV_not, unV_neg, isB_t, isB_f, isB_u, binV_add, binV_sub, binV_mul, binV_eql, binV_neq, binV_lss, binV_leq, binV_gtr, binV_geq, binV_seql, binV_sneq, binV_slss, binV_beql, binV_bneq, binV_peql, binV_pneq, add_add, add_none, Go.Al.add_zero, Nat.zero_add, Nat.add_zero, IfB_t, IfB_f, Gd_t, Gd_f, Ld_ptr, LdN_ptr, Option.isNone_some, Option.isNone_none, Option.isSome_some, Option.isSome_none, Bool.not_true, Bool.not_false, drew_cell, drew_heap, e1, e2]
  refine RunS_ok (bld122 w) (New_any ?_)
  intro b w1 hb hs1 hw1 hf1
  refine RunS_ok (BRow.make B44 w1 64 (by omega)) ?_
  have hf2 := Fm.alloc (fun _ => False) w1 (.cells (bc (List.replicate 64 0)).toArray 5)
  have hb2 : BRow (w1.alloc (.cells (bc (List.replicate 64 0)).toArray 5)) w1.heap.size 5 (List.replicate 64 0) := alloc_new _ _
  have hs2 := alloc_size w1 (.cells (bc (List.replicate 64 0)).toArray 5)
  generalize w1.alloc (.cells (bc (List.replicate 64 0)).toArray 5) = w2 at hf2 hb2 hs2
  refine RunS_ok (hb2.conv B44 (o := 0) (n := 64) (by simp) _) ?_
  rw [show (((List.replicate 64 0).drop 0).take 64 : Bs) = Dk.zsec from rfl]
  have hst2 := hf2.heap hw1 (fun e => e)
  have hF2 := Fmf hf1 hf2
  have hbase : ∃ base, base = w2.heap.size := ⟨_, rfl⟩
  obtain ⟨base, hbe⟩ := hbase
  have hbb : b < base := by omega
  have hwb : w.heap.size ≤ b := by omega
  refine ⟨fun vs w3 => ∃ (i : Nat) (vo vn vc : Value), vs = [iv (i : Nat)] ∧ i ≤ k ∧ w3.heap[b]? = some (.cells #[vo, vn, vc, iv 0, .bool false, iv 0] 122) ∧
      w3.ownsRow base 9 1 vo i (List.replicate i (stv Dk.zsec)) ∧ w3.ownsRow base 9 1 vn i (List.replicate i (stv Dk.zsec)) ∧ w3.ownsRow base 4 1 vc i (List.replicate i (Value.bool false)) ∧ (∀ g, vo.ownBlock = some g → vn.ownBlock ≠ some g) ∧ base ≤ w3.heap.size ∧ Fm (fun _ => False) w w3,
    fun vs _ => (k - nth vs 0).toNat, ⟨0, _, _, _, rfl, by omega, hst2, by simpa using World.ownsRow_nil w2 _ _ _, by simpa using World.ownsRow_nil w2 _ _ _, by simpa using World.ownsRow_nil w2 _ _ _, (by intro g hg; cases hg), by omega, hF2⟩, ?_⟩
  rintro _ w3 ii ⟨i, vo, vn, vc, hvs, hi, hst, ho, hn, hc, hap, hbs, hF⟩
  cases hvs
  have hw0 := hF2.size
  by_cases hlt : i < k
  · have e3 : decide ((i : Int) < (k : Int)) = true := by rw [decide_eq_true_eq]; omega
    have e4 : IntKind.i64.wrap ((i : Int) + 1) = ((i + 1 : Nat) : Int) := by rw [wrap_id] <;> omega
    have c0 : w3.cell? ⟨b, 0, none⟩ = some vo := by rw [cell_at hst]; rfl
    simp only [Pu_some, extV_0, extV_1, extV_2, extV_3, nilV_ptr, nilV_fn, faV_ptr, lenV_sl, lenS_s, capV_sl, pickV_t, pickV_f, unV_not, unV_neg, isB_t, isB_f, isB_u, binV_add, binV_sub, binV_mul, binV_eql, binV_neq, binV_lss, binV_leq, binV_gtr, binV_geq, binV_seql, binV_sneq, binV_slss, binV_beql, binV_bneq, binV_peql, binV_pneq, add_add, add_none, Go.Al.add_zero, Nat.zero_add, Nat.add_zero, IfB_t, IfB_f, Gd_t, Gd_f, Ld_ptr, LdN_ptr, Option.isNone_some, Option.isNone_none, Option.isSome_some, Option.isSome_none, Bool.not_true, Bool.not_false, drew_cell, drew_heap, e3, c0]
    refine append_elF E45 (by omega) 45 (cs := [stv Dk.zsec]) rfl (bs45 _ _) (by intro u hu; simp at hu; subst hu; rfl) ho (by unfold maxLen; omega) (by omega) hbs ?_
    intro vo' w4 ho' hcase
    have hapo : ∀ g, vo'.ownBlock = some g → vn.ownBlock ≠ some g := by
      intro g hg hg2
      rcases hcase with ⟨g', k1, k2, _⟩ | ⟨g', k1, k2, _⟩
      · rw [hg] at k2; cases k2; exact hap _ k1 hg2
      · rw [hg] at k1; cases k1; have := (hn.lt _ hg2).2; omega
    obtain ⟨S, hfS, hS1, hS2, hS3⟩ : ∃ S : Nat → Prop, Fm S w3 w4 ∧ (∀ x, S x → base ≤ x) ∧ (∀ g, vn.ownBlock = some g → ¬ S g) ∧ (∀ g, vc.ownBlock = some g → ¬ S g) := by
      rcases hcase with ⟨g', k1, k2, k3⟩ | ⟨g', k1, k2, k3⟩
      · exact ⟨_, k3, fun x hx => by rw [hx]; exact (ho.lt _ k1).1, fun g hg e => by subst e; exact hap _ k1 hg, fun g hg e => by subst e; exact own_apart ho hc (by decide) _ k1 hg⟩
      · exact ⟨_, k3, fun _ e => e.elim, fun _ _ e => e, fun _ _ e => e⟩
    have hst4 := hfS.heap hst (fun e => by have := hS1 _ e; omega)
    have hn4 := own_keep hn hfS (fun g _ _ hg => hS2 g hg)
    have hc4 := own_keep hc hfS (fun g _ _ hg => hS3 g hg)
    have hF4 := Fm.own hF hfS (fun x hx => by have := hS1 x hx; omega)
    have hbs4 := Nat.le_trans hbs hfS.size
    clear hfS hS1 hS2 hS3 hcase hap S hst hn hc ho c0 hF hbs w3
    refine St_blk hst4 (by simp) (own_one ho') ?_
    intro w5 hst5 hs5 hf5
    replace hst5 : w5.heap[b]? = some (.cells #[vo', vn, vc, iv 0, .bool false, iv 0] 122) := hst5
    have c1 : w5.cell? ⟨b, 1, none⟩ = some vn := by rw [cell_at hst5]; rfl
    have hne : ∀ g, base ≤ g → ¬ g = b := fun g hg => by omega
    have ho5 := own_keep ho' hf5 (fun g hg _ _ => hne g hg)
    have hn5 := own_keep hn4 hf5 (fun g hg _ _ => hne g hg)
    have hc5 := own_keep hc4 hf5 (fun g hg _ _ => hne g hg)
    have hF5 := Fm.own hF4 hf5 (by rintro x rfl; omega)
    simp only [Pu_some, extV_0, extV_1, extV_2, extV_3, nilV_ptr, nilV_fn, faV_ptr, lenV_sl, lenS_s, capV_sl, pickV_t, pickV_f, unV_not, unV_neg, isB_t, isB_f, isB_u, binV_add, binV_sub, binV_mul, binV_eql, binV_neq, binV_lss, binV_leq, binV_gtr, binV_geq, binV_seql, binV_sneq, binV_slss, binV_beql, binV_bneq, binV_peql, binV_pneq, add_add, add_none, Go.Al.add_zero, Nat.zero_add, Nat.add_zero, IfB_t, IfB_f, Gd_t, Gd_f, Ld_ptr, LdN_ptr, Option.isNone_some, Option.isNone_none, Option.isSome_some, Option.isSome_none, Bool.not_true, Bool.not_false, drew_cell, drew_heap, c1]
    refine append_elF E45 (by omega) 45 (cs := [stv Dk.zsec]) rfl (bs45 _ _) (by intro u hu; simp at hu; subst hu; rfl) hn5 (by unfold maxLen; omega) (by omega) (by omega) ?_
    intro vn' w6 hn' hcase
    have hapn : ∀ g, vo'.ownBlock = some g → vn'.ownBlock ≠ some g := by
      intro g hg hg2
      rcases hcase with ⟨g', k1, k2, _⟩ | ⟨g', k1, k2, _⟩
      · rw [hg2] at k2; cases k2; exact hapo _ hg k1
      · rw [hg2] at k1; cases k1; have := (ho5.lt _ hg).2; omega
    obtain ⟨S, hfS, hS1, hS2, hS3⟩ : ∃ S : Nat → Prop, Fm S w5 w6 ∧ (∀ x, S x → base ≤ x) ∧ (∀ g, vo'.ownBlock = some g → ¬ S g) ∧ (∀ g, vc.ownBlock = some g → ¬ S g) := by
      rcases hcase with ⟨g', k1, k2, k3⟩ | ⟨g', k1, k2, k3⟩
      · exact ⟨_, k3, fun x hx => by rw [hx]; exact (hn5.lt _ k1).1, fun g hg e => by subst e; exact hapo _ hg k1, fun g hg e => by subst e; exact own_apart hn5 hc5 (by decide) _ k1 hg⟩
      · exact ⟨_, k3, fun _ e => e.elim, fun _ _ e => e, fun _ _ e => e⟩
    have hst6 := hfS.heap hst5 (fun e => by have := hS1 _ e; omega)
    have ho6 := own_keep ho5 hfS (fun g _ _ hg => hS2 g hg)
    have hc6 := own_keep hc5 hfS (fun g _ _ hg => hS3 g hg)
    have hF6 := Fm.own hF5 hfS (fun x hx => by have := hS1 x hx; omega)
    have hbs6 : base ≤ w6.heap.size := Nat.le_trans (by omega) hfS.size
    clear hfS hS1 hS2 hS3 hcase S
    refine St_blk hst6 (by simp) (own_one hn') ?_
    intro w7 hst7 hs7 hf7
    replace hst7 : w7.heap[b]? = some (.cells #[vo', vn', vc, iv 0, .bool false, iv 0] 122) := hst7
    have c2 : w7.cell? ⟨b, 2, none⟩ = some vc := by rw [cell_at hst7]; rfl
    have ho7 := own_keep ho6 hf7 (fun g hg _ _ => hne g hg)
    have hn7 := own_keep hn' hf7 (fun g hg _ _ => hne g hg)
    have hc7 := own_keep hc6 hf7 (fun g hg _ _ => hne g hg)
    have hF7 := Fm.own hF6 hf7 (by rintro x rfl; omega)
    simp only [Pu_some, extV_0, extV_1, extV_2, extV_3, nilV_ptr, nilV_fn, faV_ptr, lenV_sl, lenS_s, capV_sl, pickV_t, pickV_f, unV_not, unV_neg, isB_t, isB_f, isB_u, binV_add, binV_sub, binV_mul, binV_eql, binV_neq, binV_lss, binV_leq, binV_gtr, binV_geq, binV_seql, binV_sneq, binV_slss, binV_beql, binV_bneq, binV_peql, binV_pneq, add_add, add_none, Go.Al.add_zero, Nat.zero_add, Nat.add_zero, IfB_t, IfB_f, Gd_t, Gd_f, Ld_ptr, LdN_ptr, Option.isNone_some, Option.isNone_none, Option.isSome_some, Option.isSome_none, Bool.not_true, Bool.not_false, drew_cell, drew_heap, c2]
    refine append_elF E57 (by omega) 57 (cs := [Value.bool false]) rfl (bs57 _ _) (by intro u hu; simp at hu; subst hu; rfl) hc7 (by unfold maxLen; omega) (by omega) (by omega) ?_
    intro vc' w8 hc' hcase
    obtain ⟨S, hfS, hS1, hS2, hS3⟩ : ∃ S : Nat → Prop, Fm S w7 w8 ∧ (∀ x, S x → base ≤ x) ∧ (∀ g, vo'.ownBlock = some g → ¬ S g) ∧ (∀ g, vn'.ownBlock = some g → ¬ S g) := by
      rcases hcase with ⟨g', k1, k2, k3⟩ | ⟨g', k1, k2, k3⟩
      · exact ⟨_, k3, fun x hx => by rw [hx]; exact (hc7.lt _ k1).1, fun g hg e => by subst e; exact own_apart ho7 hc7 (by decide) _ hg k1, fun g hg e => by subst e; exact own_apart hn7 hc7 (by decide) _ hg k1⟩
      · exact ⟨_, k3, fun _ e => e.elim, fun _ _ e => e, fun _ _ e => e⟩
    have hst8 := hfS.heap hst7 (fun e => by have := hS1 _ e; omega)
    have ho8 := own_keep ho7 hfS (fun g _ _ hg => hS2 g hg)
    have hn8 := own_keep hn7 hfS (fun g _ _ hg => hS3 g hg)
    have hF8 := Fm.own hF7 hfS (fun x hx => by have := hS1 x hx; omega)
    have hbs8 : base ≤ w8.heap.size := Nat.le_trans (by omega) hfS.size
    refine St_blk hst8 (by simp) (own_one hc') ?_
    intro w9 hst9 hs9 hf9
    simp only [Pu_some, extV_0, extV_1, extV_2, extV_3, nilV_ptr, nilV_fn, faV_ptr, lenV_sl, lenS_s, capV_sl, pickV_t, pickV_f, unV_not, unV_neg, isB_t, isB_f, isB_u, binV_add, binV_sub, binV_mul, binV_eql, binV_neq, binV_lss, binV_leq, binV_gtr, binV_geq, binV_seql, binV_sneq, binV_slss, binV_beql, binV_bneq, binV_peql, binV_pneq, add_add, add_none, Go.Al.add_zero, Nat.zero_add, Nat.add_zero, IfB_t, IfB_f, Gd_t, Gd_f, Ld_ptr, LdN_ptr, Option.isNone_some, Option.isNone_none, Option.isSome_some, Option.isSome_none, Bool.not_true, Bool.not_false, drew_cell, drew_heap, e4]
    refine ⟨⟨i + 1, vo', vn', vc', rfl, by omega, hst9, ?_, ?_, ?_, hapn, by omega, Fm.own hF8 hf9 (by rintro x rfl; omega)⟩, by simp only [nth_0]; omega⟩
    · rw [List.replicate_succ']; exact own_keep ho8 hf9 (fun g hg _ _ => hne g hg)
    · rw [List.replicate_succ']; exact own_keep hn8 hf9 (fun g hg _ _ => hne g hg)
    · rw [List.replicate_succ']; exact own_keep hc' hf9 (fun g hg _ _ => hne g hg)
  · have hie : i = k := by omega
    subst hie
    have e3 : decide ((i : Int) < (i : Int)) = false := by simp
    simp only [Pu_some, extV_0, extV_1, extV_2, extV_3, nilV_ptr, nilV_fn, faV_ptr, lenV_sl, lenS_s, capV_sl, pickV_t, pickV_f, unV_not, unV_neg, isB_t, isB_f, isB_u, binV_add, binV_sub, binV_mul, binV_eql, binV_neq, binV_lss, binV_leq, binV_gtr, binV_geq, binV_seql, binV_sneq, binV_slss, binV_beql, binV_bneq, binV_peql, binV_pneq, add_add, add_none, Go.Al.add_zero, Nat.zero_add, Nat.add_zero, IfB_t, IfB_f, Gd_t, Gd_f, Ld_ptr, LdN_ptr, Option.isNone_some, Option.isNone_none, Option.isSome_some, Option.isSome_none, Bool.not_true, Bool.not_false, drew_cell, drew_heap, e3]
    obtain ⟨go, co, rfl, o1, o2, o3, o4⟩ := PRow.of_own ho (by omega)
    obtain ⟨gn, cn, rfl, n1, n2, n3, n4⟩ := PRow.of_own hn (by omega)
    obtain ⟨gc, cc, rfl, c1, c2, c3, c4⟩ := PRow.of_own hc (by omega)
    refine ⟨fun h => absurd h hno, fun _ => ⟨b, ⟨go, gn, gc, co, cn, cc⟩, rfl, ?_, ⟨?_, ?_, ?_, ?_, ?_⟩, hF⟩⟩
    · intro x hx
      have hx' : x = b ∨ x = go ∨ x = gn ∨ x = gc := hx
      omega
    · rw [Int.toNat_natCast]
      have l1 : (Dk.mk0 i).old.length = i := by simp [Dk.mk0]
      have l2 : (Dk.mk0 i).cur.length = i := by simp [Dk.mk0]
      have l3 : (Dk.mk0 i).chg.length = i := by simp [Dk.mk0]
      rw [l1, l2, l3]; exact hst
    · show PRow w3 go 9 ((List.replicate i Dk.zsec).map stv)
      rw [List.map_replicate]; exact o4
    · show PRow w3 gn 9 ((List.replicate i Dk.zsec).map stv)
      rw [List.map_replicate]; exact n4
    · show PRow w3 gc 4 ((List.replicate i false).map Value.bool)
      rw [List.map_replicate]; exact c4
    · refine ⟨by show b ≠ go; omega, by show b ≠ gn; omega, by show b ≠ gc; omega, ?_, ?_, ?_⟩
      · intro e; have e' : go = gn := e; subst e'; exact hap _ o2 n2
      · intro e; have e' : go = gc := e; subst e'; exact own_apart ho hc (by decide) _ o2 c2
      · intro e; have e' : gn = gc := e; subst e'; exact own_apart hn hc (by decide) _ n2 c2

end Go.Proofs.Ythgdinjgdjiknaa
