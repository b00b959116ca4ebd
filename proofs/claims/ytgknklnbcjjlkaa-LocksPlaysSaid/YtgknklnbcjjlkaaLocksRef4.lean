/- What the document's answer for layer 10 does: Release. -/
import Derived.Test.YtgknklnbcjjlkaaLocksRef3
namespace Go.Proofs.Ytgknklnbcjjlkaa
open Go.Al Go.Proofs
set_option linter.unusedVariables false
set_option linter.unusedSimpArgs false
set_option linter.unusedSectionVars false

def hears (H : HL) (who : Int) (q : ByteArray × Int) : Bool := getD H q.1 == some who

set_option maxHeartbeats 1000000 in
theorem qrelease_spec {w : World} {base rb : Nat} {H : HL} {W : WL} {hs ws : QL} (h : IsQ w base rb hs ws) (hr : QRel H W hs ws) (hS : Sound H W) (h1 : (hs.length + 1) * 24 ≤ 140737488355328) (h2 : (ws.length + 1) * 24 ≤ 140737488355328) (who : Int) :
    Cl Try.prog 31 [.pointer (some ⟨rb, 0, none⟩), jv who] w fun v w' => ∃ hs' ws' out, w'.ownsRow w.heap.size 3 1 v out.length (out.map jv) ∧ IsQ w' base rb hs' ws' ∧ Fm (· = rb) w w' ∧ hs'.length ≤ hs.length ∧ ws'.length ≤ ws.length ∧ ∀ H' W' ls, LetR H W who H' W' ls → (H'.map (·.1)).Nodup → (W'.map (·.1)).Nodup → out = ls ∧ QRel H' W' hs' ws' := by
  refine c31 ?_
  unfold T31
  refine (quit_spec h (by omega) who).mono ?_
  rintro _ w1 ⟨hq, hf1⟩
  have hrq := hr.quit who
  have hSq := hS.del hr.wn who
  have hz1 := hf1.size
  have hfl : (ws.filter fun q => q.2 != who).length ≤ ws.length := List.length_filter_le _ _
  have hwm : ∀ k p, (k, p) ∈ (ws.filter fun q => q.2 != who) ↔ (p, k) ∈ W ∧ p ≠ who := fun k p => by rw [List.mem_filter, hr.wm]; simp
  generalize (ws.filter fun q => q.2 != who) = wf at hq hrq hfl hwm
  obtain ⟨hv, wv, hb, hho, hwo⟩ := hq.ex
  have hrb := hq.lt
  have hbase := hq.le
  refine ⟨fun vs w2 => ∃ (out stay : Value) (k : Nat), vs = [out, stay, jv k] ∧ k ≤ wf.length ∧ w2.ownsRow w1.heap.size 3 1 out ((wf.take k).filter (hears H who)).length (((wf.take k).filter (hears H who)).map fun q => jv q.2) ∧ RowQ w2 w1.heap.size stay ((wf.take k).filter fun q => !hears H who q) ∧ Fm (fun _ => False) w1 w2, fun vs _ => (wf.length - nth vs 2).toNat, ⟨.slice none 0 0, .slice none 0 0, 0, rfl, by omega, by rw [List.take_zero]; exact World.ownsRow_nil w1 _ _ _, by rw [List.take_zero]; exact World.ownsRow_nil w1 _ _ _, Fm.refl _ _⟩, ?_⟩
  rintro g w2 out stay iw ⟨_, _, k, ⟨⟩, hk, hout, hstay, hf⟩
  have hb2 := hf.heap hb (fun e => e)
  have hq2 := hq.keep0 hf
  have hwo2 := own_keep hwo hf (fun k hk hk' _ => fun e => e)
  have hho2 := own_keep hho hf (fun k hk hk' _ => fun e => e)
  have hlv := (CellsAt.of_own hwo2).lenV
  have c0 : w2.cell? ⟨rb, 1, none⟩ = some wv := by rw [cell_at hb2]; rfl
  simp only [Pu_some, extV_0, extV_1, extV_2, extV_3, nilV_ptr, nilV_fn, faV_ptr, lenV_sl, lenS_s, capV_sl, pickV_t, pickV_f, unV_not, unV_neg, isB_t, isB_f, isB_u, binV_add, binV_sub, binV_mul, binV_eql, binV_neq, binV_lss, binV_leq, binV_gtr, binV_geq, binV_seql, binV_sneq, binV_slss, binV_beql, binV_bneq, binV_peql, binV_pneq, add_add, add_none, Go.Al.add_zero, Nat.zero_add, Nat.add_zero, IfB_t, IfB_f, Gd_t, Gd_f, Ld_ptr, LdN_ptr, Option.isNone_some, Option.isNone_none, Option.isSome_some, Option.isSome_none, Bool.not_true, Bool.not_false, drew_cell, drew_heap, c0, hlv]
  by_cases hlt : k < wf.length
  · have e1 : decide ((k : Int) < (wf.length : Int)) = true := by simpa using hlt
    have hRk : wf[k]? = some wf[k] := List.getElem?_eq_getElem hlt
    have hmem := List.getElem_mem hlt
    have hsucc : wf.take (k + 1) = wf.take k ++ [wf[k]] := by rw [List.take_add_one, hRk]; rfl
    obtain ⟨ad, hix, q0, q1⟩ := qat hwo2 hRk
    generalize wf[k] = e at hRk hmem hsucc hix q0 q1
    have hl1 : ((wf.take k).filter (hears H who)).length ≤ k := Nat.le_trans (List.length_filter_le _ _) (by rw [List.length_take]; omega)
    have hl2 : ((wf.take k).filter fun q => !hears H who q).length ≤ k := Nat.le_trans (List.length_filter_le _ _) (by rw [List.length_take]; omega)
    have hheld := hSq.held e.2 e.1 ((getD_some hrq.wn).2 ((hrq.wm _ _).2 hmem))
    simp only [Pu_some, extV_0, extV_1, extV_2, extV_3, nilV_ptr, nilV_fn, faV_ptr, lenV_sl, lenS_s, capV_sl, pickV_t, pickV_f, unV_not, unV_neg, isB_t, isB_f, isB_u, binV_add, binV_sub, binV_mul, binV_eql, binV_neq, binV_lss, binV_leq, binV_gtr, binV_geq, binV_seql, binV_sneq, binV_slss, binV_beql, binV_bneq, binV_peql, binV_pneq, add_add, add_none, Go.Al.add_zero, Nat.zero_add, Nat.add_zero, IfB_t, IfB_f, Gd_t, Gd_f, Ld_ptr, LdN_ptr, Option.isNone_some, Option.isNone_none, Option.isSome_some, Option.isSome_none, Bool.not_true, Bool.not_false, drew_cell, drew_heap, e1]
    refine Jn_at (fun vs w3 => ∃ (out stay : Value), vs = [out, stay] ∧ w3.ownsRow w1.heap.size 3 1 out ((wf.take (k + 1)).filter (hears H who)).length (((wf.take (k + 1)).filter (hears H who)).map fun q => jv q.2) ∧ RowQ w3 w1.heap.size stay ((wf.take (k + 1)).filter fun q => !hears H who q) ∧ Fm (fun _ => False) w1 w3) ?_ ?_
    · rintro _ w3 ⟨out', stay', rfl, ho', hs', hf'⟩ _
      refine ⟨out', stay', rfl, ?_⟩
      simp only [Pu_some, extV_0, extV_1, extV_2, extV_3, nilV_ptr, nilV_fn, faV_ptr, lenV_sl, lenS_s, capV_sl, pickV_t, pickV_f, unV_not, unV_neg, isB_t, isB_f, isB_u, binV_add, binV_sub, binV_mul, binV_eql, binV_neq, binV_lss, binV_leq, binV_gtr, binV_geq, binV_seql, binV_sneq, binV_slss, binV_beql, binV_bneq, binV_peql, binV_pneq, add_add, add_none, Go.Al.add_zero, Nat.zero_add, Nat.add_zero, IfB_t, IfB_f, Gd_t, Gd_f, Ld_ptr, LdN_ptr, Option.isNone_some, Option.isNone_none, Option.isSome_some, Option.isSome_none, Bool.not_true, Bool.not_false, drew_cell, drew_heap, wrap_succ (i := k) (by omega)]
      exact ⟨⟨out', stay', k + 1, rfl, by omega, ho', hs', hf'⟩, by simp only [nth_2]; omega⟩
    · intro kk hkk
      simp only [Pu_some, extV_0, extV_1, extV_2, extV_3, nilV_ptr, nilV_fn, faV_ptr, lenV_sl, lenS_s, capV_sl, pickV_t, pickV_f, unV_not, unV_neg, isB_t, isB_f, isB_u, binV_add, binV_sub, binV_mul, binV_eql, binV_neq, binV_lss, binV_leq, binV_gtr, binV_geq, binV_seql, binV_sneq, binV_slss, binV_beql, binV_bneq, binV_peql, binV_pneq, add_add, add_none, Go.Al.add_zero, Nat.zero_add, Nat.add_zero, IfB_t, IfB_f, Gd_t, Gd_f, Ld_ptr, LdN_ptr, Option.isNone_some, Option.isNone_none, Option.isSome_some, Option.isSome_none, Bool.not_true, Bool.not_false, drew_cell, drew_heap, c0, hix, q0]
      refine (qholder_spec hq2 (by omega) e.1).mono ?_
      rintro _ w2 ⟨rfl, rfl⟩
      rw [qholder, hr.get]
      cases hg : getD H e.1 with
      | none => rw [hg] at hheld; cases hheld
      | some x =>
        by_cases hx : x = who
        · have e2 : (x == who) = true := by simpa using hx
          have ht : hears H who e = true := by simp [hears, hg, hx]
          simp only [Pu_some, extV_0, extV_1, extV_2, extV_3, nilV_ptr, nilV_fn, faV_ptr, lenV_sl, lenS_s, capV_sl, pickV_t, pickV_f, unV_not, unV_neg, isB_t, isB_f, isB_u, binV_add, binV_sub, binV_mul, binV_eql, binV_neq, binV_lss, binV_leq, binV_gtr, binV_geq, binV_seql, binV_sneq, binV_slss, binV_beql, binV_bneq, binV_peql, binV_pneq, add_add, add_none, Go.Al.add_zero, Nat.zero_add, Nat.add_zero, IfB_t, IfB_f, Gd_t, Gd_f, Ld_ptr, LdN_ptr, Option.isNone_some, Option.isNone_none, Option.isSome_some, Option.isSome_none, Bool.not_true, Bool.not_false, drew_cell, drew_heap, Option.getD_some, e2, c0, hix, q1]
          refine append_el' F35 (by omega) 35 (cs := [jv e.2]) rfl (is35 _ _) (by intro u hu; simp at hu; subst hu; rfl) hout (by unfold maxLen; omega) (by omega) hf.size ?_
          intro out' w3 ho3 hne hf3
          have hs3 := own_keep hstay hf3 (fun k _ _ hb e => own_apart hstay hout (by decide) k hb e)
          have hto := fun k (h : out.ownBlock = some k) => (own_lt hout k h).1
          refine hkk _ _ ⟨out', stay, rfl, ?_, ?_, hf.trans hf3 (fun _ _ e => e) (fun x hx e => by have := hto x e; omega)⟩
          · have : [e].filter (hears H who) = [e] := by rw [List.filter_cons, ht]; rfl
            rw [hsucc, List.filter_append, this, List.map_append, List.length_append]; exact ho3
          · have : [e].filter (fun q => !hears H who q) = [] := by rw [List.filter_cons, ht]; rfl
            rw [hsucc, List.filter_append, this, List.append_nil]; exact hs3
        · have e2 : (x == who) = false := by simpa using hx
          have ht : hears H who e = false := by simp [hears, hg, hx]
          simp only [Pu_some, extV_0, extV_1, extV_2, extV_3, nilV_ptr, nilV_fn, faV_ptr, lenV_sl, lenS_s, capV_sl, pickV_t, pickV_f, unV_not, unV_neg, isB_t, isB_f, isB_u, binV_add, binV_sub, binV_mul, binV_eql, binV_neq, binV_lss, binV_leq, binV_gtr, binV_geq, binV_seql, binV_sneq, binV_slss, binV_beql, binV_bneq, binV_peql, binV_pneq, add_add, add_none, Go.Al.add_zero, Nat.zero_add, Nat.add_zero, IfB_t, IfB_f, Gd_t, Gd_f, Ld_ptr, LdN_ptr, Option.isNone_some, Option.isNone_none, Option.isSome_some, Option.isSome_none, Bool.not_true, Bool.not_false, drew_cell, drew_heap, Option.getD_some, e2, c0, hix, cellsV_2 q0 q1]
          refine append_el' E52 (by omega) 52 (cs := [sv e.1, jv e.2]) rfl (bs52 _ _ _) (by intro u hu; simp at hu; rcases hu with rfl | rfl <;> rfl) hstay (by unfold maxLen; omega) (by omega) hf.size ?_
          intro stay' w3 hs3 hne hf3
          have ho3 := own_keep hout hf3 (fun k _ _ hb e => own_apart hout hstay (by decide) k hb e)
          have hto := fun k (h : stay.ownBlock = some k) => (own_lt hstay k h).1
          refine hkk _ _ ⟨out, stay', rfl, ?_, ?_, hf.trans hf3 (fun _ _ e => e) (fun x hx e => by have := hto x e; omega)⟩
          · have : [e].filter (hears H who) = [] := by rw [List.filter_cons, ht]; rfl
            rw [hsucc, List.filter_append, this, List.append_nil]; exact ho3
          · have : [e].filter (fun q => !hears H who q) = [e] := by rw [List.filter_cons, ht]; rfl
            rw [hsucc, List.filter_append, this]
            show w3.ownsRow _ _ _ _ _ _
            rw [flq_append, List.length_append]; exact hs3
  · have hke : k = wf.length := by omega
    subst hke
    have e1 : decide ((wf.length : Int) < (wf.length : Int)) = false := by simp
    simp only [Pu_some, extV_0, extV_1, extV_2, extV_3, nilV_ptr, nilV_fn, faV_ptr, lenV_sl, lenS_s, capV_sl, pickV_t, pickV_f, unV_not, unV_neg, isB_t, isB_f, isB_u, binV_add, binV_sub, binV_mul, binV_eql, binV_neq, binV_lss, binV_leq, binV_gtr, binV_geq, binV_seql, binV_sneq, binV_slss, binV_beql, binV_bneq, binV_peql, binV_pneq, add_add, add_none, Go.Al.add_zero, Nat.zero_add, Nat.add_zero, IfB_t, IfB_f, Gd_t, Gd_f, Ld_ptr, LdN_ptr, Option.isNone_some, Option.isNone_none, Option.isSome_some, Option.isSome_none, Bool.not_true, Bool.not_false, drew_cell, drew_heap, e1]
    rw [List.take_length] at hout hstay
    have hsl : (wf.filter fun q => !hears H who q).length ≤ wf.length := List.length_filter_le _ _
    refine St_blk hb2 (by simp) (own_one hstay) ?_
    intro w3 hw3 hs3 hf3
    replace hw3 : w3.heap[rb]? = some (.cells #[hv, stay] 54) := hw3
    have hho3 := own_keep hho2 hf3 (fun k hk _ _ e => by omega)
    have hst3 := own_keep hstay hf3 (fun k hk _ _ e => by omega)
    have hou3 := own_keep hout hf3 (fun k hk _ _ e => by omega)
    have hz2 := hf.size
    have hF3 : Fm (· = rb) w w3 := (hf1.trans hf (U := (· = rb)) (fun _ _ e => e) (fun _ _ e => e.elim)).trans hf3 (fun _ _ e => e) (fun _ _ e => e)
    clear hlv c0
    have hlv := (CellsAt.of_own hho3).lenV
    refine ⟨fun vs w4 => ∃ u k, vs = [u, jv (k : Nat)] ∧ k ≤ hs.length ∧ RowQ w4 w3.heap.size u ((hs.take k).filter fun q => q.2 != who) ∧ Fm (fun _ => False) w3 w4, fun vs _ => (hs.length - nth vs 1).toNat, ⟨.slice none 0 0, 0, rfl, by omega, by rw [List.take_zero]; exact World.ownsRow_nil w3 _ _ _, Fm.refl _ _⟩, ?_⟩
    rintro g w4 u iw ⟨_, k, ⟨⟩, hk, hu, hf4⟩
    have hb4 := hf4.heap hw3 (fun e => e)
    have hho4 := own_keep hho3 hf4 (fun k hk hk' _ => fun e => e)
    have c0 : w4.cell? ⟨rb, 0, none⟩ = some hv := by rw [cell_at hb4]; rfl
    simp only [Pu_some, extV_0, extV_1, extV_2, extV_3, nilV_ptr, nilV_fn, faV_ptr, lenV_sl, lenS_s, capV_sl, pickV_t, pickV_f, unV_not, unV_neg, isB_t, isB_f, isB_u, binV_add, binV_sub, binV_mul, binV_eql, binV_neq, binV_lss, binV_leq, binV_gtr, binV_geq, binV_seql, binV_sneq, binV_slss, binV_beql, binV_bneq, binV_peql, binV_pneq, add_add, add_none, Go.Al.add_zero, Nat.zero_add, Nat.add_zero, IfB_t, IfB_f, Gd_t, Gd_f, Ld_ptr, LdN_ptr, Option.isNone_some, Option.isNone_none, Option.isSome_some, Option.isSome_none, Bool.not_true, Bool.not_false, drew_cell, drew_heap, c0, hlv]
    by_cases hlt : k < hs.length
    · have e1 : decide ((k : Int) < (hs.length : Int)) = true := by simpa using hlt
      have hRk : hs[k]? = some hs[k] := List.getElem?_eq_getElem hlt
      have hsucc : hs.take (k + 1) = hs.take k ++ [hs[k]] := by rw [List.take_add_one, hRk]; rfl
      obtain ⟨ad, hix, q0, q1⟩ := qat hho4 hRk
      generalize hs[k] = e at hRk hsucc hix q0 q1
      have hl2 : ((hs.take k).filter fun q => q.2 != who).length ≤ k := Nat.le_trans (List.length_filter_le _ _) (by rw [List.length_take]; omega)
      simp only [Pu_some, extV_0, extV_1, extV_2, extV_3, nilV_ptr, nilV_fn, faV_ptr, lenV_sl, lenS_s, capV_sl, pickV_t, pickV_f, unV_not, unV_neg, isB_t, isB_f, isB_u, binV_add, binV_sub, binV_mul, binV_eql, binV_neq, binV_lss, binV_leq, binV_gtr, binV_geq, binV_seql, binV_sneq, binV_slss, binV_beql, binV_bneq, binV_peql, binV_pneq, add_add, add_none, Go.Al.add_zero, Nat.zero_add, Nat.add_zero, IfB_t, IfB_f, Gd_t, Gd_f, Ld_ptr, LdN_ptr, Option.isNone_some, Option.isNone_none, Option.isSome_some, Option.isSome_none, Bool.not_true, Bool.not_false, drew_cell, drew_heap, e1]
      refine Jn_at (fun vs w5 => ∃ u', vs = [u'] ∧ RowQ w5 w3.heap.size u' ((hs.take (k + 1)).filter fun q => q.2 != who) ∧ Fm (fun _ => False) w3 w5) ?_ ?_
      · rintro _ w5 ⟨u', rfl, hu', hf'⟩ _
        refine ⟨u', rfl, ?_⟩
        simp only [Pu_some, extV_0, extV_1, extV_2, extV_3, nilV_ptr, nilV_fn, faV_ptr, lenV_sl, lenS_s, capV_sl, pickV_t, pickV_f, unV_not, unV_neg, isB_t, isB_f, isB_u, binV_add, binV_sub, binV_mul, binV_eql, binV_neq, binV_lss, binV_leq, binV_gtr, binV_geq, binV_seql, binV_sneq, binV_slss, binV_beql, binV_bneq, binV_peql, binV_pneq, add_add, add_none, Go.Al.add_zero, Nat.zero_add, Nat.add_zero, IfB_t, IfB_f, Gd_t, Gd_f, Ld_ptr, LdN_ptr, Option.isNone_some, Option.isNone_none, Option.isSome_some, Option.isSome_none, Bool.not_true, Bool.not_false, drew_cell, drew_heap, wrap_succ (i := k) (by omega)]
        exact ⟨⟨u', k + 1, rfl, by omega, hu', hf'⟩, by simp only [nth_1]; omega⟩
      · intro kk hkk
        simp only [Pu_some, extV_0, extV_1, extV_2, extV_3, nilV_ptr, nilV_fn, faV_ptr, lenV_sl, lenS_s, capV_sl, pickV_t, pickV_f, unV_not, unV_neg, isB_t, isB_f, isB_u, binV_add, binV_sub, binV_mul, binV_eql, binV_neq, binV_lss, binV_leq, binV_gtr, binV_geq, binV_seql, binV_sneq, binV_slss, binV_beql, binV_bneq, binV_peql, binV_pneq, add_add, add_none, Go.Al.add_zero, Nat.zero_add, Nat.add_zero, IfB_t, IfB_f, Gd_t, Gd_f, Ld_ptr, LdN_ptr, Option.isNone_some, Option.isNone_none, Option.isSome_some, Option.isSome_none, Bool.not_true, Bool.not_false, drew_cell, drew_heap, c0, hix, q1]
        rcases Bool.eq_false_or_eq_true (e.2 != who) with e2 | e2
        · simp only [Pu_some, extV_0, extV_1, extV_2, extV_3, nilV_ptr, nilV_fn, faV_ptr, lenV_sl, lenS_s, capV_sl, pickV_t, pickV_f, unV_not, unV_neg, isB_t, isB_f, isB_u, binV_add, binV_sub, binV_mul, binV_eql, binV_neq, binV_lss, binV_leq, binV_gtr, binV_geq, binV_seql, binV_sneq, binV_slss, binV_beql, binV_bneq, binV_peql, binV_pneq, add_add, add_none, Go.Al.add_zero, Nat.zero_add, Nat.add_zero, IfB_t, IfB_f, Gd_t, Gd_f, Ld_ptr, LdN_ptr, Option.isNone_some, Option.isNone_none, Option.isSome_some, Option.isSome_none, Bool.not_true, Bool.not_false, drew_cell, drew_heap, e2, c0, hix, cellsV_2 q0 q1]
          refine append_el E52 (by omega) 52 (cs := [sv e.1, jv e.2]) rfl (bs52 _ _ _) (by intro u hu; simp at hu; rcases hu with rfl | rfl <;> rfl) hu (by unfold maxLen; omega) (by omega) hf4.size ?_
          intro u' w5 hu' hne hf'
          have hF := hf4.trans hf' (U := fun _ => False) (fun _ _ e => e) (fun x hx e => by omega)
          refine hkk _ _ ⟨u', rfl, ?_, hF⟩
          have : [e].filter (fun q => q.2 != who) = [e] := by rw [List.filter_cons, e2]; rfl
          rw [hsucc, List.filter_append, this]
          show w5.ownsRow _ _ _ _ _ _
          rw [flq_append, List.length_append]; exact hu'
        · simp only [Pu_some, extV_0, extV_1, extV_2, extV_3, nilV_ptr, nilV_fn, faV_ptr, lenV_sl, lenS_s, capV_sl, pickV_t, pickV_f, unV_not, unV_neg, isB_t, isB_f, isB_u, binV_add, binV_sub, binV_mul, binV_eql, binV_neq, binV_lss, binV_leq, binV_gtr, binV_geq, binV_seql, binV_sneq, binV_slss, binV_beql, binV_bneq, binV_peql, binV_pneq, add_add, add_none, Go.Al.add_zero, Nat.zero_add, Nat.add_zero, IfB_t, IfB_f, Gd_t, Gd_f, Ld_ptr, LdN_ptr, Option.isNone_some, Option.isNone_none, Option.isSome_some, Option.isSome_none, Bool.not_true, Bool.not_false, drew_cell, drew_heap, e2]
          refine hkk _ _ ⟨u, rfl, ?_, hf4⟩
          have : [e].filter (fun q => q.2 != who) = [] := by rw [List.filter_cons, e2]; rfl
          rw [hsucc, List.filter_append, this, List.append_nil]; exact hu
    · have hke : k = hs.length := by omega
      subst hke
      have e1 : decide ((hs.length : Int) < (hs.length : Int)) = false := by simp
      simp only [Pu_some, extV_0, extV_1, extV_2, extV_3, nilV_ptr, nilV_fn, faV_ptr, lenV_sl, lenS_s, capV_sl, pickV_t, pickV_f, unV_not, unV_neg, isB_t, isB_f, isB_u, binV_add, binV_sub, binV_mul, binV_eql, binV_neq, binV_lss, binV_leq, binV_gtr, binV_geq, binV_seql, binV_sneq, binV_slss, binV_beql, binV_bneq, binV_peql, binV_pneq, add_add, add_none, Go.Al.add_zero, Nat.zero_add, Nat.add_zero, IfB_t, IfB_f, Gd_t, Gd_f, Ld_ptr, LdN_ptr, Option.isNone_some, Option.isNone_none, Option.isSome_some, Option.isSome_none, Bool.not_true, Bool.not_false, drew_cell, drew_heap, e1]
      rw [List.take_length] at hu
      have hhl : (hs.filter fun q => q.2 != who).length ≤ hs.length := List.length_filter_le _ _
      refine St_blk hb4 (by simp) (own_one hu) ?_
      intro w5 hw5 hs5 hf5
      replace hw5 : w5.heap[rb]? = some (.cells #[u, stay] 54) := hw5
      have hz3 := hf3.size
      have hz4 := hf4.size
      have hF5 : Fm (· = rb) w3 w5 := hf4.trans hf5 (fun _ _ e => e.elim) (fun _ _ e => e)
      have hu5 := own_keep hu hf5 (fun k hk _ _ e => by omega)
      have hst5 := own_keep hst3 hF5 (fun k hk _ _ e => by omega)
      have hou5 := own_keep hou3 hF5 (fun k hk _ _ e => by omega)
      refine ⟨hs.filter fun q => q.2 != who, wf.filter fun q => !hears H who q, (wf.filter (hears H who)).map (·.2), ?_, ⟨hrb, by omega, u, stay, hw5, own_base hu5 (by omega), own_base hst5 (by omega)⟩, hF3.trans hF5 (fun _ _ e => e) (fun _ _ e => e), hhl, by omega, ?_⟩
      · rw [List.length_map, List.map_map]; exact own_base hou5 (by omega)
      · intro H' W' ls hR hnh hnw
        refine ⟨sorted_same (List.pairwise_map.2 (hrq.wu.filter _)) hR.up fun x => ?_, hr.hu.filter _, hrq.wu.filter _, hnh, hnw, fun q => ?_, fun p key => ?_⟩
        · rw [hR.told, List.mem_map]
          constructor
          · rintro ⟨⟨key, p⟩, hq, rfl⟩
            rw [List.mem_filter, hwm] at hq
            exact ⟨hq.1.2, key, hq.1.1, by simpa [hears] using hq.2⟩
          · rintro ⟨hne, key, h1, h2⟩
            exact ⟨(key, x), List.mem_filter.2 ⟨(hwm _ _).2 ⟨h1, hne⟩, by simp [hears, h2]⟩, rfl⟩
        · rw [hR.hold, List.mem_filter, hr.hm]; simp
        · rw [hR.wait, List.mem_filter, hwm]
          simp only [hears, Bool.not_eq_true', beq_eq_false_iff_ne, and_assoc]

end Go.Proofs.Ytgknklnbcjjlkaa
