/- DiskLasts: the law. -/
import Derived.Test.YthgdinjgdjiknaaDiskLaws1
import Derived.Test.YthgdinjgdjiknaaDiskViews
namespace Go.Proofs.Ythgdinjgdjiknaa
open Go.Al Go.Proofs
set_option linter.unusedVariables false
set_option linter.unusedSimpArgs false
set_option linter.unusedSectionVars false

def vSpot : Vw Try.prog 48 (Int × Int × Unit) := vStruct Try.underlying48 (fvCons rfl 1 (by kernel_rfl) vI (fvCons rfl 1 (by kernel_rfl) vI fvNil)) (by kernel_rfl)
def vSpots : Vw Try.prog 41 (List (Int × Int × Unit)) := vSlice Try.underlying41 (by kernel_rfl) vSpot
def vRuin : Vw Try.prog 43 (Int × List Int × Unit) := vStruct Try.underlying43 (fvCons rfl 1 (by kernel_rfl) vI (fvCons rfl 1 (by kernel_rfl) vInts fvNil)) (by kernel_rfl)
theorem spot_rel {w : World} {cs : List Value} {x : Int × Int × Unit} (h : vSpot.rel w cs x) : cs = [iv x.1, iv x.2.1] ∧ (-9223372036854775808 ≤ x.1 ∧ x.1 ≤ 9223372036854775807) := by
  obtain ⟨c1, c2, rfl, ⟨rfl, h1⟩, c3, c4, rfl, ⟨rfl, h2⟩, rfl⟩ := h
  exact ⟨rfl, i64_of_wf h1⟩
theorem ints_in {w : World} {v : Value} {L : List Int} (h : SliceAs vI w v L) : CellsAt w v L.length 1 (L.map iv) ∧ ∀ f ∈ L, -9223372036854775808 ≤ f ∧ f ≤ 9223372036854775807 := by
  refine ⟨h.cells (by kernel_rfl) (fun _ _ h => h.1), fun f hf => ?_⟩
  obtain ⟨i, hi⟩ := List.getElem?_of_mem hf
  obtain ⟨ad, cs', _, hr, _⟩ := h.at hi (c := 1) (by kernel_rfl) .i64
  exact i64_of_wf hr.2
theorem row45 (w : World) (n : Nat) (h : n ≤ 1000000) : (Instr.makeSlice 45 (iv n) (iv n)).run Try.prog w = .ok (.slice (some ⟨w.heap.size, 0, none⟩) n n) (w.alloc (.cells (List.replicate n (stv [])).toArray 9)) := by
  obtain ⟨i, h1, h2, h3, h4⟩ := info_of (P := Try.prog) (e := 9) (z := stv []) (n := 1) (b := 16) (by kernel_rfl)
  exact VRow.make Try.underlying45 h1 h2 h3 rfl w n (by rw [h4]; omega) (by omega)

theorem set_get {α : Type} (l : List α) (i j : Nat) (x z : α) : (l.set i x).getD j z = if i = j ∧ i < l.length then x else l.getD j z := by
  rw [List.getD_eq_getElem?_getD, List.getElem?_set, List.getD_eq_getElem?_getD]
  by_cases h : i = j
  · subst h
    by_cases hl : i < l.length
    · simp [hl]
    · simp [hl]
  · simp [h]

set_option maxHeartbeats 4000000 in
theorem lasts_law (w : World) (fv tv : Value) (first then_ : List (Int × Int × Unit)) (cs : Array Value) (act : Int) (how : List Int)
    (hfirst : SliceAs vSpot w fv first) (hthen : SliceAs vSpot w tv then_) (hx : vRuin.rel w cs.toList (act, how, ())) :
    Cl Try.prog 4 [fv, tv, .agg cs] w fun v w' => v = .bool true ∧ Fm (fun _ => False) w w' := by
  obtain ⟨c1, c2, hcs, ⟨rfl, hact⟩, c3, c4, rfl, ⟨hv, rfl, hhow⟩, rfl⟩ := hx
  obtain rfl : cs = #[iv act, hv] := by apply Array.ext'; rw [hcs]; rfl
  replace hact := i64_of_wf hact
  obtain ⟨hhc, hhr⟩ := ints_in hhow
  have hfl := hfirst.len
  have htl := hthen.len
  unfold maxLen at hfl htl
  refine c4 ?_
  unfold T4
  refine New_any ?_
  intro x5 w1 hx5 hs1 hw1 hf1
  have c0 : w1.cell? ⟨x5, 0, none⟩ = some (iv act) := by rw [cell_at hw1]; rfl
  have c1 : w1.cell? ⟨x5, 1, none⟩ = some hv := by rw [cell_at hw1]; rfl
  simp only [Pu_some, extV_0, extV_1, extV_2, extV_3, nilV_ptr, nilV_fn, faV_ptr, lenV_sl, lenS_s, capV_sl, pickV_t, pickV_f, unV_not, unV_neg, isB_t, isB_f, isB_u, binV_add, binV_sub, binV_mul, binV_eql, binV_neq, binV_lss, binV_leq, binV_gtr, binV_geq, binV_seql, binV_sneq, binV_slss, binV_beql, binV_bneq, binV_peql, binV_pneq, add_add, add_none, Go.Al.add_zero, Nat.zero_add, Nat.add_zero, IfB_t, IfB_f, Gd_t, Gd_f, Ld_ptr, LdN_ptr, Option.isNone_some, Option.isNone_none, Option.isSome_some, Option.isSome_none, Bool.not_true, Bool.not_false, drew_cell, drew_heap, c0, c1]
  clear c0 c1 hw1 hx5 hs1 x5 hcs
  refine (dnew_spec w1 24).mono ?_
  rintro _ w2 ⟨-, hok⟩
  obtain ⟨b, g, m, rfl, hb, hg, hm, hD, hf2⟩ := hok (by decide)
  clear hok
  rw [show (Dk.mk0 (24 : Int).toNat) = Dk.mk0 24 from rfl] at hD
  have hz1 := hf1.size
  have hbgm : ∀ x, x = b ∨ x = g ∨ x = m → w.heap.size ≤ x := by rintro x (rfl | rfl | rfl) <;> omega
  have hbb : ∀ x, x = b → w.heap.size ≤ x := by rintro x rfl; omega
  simp only [Pu_some, extV_0, extV_1, extV_2, extV_3, nilV_ptr, nilV_fn, faV_ptr, lenV_sl, lenS_s, capV_sl, pickV_t, pickV_f, unV_not, unV_neg, isB_t, isB_f, isB_u, binV_add, binV_sub, binV_mul, binV_eql, binV_neq, binV_lss, binV_leq, binV_gtr, binV_geq, binV_seql, binV_sneq, binV_slss, binV_beql, binV_bneq, binV_peql, binV_pneq, add_add, add_none, Go.Al.add_zero, Nat.zero_add, Nat.add_zero, IfB_t, IfB_f, Gd_t, Gd_f, Ld_ptr, LdN_ptr, Option.isNone_some, Option.isNone_none, Option.isSome_some, Option.isSome_none, Bool.not_true, Bool.not_false, drew_cell, drew_heap, bne_self_eq_false]
  have hF2 := Fmf hf1 hf2
  clear hf1 hf2 hb hg hm hz1
  refine RunS_ok (BRow.make B44 w2 64 (by omega)) ?_
  have hf3 := Fm.alloc (fun _ => False) w2 (.cells (bc (List.replicate 64 0)).toArray 5)
  have hb3 : BRow (w2.alloc (.cells (bc (List.replicate 64 0)).toArray 5)) w2.heap.size 5 (List.replicate 64 0) := alloc_new _ _
  generalize w2.alloc (.cells (bc (List.replicate 64 0)).toArray 5) = w3 at hf3 hb3
  refine RunS_ok (hb3.conv B44 (o := 0) (n := 64) (by simp) _) ?_
  rw [show (((List.replicate 64 0).drop 0).take 64 : Bs) = Dk.zsec from rfl]
  refine RunS_ok (row45 w3 24 (by omega)) ?_
  have hf4 := Fm.alloc (fun _ => False) w3 (.cells (List.replicate 24 (stv [])).toArray 9)
  have hr4 : VRow (w3.alloc (.cells (List.replicate 24 (stv [])).toArray 9)) w3.heap.size 9 (List.replicate 24 (stv [])) := alloc_new _ _
  generalize w3.alloc (.cells (List.replicate 24 (stv [])).toArray 9) = w4 at hf4 hr4
  have hD4 := (hD.keep0 hf3).keep0 hf4
  have hlt := hD.lt
  have hz3 := hf3.size
  have hF4 := Fmf (Fmf hF2 hf3) hf4
  have hoe : ∃ oq, oq = w3.heap.size ∧ oq ≠ b ∧ oq ≠ g ∧ oq ≠ m ∧ w.heap.size ≤ oq := ⟨_, rfl, by omega, by omega, by omega, by have := hF2.size; omega⟩
  obtain ⟨oq, hoq, ho1, ho2, ho3, ho4⟩ := hoe
  rw [← hoq] at hr4 ⊢
  clear hf3 hf4 hb3 hD hF2 hz3 hlt hoq
  -- the old sectors
  refine ⟨fun vs w5 => ∃ k : Nat, vs = [iv k] ∧ k ≤ 24 ∧ VRow w5 oq 9 (List.replicate k (stv Dk.zsec) ++ List.replicate (24 - k) (stv [])) ∧ DAt w5 b g m (Dk.mk0 24) ∧ Fm (fun _ => False) w w5, fun vs _ => (24 - nth vs 0).toNat, ⟨0, rfl, by omega, hr4, hD4, hF4⟩, ?_⟩
  clear hr4 hD4 hF4
  rintro _ w5 ik ⟨k, hvs, hk, hr5, hD5, hF5⟩
  cases hvs
  by_cases hlt : k < 24
  · have e1 : decide ((k : Int) < 24) = true := by rw [decide_eq_true_eq]; omega
    have e2 : IntKind.i64.wrap ((k : Int) + 1) = ((k + 1 : Nat) : Int) := by rw [wrap_id] <;> omega
    simp only [Pu_some, extV_0, extV_1, extV_2, extV_3, nilV_ptr, nilV_fn, faV_ptr, lenV_sl, lenS_s, capV_sl, pickV_t, pickV_f, unV_not, unV_neg, isB_t, isB_f, isB_u, binV_add, binV_sub, binV_mul, binV_eql, binV_neq, binV_lss, binV_leq, binV_gtr, binV_geq, binV_seql, binV_sneq, binV_slss, binV_beql, binV_bneq, binV_peql, binV_pneq, add_add, add_none, Go.Al.add_zero, Nat.zero_add, Nat.add_zero, IfB_t, IfB_f, Gd_t, Gd_f, Ld_ptr, LdN_ptr, Option.isNone_some, Option.isNone_none, Option.isSome_some, Option.isSome_none, Bool.not_true, Bool.not_false, drew_cell, drew_heap, e1, ixV_at hlt, Nat.mul_one]
    refine hr5.put (by simp; omega) rfl ?_
    intro w6 hr6 hs6 hf6
    simp only [Pu_some, extV_0, extV_1, extV_2, extV_3, nilV_ptr, nilV_fn, faV_ptr, lenV_sl, lenS_s, capV_sl, pickV_t, pickV_f, unV_not, unV_neg, isB_t, isB_f, isB_u, binV_add, binV_sub, binV_mul, binV_eql, binV_neq, binV_lss, binV_leq, binV_gtr, binV_geq, binV_seql, binV_sneq, binV_slss, binV_beql, binV_bneq, binV_peql, binV_pneq, add_add, add_none, Go.Al.add_zero, Nat.zero_add, Nat.add_zero, IfB_t, IfB_f, Gd_t, Gd_f, Ld_ptr, LdN_ptr, Option.isNone_some, Option.isNone_none, Option.isSome_some, Option.isSome_none, Bool.not_true, Bool.not_false, drew_cell, drew_heap, e2]
    refine ⟨⟨k + 1, rfl, by omega, ?_, hD5.keep hf6 (fun e => ho1 e.symm) (fun e => ho2 e.symm) (fun e => ho3 e.symm), Fm.own hF5 hf6 (by rintro x rfl; exact ho4)⟩, by simp only [nth_0]; omega⟩
    rw [List.set_append_right _ _ (by simp)] at hr6
    simp only [List.length_replicate, Nat.sub_self] at hr6
    obtain ⟨q, hq⟩ : ∃ q, 24 - k = q + 1 := ⟨23 - k, by omega⟩
    rw [hq, List.replicate_succ, List.set_cons_zero] at hr6
    rw [show 24 - (k + 1) = q by omega, List.replicate_succ', List.append_assoc]
    exact hr6
  have hke : k = 24 := by omega
  subst hke
  have e1 : decide (((24 : Nat) : Int) < 24) = false := rfl
  simp only [Pu_some, extV_0, extV_1, extV_2, extV_3, nilV_ptr, nilV_fn, faV_ptr, lenV_sl, lenS_s, capV_sl, pickV_t, pickV_f, unV_not, unV_neg, isB_t, isB_f, isB_u, binV_add, binV_sub, binV_mul, binV_eql, binV_neq, binV_lss, binV_leq, binV_gtr, binV_geq, binV_seql, binV_sneq, binV_slss, binV_beql, binV_bneq, binV_peql, binV_pneq, add_add, add_none, Go.Al.add_zero, Nat.zero_add, Nat.add_zero, IfB_t, IfB_f, Gd_t, Gd_f, Ld_ptr, LdN_ptr, Option.isNone_some, Option.isNone_none, Option.isSome_some, Option.isSome_none, Bool.not_true, Bool.not_false, drew_cell, drew_heap, e1]
  clear e1 hlt hk
  have hO5 : VRow w5 oq 9 ((Dk.mk0 24).cur.map stv) := by
    simp only [Nat.sub_self, List.replicate_zero, List.append_nil] at hr5
    rw [show (Dk.mk0 24).cur = List.replicate 24 Dk.zsec from rfl, List.map_replicate]; exact hr5
  clear hr5
  -- the first sectors
  refine ⟨fun vs w6 => ∃ (k : Nat) (d : Dk), vs = [iv k] ∧ k ≤ first.length ∧ VRow w6 oq 9 (d.cur.map stv) ∧ DAt w6 b g m d ∧ d.cur.length = 24 ∧ d.gone = false ∧ d.armed = 0 ∧ Fm (fun _ => False) w w6, fun vs _ => (first.length - nth vs 0).toNat, ⟨0, _, rfl, by omega, hO5, hD5, by simp [Dk.mk0], rfl, rfl, hF5⟩, ?_⟩
  clear hO5 hD5 hF5
  rintro _ w6 ik ⟨k, d, hvs, hk, hO6, hD6, hl6, hg6, ha6, hF6⟩
  cases hvs
  have hfirst6 := hfirst.keep hF6
  simp only [Pu_some, extV_0, extV_1, extV_2, extV_3, nilV_ptr, nilV_fn, faV_ptr, lenV_sl, lenS_s, capV_sl, pickV_t, pickV_f, unV_not, unV_neg, isB_t, isB_f, isB_u, binV_add, binV_sub, binV_mul, binV_eql, binV_neq, binV_lss, binV_leq, binV_gtr, binV_geq, binV_seql, binV_sneq, binV_slss, binV_beql, binV_bneq, binV_peql, binV_pneq, add_add, add_none, Go.Al.add_zero, Nat.zero_add, Nat.add_zero, IfB_t, IfB_f, Gd_t, Gd_f, Ld_ptr, LdN_ptr, Option.isNone_some, Option.isNone_none, Option.isSome_some, Option.isSome_none, Bool.not_true, Bool.not_false, drew_cell, drew_heap, hfirst6.lenV]
  by_cases hlt : k < first.length
  · have e1 : decide ((k : Int) < (first.length : Int)) = true := by rw [decide_eq_true_eq]; omega
    have e2 : IntKind.i64.wrap ((k : Int) + 1) = ((k + 1 : Nat) : Int) := by rw [wrap_id] <;> omega
    obtain ⟨ad, cs', hix, hrel, hcell⟩ := hfirst6.at (List.getElem?_eq_getElem hlt) (c := 2) (by kernel_rfl) .i64
    generalize first[k] = sp at hrel
    obtain ⟨rfl, hspr⟩ := spot_rel hrel
    have q0 : w6.cell? ad = some (iv sp.1) := by have := hcell 0 (by omega); rw [add_zero] at this; exact this
    simp only [Pu_some, extV_0, extV_1, extV_2, extV_3, nilV_ptr, nilV_fn, faV_ptr, lenV_sl, lenS_s, capV_sl, pickV_t, pickV_f, unV_not, unV_neg, isB_t, isB_f, isB_u, binV_add, binV_sub, binV_mul, binV_eql, binV_neq, binV_lss, binV_leq, binV_gtr, binV_geq, binV_seql, binV_sneq, binV_slss, binV_beql, binV_bneq, binV_peql, binV_pneq, add_add, add_none, Go.Al.add_zero, Nat.zero_add, Nat.add_zero, IfB_t, IfB_f, Gd_t, Gd_f, Ld_ptr, LdN_ptr, Option.isNone_some, Option.isNone_none, Option.isSome_some, Option.isSome_none, Bool.not_true, Bool.not_false, drew_cell, drew_heap, e1, hix, q0]
    refine (pick_spec w6 hspr (n := 24) (by decide)).mono ?_
    rintro _ w6 ⟨rfl, rfl⟩
    have hp := pick_lt (c := sp.1) (n := 24) (by decide)
    obtain ⟨p, hpe⟩ := Int.eq_ofNat_of_zero_le hp.1
    rw [hpe]
    have hp24 : p < 24 := by omega
    have q1 : w6.cell? (ad.add 1) = some (iv sp.2.1) := hcell 1 (by omega)
    simp only [Pu_some, extV_0, extV_1, extV_2, extV_3, nilV_ptr, nilV_fn, faV_ptr, lenV_sl, lenS_s, capV_sl, pickV_t, pickV_f, unV_not, unV_neg, isB_t, isB_f, isB_u, binV_add, binV_sub, binV_mul, binV_eql, binV_neq, binV_lss, binV_leq, binV_gtr, binV_geq, binV_seql, binV_sneq, binV_slss, binV_beql, binV_bneq, binV_peql, binV_pneq, add_add, add_none, Go.Al.add_zero, Nat.zero_add, Nat.add_zero, IfB_t, IfB_f, Gd_t, Gd_f, Ld_ptr, LdN_ptr, Option.isNone_some, Option.isNone_none, Option.isSome_some, Option.isSome_none, Bool.not_true, Bool.not_false, drew_cell, drew_heap, hix, q1]
    refine (fill_spec w6 sp.2.1).mono ?_
    rintro _ w7 ⟨rfl, hf7⟩
    have h64 := fillB_len sp.2.1
    generalize fillB sp.2.1 = s at h64
    have hO7 := hO6.keep hf7 (fun e => e)
    have hD7 := hD6.keep0 hf7
    simp only [Pu_some, extV_0, extV_1, extV_2, extV_3, nilV_ptr, nilV_fn, faV_ptr, lenV_sl, lenS_s, capV_sl, pickV_t, pickV_f, unV_not, unV_neg, isB_t, isB_f, isB_u, binV_add, binV_sub, binV_mul, binV_eql, binV_neq, binV_lss, binV_leq, binV_gtr, binV_geq, binV_seql, binV_sneq, binV_slss, binV_beql, binV_bneq, binV_peql, binV_pneq, add_add, add_none, Go.Al.add_zero, Nat.zero_add, Nat.add_zero, IfB_t, IfB_f, Gd_t, Gd_f, Ld_ptr, LdN_ptr, Option.isNone_some, Option.isNone_none, Option.isSome_some, Option.isSome_none, Bool.not_true, Bool.not_false, drew_cell, drew_heap, ixV_at hp24, Nat.mul_one]
    refine hO7.put (by rw [List.length_map, hl6]; exact hp24) rfl ?_
    intro w8 hO8 hs8 hf8
    rw [← List.map_set] at hO8
    have hD8 := hD7.keep hf8 (fun e => ho1 e.symm) (fun e => ho2 e.symm) (fun e => ho3 e.symm)
    have q8 : w8.cell? ⟨oq, p, none⟩ = some (stv s) := by rw [hO8.cell, List.getElem?_map, List.getElem?_set, if_pos rfl, if_pos (by rw [hl6]; exact hp24)]; rfl
    simp only [Pu_some, extV_0, extV_1, extV_2, extV_3, nilV_ptr, nilV_fn, faV_ptr, lenV_sl, lenS_s, capV_sl, pickV_t, pickV_f, unV_not, unV_neg, isB_t, isB_f, isB_u, binV_add, binV_sub, binV_mul, binV_eql, binV_neq, binV_lss, binV_leq, binV_gtr, binV_geq, binV_seql, binV_sneq, binV_slss, binV_beql, binV_bneq, binV_peql, binV_pneq, add_add, add_none, Go.Al.add_zero, Nat.zero_add, Nat.add_zero, IfB_t, IfB_f, Gd_t, Gd_f, Ld_ptr, LdN_ptr, Option.isNone_some, Option.isNone_none, Option.isSome_some, Option.isSome_none, Bool.not_true, Bool.not_false, drew_cell, drew_heap, ixV_at hp24, Nat.mul_one, q8]
    refine (write_spec hD8 (p : Int) s (by omega)).mono ?_
    rintro _ w9 ⟨rfl, hD9, hf9⟩
    have ht : (d.put p s).tick.gone = false := by unfold Dk.tick; rw [if_neg (by simp [Dk.put, ha6])]; exact hg6
    rw [Dk.wr_one (by rw [hl6]; exact hp24) h64 hg6, ht] at hD9 ⊢
    have hF9 := Fm.own (Fm.own (Fmf hF6 hf7) hf8 (by rintro x rfl; exact ho4)) hf9 hbgm
    simp only [Pu_some, extV_0, extV_1, extV_2, extV_3, nilV_ptr, nilV_fn, faV_ptr, lenV_sl, lenS_s, capV_sl, pickV_t, pickV_f, unV_not, unV_neg, isB_t, isB_f, isB_u, binV_add, binV_sub, binV_mul, binV_eql, binV_neq, binV_lss, binV_leq, binV_gtr, binV_geq, binV_seql, binV_sneq, binV_slss, binV_beql, binV_bneq, binV_peql, binV_pneq, add_add, add_none, Go.Al.add_zero, Nat.zero_add, Nat.add_zero, IfB_t, IfB_f, Gd_t, Gd_f, Ld_ptr, LdN_ptr, Option.isNone_some, Option.isNone_none, Option.isSome_some, Option.isSome_none, Bool.not_true, Bool.not_false, drew_cell, drew_heap, cond_false, bne_self_eq_false, e2]
    refine ⟨⟨k + 1, _, rfl, by omega, ?_, hD9, ?_, ht, ?_, hF9⟩, by simp only [nth_0]; omega⟩
    · rw [(Dk.tick_cur _).1]
      exact hO8.keep hf9 (by rintro (e | e | e) <;> contradiction)
    · rw [(Dk.tick_cur _).1]; simp [Dk.put, hl6]
    · unfold Dk.tick; rw [if_neg (by simp [Dk.put, ha6])]; exact ha6
  have hke : k = first.length := by omega
  subst hke
  have e1 : decide (((first.length : Nat) : Int) < (first.length : Int)) = false := by simp
  simp only [Pu_some, extV_0, extV_1, extV_2, extV_3, nilV_ptr, nilV_fn, faV_ptr, lenV_sl, lenS_s, capV_sl, pickV_t, pickV_f, unV_not, unV_neg, isB_t, isB_f, isB_u, binV_add, binV_sub, binV_mul, binV_eql, binV_neq, binV_lss, binV_leq, binV_gtr, binV_geq, binV_seql, binV_sneq, binV_slss, binV_beql, binV_bneq, binV_peql, binV_pneq, add_add, add_none, Go.Al.add_zero, Nat.zero_add, Nat.add_zero, IfB_t, IfB_f, Gd_t, Gd_f, Ld_ptr, LdN_ptr, Option.isNone_some, Option.isNone_none, Option.isSome_some, Option.isSome_none, Bool.not_true, Bool.not_false, drew_cell, drew_heap, e1]
  clear e1 hlt hk hfirst6
  refine (sync_spec hD6).mono ?_
  rintro _ w7 ⟨rfl, hD7, hf7⟩
  obtain ⟨y1, y2, y3, y4, y5⟩ := Dk.sync_calm ha6 hg6
  have hO7 := hO6.keep hf7 (by rintro (e | e | e) <;> contradiction)
  rw [← y3] at hO7
  rw [y1]
  have hc7 : d.sync.1.cur = d.sync.1.old := by rw [y2, y3]
  have hl7 : d.sync.1.cur.length = 24 := by rw [y2, hl6]
  have hF7 := Fm.own hF6 hf7 hbgm
  clear hO6 hD6 hf7 y1 y2 y3
  generalize d.sync.1 = d1 at hD7 hO7 y4 y5 hc7 hl7
  clear hl6 hg6 ha6 d hF6
  simp only [Pu_some, extV_0, extV_1, extV_2, extV_3, nilV_ptr, nilV_fn, faV_ptr, lenV_sl, lenS_s, capV_sl, pickV_t, pickV_f, unV_not, unV_neg, isB_t, isB_f, isB_u, binV_add, binV_sub, binV_mul, binV_eql, binV_neq, binV_lss, binV_leq, binV_gtr, binV_geq, binV_seql, binV_sneq, binV_slss, binV_beql, binV_bneq, binV_peql, binV_pneq, add_add, add_none, Go.Al.add_zero, Nat.zero_add, Nat.add_zero, IfB_t, IfB_f, Gd_t, Gd_f, Ld_ptr, LdN_ptr, Option.isNone_some, Option.isNone_none, Option.isSome_some, Option.isSome_none, Bool.not_true, Bool.not_false, drew_cell, drew_heap, bne_self_eq_false]
  refine (pick_spec w7 hact (n := 40) (by decide)).mono ?_
  rintro _ w7 ⟨rfl, rfl⟩
  have hp := pick_lt (c := act) (n := 40) (by decide)
  simp only [Pu_some, extV_0, extV_1, extV_2, extV_3, nilV_ptr, nilV_fn, faV_ptr, lenV_sl, lenS_s, capV_sl, pickV_t, pickV_f, unV_not, unV_neg, isB_t, isB_f, isB_u, binV_add, binV_sub, binV_mul, binV_eql, binV_neq, binV_lss, binV_leq, binV_gtr, binV_geq, binV_seql, binV_sneq, binV_slss, binV_beql, binV_bneq, binV_peql, binV_pneq, add_add, add_none, Go.Al.add_zero, Nat.zero_add, Nat.add_zero, IfB_t, IfB_f, Gd_t, Gd_f, Ld_ptr, LdN_ptr, Option.isNone_some, Option.isNone_none, Option.isSome_some, Option.isSome_none, Bool.not_true, Bool.not_false, drew_cell, drew_heap]
  refine (arm_spec hD7 (a := pickI act 40) (by omega)).mono ?_
  rintro _ w8 ⟨rfl, hD8, hf8⟩
  have harm : d1.arm (pickI act 40) = ({ d1 with armed := pickI act 40 }, 0) := by
    unfold Dk.arm
    rw [y4, decide_eq_false (by omega)]; rfl
  rw [harm] at hD8 ⊢
  have hO8 := hO7.keep hf8 ho1
  have hF8 := Fm.own hF7 hf8 hbb
  simp only [Pu_some, extV_0, extV_1, extV_2, extV_3, nilV_ptr, nilV_fn, faV_ptr, lenV_sl, lenS_s, capV_sl, pickV_t, pickV_f, unV_not, unV_neg, isB_t, isB_f, isB_u, binV_add, binV_sub, binV_mul, binV_eql, binV_neq, binV_lss, binV_leq, binV_gtr, binV_geq, binV_seql, binV_sneq, binV_slss, binV_beql, binV_bneq, binV_peql, binV_pneq, add_add, add_none, Go.Al.add_zero, Nat.zero_add, Nat.add_zero, IfB_t, IfB_f, Gd_t, Gd_f, Ld_ptr, LdN_ptr, Option.isNone_some, Option.isNone_none, Option.isSome_some, Option.isSome_none, Bool.not_true, Bool.not_false, drew_cell, drew_heap, bne_self_eq_false]
  refine RunS_ok (row45 w8 24 (by omega)) ?_
  have hf9 := Fm.alloc (fun _ => False) w8 (.cells (List.replicate 24 (stv [])).toArray 9)
  have hr9 : VRow (w8.alloc (.cells (List.replicate 24 (stv [])).toArray 9)) w8.heap.size 9 (List.replicate 24 (stv [])) := alloc_new _ _
  have hlt8 := hD8.lt
  have hol8 := hO8.lt
  have hF8s := hF8.size
  have hle : ∃ lq, lq = w8.heap.size ∧ lq ≠ b ∧ lq ≠ g ∧ lq ≠ m ∧ lq ≠ oq ∧ w.heap.size ≤ lq := ⟨_, rfl, by omega, by omega, by omega, by omega, by omega⟩
  obtain ⟨lq, hlq, hl1, hl2, hl3, hl4, hl5⟩ := hle
  generalize w8.alloc (.cells (List.replicate 24 (stv [])).toArray 9) = w9 at hf9 hr9
  rw [← hlq] at hr9 ⊢
  have hO9 := hO8.keep hf9 (fun e => e)
  have hol : (d1.old.map stv).length = 24 := by rw [List.length_map, ← hc7, hl7]
  obtain ⟨w10, hrun, hL10, hs10, hf10⟩ := hr9.copy (P := Try.prog) (t := 45) Try.underlying45 (by kernel_rfl) hO9 (by rw [hol]; rfl) (by intro v hv; obtain ⟨x, _, rfl⟩ := List.mem_map.1 hv; rfl) 24 24 3
  rw [hol, show (List.replicate 24 (stv [])).length = 24 from rfl] at hrun
  refine RunS_ok hrun ?_
  have hO10 := hO9.keep hf10 (fun e => hl4 e.symm)
  have hD10 := (hD8.keep0 hf9).keep hf10 (fun e => hl1 e.symm) (fun e => hl2 e.symm) (fun e => hl3 e.symm)
  have hF10 := Fm.own (Fmf hF8 hf9) hf10 (by rintro x rfl; exact hl5)
  have hd10 : ({ d1 with armed := pickI act 40 } : Dk).cur = d1.old ∧ ({ d1 with armed := pickI act 40 } : Dk).old = d1.old := ⟨hc7, rfl⟩
  rw [← hd10.1] at hL10
  rw [← hd10.2] at hO10
  have hd24 : ({ d1 with armed := pickI act 40 } : Dk).cur.length = 24 := hl7
  clear hlq hrun hr9 hf9 hf8 hD8 hD7 hO7 hO8 hO9 hf10 hs10 hol hF8 hF7 hF8s hlt8 hol8 harm hd10 hp y4 y5 hc7
  generalize ({ d1 with armed := pickI act 40 } : Dk) = d2 at hD10 hL10 hO10 hd24
  clear hl7 d1
  -- the sectors after
  refine ⟨fun vs w6 => ∃ (k : Nat) (d : Dk), vs = [iv k] ∧ k ≤ then_.length ∧ VRow w6 oq 9 (d.old.map stv) ∧ VRow w6 lq 9 (d.cur.map stv) ∧ DAt w6 b g m d ∧ d.cur.length = 24 ∧ Fm (fun _ => False) w w6, fun vs _ => (then_.length - nth vs 0).toNat, ⟨0, _, rfl, by omega, hO10, hL10, hD10, hd24, hF10⟩, ?_⟩
  clear hO10 hL10 hD10 hd24 hF10
  rintro _ w6 ik ⟨k, d, hvs, hk, hO6, hL6, hD6, hl6, hF6⟩
  cases hvs
  have hthen6 := hthen.keep hF6
  simp only [Pu_some, extV_0, extV_1, extV_2, extV_3, nilV_ptr, nilV_fn, faV_ptr, lenV_sl, lenS_s, capV_sl, pickV_t, pickV_f, unV_not, unV_neg, isB_t, isB_f, isB_u, binV_add, binV_sub, binV_mul, binV_eql, binV_neq, binV_lss, binV_leq, binV_gtr, binV_geq, binV_seql, binV_sneq, binV_slss, binV_beql, binV_bneq, binV_peql, binV_pneq, add_add, add_none, Go.Al.add_zero, Nat.zero_add, Nat.add_zero, IfB_t, IfB_f, Gd_t, Gd_f, Ld_ptr, LdN_ptr, Option.isNone_some, Option.isNone_none, Option.isSome_some, Option.isSome_none, Bool.not_true, Bool.not_false, drew_cell, drew_heap, hthen6.lenV]
  by_cases hlt : k < then_.length
  · have e1 : decide ((k : Int) < (then_.length : Int)) = true := by rw [decide_eq_true_eq]; omega
    have e2 : IntKind.i64.wrap ((k : Int) + 1) = ((k + 1 : Nat) : Int) := by rw [wrap_id] <;> omega
    obtain ⟨ad, cs', hix, hrel, hcell⟩ := hthen6.at (List.getElem?_eq_getElem hlt) (c := 2) (by kernel_rfl) .i64
    generalize then_[k] = sp at hrel
    obtain ⟨rfl, hspr⟩ := spot_rel hrel
    have q0 : w6.cell? ad = some (iv sp.1) := by have := hcell 0 (by omega); rw [add_zero] at this; exact this
    have q1 : w6.cell? (ad.add 1) = some (iv sp.2.1) := hcell 1 (by omega)
    simp only [Pu_some, extV_0, extV_1, extV_2, extV_3, nilV_ptr, nilV_fn, faV_ptr, lenV_sl, lenS_s, capV_sl, pickV_t, pickV_f, unV_not, unV_neg, isB_t, isB_f, isB_u, binV_add, binV_sub, binV_mul, binV_eql, binV_neq, binV_lss, binV_leq, binV_gtr, binV_geq, binV_seql, binV_sneq, binV_slss, binV_beql, binV_bneq, binV_peql, binV_pneq, add_add, add_none, Go.Al.add_zero, Nat.zero_add, Nat.add_zero, IfB_t, IfB_f, Gd_t, Gd_f, Ld_ptr, LdN_ptr, Option.isNone_some, Option.isNone_none, Option.isSome_some, Option.isSome_none, Bool.not_true, Bool.not_false, drew_cell, drew_heap, e1]
    refine Jn_at (fun vs w7 => vs = [] ∧ ∃ d, VRow w7 oq 9 (d.old.map stv) ∧ VRow w7 lq 9 (d.cur.map stv) ∧ DAt w7 b g m d ∧ d.cur.length = 24 ∧ Fm (fun _ => False) w w7) ?_ ?_
    · rintro _ w7 ⟨rfl, d', hO7, hL7, hD7, hl7, hF7⟩ _
      refine ⟨rfl, ?_⟩
      simp only [Pu_some, extV_0, extV_1, extV_2, extV_3, nilV_ptr, nilV_fn, faV_ptr, lenV_sl, lenS_s, capV_sl, pickV_t, pickV_f, unV_not, unV_neg, isB_t, isB_f, isB_u, binV_add, binV_sub, binV_mul, binV_eql, binV_neq, binV_lss, binV_leq, binV_gtr, binV_geq, binV_seql, binV_sneq, binV_slss, binV_beql, binV_bneq, binV_peql, binV_pneq, add_add, add_none, Go.Al.add_zero, Nat.zero_add, Nat.add_zero, IfB_t, IfB_f, Gd_t, Gd_f, Ld_ptr, LdN_ptr, Option.isNone_some, Option.isNone_none, Option.isSome_some, Option.isSome_none, Bool.not_true, Bool.not_false, drew_cell, drew_heap, e2]
      exact ⟨⟨k + 1, d', rfl, by omega, hO7, hL7, hD7, hl7, hF7⟩, by simp only [nth_0]; omega⟩
    intro kk hkk
    simp only [Pu_some, extV_0, extV_1, extV_2, extV_3, nilV_ptr, nilV_fn, faV_ptr, lenV_sl, lenS_s, capV_sl, pickV_t, pickV_f, unV_not, unV_neg, isB_t, isB_f, isB_u, binV_add, binV_sub, binV_mul, binV_eql, binV_neq, binV_lss, binV_leq, binV_gtr, binV_geq, binV_seql, binV_sneq, binV_slss, binV_beql, binV_bneq, binV_peql, binV_pneq, add_add, add_none, Go.Al.add_zero, Nat.zero_add, Nat.add_zero, IfB_t, IfB_f, Gd_t, Gd_f, Ld_ptr, LdN_ptr, Option.isNone_some, Option.isNone_none, Option.isSome_some, Option.isSome_none, Bool.not_true, Bool.not_false, drew_cell, drew_heap, hix, q0]
    refine (pick_spec w6 hspr (n := 24) (by decide)).mono ?_
    rintro _ w6 ⟨rfl, rfl⟩
    have hp := pick_lt (c := sp.1) (n := 24) (by decide)
    obtain ⟨p, hpe⟩ := Int.eq_ofNat_of_zero_le hp.1
    rw [hpe]
    have hp24 : p < 24 := by omega
    refine (dead_spec hD6).mono ?_
    rintro _ w6 ⟨rfl, rfl⟩
    simp only [Pu_some, extV_0, extV_1, extV_2, extV_3, nilV_ptr, nilV_fn, faV_ptr, lenV_sl, lenS_s, capV_sl, pickV_t, pickV_f, unV_not, unV_neg, isB_t, isB_f, isB_u, binV_add, binV_sub, binV_mul, binV_eql, binV_neq, binV_lss, binV_leq, binV_gtr, binV_geq, binV_seql, binV_sneq, binV_slss, binV_beql, binV_bneq, binV_peql, binV_pneq, add_add, add_none, Go.Al.add_zero, Nat.zero_add, Nat.add_zero, IfB_t, IfB_f, Gd_t, Gd_f, Ld_ptr, LdN_ptr, Option.isNone_some, Option.isNone_none, Option.isSome_some, Option.isSome_none, Bool.not_true, Bool.not_false, drew_cell, drew_heap, hix, q1]
    refine (fill_spec w6 sp.2.1).mono ?_
    rintro _ w7 ⟨rfl, hf7⟩
    have h64 := fillB_len sp.2.1
    have hD7 := hD6.keep0 hf7
    refine (write_spec hD7 (p : Int) (fillB sp.2.1) (by omega)).mono ?_
    rintro _ w9 ⟨rfl, hD9, hf9⟩
    have hF9 := Fm.own (Fmf hF6 hf7) hf9 hbgm
    have hO9 := (hO6.keep hf7 (fun e => e)).keep hf9 (by rintro (e | e | e) <;> contradiction)
    have hL9 := (hL6.keep hf7 (fun e => e)).keep hf9 (by rintro (e | e | e) <;> contradiction)
    cases hgo : d.gone with
    | true =>
      rw [Dk.wr_gone _ _ hgo] at hD9 ⊢
      simp only [Pu_some, extV_0, extV_1, extV_2, extV_3, nilV_ptr, nilV_fn, faV_ptr, lenV_sl, lenS_s, capV_sl, pickV_t, pickV_f, unV_not, unV_neg, isB_t, isB_f, isB_u, binV_add, binV_sub, binV_mul, binV_eql, binV_neq, binV_lss, binV_leq, binV_gtr, binV_geq, binV_seql, binV_sneq, binV_slss, binV_beql, binV_bneq, binV_peql, binV_pneq, add_add, add_none, Go.Al.add_zero, Nat.zero_add, Nat.add_zero, IfB_t, IfB_f, Gd_t, Gd_f, Ld_ptr, LdN_ptr, Option.isNone_some, Option.isNone_none, Option.isSome_some, Option.isSome_none, Bool.not_true, Bool.not_false, drew_cell, drew_heap]
      refine (dead_spec hD9).mono ?_
      rintro _ w9 ⟨rfl, rfl⟩
      rw [hgo]
      have z1 : ((5 : Int) == 0) = false := rfl
      have z2 : (false == true) = false := rfl
      have z3 : ((5 : Int) != 0) = true := rfl
      simp only [Pu_some, extV_0, extV_1, extV_2, extV_3, nilV_ptr, nilV_fn, faV_ptr, lenV_sl, lenS_s, capV_sl, pickV_t, pickV_f, unV_not, unV_neg, isB_t, isB_f, isB_u, binV_add, binV_sub, binV_mul, binV_eql, binV_neq, binV_lss, binV_leq, binV_gtr, binV_geq, binV_seql, binV_sneq, binV_slss, binV_beql, binV_bneq, binV_peql, binV_pneq, add_add, add_none, Go.Al.add_zero, Nat.zero_add, Nat.add_zero, IfB_t, IfB_f, Gd_t, Gd_f, Ld_ptr, LdN_ptr, Option.isNone_some, Option.isNone_none, Option.isSome_some, Option.isSome_none, Bool.not_true, Bool.not_false, drew_cell, drew_heap, z1, z2, z3, bne_self_eq_false]
      exact hkk _ _ ⟨rfl, d, hO9, hL9, hD9, hl6, hF9⟩
    | false =>
      rw [Dk.wr_one (by rw [hl6]; exact hp24) h64 hgo] at hD9 ⊢
      simp only [Pu_some, extV_0, extV_1, extV_2, extV_3, nilV_ptr, nilV_fn, faV_ptr, lenV_sl, lenS_s, capV_sl, pickV_t, pickV_f, unV_not, unV_neg, isB_t, isB_f, isB_u, binV_add, binV_sub, binV_mul, binV_eql, binV_neq, binV_lss, binV_leq, binV_gtr, binV_geq, binV_seql, binV_sneq, binV_slss, binV_beql, binV_bneq, binV_peql, binV_pneq, add_add, add_none, Go.Al.add_zero, Nat.zero_add, Nat.add_zero, IfB_t, IfB_f, Gd_t, Gd_f, Ld_ptr, LdN_ptr, Option.isNone_some, Option.isNone_none, Option.isSome_some, Option.isSome_none, Bool.not_true, Bool.not_false, drew_cell, drew_heap]
      refine (dead_spec hD9).mono ?_
      rintro _ w9 ⟨rfl, rfl⟩
      have fin : ∀ w10, VRow w10 oq 9 (d.old.map stv) → VRow w10 lq 9 ((d.cur.set p (fillB sp.2.1)).map stv) → DAt w10 b g m (d.put p (fillB sp.2.1)).tick → Fm (fun _ => False) w w10 → kk [] w10 := by
        intro w10 k1 k2 k3 k4
        refine hkk _ _ ⟨rfl, _, ?_, ?_, k3, ?_, k4⟩
        · rw [(Dk.tick_cur _).2.1]; exact k1
        · rw [(Dk.tick_cur _).1]; exact k2
        · rw [(Dk.tick_cur _).1]; simp [Dk.put, hl6]
      have lay : Pu (ixV 2 tv (iv (k : Nat))) fun t136_266 =>
          Pu (faV 1 t136_266) fun t137_267 =>
          Ld w9 t137_267 fun t138_268 w_269 =>
          Cl Try.prog 23 [t138_268] w_269 fun t139_270 w_271 =>
          Pu (ixV 1 (.slice (some ⟨lq, 0, none⟩) 24 24) (iv (p : Nat))) fun t140_272 =>
          St 1 w_271 t140_272 t139_270 fun u_273 w_274 =>
          kk [] w_274 := by
        have hthen9 := hthen.keep hF9
        obtain ⟨ad', cs'', hix', hrel', hcell'⟩ := hthen9.at (List.getElem?_eq_getElem hlt) (c := 2) (by kernel_rfl) .i64
        have hadd : ad' = ad := by rw [hix] at hix'; simpa using hix'.symm
        subst hadd
        have q9 : w9.cell? (ad'.add 1) = some (iv sp.2.1) := by
          have := Fm.cell' (S := fun _ => False) (w := w6) (w' := w7) hf7 q1 (fun e => e)
          have h9 := hcell' 1 (by omega)
          obtain ⟨rfl, _⟩ := spot_rel hrel'
          have hbk : (ad'.add 1).block < w.heap.size ∨ True := .inr trivial
          have hF := hthen.at (List.getElem?_eq_getElem hlt) (c := 2) (by kernel_rfl) .i64
          obtain ⟨a0, cs0, hix0, hrel0, hcell0⟩ := hF
          have hadd0 : a0 = ad' := by rw [hix0] at hix'; simpa using hix'
          subst hadd0
          obtain ⟨rfl, _⟩ := spot_rel hrel0
          have g0 : w.cell? (a0.add 1) = some (iv (then_[k]).2.1) := hcell0 1 (by omega)
          have g6 := hF6.cell' g0 (fun e => e)
          rw [q1] at g6
          rw [hF9.cell' g0 (fun e => e)]; exact g6.symm
        simp only [Pu_some, extV_0, extV_1, extV_2, extV_3, nilV_ptr, nilV_fn, faV_ptr, lenV_sl, lenS_s, capV_sl, pickV_t, pickV_f, unV_not, unV_neg, isB_t, isB_f, isB_u, binV_add, binV_sub, binV_mul, binV_eql, binV_neq, binV_lss, binV_leq, binV_gtr, binV_geq, binV_seql, binV_sneq, binV_slss, binV_beql, binV_bneq, binV_peql, binV_pneq, add_add, add_none, Go.Al.add_zero, Nat.zero_add, Nat.add_zero, IfB_t, IfB_f, Gd_t, Gd_f, Ld_ptr, LdN_ptr, Option.isNone_some, Option.isNone_none, Option.isSome_some, Option.isSome_none, Bool.not_true, Bool.not_false, drew_cell, drew_heap, hix, q9]
        refine (fill_spec w9 sp.2.1).mono ?_
        rintro _ w10 ⟨rfl, hf10⟩
        simp only [Pu_some, extV_0, extV_1, extV_2, extV_3, nilV_ptr, nilV_fn, faV_ptr, lenV_sl, lenS_s, capV_sl, pickV_t, pickV_f, unV_not, unV_neg, isB_t, isB_f, isB_u, binV_add, binV_sub, binV_mul, binV_eql, binV_neq, binV_lss, binV_leq, binV_gtr, binV_geq, binV_seql, binV_sneq, binV_slss, binV_beql, binV_bneq, binV_peql, binV_pneq, add_add, add_none, Go.Al.add_zero, Nat.zero_add, Nat.add_zero, IfB_t, IfB_f, Gd_t, Gd_f, Ld_ptr, LdN_ptr, Option.isNone_some, Option.isNone_none, Option.isSome_some, Option.isSome_none, Bool.not_true, Bool.not_false, drew_cell, drew_heap, ixV_at hp24, Nat.mul_one]
        refine (hL9.keep hf10 (fun e => e)).put (by rw [List.length_map, hl6]; exact hp24) rfl ?_
        intro w11 hL11 hs11 hf11
        rw [← List.map_set] at hL11
        exact fin w11 ((hO9.keep hf10 (fun e => e)).keep hf11 (fun e => hl4 e.symm)) hL11 ((hD9.keep0 hf10).keep hf11 (fun e => hl1 e.symm) (fun e => hl2 e.symm) (fun e => hl3 e.symm)) (Fm.own (Fmf hF9 hf10) hf11 (by rintro x rfl; exact hl5))
      simp only [Pu_some, extV_0, extV_1, extV_2, extV_3, nilV_ptr, nilV_fn, faV_ptr, lenV_sl, lenS_s, capV_sl, pickV_t, pickV_f, unV_not, unV_neg, isB_t, isB_f, isB_u, binV_add, binV_sub, binV_mul, binV_eql, binV_neq, binV_lss, binV_leq, binV_gtr, binV_geq, binV_seql, binV_sneq, binV_slss, binV_beql, binV_bneq, binV_peql, binV_pneq, add_add, add_none, Go.Al.add_zero, Nat.zero_add, Nat.add_zero, IfB_t, IfB_f, Gd_t, Gd_f, Ld_ptr, LdN_ptr, Option.isNone_some, Option.isNone_none, Option.isSome_some, Option.isSome_none, Bool.not_true, Bool.not_false, drew_cell, drew_heap, hix] at lay
      cases hg2 : (d.put p (fillB sp.2.1)).tick.gone with
      | true =>
        have z1 : ((5 : Int) == 0) = false := rfl
        have z2 : (false == true) = false := rfl
        have z3 : ((5 : Int) != 0) = true := rfl
        simp only [Pu_some, extV_0, extV_1, extV_2, extV_3, nilV_ptr, nilV_fn, faV_ptr, lenV_sl, lenS_s, capV_sl, pickV_t, pickV_f, unV_not, unV_neg, isB_t, isB_f, isB_u, binV_add, binV_sub, binV_mul, binV_eql, binV_neq, binV_lss, binV_leq, binV_gtr, binV_geq, binV_seql, binV_sneq, binV_slss, binV_beql, binV_bneq, binV_peql, binV_pneq, add_add, add_none, Go.Al.add_zero, Nat.zero_add, Nat.add_zero, IfB_t, IfB_f, Gd_t, Gd_f, Ld_ptr, LdN_ptr, Option.isNone_some, Option.isNone_none, Option.isSome_some, Option.isSome_none, Bool.not_true, Bool.not_false, drew_cell, drew_heap, cond_true, z1, z2, z3, bne_self_eq_false]
        exact lay
      | false =>
        have z1 : ((0 : Int) == 0) = true := rfl
        have z2 : (true == false) = false := rfl
        simp only [Pu_some, extV_0, extV_1, extV_2, extV_3, nilV_ptr, nilV_fn, faV_ptr, lenV_sl, lenS_s, capV_sl, pickV_t, pickV_f, unV_not, unV_neg, isB_t, isB_f, isB_u, binV_add, binV_sub, binV_mul, binV_eql, binV_neq, binV_lss, binV_leq, binV_gtr, binV_geq, binV_seql, binV_sneq, binV_slss, binV_beql, binV_bneq, binV_peql, binV_pneq, add_add, add_none, Go.Al.add_zero, Nat.zero_add, Nat.add_zero, IfB_t, IfB_f, Gd_t, Gd_f, Ld_ptr, LdN_ptr, Option.isNone_some, Option.isNone_none, Option.isSome_some, Option.isSome_none, Bool.not_true, Bool.not_false, drew_cell, drew_heap, cond_false, z1, z2, bne_self_eq_false]
        exact lay
  have hke : k = then_.length := by omega
  subst hke
  have e1 : decide (((then_.length : Nat) : Int) < (then_.length : Int)) = false := by simp
  simp only [Pu_some, extV_0, extV_1, extV_2, extV_3, nilV_ptr, nilV_fn, faV_ptr, lenV_sl, lenS_s, capV_sl, pickV_t, pickV_f, unV_not, unV_neg, isB_t, isB_f, isB_u, binV_add, binV_sub, binV_mul, binV_eql, binV_neq, binV_lss, binV_leq, binV_gtr, binV_geq, binV_seql, binV_sneq, binV_slss, binV_beql, binV_bneq, binV_peql, binV_pneq, add_add, add_none, Go.Al.add_zero, Nat.zero_add, Nat.add_zero, IfB_t, IfB_f, Gd_t, Gd_f, Ld_ptr, LdN_ptr, Option.isNone_some, Option.isNone_none, Option.isSome_some, Option.isSome_none, Bool.not_true, Bool.not_false, drew_cell, drew_heap, e1]
  clear e1 hlt hk hthen6
  have hhc6 := hhc.keepAny hF6 (fun _ _ _ e => e)
  refine (crash_spec hD6 hhc6 (fun hne q hq => ?_) hhr).mono ?_
  · have := hhc.blt (fun e => hne (List.map_eq_nil_iff.1 e)) q hq
    refine ⟨?_, ?_, ?_⟩ <;> rintro rfl
    · have := hbgm _ (.inl rfl); omega
    · have := hbgm _ (.inr (.inl rfl)); omega
    · have := hbgm _ (.inr (.inr rfl)); omega
  rintro _ w7 ⟨rfl, hD7, hf7⟩
  have hO7 := hO6.keep hf7 (by rintro (e | e | e) <;> contradiction)
  have hL7 := hL6.keep hf7 (by rintro (e | e | e) <;> contradiction)
  have hF7 := Fm.own hF6 hf7 hbgm
  have hl7 : (d.crash how).cur.length = 24 := by show (Dk.mended how d).length = 24; rw [Dk.mended_len, hl6]
  have hwf := hD6.wf
  refine (dead_spec hD7).mono ?_
  rintro _ w7 ⟨rfl, rfl⟩
  have hgo : (d.crash how).gone = false := rfl
  rw [hgo]
  simp only [Pu_some, extV_0, extV_1, extV_2, extV_3, nilV_ptr, nilV_fn, faV_ptr, lenV_sl, lenS_s, capV_sl, pickV_t, pickV_f, unV_not, unV_neg, isB_t, isB_f, isB_u, binV_add, binV_sub, binV_mul, binV_eql, binV_neq, binV_lss, binV_leq, binV_gtr, binV_geq, binV_seql, binV_sneq, binV_slss, binV_beql, binV_bneq, binV_peql, binV_pneq, add_add, add_none, Go.Al.add_zero, Nat.zero_add, Nat.add_zero, IfB_t, IfB_f, Gd_t, Gd_f, Ld_ptr, LdN_ptr, Option.isNone_some, Option.isNone_none, Option.isSome_some, Option.isSome_none, Bool.not_true, Bool.not_false, drew_cell, drew_heap]
  refine (pend_spec hD7).mono ?_
  rintro pv' w8 ⟨hrow, -, hf8⟩
  have hpe : (d.crash how).pend = [] := by
    rw [List.eq_nil_iff_forall_not_mem]
    intro i hi
    have := (Dk.pend_mem hD7.wf).1 hi
    rw [show (d.crash how).chg = List.replicate d.cur.length false from rfl, Dk.isC_rep] at this; cases this
  rw [hpe] at hrow
  have hpl := own_len hrow
  simp only [List.length_nil, Int.natCast_zero] at hpl
  simp only [Pu_some, extV_0, extV_1, extV_2, extV_3, nilV_ptr, nilV_fn, faV_ptr, lenV_sl, lenS_s, capV_sl, pickV_t, pickV_f, unV_not, unV_neg, isB_t, isB_f, isB_u, binV_add, binV_sub, binV_mul, binV_eql, binV_neq, binV_lss, binV_leq, binV_gtr, binV_geq, binV_seql, binV_sneq, binV_slss, binV_beql, binV_bneq, binV_peql, binV_pneq, add_add, add_none, Go.Al.add_zero, Nat.zero_add, Nat.add_zero, IfB_t, IfB_f, Gd_t, Gd_f, Ld_ptr, LdN_ptr, Option.isNone_some, Option.isNone_none, Option.isSome_some, Option.isSome_none, Bool.not_true, Bool.not_false, drew_cell, drew_heap, hpl, bne_self_eq_false]
  have hD8 := hD7.keep0 hf8
  have hO8 := hO7.keep hf8 (fun e => e)
  have hL8 := hL7.keep hf8 (fun e => e)
  have hF8 := Fmf hF7 hf8
  clear hD7 hO7 hL7 hF7 hf7 hf8 hD6 hO6 hL6 hF6 hhc6 hrow
  refine ⟨fun vs w6 => ∃ (k : Nat), vs = [iv k] ∧ k ≤ 24 ∧ VRow w6 oq 9 (d.old.map stv) ∧ VRow w6 lq 9 (d.cur.map stv) ∧ DAt w6 b g m (d.crash how) ∧ Fm (fun _ => False) w w6, fun vs _ => (24 - nth vs 0).toNat, ⟨0, rfl, by omega, hO8, hL8, hD8, hF8⟩, ?_⟩
  clear hO8 hL8 hD8 hF8
  rintro _ w6 ik ⟨k, hvs, hk, hO6, hL6, hD6, hF6⟩
  cases hvs
  by_cases hlt : k < 24
  · have e1 : decide ((k : Int) < 24) = true := by rw [decide_eq_true_eq]; omega
    have e2 : IntKind.i64.wrap ((k : Int) + 1) = ((k + 1 : Nat) : Int) := by rw [wrap_id] <;> omega
    simp only [Pu_some, extV_0, extV_1, extV_2, extV_3, nilV_ptr, nilV_fn, faV_ptr, lenV_sl, lenS_s, capV_sl, pickV_t, pickV_f, unV_not, unV_neg, isB_t, isB_f, isB_u, binV_add, binV_sub, binV_mul, binV_eql, binV_neq, binV_lss, binV_leq, binV_gtr, binV_geq, binV_seql, binV_sneq, binV_slss, binV_beql, binV_bneq, binV_peql, binV_pneq, add_add, add_none, Go.Al.add_zero, Nat.zero_add, Nat.add_zero, IfB_t, IfB_f, Gd_t, Gd_f, Ld_ptr, LdN_ptr, Option.isNone_some, Option.isNone_none, Option.isSome_some, Option.isSome_none, Bool.not_true, Bool.not_false, drew_cell, drew_heap, e1]
    refine (read_spec hD6 (k : Int) 1).mono ?_
    rintro _ w6 ⟨rfl, rfl⟩
    obtain ⟨b0, hb0, hcur⟩ := Dk.crash_torn hwf how (k := k) (by rw [hl6]; exact hlt)
    have hx64 := hwf.cur64 (i := k) (by rw [hl6]; exact hlt)
    have hy64 := hwf.old64 (i := k) (by rw [hl6]; exact hlt)
    have hxc : (d.cur.map stv)[k]? = some (stv (d.cur.getD k [])) := by rw [List.getElem?_map, Dk.getD_eq (x := []) (by rw [hl6]; exact hlt)]; rfl
    have hyc : (d.old.map stv)[k]? = some (stv (d.old.getD k [])) := by rw [List.getElem?_map, Dk.getD_eq (x := []) (by rw [hwf.lo, hl6]; exact hlt)]; rfl
    generalize d.cur.getD k [] = X at hcur hx64 hxc
    generalize d.old.getD k [] = Y at hcur hy64 hyc
    have hrd : (d.crash how).read (k : Int) 1 = (X.take b0 ++ Y.drop b0, 0) := by
      unfold Dk.read
      rw [hgo, Dk.has_one (by rw [hl7]; exact hlt)]
      simp only [cond_false, Bool.not_true, Int.toNat_natCast]
      have : ((d.crash how).cur.drop k).take (1 : Int).toNat = [X.take b0 ++ Y.drop b0] := by
        have hk7 : k < (d.crash how).cur.length := by rw [hl7]; exact hlt
        rw [List.getElem?_eq_getElem hk7] at hcur
        rw [List.drop_eq_getElem_cons hk7, Option.some.inj hcur]; rfl
      rw [this]; simp
    rw [hrd]
    have hZ : (X.take b0 ++ Y.drop b0).length = 64 := by simp; omega
    have z1 : (((X.take b0 ++ Y.drop b0).length : Int) != 64) = false := by rw [hZ]; rfl
    simp only [Pu_some, extV_0, extV_1, extV_2, extV_3, nilV_ptr, nilV_fn, faV_ptr, lenV_sl, lenS_s, capV_sl, pickV_t, pickV_f, unV_not, unV_neg, isB_t, isB_f, isB_u, binV_add, binV_sub, binV_mul, binV_eql, binV_neq, binV_lss, binV_leq, binV_gtr, binV_geq, binV_seql, binV_sneq, binV_slss, binV_beql, binV_bneq, binV_peql, binV_pneq, add_add, add_none, Go.Al.add_zero, Nat.zero_add, Nat.add_zero, IfB_t, IfB_f, Gd_t, Gd_f, Ld_ptr, LdN_ptr, Option.isNone_some, Option.isNone_none, Option.isSome_some, Option.isSome_none, Bool.not_true, Bool.not_false, drew_cell, drew_heap, str_size, str_nil, str_inj, bne_self_eq_false, z1]
    refine ⟨fun vs w7 => ∃ (t : Bool) (c : Nat), vs = [.bool t, iv c] ∧ c ≤ 65 ∧ (b0 < c → t = true) ∧ VRow w7 oq 9 (d.old.map stv) ∧ VRow w7 lq 9 (d.cur.map stv) ∧ DAt w7 b g m (d.crash how) ∧ Fm (fun _ => False) w w7, fun vs _ => (65 - nth vs 1).toNat, ⟨false, 0, rfl, by omega, by omega, hO6, hL6, hD6, hF6⟩, ?_⟩
    clear hO6 hL6 hD6 hF6
    rintro _ w7 it ic ⟨t, c, hvs, hc, htc, hO7, hL7, hD7, hF7⟩
    cases hvs
    by_cases hcl : c ≤ 64
    · have e3 : decide ((c : Int) ≤ 64) = true := by rw [decide_eq_true_eq]; omega
      have e4 : IntKind.i64.wrap ((c : Int) + 1) = ((c + 1 : Nat) : Int) := by rw [wrap_id] <;> omega
      have hfd := Fm.drew (fun _ => False) w7
      cases t with
      | true =>
        simp only [Pu_some, extV_0, extV_1, extV_2, extV_3, nilV_ptr, nilV_fn, faV_ptr, lenV_sl, lenS_s, capV_sl, pickV_t, pickV_f, unV_not, unV_neg, isB_t, isB_f, isB_u, binV_add, binV_sub, binV_mul, binV_eql, binV_neq, binV_lss, binV_leq, binV_gtr, binV_geq, binV_seql, binV_sneq, binV_slss, binV_beql, binV_bneq, binV_peql, binV_pneq, add_add, add_none, Go.Al.add_zero, Nat.zero_add, Nat.add_zero, IfB_t, IfB_f, Gd_t, Gd_f, Ld_ptr, LdN_ptr, Option.isNone_some, Option.isNone_none, Option.isSome_some, Option.isSome_none, Bool.not_true, Bool.not_false, drew_cell, drew_heap, e3, e4, true_and]
        exact ⟨⟨true, c + 1, rfl, by omega, fun _ => rfl, hO7.keep hfd (fun e => e), hL7.keep hfd (fun e => e), hD7.drew, Fmf hF7 hfd⟩, by simp only [nth_1]; omega⟩
      | false =>
        have l1 : w7.cell? ⟨lq, k, none⟩ = some (stv X) := by rw [hL7.cell, hxc]
        have l2 : w7.cell? ⟨oq, k, none⟩ = some (stv Y) := by rw [hO7.cell, hyc]
        have s1 := slS_hi (l := X) (i := c) (by omega) .i64
        have s2 := slS_lo (l := Y) (i := c) (by omega) .i64
        have s3 := binV_sadd TypeDesc.string (X.take c) (Y.drop c) (by simp; omega)
        simp only [Pu_some, extV_0, extV_1, extV_2, extV_3, nilV_ptr, nilV_fn, faV_ptr, lenV_sl, lenS_s, capV_sl, pickV_t, pickV_f, unV_not, unV_neg, isB_t, isB_f, isB_u, binV_add, binV_sub, binV_mul, binV_eql, binV_neq, binV_lss, binV_leq, binV_gtr, binV_geq, binV_seql, binV_sneq, binV_slss, binV_beql, binV_bneq, binV_peql, binV_pneq, add_add, add_none, Go.Al.add_zero, Nat.zero_add, Nat.add_zero, IfB_t, IfB_f, Gd_t, Gd_f, Ld_ptr, LdN_ptr, Option.isNone_some, Option.isNone_none, Option.isSome_some, Option.isSome_none, Bool.not_true, Bool.not_false, drew_cell, drew_heap, str_size, str_nil, str_inj, e3, ixV_at hlt, Nat.mul_one, l1, l2, s1, s2, s3, e4, true_and]
        refine ⟨⟨_, c + 1, rfl, by omega, fun hbc => ?_, hO7.keep hfd (fun e => e), hL7.keep hfd (fun e => e), hD7.drew, Fmf hF7 hfd⟩, by simp only [nth_1]; omega⟩
        by_cases hb : b0 = c
        · subst hb; simp
        · exact absurd (htc (by omega)) (by simp)
    · have hce : c = 65 := by omega
      subst hce
      have e3 : decide (((65 : Nat) : Int) ≤ 64) = false := rfl
      have htt := htc (by omega)
      subst htt
      simp only [Pu_some, extV_0, extV_1, extV_2, extV_3, nilV_ptr, nilV_fn, faV_ptr, lenV_sl, lenS_s, capV_sl, pickV_t, pickV_f, unV_not, unV_neg, isB_t, isB_f, isB_u, binV_add, binV_sub, binV_mul, binV_eql, binV_neq, binV_lss, binV_leq, binV_gtr, binV_geq, binV_seql, binV_sneq, binV_slss, binV_beql, binV_bneq, binV_peql, binV_pneq, add_add, add_none, Go.Al.add_zero, Nat.zero_add, Nat.add_zero, IfB_t, IfB_f, Gd_t, Gd_f, Ld_ptr, LdN_ptr, Option.isNone_some, Option.isNone_none, Option.isSome_some, Option.isSome_none, Bool.not_true, Bool.not_false, drew_cell, drew_heap, e3, e2]
      exact ⟨⟨k + 1, rfl, by omega, hO7, hL7, hD7, hF7⟩, by simp only [nth_0]; omega⟩
  have hke : k = 24 := by omega
  subst hke
  have e1 : decide (((24 : Nat) : Int) < 24) = false := rfl
  simp only [Pu_some, extV_0, extV_1, extV_2, extV_3, nilV_ptr, nilV_fn, faV_ptr, lenV_sl, lenS_s, capV_sl, pickV_t, pickV_f, unV_not, unV_neg, isB_t, isB_f, isB_u, binV_add, binV_sub, binV_mul, binV_eql, binV_neq, binV_lss, binV_leq, binV_gtr, binV_geq, binV_seql, binV_sneq, binV_slss, binV_beql, binV_bneq, binV_peql, binV_pneq, add_add, add_none, Go.Al.add_zero, Nat.zero_add, Nat.add_zero, IfB_t, IfB_f, Gd_t, Gd_f, Ld_ptr, LdN_ptr, Option.isNone_some, Option.isNone_none, Option.isSome_some, Option.isSome_none, Bool.not_true, Bool.not_false, drew_cell, drew_heap, e1]
  refine (awake_spec w6).mono ?_
  rintro _ w7 ⟨rfl, hf7⟩
  exact ⟨rfl, Fmf hF6 hf7⟩

end Go.Proofs.Ythgdinjgdjiknaa
