/- What the functions of package disk do: crashing. -/
import Derived.Test.YthgdinjgdjiknaaDisk2
namespace Go.Proofs.Ythgdinjgdjiknaa
open Go.Al Go.Proofs
set_option linter.unusedVariables false
set_option linter.unusedSimpArgs false
set_option linter.unusedSectionVars false

theorem ixG_kept {f : Int} (h : 0 ≤ f) : ixG false 3 1 (.agg #[iv 0, iv 64, iv (f / 3 % 65)]) (iv (f % 3)) = some (iv (Dk.kept f : Nat)) := by
  have h1 : f % 3 = 0 ∨ f % 3 = 1 ∨ f % 3 = 2 := by omega
  unfold Dk.kept
  rcases h1 with h1 | h1 | h1
  · rw [h1]; rfl
  · rw [h1]; rfl
  · rw [h1]
    have : 0 ≤ f / 3 % 65 := by omega
    show some (iv (f / 3 % 65)) = _
    rw [if_neg (by decide), if_neg (by decide), Int.toNat_of_nonneg this]
theorem max2_fold {f : Int} : max2V (iv f) (iv (-(f + 1))) = some (iv (Dk.fold1 f)) := by
  show some (iv (if -(f + 1) > f then -(f + 1) else f)) = _
  unfold Dk.fold1
  congr 2
  split <;> split <;> omega

set_option maxHeartbeats 1000000 in
theorem crash_spec {w : World} {b g m : Nat} {d : Dk} (h : DAt w b g m d) {hv : Value} {L : List Int} (hL : CellsAt w hv L.length 1 (L.map iv)) (hLb : L ≠ [] → ∀ q, blockOf hv = some q → q ≠ b ∧ q ≠ g ∧ q ≠ m)
    (hr : ∀ f ∈ L, -9223372036854775808 ≤ f ∧ f ≤ 9223372036854775807) :
    Cl Try.prog 20 [pv b, hv] w fun v w' => v = .tuple #[] ∧ DAt w' b g m (d.crash L) ∧ Fm (fun x => x = b ∨ x = g ∨ x = m) w w' := by
  have hn := h.wf.n1
  refine c20 ?_; unfold T20
  simp only [Pu_some, extV_0, extV_1, extV_2, extV_3, nilV_ptr, nilV_fn, faV_ptr, lenV_sl, lenS_s, capV_sl, pickV_t, pickV_f, unV_not, unV_neg, isB_t, isB_f, isB_u, binV_add, binV_sub, binV_mul, binV_eql, binV_neq, binV_lss, binV_leq, binV_gtr, binV_geq, binV_seql, binV_sneq, binV_slss, binV_beql, binV_bneq, binV_peql, binV_pneq, add_add, add_none, Go.Al.add_zero, Nat.zero_add, Nat.add_zero, IfB_t, IfB_f, Gd_t, Gd_f, Ld_ptr, LdN_ptr, Option.isNone_some, Option.isNone_none, Option.isSome_some, Option.isSome_none, Bool.not_true, Bool.not_false, drew_cell, drew_heap]
  refine (pend_spec h).mono ?_
  rintro pv' w3 ⟨hrow, hnil, hf3⟩
  have h3 := h.keep0 hf3
  have hlt := h.lt
  have hplen := own_len hrow
  have hpl := Dk.pend_len d
  simp only [Pu_some, extV_0, extV_1, extV_2, extV_3, nilV_ptr, nilV_fn, faV_ptr, lenV_sl, lenS_s, capV_sl, pickV_t, pickV_f, unV_not, unV_neg, isB_t, isB_f, isB_u, binV_add, binV_sub, binV_mul, binV_eql, binV_neq, binV_lss, binV_leq, binV_gtr, binV_geq, binV_seql, binV_sneq, binV_slss, binV_beql, binV_bneq, binV_peql, binV_pneq, add_add, add_none, Go.Al.add_zero, Nat.zero_add, Nat.add_zero, IfB_t, IfB_f, Gd_t, Gd_f, Ld_ptr, LdN_ptr, Option.isNone_some, Option.isNone_none, Option.isSome_some, Option.isSome_none, Bool.not_true, Bool.not_false, drew_cell, drew_heap, hplen]
  refine ⟨fun vs w2 => ∃ k : Nat, vs = [iv k] ∧ k ≤ d.pend.length ∧ DAt w2 b g m (d.mid L k) ∧ Fm (fun x => x = b ∨ x = g ∨ x = m) w3 w2, fun vs _ => (d.pend.length - nth vs 0).toNat, ⟨0, rfl, by omega, by rw [Dk.mid_zero]; exact h3, Fm.refl _ _⟩, ?_⟩
  rintro _ w2 ik ⟨k, hvs, hk, hE, hf⟩
  cases hvs
  have hF : Fm (fun x => x = b ∨ x = g ∨ x = m) w w2 := hf3.trans hf (fun _ _ e => e.elim) (fun _ _ e => e)
  have hln := Dk.mid_len L d k
  by_cases hlt2 : k < d.pend.length
  · have e1 : decide ((k : Int) < (d.pend.length : Int)) = true := by simpa using hlt2
    have hPk : d.pend[k]? = some d.pend[k] := List.getElem?_eq_getElem hlt2
    generalize d.pend[k] = i at hPk
    obtain ⟨hi1, hi2, hi3, hi4⟩ := Dk.mid_step (how := L) hPk
    have hrow2 := own_keep hrow hf (fun q hq _ _ => by omega)
    obtain ⟨ad, hix, _, hc⟩ := (CellsAt.of_own hrow2).at1 (i := k) (x := iv (i : Nat)) (by rw [List.getElem?_map, hPk]; rfl) .i64
    simp only [Pu_some, extV_0, extV_1, extV_2, extV_3, nilV_ptr, nilV_fn, faV_ptr, lenV_sl, lenS_s, capV_sl, pickV_t, pickV_f, unV_not, unV_neg, isB_t, isB_f, isB_u, binV_add, binV_sub, binV_mul, binV_eql, binV_neq, binV_lss, binV_leq, binV_gtr, binV_geq, binV_seql, binV_sneq, binV_slss, binV_beql, binV_bneq, binV_peql, binV_pneq, add_add, add_none, Go.Al.add_zero, Nat.zero_add, Nat.add_zero, IfB_t, IfB_f, Gd_t, Gd_f, Ld_ptr, LdN_ptr, Option.isNone_some, Option.isNone_none, Option.isSome_some, Option.isSome_none, Bool.not_true, Bool.not_false, drew_cell, drew_heap, e1, hix, hc]
    refine Jn_at (fun vs w4 => vs = [iv (Dk.fate L k)] ∧ (w4 = w2 ∨ w4 = w2.drew)) ?_ ?_
    · rintro _ w4 ⟨rfl, hw4⟩ _
      refine ⟨_, rfl, ?_⟩
      have hF4 : Fm (fun _ => False) w2 w4 := by rcases hw4 with rfl | rfl; exact Fm.refl _ _; exact Fm.drew _ _
      have hE4 := hE.keep0 hF4
      clear hw4
      have hfp := Dk.fate_pos hr k
      generalize hfe : Dk.fate L k = f at hfp hi4
      have q1 := quo_pos (TypeDesc.int IntKind.i64) (a := f) (b := 3) hfp.1 (by decide) hfp.2
      have q2 := rem_pos (TypeDesc.int IntKind.i64) (a := f / 3) (b := 65) (by omega) (by decide) (by omega)
      have q3 := rem_pos (TypeDesc.int IntKind.i64) (a := f) (b := 3) hfp.1 (by decide) hfp.2
      have q4 := ixG_kept hfp.1
      simp only [Pu_some, extV_0, extV_1, extV_2, extV_3, nilV_ptr, nilV_fn, faV_ptr, lenV_sl, lenS_s, capV_sl, pickV_t, pickV_f, unV_not, unV_neg, isB_t, isB_f, isB_u, binV_add, binV_sub, binV_mul, binV_eql, binV_neq, binV_lss, binV_leq, binV_gtr, binV_geq, binV_seql, binV_sneq, binV_slss, binV_beql, binV_bneq, binV_peql, binV_pneq, add_add, add_none, Go.Al.add_zero, Nat.zero_add, Nat.add_zero, IfB_t, IfB_f, Gd_t, Gd_f, Ld_ptr, LdN_ptr, Option.isNone_some, Option.isNone_none, Option.isSome_some, Option.isSome_none, Bool.not_true, Bool.not_false, drew_cell, drew_heap, q1, q2]
      refine RunS_ok (bld127 _ _) ?_
      simp only [Pu_some, extV_0, extV_1, extV_2, extV_3, nilV_ptr, nilV_fn, faV_ptr, lenV_sl, lenS_s, capV_sl, pickV_t, pickV_f, unV_not, unV_neg, isB_t, isB_f, isB_u, binV_add, binV_sub, binV_mul, binV_eql, binV_neq, binV_lss, binV_leq, binV_gtr, binV_geq, binV_seql, binV_sneq, binV_slss, binV_beql, binV_bneq, binV_peql, binV_pneq, add_add, add_none, Go.Al.add_zero, Nat.zero_add, Nat.add_zero, IfB_t, IfB_f, Gd_t, Gd_f, Ld_ptr, LdN_ptr, Option.isNone_some, Option.isNone_none, Option.isSome_some, Option.isSome_none, Bool.not_true, Bool.not_false, drew_cell, drew_heap, q3, q4]
      have hkl := Dk.kept_le f
      obtain ⟨M, hM, hmem⟩ := hE4.mp
      have hil : i < d.old.length := by rw [h.wf.lo]; exact hi1
      have hold : d.old[i]? = some (d.old.getD i []) := Dk.getD_eq hil
      have hget : getD M (i : Int) = some (d.old.getD i []) := (getD_some hM.keys).2 ((hmem _ _).2 ⟨i, rfl, hi3, hold⟩)
      have ho64 := h.wf.old64 hi1
      refine ⟨fun w' => w'.cell? ⟨b, 1, none⟩ = some (.map (some m)) ∧ MapAt w' m iv stv M, ⟨hE4.c1, hM.keep (Fm.drew (fun _ => False) w4) (fun e => e)⟩, ?_⟩
      refine ⟨.map (some m), fun w' hw' => by simp only [Pu_some, extV_0, extV_1, extV_2, extV_3, nilV_ptr, nilV_fn, faV_ptr, lenV_sl, lenS_s, capV_sl, pickV_t, pickV_f, unV_not, unV_neg, isB_t, isB_f, isB_u, binV_add, binV_sub, binV_mul, binV_eql, binV_neq, binV_lss, binV_leq, binV_gtr, binV_geq, binV_seql, binV_sneq, binV_slss, binV_beql, binV_bneq, binV_peql, binV_pneq, add_add, add_none, Go.Al.add_zero, Nat.zero_add, Nat.add_zero, IfB_t, IfB_f, Gd_t, Gd_f, Ld_ptr, LdN_ptr, Option.isNone_some, Option.isNone_none, Option.isSome_some, Option.isSome_none, Bool.not_true, Bool.not_false, drew_cell, drew_heap, hw'.1]; exact ⟨(by trivial), (by trivial)⟩, ?_⟩
      refine ⟨stv (d.old.getD i []), fun w' hw' => ?_, ?_⟩
      · refine RunS_ok (lookup_run K118 hw'.2 (i : Int) false (z9 _)) ?_
        simp only [hget, okV, cond_false]
        exact ⟨(by trivial), (by trivial)⟩
      have hsl := slS_lo (l := d.old.getD i []) (i := Dk.kept f) (by omega) .i64
      simp only [Pu_some, extV_0, extV_1, extV_2, extV_3, nilV_ptr, nilV_fn, faV_ptr, lenV_sl, lenS_s, capV_sl, pickV_t, pickV_f, unV_not, unV_neg, isB_t, isB_f, isB_u, binV_add, binV_sub, binV_mul, binV_eql, binV_neq, binV_lss, binV_leq, binV_gtr, binV_geq, binV_seql, binV_sneq, binV_slss, binV_beql, binV_bneq, binV_peql, binV_pneq, add_add, add_none, Go.Al.add_zero, Nat.zero_add, Nat.add_zero, IfB_t, IfB_f, Gd_t, Gd_f, Ld_ptr, LdN_ptr, Option.isNone_some, Option.isNone_none, Option.isSome_some, Option.isSome_none, Bool.not_true, Bool.not_false, drew_cell, drew_heap, hsl]
      have hE4d := hE4.drew
      refine (sector_spec hE4d (by rw [hln]; exact hi1)).mono ?_
      rintro _ _ ⟨rfl, rfl⟩
      refine ⟨⟨hE4.c1, hM.keep (Fm.drew (fun _ => False) w4) (fun e => e)⟩, ?_⟩
      have hfl := Dk.flat_len hE4.wf.s1
      rw [hln] at hfl ⊢
      obtain ⟨o', hs, ho, hole⟩ := slV_lo1 (g := g) (o := 64 * i) (n := 64) (c := 64 * d.cur.length - 64 * i) (i := Dk.kept f) hkl (by omega) .i64
      simp only [Pu_some, extV_0, extV_1, extV_2, extV_3, nilV_ptr, nilV_fn, faV_ptr, lenV_sl, lenS_s, capV_sl, pickV_t, pickV_f, unV_not, unV_neg, isB_t, isB_f, isB_u, binV_add, binV_sub, binV_mul, binV_eql, binV_neq, binV_lss, binV_leq, binV_gtr, binV_geq, binV_seql, binV_sneq, binV_slss, binV_beql, binV_bneq, binV_peql, binV_pneq, add_add, add_none, Go.Al.add_zero, Nat.zero_add, Nat.add_zero, IfB_t, IfB_f, Gd_t, Gd_f, Ld_ptr, LdN_ptr, Option.isNone_some, Option.isNone_none, Option.isSome_some, Option.isSome_none, Bool.not_true, Bool.not_false, drew_cell, drew_heap, hs]
      have hxl : ((d.old.getD i []).drop (Dk.kept f)).length = 64 - Dk.kept f := by rw [List.length_drop]; omega
      obtain ⟨w5, hr5, hby5, hs5, hf5⟩ := hE4d.by_.copyS B44 (o := o') (n := 64 - Dk.kept f) (x := (d.old.getD i []).drop (Dk.kept f)) (by omega) (by rw [hfl]; omega) (64 * d.cur.length - 64 * i - Dk.kept f) 3
      refine RunS_ok hr5 ?_
      have hf25 : Fm (· = g) w4 w5 := (Fm.drew (fun _ => False) w4).trans hf5 (fun _ _ e => e.elim) (fun _ _ e => e)
      have hrow5 : BRow w5 g 5 (Dk.mid L d (k + 1)).cur.flatten := by
        rw [hi4]
        by_cases hk64 : Dk.kept f < 64
        · have ho' := ho (by omega)
          rw [hxl, ho', show 64 * i + Dk.kept f + (64 - Dk.kept f) = 64 * i + 64 by omega, Dk.flat_lay hE4.wf.s1 (by rw [hln]; exact hi1) hkl hxl, hi2] at hby5
          exact hby5
        · have hke : Dk.kept f = 64 := by omega
          have hx0 : (d.old.getD i []).drop (Dk.kept f) = [] := List.eq_nil_of_length_eq_zero (by rw [hxl]; omega)
          rw [hx0] at hby5
          simp only [List.append_nil, List.length_nil, Nat.add_zero, List.take_append_drop] at hby5
          have : Dk.torn f (d.cur.getD i []) (d.old.getD i []) = (Dk.mid L d k).cur.getD i [] := by
            rw [Dk.torn, hx0, hke, List.append_nil, hi2, List.take_of_length_le (by rw [h.wf.cur64 hi1]; omega)]
          rw [this]
          have hset : (Dk.mid L d k).cur.set i ((Dk.mid L d k).cur.getD i []) = (Dk.mid L d k).cur := by
            apply List.ext_getElem?
            intro j
            rw [List.getElem?_set]
            split
            · rename_i e; subst e; rw [if_pos (by rw [hln]; exact hi1)]; exact (Dk.getD_eq (by rw [hln]; exact hi1)).symm
            · rfl
          rw [hset]; exact hby5
      have hM5 := hM.keep hf25 (fun e => hE4.gm e.symm)
      have hst5 := hf25.heap hE4.st hE4.bg
      refine ⟨⟨by rw [cell_at hst5]; rfl, hM5⟩, ?_⟩
      have g4 : IntKind.i64.wrap ((k : Int) + 1) = ((k + 1 : Nat) : Int) := by rw [wrap_id] <;> omega
      simp only [Pu_some, extV_0, extV_1, extV_2, extV_3, nilV_ptr, nilV_fn, faV_ptr, lenV_sl, lenS_s, capV_sl, pickV_t, pickV_f, unV_not, unV_neg, isB_t, isB_f, isB_u, binV_add, binV_sub, binV_mul, binV_eql, binV_neq, binV_lss, binV_leq, binV_gtr, binV_geq, binV_seql, binV_sneq, binV_slss, binV_beql, binV_bneq, binV_peql, binV_pneq, add_add, add_none, Go.Al.add_zero, Nat.zero_add, Nat.add_zero, IfB_t, IfB_f, Gd_t, Gd_f, Ld_ptr, LdN_ptr, Option.isNone_some, Option.isNone_none, Option.isSome_some, Option.isSome_none, Bool.not_true, Bool.not_false, drew_cell, drew_heap, g4]
      refine ⟨⟨k + 1, rfl, by omega, ⟨h.wf.mid L (k + 1), ?_, hrow5, M, hM5, hmem⟩, ?_⟩, by simp only [nth_0]; omega⟩
      · rw [hln] at hst5
        rw [Dk.mid_len]; exact hst5
      · exact (hf.trans hF4 (U := fun x => x = b ∨ x = g ∨ x = m) (fun _ _ e => e) (fun _ _ e => e.elim)).trans hf25 (fun _ _ e => e) (fun _ _ e => .inr (.inl e))
    · intro kk hkk
      have hL2 := hL.keepAny hF (fun hx q hq => by have := hLb (fun e => hx (by rw [e]; rfl)) q hq; omega)
      simp only [Pu_some, extV_0, extV_1, extV_2, extV_3, nilV_ptr, nilV_fn, faV_ptr, lenV_sl, lenS_s, capV_sl, pickV_t, pickV_f, unV_not, unV_neg, isB_t, isB_f, isB_u, binV_add, binV_sub, binV_mul, binV_eql, binV_neq, binV_lss, binV_leq, binV_gtr, binV_geq, binV_seql, binV_sneq, binV_slss, binV_beql, binV_bneq, binV_peql, binV_pneq, add_add, add_none, Go.Al.add_zero, Nat.zero_add, Nat.add_zero, IfB_t, IfB_f, Gd_t, Gd_f, Ld_ptr, LdN_ptr, Option.isNone_some, Option.isNone_none, Option.isSome_some, Option.isSome_none, Bool.not_true, Bool.not_false, drew_cell, drew_heap, hL2.lenV]
      by_cases hkL : k < L.length
      · have e2 : decide ((k : Int) < (L.length : Int)) = true := by simpa using hkL
        have hLk : L[k]? = some L[k] := List.getElem?_eq_getElem hkL
        have hin := hr _ (List.getElem_mem hkL)
        generalize L[k] = f at hLk hin
        obtain ⟨ad2, hix2, _, hc2⟩ := hL2.at1 (i := k) (x := iv f) (by rw [List.getElem?_map, hLk]; rfl) .i64
        have hfa : Dk.fate L k = Dk.fold1 f := by unfold Dk.fate; rw [hLk]
        simp only [Pu_some, extV_0, extV_1, extV_2, extV_3, nilV_ptr, nilV_fn, faV_ptr, lenV_sl, lenS_s, capV_sl, pickV_t, pickV_f, unV_not, unV_neg, isB_t, isB_f, isB_u, binV_add, binV_sub, binV_mul, binV_eql, binV_neq, binV_lss, binV_leq, binV_gtr, binV_geq, binV_seql, binV_sneq, binV_slss, binV_beql, binV_bneq, binV_peql, binV_pneq, add_add, add_none, Go.Al.add_zero, Nat.zero_add, Nat.add_zero, IfB_t, IfB_f, Gd_t, Gd_f, Ld_ptr, LdN_ptr, Option.isNone_some, Option.isNone_none, Option.isSome_some, Option.isSome_none, Bool.not_true, Bool.not_false, drew_cell, drew_heap, e2, hix2, hc2, xor_i64 hin, foldV0, foldV, max2_fold, Option.bind_some, true_and]
        exact hkk _ _ ⟨by rw [hfa], .inr rfl⟩
      · have e2 : decide ((k : Int) < (L.length : Int)) = false := by simpa using hkL
        have hfa : Dk.fate L k = 0 := by unfold Dk.fate; rw [List.getElem?_eq_none (by omega)]
        simp only [Pu_some, extV_0, extV_1, extV_2, extV_3, nilV_ptr, nilV_fn, faV_ptr, lenV_sl, lenS_s, capV_sl, pickV_t, pickV_f, unV_not, unV_neg, isB_t, isB_f, isB_u, binV_add, binV_sub, binV_mul, binV_eql, binV_neq, binV_lss, binV_leq, binV_gtr, binV_geq, binV_seql, binV_sneq, binV_slss, binV_beql, binV_bneq, binV_peql, binV_pneq, add_add, add_none, Go.Al.add_zero, Nat.zero_add, Nat.add_zero, IfB_t, IfB_f, Gd_t, Gd_f, Ld_ptr, LdN_ptr, Option.isNone_some, Option.isNone_none, Option.isSome_some, Option.isSome_none, Bool.not_true, Bool.not_false, drew_cell, drew_heap, e2]
        exact hkk _ _ ⟨by rw [hfa], .inl rfl⟩
  · have hke : k = d.pend.length := by omega
    subst hke
    have e1 : decide ((d.pend.length : Int) < (d.pend.length : Int)) = false := by simp
    simp only [Pu_some, extV_0, extV_1, extV_2, extV_3, nilV_ptr, nilV_fn, faV_ptr, lenV_sl, lenS_s, capV_sl, pickV_t, pickV_f, unV_not, unV_neg, isB_t, isB_f, isB_u, binV_add, binV_sub, binV_mul, binV_eql, binV_neq, binV_lss, binV_leq, binV_gtr, binV_geq, binV_seql, binV_sneq, binV_slss, binV_beql, binV_bneq, binV_peql, binV_pneq, add_add, add_none, Go.Al.add_zero, Nat.zero_add, Nat.add_zero, IfB_t, IfB_f, Gd_t, Gd_f, Ld_ptr, LdN_ptr, Option.isNone_some, Option.isNone_none, Option.isSome_some, Option.isSome_none, Bool.not_true, Bool.not_false, drew_cell, drew_heap, e1, hE.c1]
    obtain ⟨M, hM, _⟩ := hE.mp
    obtain ⟨w4, hr4, hM4, hf4, _⟩ := clear_map Try.underlying118 hM 0
    refine RunS_ok hr4 ?_
    have hst4 := hf4.heap hE.st hE.bm
    refine St_blk hst4 (by simp) rfl ?_
    intro w5 hw5 hs5 hf5
    refine St_blk hw5 (by simp) rfl ?_
    intro w6 hw6 hs6 hf6
    have hlen : (Dk.mended L d).length = d.cur.length := Dk.mended_len L d
    have hby6 := ((hE.by_.keep hf4 hE.gm).keep hf5 (fun e => hE.bg e.symm)).keep hf6 (fun e => hE.bg e.symm)
    rw [Dk.mid_end] at hby6
    have hM6 := (hM4.keep hf5 (fun e => hE.bm e.symm)).keep hf6 (fun e => hE.bm e.symm)
    have hF6 : Fm (fun x => x = b ∨ x = g ∨ x = m) w w6 := ((hF.trans hf4 (U := fun x => x = b ∨ x = g ∨ x = m) (fun _ _ e => e) (fun _ _ e => .inr (.inr e))).trans hf5 (U := fun x => x = b ∨ x = g ∨ x = m) (fun _ _ e => e) (fun _ _ e => .inl e)).trans hf6 (fun _ _ e => e) (fun _ _ e => .inl e)
    refine ⟨(by trivial), ⟨h.wf.crash L, ?_, hby6, [], hM6, ?_⟩, hF6⟩
    · rw [hln] at hw6
      show w6.heap[b]? = some (.cells #[.slice (some ⟨g, 0, none⟩) (64 * (Dk.mended L d).length) (64 * (Dk.mended L d).length), .map (some m), iv 0, .bool false, iv d.done] 120)
      rw [hlen]; exact hw6
    · intro k x
      constructor
      · intro e; cases e
      · rintro ⟨i, _, hc, _⟩
        have := Dk.isC_rep d.cur.length i
        rw [show (d.crash L).chg = List.replicate d.cur.length false from rfl, this] at hc; cases hc
theorem crash_nil (w : World) (hv : Value) : Cl Try.prog 20 [.pointer none, hv] w fun v w' => v = .tuple #[] ∧ w' = w := by
  refine c20 ?_; unfold T20
  simp only [Pu_some, extV_0, extV_1, extV_2, extV_3, nilV_ptr, nilV_fn, faV_ptr, lenV_sl, lenS_s, capV_sl, pickV_t, pickV_f, unV_not, unV_neg, isB_t, isB_f, isB_u, binV_add, binV_sub, binV_mul, binV_eql, binV_neq, binV_lss, binV_leq, binV_gtr, binV_geq, binV_seql, binV_sneq, binV_slss, binV_beql, binV_bneq, binV_peql, binV_pneq, add_add, add_none, Go.Al.add_zero, Nat.zero_add, Nat.add_zero, IfB_t, IfB_f, Gd_t, Gd_f, Ld_ptr, LdN_ptr, Option.isNone_some, Option.isNone_none, Option.isSome_some, Option.isSome_none, Bool.not_true, Bool.not_false, drew_cell, drew_heap, and_self]

end Go.Proofs.Ythgdinjgdjiknaa
