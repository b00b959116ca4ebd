/- Undone. -/
import Derived.Test.YthgdinjgdjiknaaUndoPure
namespace Go.Proofs.Ythgdinjgdjiknaa
open Go.Al Go.Proofs
set_option linter.unusedVariables false
set_option linter.unusedSimpArgs false
set_option linter.unusedSectionVars false
set_option maxRecDepth 100000

theorem bs67e (w : World) : (Instr.buildSlice 67 0 #[]).run Try.prog w = .ok (.slice (some ⟨w.heap.size, 0, none⟩) 0 0) (w.alloc (.cells #[] 77)) := by kernel_rfl
theorem own_alloc0 {w : World} {e : TypeId} {sz base : Nat} (hb : base ≤ w.heap.size) : (w.alloc (.cells #[] e)).ownsRow base e sz (.slice (some ⟨w.heap.size, 0, none⟩) 0 0) 0 [] :=
  ⟨by simp, .inr ⟨_, 0, #[], rfl, hb, alloc_new _ _, Nat.le_refl _, by simp [maxLen], by simp, by simp⟩⟩
theorem bcs_one (L : List (Int × Int)) : ∀ u ∈ bcs L, u.oneCell' = true := by
  intro u hu
  obtain ⟨p, _, h⟩ := List.mem_flatMap.1 hu
  simp at h
  rcases h with rfl | rfl <;> rfl
/-- A cell of a row of the call's own is written. -/
theorem own_setN {w : World} {base : Nat} {e : TypeId} {sz : Nat} {v : Value} {n : Nat} {xs : List Value} (h : w.ownsRow base e sz v n xs) {i q : Nat} (hi : i < n) (hq : q < sz) : ∃ ad, ixV sz v (iv i) = some (.pointer (some ad)) ∧ v.ownBlock = some ad.block ∧ ∀ {u : Value} {k : KV}, u.oneCell' = true → (∀ w', w'.ownsRow base e sz v n (xs.set (i * sz + q) u) → w'.heap.size = w.heap.size → Fm (fun y => v.ownBlock = some y) w w' → k undef w') → St 1 w (.pointer (some (ad.add q))) u k := by
  rcases h.2 with ⟨rfl, hn⟩ | ⟨g, cap, cur, rfl, hbg, hgg, hnc, hcm, hcs, htake⟩
  · omega
  · have hlt : i * sz + q < n * sz := by
      have : (i + 1) * sz ≤ n * sz := Nat.mul_le_mul_right _ hi
      rw [Nat.succ_mul] at this; omega
    have hlt2 : n * sz ≤ cap * sz := Nat.mul_le_mul_right _ hnc
    refine ⟨⟨g, i * sz, none⟩, by rw [ixV_at hi, add_none]; simp, rfl, ?_⟩
    intro u k hu hk
    rw [add_none]
    refine St_blk hgg (by omega) hu ?_
    intro w' h1 h2 h3
    refine hk w' ⟨by rw [List.length_set]; exact h.1, .inr ⟨g, cap, _, rfl, hbg, h1, hnc, hcm, by simp [hcs], ?_⟩⟩ h2 (h3.mono (fun y _ e => by rw [e]; rfl))
    rw [← htake]
    simp [List.take_set]
theorem bcs_set {L : List (Int × Int)} {j : Nat} {p : Int × Int} (h : L[j]? = some p) (x : Int) : (bcs L).set (j * 2 + 1) (iv x) = bcs (L.set j (p.1, x)) := by
  induction L generalizing j with
  | nil => simp at h
  | cons q L ih =>
    cases j with
    | zero => simp at h; subst h; rfl
    | succ j =>
      have := ih (j := j) (by simpa using h)
      have e : bcs (q :: L) = iv q.1 :: iv q.2 :: bcs L := rfl
      have e2 : bcs ((q :: L).set (j + 1) (p.1, x)) = iv q.1 :: iv q.2 :: bcs (L.set j (p.1, x)) := rfl
      rw [e, e2, show (j + 1) * 2 + 1 = (j * 2 + 1) + 1 + 1 by omega, List.set_cons_succ, List.set_cons_succ, this]
theorem cloneb_spec {w : World} {v : Value} {L : List (Int × Int)} (h : CellsAt w v L.length 2 (bcs L)) (hs : L.length * 16 ≤ 140737488355328) : Cl Try.prog 81 [v] w fun r w' => w'.ownsRow w.heap.size 77 2 r L.length (bcs L) ∧ Fm (fun _ => False) w w' := by
  refine c81 ?_; unfold T81
  obtain ⟨⟨a, c, hv, h1, h2, h3, h4⟩, hl⟩ := id h
  cases a with
  | none =>
    subst hv
    obtain ⟨e1, e2⟩ := h3 rfl
    have e3 : binV (TypeDesc.slice 77) .eql (.slice none L.length c) (.slice none 0 0) = some (.bool true) := rfl
    simp only [Pu_some, extV_0, extV_1, extV_2, extV_3, nilV_ptr, nilV_fn, faV_ptr, lenV_sl, lenS_s, capV_sl, pickV_t, pickV_f, unV_not, unV_neg, isB_t, isB_f, isB_u, binV_add, binV_sub, binV_mul, binV_eql, binV_neq, binV_lss, binV_leq, binV_gtr, binV_geq, binV_seql, binV_sneq, binV_slss, binV_beql, binV_bneq, binV_peql, binV_pneq, add_add, add_none, Go.Al.add_zero, Nat.zero_add, Nat.add_zero, IfB_t, IfB_f, Gd_t, Gd_f, Ld_ptr, LdN_ptr, Option.isNone_some, Option.isNone_none, Option.isSome_some, Option.isSome_none, Bool.not_true, Bool.not_false, drew_cell, drew_heap, e3]
    have : L = [] := List.eq_nil_of_length_eq_zero e1
    subst this
    exact ⟨World.ownsRow_nil _ _ _ _, Fm.refl _ _⟩
  | some ad =>
    subst hv
    have e3 : binV (TypeDesc.slice 77) .eql (.slice (some ad) L.length c) (.slice none 0 0) = some (.bool false) := rfl
    simp only [Pu_some, extV_0, extV_1, extV_2, extV_3, nilV_ptr, nilV_fn, faV_ptr, lenV_sl, lenS_s, capV_sl, pickV_t, pickV_f, unV_not, unV_neg, isB_t, isB_f, isB_u, binV_add, binV_sub, binV_mul, binV_eql, binV_neq, binV_lss, binV_leq, binV_gtr, binV_geq, binV_seql, binV_sneq, binV_slss, binV_beql, binV_bneq, binV_peql, binV_pneq, add_add, add_none, Go.Al.add_zero, Nat.zero_add, Nat.add_zero, IfB_t, IfB_f, Gd_t, Gd_f, Ld_ptr, LdN_ptr, Option.isNone_some, Option.isNone_none, Option.isSome_some, Option.isSome_none, Bool.not_true, Bool.not_false, drew_cell, drew_heap, e3]
    refine RunS_ok (bs67e w) ?_
    have ho2 := own_alloc0 (w := w) (e := 77) (sz := 2) (Nat.le_refl _)
    have hf2 := Fm.alloc (fun _ => False) w (.cells #[] 77)
    generalize w.alloc (.cells #[] 77) = w2 at ho2 hf2
    obtain ⟨lv, w3, hr3, ho3, hf3⟩ := append_srcO E67 (by omega) ho2 (h.keep hf2 (fun _ _ e => e)) (bcs_one L) 67 (by unfold maxLen; omega) (by omega) hf2.size
    refine RunS_ok hr3 ?_
    rw [Nat.zero_add, List.nil_append] at ho3
    exact ⟨ho3, Fm.own hf2 hf3 (fun y hy => by have := own_lt ho2 y hy; omega)⟩
theorem indexb_spec {w : World} {v : Value} {L : List (Int × Int)} (h : CellsAt w v L.length 2 (bcs L)) {x4 : Nat} {at_ : Int} (hx : w.heap[x4]? = some (.cells #[iv at_] 3)) : Cl Try.prog 82 [v, .func (.func 83) #[] #[pv x4]] w fun r w' => ∃ i : Int, r = iv i ∧ Fm (fun _ => False) w w' ∧ ((∃ (j : Nat) (p : Int × Int), i = j ∧ L[j]? = some p ∧ p.2 = at_) ∨ (i = -1 ∧ ∀ p ∈ L, p.2 ≠ at_)) := by
  have hlt := h.lt
  unfold maxLen at hlt
  refine c82 ?_; unfold T82
  simp only [Pu_some, extV_0, extV_1, extV_2, extV_3, nilV_ptr, nilV_fn, faV_ptr, lenV_sl, lenS_s, capV_sl, pickV_t, pickV_f, unV_not, unV_neg, isB_t, isB_f, isB_u, binV_add, binV_sub, binV_mul, binV_eql, binV_neq, binV_lss, binV_leq, binV_gtr, binV_geq, binV_seql, binV_sneq, binV_slss, binV_beql, binV_bneq, binV_peql, binV_pneq, add_add, add_none, Go.Al.add_zero, Nat.zero_add, Nat.add_zero, IfB_t, IfB_f, Gd_t, Gd_f, Ld_ptr, LdN_ptr, Option.isNone_some, Option.isNone_none, Option.isSome_some, Option.isSome_none, Bool.not_true, Bool.not_false, drew_cell, drew_heap, h.lenV]
  refine ⟨fun vs w2 => ∃ i : Nat, vs = [iv i] ∧ i ≤ L.length ∧ (∀ p ∈ L.take i, p.2 ≠ at_) ∧ Fm (fun _ => False) w w2, fun vs _ => (L.length - nth vs 0).toNat, ⟨0, rfl, by omega, by simp, Fm.refl _ _⟩, ?_⟩
  rintro _ w2 ivv ⟨i, hvs, hi, hno, hF⟩
  cases hvs
  by_cases hl : i < L.length
  · have e1 : decide ((i : Int) < (L.length : Int)) = true := by rw [decide_eq_true_eq]; omega
    have e2 : IntKind.i64.wrap ((i : Int) + 1) = ((i + 1 : Nat) : Int) := by rw [wrap_id] <;> omega
    have hxi : L[i]? = some L[i] := List.getElem?_eq_getElem hl
    generalize L[i] = p at hxi
    obtain ⟨ad, hix, _, hc⟩ := h.at (by omega) hl .i64
    have hc0 : w.cell? ad = some (iv p.1) := by have := hc 0 (by omega); rw [(bcs_get hxi).1] at this; exact this
    have hc1 : w.cell? (ad.add 1) = some (iv p.2) := by rw [hc 1 (by omega), (bcs_get hxi).2]
    have hld := cellsV_keep (cellsV_2 hc0 hc1) hF (fun e => e)
    simp only [Pu_some, extV_0, extV_1, extV_2, extV_3, nilV_ptr, nilV_fn, faV_ptr, lenV_sl, lenS_s, capV_sl, pickV_t, pickV_f, unV_not, unV_neg, isB_t, isB_f, isB_u, binV_add, binV_sub, binV_mul, binV_eql, binV_neq, binV_lss, binV_leq, binV_gtr, binV_geq, binV_seql, binV_sneq, binV_slss, binV_beql, binV_bneq, binV_peql, binV_pneq, add_add, add_none, Go.Al.add_zero, Nat.zero_add, Nat.add_zero, IfB_t, IfB_f, Gd_t, Gd_f, Ld_ptr, LdN_ptr, Option.isNone_some, Option.isNone_none, Option.isSome_some, Option.isSome_none, Bool.not_true, Bool.not_false, drew_cell, drew_heap, e1, hix, hld]
    refine ClV_func (by kernel_rfl) ?_
    refine Cl.mono (k := fun r w' => r = .bool (decide (p.2 = at_)) ∧ Fm (fun _ => False) w2 w') ?_ ?_
    · refine c83 ?_; unfold T83
      refine New_any ?_
      intro b w3 hb hs3 hw3 hf3
      have q1 : w3.cell? ⟨b, 1, none⟩ = some (iv p.2) := by rw [cell_at hw3]; rfl
      have q2 : w3.cell? ⟨x4, 0, none⟩ = some (iv at_) := by rw [cell_at ((Fmf hF hf3).heap hx (fun e => e))]; rfl
      simp only [Pu_some, extV_0, extV_1, extV_2, extV_3, nilV_ptr, nilV_fn, faV_ptr, lenV_sl, lenS_s, capV_sl, pickV_t, pickV_f, unV_not, unV_neg, isB_t, isB_f, isB_u, binV_add, binV_sub, binV_mul, binV_eql, binV_neq, binV_lss, binV_leq, binV_gtr, binV_geq, binV_seql, binV_sneq, binV_slss, binV_beql, binV_bneq, binV_peql, binV_pneq, add_add, add_none, Go.Al.add_zero, Nat.zero_add, Nat.add_zero, IfB_t, IfB_f, Gd_t, Gd_f, Ld_ptr, LdN_ptr, Option.isNone_some, Option.isNone_none, Option.isSome_some, Option.isSome_none, Bool.not_true, Bool.not_false, drew_cell, drew_heap, q1, q2, beq_dec]
      exact ⟨(by trivial), hf3⟩
    · rintro _ w3 ⟨rfl, hf3⟩
      cases hd : decide (p.2 = at_) with
      | true =>
        simp only [Pu_some, extV_0, extV_1, extV_2, extV_3, nilV_ptr, nilV_fn, faV_ptr, lenV_sl, lenS_s, capV_sl, pickV_t, pickV_f, unV_not, unV_neg, isB_t, isB_f, isB_u, binV_add, binV_sub, binV_mul, binV_eql, binV_neq, binV_lss, binV_leq, binV_gtr, binV_geq, binV_seql, binV_sneq, binV_slss, binV_beql, binV_bneq, binV_peql, binV_pneq, add_add, add_none, Go.Al.add_zero, Nat.zero_add, Nat.add_zero, IfB_t, IfB_f, Gd_t, Gd_f, Ld_ptr, LdN_ptr, Option.isNone_some, Option.isNone_none, Option.isSome_some, Option.isSome_none, Bool.not_true, Bool.not_false, drew_cell, drew_heap]
        exact ⟨i, (by trivial), Fmf hF hf3, .inl ⟨i, p, rfl, hxi, by simpa using hd⟩⟩
      | false =>
        simp only [Pu_some, extV_0, extV_1, extV_2, extV_3, nilV_ptr, nilV_fn, faV_ptr, lenV_sl, lenS_s, capV_sl, pickV_t, pickV_f, unV_not, unV_neg, isB_t, isB_f, isB_u, binV_add, binV_sub, binV_mul, binV_eql, binV_neq, binV_lss, binV_leq, binV_gtr, binV_geq, binV_seql, binV_sneq, binV_slss, binV_beql, binV_bneq, binV_peql, binV_pneq, add_add, add_none, Go.Al.add_zero, Nat.zero_add, Nat.add_zero, IfB_t, IfB_f, Gd_t, Gd_f, Ld_ptr, LdN_ptr, Option.isNone_some, Option.isNone_none, Option.isSome_some, Option.isSome_none, Bool.not_true, Bool.not_false, drew_cell, drew_heap, e2]
        refine ⟨⟨i + 1, rfl, by omega, ?_, Fmf hF hf3⟩, by simp only [nth_0]; omega⟩
        rw [List.take_add_one, hxi]
        intro q hq
        rcases List.mem_append.1 hq with hq | hq
        · exact hno q hq
        · obtain rfl : q = p := by simpa using hq
          simpa using hd
  · have hie : i = L.length := by omega
    subst hie
    have e1 : decide (((L.length : Nat) : Int) < (L.length : Int)) = false := by simp
    rw [List.take_length] at hno
    simp only [Pu_some, extV_0, extV_1, extV_2, extV_3, nilV_ptr, nilV_fn, faV_ptr, lenV_sl, lenS_s, capV_sl, pickV_t, pickV_f, unV_not, unV_neg, isB_t, isB_f, isB_u, binV_add, binV_sub, binV_mul, binV_eql, binV_neq, binV_lss, binV_leq, binV_gtr, binV_geq, binV_seql, binV_sneq, binV_slss, binV_beql, binV_bneq, binV_peql, binV_pneq, add_add, add_none, Go.Al.add_zero, Nat.zero_add, Nat.add_zero, IfB_t, IfB_f, Gd_t, Gd_f, Ld_ptr, LdN_ptr, Option.isNone_some, Option.isNone_none, Option.isSome_some, Option.isSome_none, Bool.not_true, Bool.not_false, drew_cell, drew_heap, e1]
    exact ⟨-1, (by trivial), hF, .inr ⟨rfl, hno⟩⟩
theorem undone_spec {w : World} {v : Value} {L : List (Int × Int)} (h : CellsAt w v L.length 2 (bcs L)) (hs : L.length * 16 ≤ 140737488355328) (at_ next : Int) : Cl Try.prog 36 [v, iv at_, iv next] w fun r w' => ∃ L', w'.ownsRow w.heap.size 77 2 r L.length (bcs L') ∧ L'.length = L.length ∧ ((∃ (j : Nat) (p : Int × Int), L[j]? = some p ∧ p.2 = at_ ∧ L' = L.set j (p.1, next)) ∨ ((∀ p ∈ L, p.2 ≠ at_) ∧ L' = L)) ∧ Fm (fun _ => False) w w' := by
  refine c36 ?_; unfold T36
  refine New_any ?_
  intro x4 w1 hx4 hs1 hw1 hf1
  refine (cloneb_spec (h.keep hf1 (fun _ _ e => e)) hs).mono ?_
  rintro r w2 ⟨ho2, hf2⟩
  have hF2 := Fmf hf1 hf2
  have hz := hf1.size
  refine Jn_at (fun vs w3 => vs = [] ∧ ∃ L', w3.ownsRow w.heap.size 77 2 r L.length (bcs L') ∧ L'.length = L.length ∧ ((∃ (j : Nat) (p : Int × Int), L[j]? = some p ∧ p.2 = at_ ∧ L' = L.set j (p.1, next)) ∨ ((∀ p ∈ L, p.2 ≠ at_) ∧ L' = L)) ∧ Fm (fun _ => False) w w3) ?_ ?_
  · rintro _ w3 ⟨rfl, hJ⟩ _
    exact ⟨rfl, hJ⟩
  · intro jj hjj
    refine (indexb_spec (CellsAt.of_own ho2) (hf2.heap hw1 (fun e => e))).mono ?_
    rintro _ w3 ⟨i, rfl, hf3, hi⟩
    have ho3 := own_keep ho2 hf3 (fun _ _ _ _ e => e)
    have hF3 := Fmf hF2 hf3
    rcases hi with ⟨j, p, rfl, hj, hp⟩ | ⟨rfl, hno⟩
    · have hjl := (List.getElem?_eq_some_iff.1 hj).1
      have e1 : decide ((0 : Int) ≤ (j : Int)) = true := by simp
      obtain ⟨ad, hix, hob, hst⟩ := own_setN ho3 hjl (q := 1) (by omega)
      simp only [Pu_some, extV_0, extV_1, extV_2, extV_3, nilV_ptr, nilV_fn, faV_ptr, lenV_sl, lenS_s, capV_sl, pickV_t, pickV_f, unV_not, unV_neg, isB_t, isB_f, isB_u, binV_add, binV_sub, binV_mul, binV_eql, binV_neq, binV_lss, binV_leq, binV_gtr, binV_geq, binV_seql, binV_sneq, binV_slss, binV_beql, binV_bneq, binV_peql, binV_pneq, add_add, add_none, Go.Al.add_zero, Nat.zero_add, Nat.add_zero, IfB_t, IfB_f, Gd_t, Gd_f, Ld_ptr, LdN_ptr, Option.isNone_some, Option.isNone_none, Option.isSome_some, Option.isSome_none, Bool.not_true, Bool.not_false, drew_cell, drew_heap, e1, hix]
      refine hst rfl ?_
      intro w4 ho4 hs4 hf4
      rw [bcs_set hj] at ho4
      have hlt := own_lt ho3
      exact hjj _ _ ⟨rfl, _, own_base ho4 (by omega), by rw [List.length_set], .inl ⟨j, p, hj, hp, rfl⟩, Fm.own hF3 hf4 (fun y hy => by have := hlt y hy; omega)⟩
    · have e1 : decide ((0 : Int) ≤ -1) = false := by decide
      simp only [Pu_some, extV_0, extV_1, extV_2, extV_3, nilV_ptr, nilV_fn, faV_ptr, lenV_sl, lenS_s, capV_sl, pickV_t, pickV_f, unV_not, unV_neg, isB_t, isB_f, isB_u, binV_add, binV_sub, binV_mul, binV_eql, binV_neq, binV_lss, binV_leq, binV_gtr, binV_geq, binV_seql, binV_sneq, binV_slss, binV_beql, binV_bneq, binV_peql, binV_pneq, add_add, add_none, Go.Al.add_zero, Nat.zero_add, Nat.add_zero, IfB_t, IfB_f, Gd_t, Gd_f, Ld_ptr, LdN_ptr, Option.isNone_some, Option.isNone_none, Option.isSome_some, Option.isSome_none, Bool.not_true, Bool.not_false, drew_cell, drew_heap, e1]
      exact hjj _ _ ⟨rfl, L, own_base ho3 (by omega), rfl, .inr ⟨hno, rfl⟩, hF3⟩

end Go.Proofs.Ythgdinjgdjiknaa
