/- What the document's answer for layer 10 does: Try and Release. -/
import Derived.Test.YtgknklnbcjjlkaaLocksRef2
namespace Go.Proofs.Ytgknklnbcjjlkaa
open Go.Al Go.Proofs
set_option linter.unusedVariables false
set_option linter.unusedSimpArgs false
set_option linter.unusedSectionVars false

theorem mem_setD' {α β : Type} [DecidableEq α] {D : List (α × β)} (h : (D.map (·.1)).Nodup) (p : α) (r : β) (q : α × β) : q ∈ setD D p r ↔ q = (p, r) ∨ (q ∈ D ∧ q.1 ≠ p) := by
  obtain ⟨a, b⟩ := q
  rw [← getD_some (nodup_setD h p r), getD_setD, ← getD_some h]
  by_cases e : a = p
  · simp [e, eq_comm]
  · simp [e]
theorem txt_cases {a b : ByteArray} (h : ¬ txt a < txt b) (hne : a ≠ b) : txt b < txt a := by
  rcases List.le_iff_lt_or_eq.1 (List.not_lt.1 h) with c | c
  · exact c
  · exact absurd (txt_inj c.symm) hne

set_option maxHeartbeats 1000000 in
theorem qtry_spec {w : World} {base rb : Nat} {H : HL} {W : WL} {hs ws : QL} (h : IsQ w base rb hs ws) (hr : QRel H W hs ws) (hS : Sound H W) (h1 : (hs.length + 1) * 24 ≤ 140737488355328) (h2 : (ws.length + 1) * 24 ≤ 140737488355328) (who : Int) (key : ByteArray) :
    Cl Try.prog 32 [.pointer (some ⟨rb, 0, none⟩), jv who, sv key] w fun v w' => ∃ hs' ws', IsQ w' base rb hs' ws' ∧ Fm (· = rb) w w' ∧ hs'.length ≤ hs.length + 1 ∧ ws'.length ≤ ws.length + 1 ∧ ∀ H' W' ok e, TryR H W who key H' W' ok e → v = .tuple #[.bool ok, jv e] ∧ QRel H' W' hs' ws' := by
  refine c32 ?_
  unfold T32
  refine (quit_spec h (by omega) who).mono ?_
  rintro _ w1 ⟨hq, hf1⟩
  have hrq := hr.quit who
  have hSq := hS.del hr.wn who
  have hfne : ∀ q ∈ ws.filter (fun q => q.2 != who), q.2 ≠ who := fun q hq => by simpa using (List.mem_filter.1 hq).2
  have hfl : (ws.filter fun q => q.2 != who).length ≤ ws.length := List.length_filter_le _ _
  generalize (ws.filter fun q => q.2 != who) = wf at hq hrq hfne hfl
  refine (qholder_spec hq (by omega) key).mono ?_
  rintro _ w1 ⟨rfl, rfl⟩
  rw [qholder, hr.get]
  obtain ⟨hv, wv, hb, hho, hwo⟩ := hq.ex
  have hrb := hq.lt
  have hbase := hq.le
  cases hg : getD H key with
  | none =>
    simp only [Pu_some, extV_0, extV_1, extV_2, extV_3, nilV_ptr, nilV_fn, faV_ptr, lenV_sl, lenS_s, capV_sl, pickV_t, pickV_f, unV_not, unV_neg, isB_t, isB_f, isB_u, binV_add, binV_sub, binV_mul, binV_eql, binV_neq, binV_lss, binV_leq, binV_gtr, binV_geq, binV_seql, binV_sneq, binV_slss, binV_beql, binV_bneq, binV_peql, binV_pneq, add_add, add_none, Go.Al.add_zero, Nat.zero_add, Nat.add_zero, IfB_t, IfB_f, Gd_t, Gd_f, Ld_ptr, LdN_ptr, Option.isNone_some, Option.isNone_none, Option.isSome_some, Option.isSome_none, Bool.not_true, Bool.not_false, drew_cell, drew_heap]
    let f : ByteArray × Int → Bool := fun q => decide (txt q.1 < txt key)
    have c0 : w1.cell? ⟨rb, 0, none⟩ = some hv := by rw [cell_at hb]; rfl
    have hlv := (CellsAt.of_own hho).lenV
    have hpl := pos_le f hs
    refine ⟨fun vs w2 => ∃ k : Nat, vs = [jv k] ∧ k ≤ pos f hs ∧ w2 = w1, fun vs _ => (hs.length - nth vs 0).toNat, ⟨0, rfl, by omega, rfl⟩, ?_⟩
    rintro g w2 iw ⟨k, ⟨⟩, hk, rfl⟩
    have fin : ∀ u w', w'.heap[rb]? = some (.cells (#[hv, wv].setIfInBounds 0 u) 54) → RowQ w' w2.heap.size u (hs.take (pos f hs) ++ (key, who) :: hs.drop (pos f hs)) → Fm (· = rb) w2 w' → ∃ hs' ws', IsQ w' base rb hs' ws' ∧ Fm (· = rb) w w' ∧ hs'.length ≤ hs.length + 1 ∧ ws'.length ≤ ws.length + 1 ∧ ∀ H' W' ok e, TryR H W who key H' W' ok e → Value.tuple #[.bool true, jv 0] = .tuple #[.bool ok, jv e] ∧ QRel H' W' hs' ws' := by
      intro u w' hb' hu hf'
      refine ⟨ins f hs (key, who), wf, ⟨hrb, Nat.le_trans hbase hf'.size, u, wv, by simpa using hb', own_base hu hbase, own_keep hwo hf' (fun k hk _ _ e => by omega)⟩, hf1.trans hf' (fun _ _ e => e) (fun _ _ e => e), ?_, by omega, ?_⟩
      · simp only [ins, List.length_append, List.length_cons, List.length_take, List.length_drop]; omega
      · intro H' W' ok e ht
        cases ht with
        | ring x hx => rw [hg] at hx; cases hx
        | wait x hx => rw [hg] at hx; cases hx
        | take =>
          have hno : ∀ q ∈ H, q.1 ≠ key := fun q hq e => getD_none.1 hg (List.mem_map.2 ⟨q, hq, e⟩)
          refine ⟨rfl, ?_, hrq.wu, nodup_setD hr.hn _ _, hrq.wn, fun q => ?_, hrq.wm⟩
          · refine ins_pw (lt := fun x y => txt x.1 < txt y.1) (fun a b c => List.lt_trans) hr.hu fun q hq => ⟨fun e => by simpa [f] using e, fun e => ?_⟩
            exact txt_cases (by simpa [f] using e) (hno q ((hr.hm q).2 hq))
          · rw [mem_setD' hr.hn, ins_memq, ← hr.hm]
            exact ⟨fun e => e.imp id (fun e => e.1), fun e => e.imp id (fun e => ⟨e, hno q e⟩)⟩
    simp only [Pu_some, extV_0, extV_1, extV_2, extV_3, nilV_ptr, nilV_fn, faV_ptr, lenV_sl, lenS_s, capV_sl, pickV_t, pickV_f, unV_not, unV_neg, isB_t, isB_f, isB_u, binV_add, binV_sub, binV_mul, binV_eql, binV_neq, binV_lss, binV_leq, binV_gtr, binV_geq, binV_seql, binV_sneq, binV_slss, binV_beql, binV_bneq, binV_peql, binV_pneq, add_add, add_none, Go.Al.add_zero, Nat.zero_add, Nat.add_zero, IfB_t, IfB_f, Gd_t, Gd_f, Ld_ptr, LdN_ptr, Option.isNone_some, Option.isNone_none, Option.isSome_some, Option.isSome_none, Bool.not_true, Bool.not_false, drew_cell, drew_heap, c0, hlv]
    by_cases hlt : k < hs.length
    · have e1 : decide ((k : Int) < (hs.length : Int)) = true := by simpa using hlt
      have hRk : hs[k]? = some hs[k] := List.getElem?_eq_getElem hlt
      obtain ⟨ad, hix, q0, q1⟩ := qat hho hRk
      by_cases hkp : k < pos f hs
      · have e2 : decide (txt (hs[k]).1 < txt key) = true := pos_before hkp hRk
        simp only [Pu_some, extV_0, extV_1, extV_2, extV_3, nilV_ptr, nilV_fn, faV_ptr, lenV_sl, lenS_s, capV_sl, pickV_t, pickV_f, unV_not, unV_neg, isB_t, isB_f, isB_u, binV_add, binV_sub, binV_mul, binV_eql, binV_neq, binV_lss, binV_leq, binV_gtr, binV_geq, binV_seql, binV_sneq, binV_slss, binV_beql, binV_bneq, binV_peql, binV_pneq, add_add, add_none, Go.Al.add_zero, Nat.zero_add, Nat.add_zero, IfB_t, IfB_f, Gd_t, Gd_f, Ld_ptr, LdN_ptr, Option.isNone_some, Option.isNone_none, Option.isSome_some, Option.isSome_none, Bool.not_true, Bool.not_false, drew_cell, drew_heap, e1, c0, hix, q0, binV_slss, less_lists, toList_txt, e2, wrap_succ (i := k) (by omega)]
        exact ⟨⟨k + 1, rfl, by omega, trivial⟩, by simp only [nth_0]; omega⟩
      · have hke : k = pos f hs := by omega
        have e2 : decide (txt (hs[k]).1 < txt key) = false := by subst hke; exact pos_stop hRk
        simp only [Pu_some, extV_0, extV_1, extV_2, extV_3, nilV_ptr, nilV_fn, faV_ptr, lenV_sl, lenS_s, capV_sl, pickV_t, pickV_f, unV_not, unV_neg, isB_t, isB_f, isB_u, binV_add, binV_sub, binV_mul, binV_eql, binV_neq, binV_lss, binV_leq, binV_gtr, binV_geq, binV_seql, binV_sneq, binV_slss, binV_beql, binV_bneq, binV_peql, binV_pneq, add_add, add_none, Go.Al.add_zero, Nat.zero_add, Nat.add_zero, IfB_t, IfB_f, Gd_t, Gd_f, Ld_ptr, LdN_ptr, Option.isNone_some, Option.isNone_none, Option.isSome_some, Option.isSome_none, Bool.not_true, Bool.not_false, drew_cell, drew_heap, e1, c0, hix, q0, binV_slss, less_lists, toList_txt, e2]
        have := ins_chain (j := 0) hb (by omega) rfl hho h1 hpl key who fin
        rw [← hke] at this
        simp only [Pu_some, extV_0, extV_1, extV_2, extV_3, nilV_ptr, nilV_fn, faV_ptr, lenV_sl, lenS_s, capV_sl, pickV_t, pickV_f, unV_not, unV_neg, isB_t, isB_f, isB_u, binV_add, binV_sub, binV_mul, binV_eql, binV_neq, binV_lss, binV_leq, binV_gtr, binV_geq, binV_seql, binV_sneq, binV_slss, binV_beql, binV_bneq, binV_peql, binV_pneq, add_add, add_none, Go.Al.add_zero, Nat.zero_add, Nat.add_zero, IfB_t, IfB_f, Gd_t, Gd_f, Ld_ptr, LdN_ptr, Option.isNone_some, Option.isNone_none, Option.isSome_some, Option.isSome_none, Bool.not_true, Bool.not_false, drew_cell, drew_heap] at this
        exact this
    · have e1 : decide ((k : Int) < (hs.length : Int)) = false := by simpa using hlt
      have hke : k = pos f hs := by omega
      simp only [Pu_some, extV_0, extV_1, extV_2, extV_3, nilV_ptr, nilV_fn, faV_ptr, lenV_sl, lenS_s, capV_sl, pickV_t, pickV_f, unV_not, unV_neg, isB_t, isB_f, isB_u, binV_add, binV_sub, binV_mul, binV_eql, binV_neq, binV_lss, binV_leq, binV_gtr, binV_geq, binV_seql, binV_sneq, binV_slss, binV_beql, binV_bneq, binV_peql, binV_pneq, add_add, add_none, Go.Al.add_zero, Nat.zero_add, Nat.add_zero, IfB_t, IfB_f, Gd_t, Gd_f, Ld_ptr, LdN_ptr, Option.isNone_some, Option.isNone_none, Option.isSome_some, Option.isSome_none, Bool.not_true, Bool.not_false, drew_cell, drew_heap, e1, c0]
      have := ins_chain (j := 0) hb (by omega) rfl hho h1 hpl key who fin
      rw [← hke] at this
      simp only [Pu_some, extV_0, extV_1, extV_2, extV_3, nilV_ptr, nilV_fn, faV_ptr, lenV_sl, lenS_s, capV_sl, pickV_t, pickV_f, unV_not, unV_neg, isB_t, isB_f, isB_u, binV_add, binV_sub, binV_mul, binV_eql, binV_neq, binV_lss, binV_leq, binV_gtr, binV_geq, binV_seql, binV_sneq, binV_slss, binV_beql, binV_bneq, binV_peql, binV_pneq, add_add, add_none, Go.Al.add_zero, Nat.zero_add, Nat.add_zero, IfB_t, IfB_f, Gd_t, Gd_f, Ld_ptr, LdN_ptr, Option.isNone_some, Option.isNone_none, Option.isSome_some, Option.isSome_none, Bool.not_true, Bool.not_false, drew_cell, drew_heap] at this
      exact this
  | some x =>
    by_cases hx : x = who
    · subst hx
      have e1 : (x == x) = true := by simp
      simp only [Pu_some, extV_0, extV_1, extV_2, extV_3, nilV_ptr, nilV_fn, faV_ptr, lenV_sl, lenS_s, capV_sl, pickV_t, pickV_f, unV_not, unV_neg, isB_t, isB_f, isB_u, binV_add, binV_sub, binV_mul, binV_eql, binV_neq, binV_lss, binV_leq, binV_gtr, binV_geq, binV_seql, binV_sneq, binV_slss, binV_beql, binV_bneq, binV_peql, binV_pneq, add_add, add_none, Go.Al.add_zero, Nat.zero_add, Nat.add_zero, IfB_t, IfB_f, Gd_t, Gd_f, Ld_ptr, LdN_ptr, Option.isNone_some, Option.isNone_none, Option.isSome_some, Option.isSome_none, Bool.not_true, Bool.not_false, drew_cell, drew_heap, Option.getD_some, e1]
      refine ⟨hs, wf, hq, hf1, by omega, by omega, ?_⟩
      intro H' W' ok e ht
      cases ht with
      | ring y hy hne => rw [hg] at hy; cases hy; exact absurd rfl hne
      | wait y hy hne => rw [hg] at hy; cases hy; exact absurd rfl hne
      | take =>
        refine ⟨rfl, hr.hu, hrq.wu, nodup_setD hr.hn _ _, hrq.wn, fun q => ?_, hrq.wm⟩
        rw [mem_setD' hr.hn, ← hr.hm]
        have hk := (getD_some hr.hn).1 hg
        constructor
        · rintro (rfl | ⟨h, _⟩)
          · exact hk
          · exact h
        · intro h
          by_cases e : q.1 = key
          · exact .inl (key_fn hr.hn h hk e)
          · exact .inr ⟨h, e⟩
    · have e1 : (x == who) = false := by simpa using hx
      simp only [Pu_some, extV_0, extV_1, extV_2, extV_3, nilV_ptr, nilV_fn, faV_ptr, lenV_sl, lenS_s, capV_sl, pickV_t, pickV_f, unV_not, unV_neg, isB_t, isB_f, isB_u, binV_add, binV_sub, binV_mul, binV_eql, binV_neq, binV_lss, binV_leq, binV_gtr, binV_geq, binV_seql, binV_sneq, binV_slss, binV_beql, binV_bneq, binV_peql, binV_pneq, add_add, add_none, Go.Al.add_zero, Nat.zero_add, Nat.add_zero, IfB_t, IfB_f, Gd_t, Gd_f, Ld_ptr, LdN_ptr, Option.isNone_some, Option.isNone_none, Option.isSome_some, Option.isSome_none, Bool.not_true, Bool.not_false, drew_cell, drew_heap, Option.getD_some, e1]
      refine (round_spec hq hrq hSq (by omega) (by omega) who x).mono ?_
      rintro _ w1 ⟨r, rfl, hrc, rfl⟩
      cases r with
      | true =>
        simp only [Pu_some, extV_0, extV_1, extV_2, extV_3, nilV_ptr, nilV_fn, faV_ptr, lenV_sl, lenS_s, capV_sl, pickV_t, pickV_f, unV_not, unV_neg, isB_t, isB_f, isB_u, binV_add, binV_sub, binV_mul, binV_eql, binV_neq, binV_lss, binV_leq, binV_gtr, binV_geq, binV_seql, binV_sneq, binV_slss, binV_beql, binV_bneq, binV_peql, binV_pneq, add_add, add_none, Go.Al.add_zero, Nat.zero_add, Nat.add_zero, IfB_t, IfB_f, Gd_t, Gd_f, Ld_ptr, LdN_ptr, Option.isNone_some, Option.isNone_none, Option.isSome_some, Option.isSome_none, Bool.not_true, Bool.not_false, drew_cell, drew_heap]
        refine ⟨hs, wf, hq, hf1, by omega, by omega, ?_⟩
        intro H' W' ok e ht
        cases ht with
        | take hfree => rcases hfree with h | h <;> rw [hg] at h <;> cases h; exact absurd rfl hx
        | ring y hy hne => exact ⟨rfl, hrq⟩
        | wait y hy hne hc => rw [hg] at hy; cases hy; exact absurd (hrc.1 rfl) hc
      | false =>
        simp only [Pu_some, extV_0, extV_1, extV_2, extV_3, nilV_ptr, nilV_fn, faV_ptr, lenV_sl, lenS_s, capV_sl, pickV_t, pickV_f, unV_not, unV_neg, isB_t, isB_f, isB_u, binV_add, binV_sub, binV_mul, binV_eql, binV_neq, binV_lss, binV_leq, binV_gtr, binV_geq, binV_seql, binV_sneq, binV_slss, binV_beql, binV_bneq, binV_peql, binV_pneq, add_add, add_none, Go.Al.add_zero, Nat.zero_add, Nat.add_zero, IfB_t, IfB_f, Gd_t, Gd_f, Ld_ptr, LdN_ptr, Option.isNone_some, Option.isNone_none, Option.isSome_some, Option.isSome_none, Bool.not_true, Bool.not_false, drew_cell, drew_heap]
        let f : ByteArray × Int → Bool := fun q => decide (q.2 < who)
        have c0 : w1.cell? ⟨rb, 1, none⟩ = some wv := by rw [cell_at hb]; rfl
        have hlv := (CellsAt.of_own hwo).lenV
        have hpl := pos_le f wf
        refine ⟨fun vs w2 => ∃ k : Nat, vs = [jv k] ∧ k ≤ pos f wf ∧ w2 = w1, fun vs _ => (wf.length - nth vs 0).toNat, ⟨0, rfl, by omega, rfl⟩, ?_⟩
        rintro g w2 iw ⟨k, ⟨⟩, hk, rfl⟩
        have fin : ∀ u w', w'.heap[rb]? = some (.cells (#[hv, wv].setIfInBounds 1 u) 54) → RowQ w' w2.heap.size u (wf.take (pos f wf) ++ (key, who) :: wf.drop (pos f wf)) → Fm (· = rb) w2 w' → ∃ hs' ws', IsQ w' base rb hs' ws' ∧ Fm (· = rb) w w' ∧ hs'.length ≤ hs.length + 1 ∧ ws'.length ≤ ws.length + 1 ∧ ∀ H' W' ok e, TryR H W who key H' W' ok e → Value.tuple #[.bool false, jv 0] = .tuple #[.bool ok, jv e] ∧ QRel H' W' hs' ws' := by
          intro u w' hb' hu hf'
          refine ⟨hs, ins f wf (key, who), ⟨hrb, Nat.le_trans hbase hf'.size, hv, u, by simpa using hb', own_keep hho hf' (fun k hk _ _ e => by omega), own_base hu hbase⟩, hf1.trans hf' (fun _ _ e => e) (fun _ _ e => e), by omega, ?_, ?_⟩
          · simp only [ins, List.length_append, List.length_cons, List.length_take, List.length_drop]; omega
          · intro H' W' ok e ht
            cases ht with
            | take hfree => rcases hfree with h | h <;> rw [hg] at h <;> cases h; exact absurd rfl hx
            | ring y hy hne hc => rw [hg] at hy; cases hy; have := hrc.2 hc; cases this
            | wait y hy hne hc =>
              refine ⟨rfl, hr.hu, ?_, hr.hn, nodup_setD hrq.wn _ _, hr.hm, fun p k => ?_⟩
              · refine ins_pw (lt := fun x y => x.2 < y.2) (fun a b c => Int.lt_trans) hrq.wu fun q hq => ⟨fun e => by simpa [f] using e, fun e => ?_⟩
                have e' : ¬ q.2 < who := by simpa [f] using e
                have := hfne q hq
                show who < q.2
                omega
              · rw [mem_setD' hrq.wn, ins_memq, hrq.wm]
                constructor
                · rintro (e | ⟨e, _⟩)
                  · cases e; exact .inl rfl
                  · exact .inr e
                · rintro (e | e)
                  · cases e; exact .inl rfl
                  · exact .inr ⟨e, hfne _ e⟩
        simp only [Pu_some, extV_0, extV_1, extV_2, extV_3, nilV_ptr, nilV_fn, faV_ptr, lenV_sl, lenS_s, capV_sl, pickV_t, pickV_f, unV_not, unV_neg, isB_t, isB_f, isB_u, binV_add, binV_sub, binV_mul, binV_eql, binV_neq, binV_lss, binV_leq, binV_gtr, binV_geq, binV_seql, binV_sneq, binV_slss, binV_beql, binV_bneq, binV_peql, binV_pneq, add_add, add_none, Go.Al.add_zero, Nat.zero_add, Nat.add_zero, IfB_t, IfB_f, Gd_t, Gd_f, Ld_ptr, LdN_ptr, Option.isNone_some, Option.isNone_none, Option.isSome_some, Option.isSome_none, Bool.not_true, Bool.not_false, drew_cell, drew_heap, c0, hlv]
        by_cases hlt : k < wf.length
        · have e1 : decide ((k : Int) < (wf.length : Int)) = true := by simpa using hlt
          have hRk : wf[k]? = some wf[k] := List.getElem?_eq_getElem hlt
          obtain ⟨ad, hix, q0, q1⟩ := qat hwo hRk
          by_cases hkp : k < pos f wf
          · have e2 : decide ((wf[k]).2 < who) = true := pos_before hkp hRk
            simp only [Pu_some, extV_0, extV_1, extV_2, extV_3, nilV_ptr, nilV_fn, faV_ptr, lenV_sl, lenS_s, capV_sl, pickV_t, pickV_f, unV_not, unV_neg, isB_t, isB_f, isB_u, binV_add, binV_sub, binV_mul, binV_eql, binV_neq, binV_lss, binV_leq, binV_gtr, binV_geq, binV_seql, binV_sneq, binV_slss, binV_beql, binV_bneq, binV_peql, binV_pneq, add_add, add_none, Go.Al.add_zero, Nat.zero_add, Nat.add_zero, IfB_t, IfB_f, Gd_t, Gd_f, Ld_ptr, LdN_ptr, Option.isNone_some, Option.isNone_none, Option.isSome_some, Option.isSome_none, Bool.not_true, Bool.not_false, drew_cell, drew_heap, e1, c0, hix, q1, e2, wrap_succ (i := k) (by omega)]
            exact ⟨⟨k + 1, rfl, by omega, trivial⟩, by simp only [nth_0]; omega⟩
          · have hke : k = pos f wf := by omega
            have e2 : decide ((wf[k]).2 < who) = false := by subst hke; exact pos_stop hRk
            simp only [Pu_some, extV_0, extV_1, extV_2, extV_3, nilV_ptr, nilV_fn, faV_ptr, lenV_sl, lenS_s, capV_sl, pickV_t, pickV_f, unV_not, unV_neg, isB_t, isB_f, isB_u, binV_add, binV_sub, binV_mul, binV_eql, binV_neq, binV_lss, binV_leq, binV_gtr, binV_geq, binV_seql, binV_sneq, binV_slss, binV_beql, binV_bneq, binV_peql, binV_pneq, add_add, add_none, Go.Al.add_zero, Nat.zero_add, Nat.add_zero, IfB_t, IfB_f, Gd_t, Gd_f, Ld_ptr, LdN_ptr, Option.isNone_some, Option.isNone_none, Option.isSome_some, Option.isSome_none, Bool.not_true, Bool.not_false, drew_cell, drew_heap, e1, c0, hix, q1, e2]
            have := ins_chain (j := 1) hb (by omega) rfl hwo (by omega) hpl key who fin
            rw [← hke] at this
            simp only [Pu_some, extV_0, extV_1, extV_2, extV_3, nilV_ptr, nilV_fn, faV_ptr, lenV_sl, lenS_s, capV_sl, pickV_t, pickV_f, unV_not, unV_neg, isB_t, isB_f, isB_u, binV_add, binV_sub, binV_mul, binV_eql, binV_neq, binV_lss, binV_leq, binV_gtr, binV_geq, binV_seql, binV_sneq, binV_slss, binV_beql, binV_bneq, binV_peql, binV_pneq, add_add, add_none, Go.Al.add_zero, Nat.zero_add, Nat.add_zero, IfB_t, IfB_f, Gd_t, Gd_f, Ld_ptr, LdN_ptr, Option.isNone_some, Option.isNone_none, Option.isSome_some, Option.isSome_none, Bool.not_true, Bool.not_false, drew_cell, drew_heap] at this
            exact this
        · have e1 : decide ((k : Int) < (wf.length : Int)) = false := by simpa using hlt
          have hke : k = pos f wf := by omega
          simp only [Pu_some, extV_0, extV_1, extV_2, extV_3, nilV_ptr, nilV_fn, faV_ptr, lenV_sl, lenS_s, capV_sl, pickV_t, pickV_f, unV_not, unV_neg, isB_t, isB_f, isB_u, binV_add, binV_sub, binV_mul, binV_eql, binV_neq, binV_lss, binV_leq, binV_gtr, binV_geq, binV_seql, binV_sneq, binV_slss, binV_beql, binV_bneq, binV_peql, binV_pneq, add_add, add_none, Go.Al.add_zero, Nat.zero_add, Nat.add_zero, IfB_t, IfB_f, Gd_t, Gd_f, Ld_ptr, LdN_ptr, Option.isNone_some, Option.isNone_none, Option.isSome_some, Option.isSome_none, Bool.not_true, Bool.not_false, drew_cell, drew_heap, e1, c0]
          have := ins_chain (j := 1) hb (by omega) rfl hwo (by omega) hpl key who fin
          rw [← hke] at this
          simp only [Pu_some, extV_0, extV_1, extV_2, extV_3, nilV_ptr, nilV_fn, faV_ptr, lenV_sl, lenS_s, capV_sl, pickV_t, pickV_f, unV_not, unV_neg, isB_t, isB_f, isB_u, binV_add, binV_sub, binV_mul, binV_eql, binV_neq, binV_lss, binV_leq, binV_gtr, binV_geq, binV_seql, binV_sneq, binV_slss, binV_beql, binV_bneq, binV_peql, binV_pneq, add_add, add_none, Go.Al.add_zero, Nat.zero_add, Nat.add_zero, IfB_t, IfB_f, Gd_t, Gd_f, Ld_ptr, LdN_ptr, Option.isNone_some, Option.isNone_none, Option.isSome_some, Option.isSome_none, Bool.not_true, Bool.not_false, drew_cell, drew_heap] at this
          exact this

end Go.Proofs.Ytgknklnbcjjlkaa
