/- LocksRing: nobody ever waits for himself: the law. -/
import Derived.Test.YtgknklnbcjjlkaaLocksOne
namespace Go.Proofs.Ytgknklnbcjjlkaa
open Go.Al Go.Proofs
set_option linter.unusedVariables false
set_option linter.unusedSimpArgs false
set_option linter.unusedSectionVars false

theorem mem_wk {W : WL} {x : Int} : x ∈ sortK W ↔ (getD W x).isSome = true := by
  rw [sortK, List.mem_mergeSort]
  cases h : getD W x with
  | none => simpa using getD_none.1 h
  | some k =>
    simp only [Option.isSome_some, iff_true]
    refine Classical.byContradiction fun hn => ?_
    rw [getD_none.2 hn] at h; cases h
theorem len_wk (W : WL) : (sortK W).length = W.length := by rw [sortK, List.length_mergeSort, List.length_map]

/-- One call, of a list that came in: Release or Try. -/
theorem step_ring {w2 w : World} {b bh bw : Nat} {H : HL} {W : WL} {k : Nat} {x : Addr} {ops : List LOp} {c0 : Nat} (h0 : LopsAt w2 (some x) ops) (hlt : k < ops.length) (hn : ops.length * 32 ≤ 140737488351232) (hL : LI w2 b bh bw H W k) (hf : Fm (fun _ => False) w w2) (hb : w.heap.size ≤ bh) (hbw : w.heap.size ≤ bw) (kk : World → Prop)
    (hkk : ∀ w' H' W', LI w' b bh bw H' W' (k + 1) → Fm (fun _ => False) w w' → kk w') (ptr : Value) (hptr : ptr = .pointer (some ⟨b, 0, none⟩)) :
    Pu (ixV 3 (.slice (some x) ops.length c0) (jv k)) fun t24 =>
      Pu (faV 0 t24) fun t25 =>
      Ld w2 t25 fun t26 w_284 =>
      IfB t26
        (Pu (ixV 3 (.slice (some x) ops.length c0) (jv k)) fun t30 =>
          Pu (faV 1 t30) fun t31 =>
          Ld w_284 t31 fun t32 w_288 =>
          Cl Try.prog 28 [ptr, t32] w_288 fun t33 w_290 => kk w_290)
        (Pu (ixV 3 (.slice (some x) ops.length c0) (jv k)) fun t37 =>
          Pu (faV 1 t37) fun t38 =>
          Ld (World.drew w_284) t38 fun t39 w_294 =>
          w_294 = (World.drew w_284) ∧
          Pu (ixV 3 (.slice (some x) ops.length c0) (jv k)) fun t42 =>
          Pu (faV 2 t42) fun t43 =>
          Ld (World.drew w_284) t43 fun t44 w_298 =>
          w_298 = (World.drew w_284) ∧
          Cl Try.prog 29 [ptr, t39, t44] (World.drew w_284) fun t45 w_300 => kk w_300) := by
  subst hptr
  have hsz := hL.st (by omega)
  obtain ⟨x', e, q0, q1, q2⟩ := h0.at_ k _ (List.getElem?_eq_getElem hlt)
  cases e
  have hw1 := h0.wf _ (List.getElem_mem hlt)
  generalize ops[k] = o at q0 q1 q2 hw1
  obtain ⟨d, p, key⟩ := o
  simp only at q0 q1 q2 hw1
  cases d with
  | true =>
    simp only [Pu_some, extV_0, extV_1, extV_2, extV_3, nilV_ptr, nilV_fn, faV_ptr, lenV_sl, lenS_s, capV_sl, pickV_t, pickV_f, unV_not, unV_neg, isB_t, isB_f, isB_u, binV_add, binV_sub, binV_mul, binV_eql, binV_neq, binV_lss, binV_leq, binV_gtr, binV_geq, binV_seql, binV_sneq, binV_slss, binV_beql, binV_bneq, binV_peql, binV_pneq, add_add, add_none, Go.Al.add_zero, Nat.zero_add, Nat.add_zero, IfB_t, IfB_f, Gd_t, Gd_f, Ld_ptr, LdN_ptr, Option.isNone_some, Option.isNone_none, Option.isSome_some, Option.isSome_none, Bool.not_true, Bool.not_false, drew_cell, drew_heap, ixV_at hlt, q0, q1]
    refine (release_spec hL.t hsz.1 p).mono ?_
    rintro v w5 ⟨H', W', ls, hrow, hR, hT5, hf5⟩
    exact hkk _ _ _ ((hL.let hR hT5).more (Nat.le_succ k)) (hf.trans hf5 (fun _ _ e => e) (fun x hx e => by omega))
  | false =>
    simp only [Pu_some, extV_0, extV_1, extV_2, extV_3, nilV_ptr, nilV_fn, faV_ptr, lenV_sl, lenS_s, capV_sl, pickV_t, pickV_f, unV_not, unV_neg, isB_t, isB_f, isB_u, binV_add, binV_sub, binV_mul, binV_eql, binV_neq, binV_lss, binV_leq, binV_gtr, binV_geq, binV_seql, binV_sneq, binV_slss, binV_beql, binV_bneq, binV_peql, binV_pneq, add_add, add_none, Go.Al.add_zero, Nat.zero_add, Nat.add_zero, IfB_t, IfB_f, Gd_t, Gd_f, Ld_ptr, LdN_ptr, Option.isNone_some, Option.isNone_none, Option.isSome_some, Option.isSome_none, Bool.not_true, Bool.not_false, drew_cell, drew_heap, ixV_at hlt, q0, q1, q2, true_and]
    have hLd := hL.keep (Fm.drew (fun _ => False) w2)
    refine (try_spec hLd.t hL.s p key).mono ?_
    rintro _ w5 ⟨H', W', ok, e, rfl, hR, hT5, hf5⟩
    exact hkk _ _ _ (hLd.try hw1 hR hT5) ((Fmf hf (Fm.drew _ w2)).trans hf5 (fun _ _ e => e) (fun x hx e => by omega))

set_option maxHeartbeats 1000000 in
theorem ring_law (w : World) (a0 : Option Addr) (c0 : Nat) (ops : List LOp) (h0 : LopsAt w a0 ops) (hsm : ops.length * 32 ≤ 140737488351232) :
    Cl Try.prog 9 [.slice a0 ops.length c0] w fun v w' => v = .bool true ∧ Fm (fun _ => False) w w' := by
  refine c9 ?_
  unfold T9
  refine (lnew_spec w).mono ?_
  rintro _ w1 ⟨b, bh, bw, rfl, hb, hbh, hbw, hT, hf1⟩
  simp only [Pu_some, extV_0, extV_1, extV_2, extV_3, nilV_ptr, nilV_fn, faV_ptr, lenV_sl, lenS_s, capV_sl, pickV_t, pickV_f, unV_not, unV_neg, isB_t, isB_f, isB_u, binV_add, binV_sub, binV_mul, binV_eql, binV_neq, binV_lss, binV_leq, binV_gtr, binV_geq, binV_seql, binV_sneq, binV_slss, binV_beql, binV_bneq, binV_peql, binV_pneq, add_add, add_none, Go.Al.add_zero, Nat.zero_add, Nat.add_zero, IfB_t, IfB_f, Gd_t, Gd_f, Ld_ptr, LdN_ptr, Option.isNone_some, Option.isNone_none, Option.isSome_some, Option.isSome_none, Bool.not_true, Bool.not_false, drew_cell, drew_heap]
  refine ⟨fun vs w2 => ∃ (k : Nat) (H : HL) (W : WL), vs = [jv k] ∧ k ≤ ops.length ∧ LI w2 b bh bw H W k ∧ Fm (fun _ => False) w w2, fun vs _ => (ops.length - nth vs 0).toNat, ⟨0, [], [], rfl, by omega, ⟨hT, Sound.nil, by simp, by simp, by simp⟩, hf1⟩, ?_⟩
  clear hT hf1 w1
  rintro g w2 iw ⟨k, H, W, ⟨⟩, hk, hL, hf⟩
  by_cases hlt : k < ops.length
  · have e1 : decide ((k : Int) < (ops.length : Int)) = true := by simpa using hlt
    simp only [Pu_some, extV_0, extV_1, extV_2, extV_3, nilV_ptr, nilV_fn, faV_ptr, lenV_sl, lenS_s, capV_sl, pickV_t, pickV_f, unV_not, unV_neg, isB_t, isB_f, isB_u, binV_add, binV_sub, binV_mul, binV_eql, binV_neq, binV_lss, binV_leq, binV_gtr, binV_geq, binV_seql, binV_sneq, binV_slss, binV_beql, binV_bneq, binV_peql, binV_pneq, add_add, add_none, Go.Al.add_zero, Nat.zero_add, Nat.add_zero, IfB_t, IfB_f, Gd_t, Gd_f, Ld_ptr, LdN_ptr, Option.isNone_some, Option.isNone_none, Option.isSome_some, Option.isSome_none, Bool.not_true, Bool.not_false, drew_cell, drew_heap, e1]
    refine Jn_at (fun vs w3 => vs = [] ∧ ∃ H' W', LI w3 b bh bw H' W' (k + 1) ∧ Fm (fun _ => False) w w3) ?_ ?_
    · clear hL H W hf w2
      rintro _ w3 ⟨rfl, H, W, hL, hf⟩ _
      refine ⟨rfl, ?_⟩
      have hsz := hL.st (by omega)
      have hwl := hL.wl
      refine (waiting_spec hL.t hL.wf hsz.1).mono ?_
      rintro l w6 ⟨hrow, _, hf6⟩
      refine ⟨fun vs w7 => ∃ (j : Nat), vs = [jv j] ∧ j ≤ W.length ∧ Fm (fun _ => False) w6 w7, fun vs _ => (W.length - nth vs 0).toNat, ⟨0, rfl, by omega, Fm.refl _ _⟩, ?_⟩
      rintro g w7 jw ⟨j, ⟨⟩, hj, hf7⟩
      have hL7 := hL.keep (Fmf hf6 hf7)
      have hF7 := Fmf hf (Fmf hf6 hf7)
      have hrow7 := own_keep hrow hf7 (fun k hk hk' _ => fun e => e)
      have hlv := own_len hrow7
      simp only [Pu_some, extV_0, extV_1, extV_2, extV_3, nilV_ptr, nilV_fn, faV_ptr, lenV_sl, lenS_s, capV_sl, pickV_t, pickV_f, unV_not, unV_neg, isB_t, isB_f, isB_u, binV_add, binV_sub, binV_mul, binV_eql, binV_neq, binV_lss, binV_leq, binV_gtr, binV_geq, binV_seql, binV_sneq, binV_slss, binV_beql, binV_bneq, binV_peql, binV_pneq, add_add, add_none, Go.Al.add_zero, Nat.zero_add, Nat.add_zero, IfB_t, IfB_f, Gd_t, Gd_f, Ld_ptr, LdN_ptr, Option.isNone_some, Option.isNone_none, Option.isSome_some, Option.isSome_none, Bool.not_true, Bool.not_false, drew_cell, drew_heap, hlv]
      by_cases hlt' : j < W.length
      · have e3 : decide ((j : Int) < (W.length : Int)) = true := by simpa using hlt'
        have hxs : (sortK W)[j]? = some ((sortK W)[j]'(by rw [len_wk]; exact hlt')) := List.getElem?_eq_getElem _
        generalize (sortK W)[j]'(by rw [len_wk]; exact hlt') = x at hxs
        have hxw := mem_wk.1 (List.mem_of_getElem? hxs)
        obtain ⟨ad, i1, _, q1⟩ := (CellsAt.of_own hrow7).at1 (i := j) (x := jv x) (by rw [List.getElem?_map, hxs]; rfl) .i64
        simp only [Pu_some, extV_0, extV_1, extV_2, extV_3, nilV_ptr, nilV_fn, faV_ptr, lenV_sl, lenS_s, capV_sl, pickV_t, pickV_f, unV_not, unV_neg, isB_t, isB_f, isB_u, binV_add, binV_sub, binV_mul, binV_eql, binV_neq, binV_lss, binV_leq, binV_gtr, binV_geq, binV_seql, binV_sneq, binV_slss, binV_beql, binV_bneq, binV_peql, binV_pneq, add_add, add_none, Go.Al.add_zero, Nat.zero_add, Nat.add_zero, IfB_t, IfB_f, Gd_t, Gd_f, Ld_ptr, LdN_ptr, Option.isNone_some, Option.isNone_none, Option.isSome_some, Option.isSome_none, Bool.not_true, Bool.not_false, drew_cell, drew_heap, e3, i1, q1]
        obtain ⟨f, hrank⟩ := hL.s.rank
        refine ⟨fun vs w8 => ∃ (p : Int) (vis : List Int), vs = [jv p, jv vis.length] ∧ w8 = w7 ∧ vis.Nodup ∧ (∀ v ∈ vis, (getD W v).isSome = true) ∧ (∀ v ∈ vis, f p < f v) ∧ f p ≤ f x ∧ (p = x ∨ ∃ key, getD H key = some p), fun vs _ => f (nth vs 0), ⟨x, [], rfl, rfl, List.nodup_nil, by simp, by simp, Nat.le_refl _, .inl rfl⟩, ?_⟩
        rintro g w8 _ _ ⟨p, vis, ⟨⟩, rfl, hvn, hvw, hvf, hpx, hor⟩
        refine (waits_spec hL7.t p).mono ?_
        rintro _ w8 ⟨rfl, rfl⟩
        cases hg : getD W p with
        | none =>
          simp only [Pu_some, extV_0, extV_1, extV_2, extV_3, nilV_ptr, nilV_fn, faV_ptr, lenV_sl, lenS_s, capV_sl, pickV_t, pickV_f, unV_not, unV_neg, isB_t, isB_f, isB_u, binV_add, binV_sub, binV_mul, binV_eql, binV_neq, binV_lss, binV_leq, binV_gtr, binV_geq, binV_seql, binV_sneq, binV_slss, binV_beql, binV_bneq, binV_peql, binV_pneq, add_add, add_none, Go.Al.add_zero, Nat.zero_add, Nat.add_zero, IfB_t, IfB_f, Gd_t, Gd_f, Ld_ptr, LdN_ptr, Option.isNone_some, Option.isNone_none, Option.isSome_some, Option.isSome_none, Bool.not_true, Bool.not_false, drew_cell, drew_heap, waitsV, hg]
          rcases hor with rfl | ⟨key, hkey⟩
          · rw [hg] at hxw; cases hxw
          refine (held_spec hL7.t hsz.2 p).mono ?_
          rintro v w9 ⟨ls, hrow9, _, hmem, _, hf9⟩
          have hkl : key ∈ ls := (hmem key).2 ((getD_some hL7.t.hs.keys).1 hkey)
          have hpos := List.length_pos_of_mem hkl
          have e4 : ((ls.length : Int) == 0) = false := by rw [beq_eq_false_iff_ne]; omega
          simp only [Pu_some, extV_0, extV_1, extV_2, extV_3, nilV_ptr, nilV_fn, faV_ptr, lenV_sl, lenS_s, capV_sl, pickV_t, pickV_f, unV_not, unV_neg, isB_t, isB_f, isB_u, binV_add, binV_sub, binV_mul, binV_eql, binV_neq, binV_lss, binV_leq, binV_gtr, binV_geq, binV_seql, binV_sneq, binV_slss, binV_beql, binV_bneq, binV_peql, binV_pneq, add_add, add_none, Go.Al.add_zero, Nat.zero_add, Nat.add_zero, IfB_t, IfB_f, Gd_t, Gd_f, Ld_ptr, LdN_ptr, Option.isNone_some, Option.isNone_none, Option.isSome_some, Option.isSome_none, Bool.not_true, Bool.not_false, drew_cell, drew_heap, own_len hrow9, e4, wrap_succ (i := j) (by omega)]
          exact ⟨⟨j + 1, rfl, by omega, Fmf hf7 hf9⟩, by simp only [nth_0]; omega⟩
        | some key =>
          simp only [Pu_some, extV_0, extV_1, extV_2, extV_3, nilV_ptr, nilV_fn, faV_ptr, lenV_sl, lenS_s, capV_sl, pickV_t, pickV_f, unV_not, unV_neg, isB_t, isB_f, isB_u, binV_add, binV_sub, binV_mul, binV_eql, binV_neq, binV_lss, binV_leq, binV_gtr, binV_geq, binV_seql, binV_sneq, binV_slss, binV_beql, binV_bneq, binV_peql, binV_pneq, add_add, add_none, Go.Al.add_zero, Nat.zero_add, Nat.add_zero, IfB_t, IfB_f, Gd_t, Gd_f, Ld_ptr, LdN_ptr, Option.isNone_some, Option.isNone_none, Option.isSome_some, Option.isSome_none, Bool.not_true, Bool.not_false, drew_cell, drew_heap, waitsV, hg, Option.getD_some]
          refine (holder_spec hL7.t key).mono ?_
          rintro _ w8 ⟨rfl, rfl⟩
          have hh := hL.s.held p key hg
          cases hk : getD H key with
          | none => rw [hk] at hh; cases hh
          | some q =>
            have hqp := hrank p q ⟨key, hg, hk⟩
            have hpn : p ∉ vis := fun hp => by have := hvf p hp; omega
            have hnd : (p :: vis).Nodup := List.nodup_cons.2 ⟨hpn, hvn⟩
            have hvl : (p :: vis).length ≤ (sortK W).length := len_sub hnd (fun y hy => by
              rcases List.mem_cons.1 hy with rfl | hy
              · exact mem_wk.2 (by rw [hg]; rfl)
              · exact mem_wk.2 (hvw y hy))
            rw [len_wk, List.length_cons] at hvl
            have e4 : (q == x) = false := by simp; rintro rfl; omega
            have e5 : decide ((W.length : Int) < (vis.length : Int)) = false := by simp; omega
            simp only [Pu_some, extV_0, extV_1, extV_2, extV_3, nilV_ptr, nilV_fn, faV_ptr, lenV_sl, lenS_s, capV_sl, pickV_t, pickV_f, unV_not, unV_neg, isB_t, isB_f, isB_u, binV_add, binV_sub, binV_mul, binV_eql, binV_neq, binV_lss, binV_leq, binV_gtr, binV_geq, binV_seql, binV_sneq, binV_slss, binV_beql, binV_bneq, binV_peql, binV_pneq, add_add, add_none, Go.Al.add_zero, Nat.zero_add, Nat.add_zero, IfB_t, IfB_f, Gd_t, Gd_f, Ld_ptr, LdN_ptr, Option.isNone_some, Option.isNone_none, Option.isSome_some, Option.isSome_none, Bool.not_true, Bool.not_false, drew_cell, drew_heap, holderV, hk, Option.getD_some, i1, q1, e4, hlv, e5, wrap_succ (i := vis.length) (by omega)]
            refine ⟨⟨q, p :: vis, rfl, trivial, hnd, fun v hv => ?_, fun v hv => ?_, by omega, .inr ⟨key, hk⟩⟩, by simp only [nth_0]; exact hqp⟩
            · rcases List.mem_cons.1 hv with rfl | hv
              · rw [hg]; rfl
              · exact hvw v hv
            · rcases List.mem_cons.1 hv with rfl | hv
              · exact hqp
              · have := hvf v hv; omega
      · have e3 : decide ((j : Int) < (W.length : Int)) = false := by simpa using hlt'
        simp only [Pu_some, extV_0, extV_1, extV_2, extV_3, nilV_ptr, nilV_fn, faV_ptr, lenV_sl, lenS_s, capV_sl, pickV_t, pickV_f, unV_not, unV_neg, isB_t, isB_f, isB_u, binV_add, binV_sub, binV_mul, binV_eql, binV_neq, binV_lss, binV_leq, binV_gtr, binV_geq, binV_seql, binV_sneq, binV_slss, binV_beql, binV_bneq, binV_peql, binV_pneq, add_add, add_none, Go.Al.add_zero, Nat.zero_add, Nat.add_zero, IfB_t, IfB_f, Gd_t, Gd_f, Ld_ptr, LdN_ptr, Option.isNone_some, Option.isNone_none, Option.isSome_some, Option.isSome_none, Bool.not_true, Bool.not_false, drew_cell, drew_heap, e3, wrap_succ (i := k) (by omega)]
        exact ⟨⟨k + 1, H, W, rfl, by omega, hL7, hF7⟩, by simp only [nth_0]; omega⟩
    · intro kk hkk
      obtain ⟨x, rfl, _⟩ := (h0.keep hf).at_ k _ (List.getElem?_eq_getElem hlt)
      exact step_ring (h0.keep hf) hlt hsm hL hf hbh hbw (fun w => kk [] w) (fun w' H' W' hL' hf' => hkk _ _ ⟨rfl, H', W', hL', hf'⟩) _ rfl
  · have e1 : decide ((k : Int) < (ops.length : Int)) = false := by simpa using hlt
    simp only [Pu_some, extV_0, extV_1, extV_2, extV_3, nilV_ptr, nilV_fn, faV_ptr, lenV_sl, lenS_s, capV_sl, pickV_t, pickV_f, unV_not, unV_neg, isB_t, isB_f, isB_u, binV_add, binV_sub, binV_mul, binV_eql, binV_neq, binV_lss, binV_leq, binV_gtr, binV_geq, binV_seql, binV_sneq, binV_slss, binV_beql, binV_bneq, binV_peql, binV_pneq, add_add, add_none, Go.Al.add_zero, Nat.zero_add, Nat.add_zero, IfB_t, IfB_f, Gd_t, Gd_f, Ld_ptr, LdN_ptr, Option.isNone_some, Option.isNone_none, Option.isSome_some, Option.isSome_none, Bool.not_true, Bool.not_false, drew_cell, drew_heap, e1]
    refine (awake_locks _).mono ?_
    rintro _ w5 ⟨rfl, hf5⟩
    exact ⟨rfl, Fmf hf hf5⟩

end Go.Proofs.Ytgknklnbcjjlkaa
