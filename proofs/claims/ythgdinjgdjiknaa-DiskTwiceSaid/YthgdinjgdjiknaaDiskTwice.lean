/- DiskTwice and DiskPlays: the laws. -/
import Derived.Test.YthgdinjgdjiknaaDoes2
import Derived.Test.YthgdinjgdjiknaaDiskLaws1
namespace Go.Proofs.Ythgdinjgdjiknaa
open Go.Al Go.Proofs
set_option linter.unusedVariables false
set_option linter.unusedSimpArgs false
set_option linter.unusedSectionVars false
section
variable {w : World} {b g m bx : Nat} {q : RB} {d : Dk}

theorem alike_spec (h : Both w b g m bx q d) : Cl Try.prog 19 [pv b, pv bx] w fun v w' => v = .bool true ∧ Fm (fun _ => False) w w' := by
  have hpl := Dk.pend_len d
  have hn1 := h.p.wf.n1
  have hlo := h.p.wf.lo
  have hfd := Fm.drew (fun _ => False) w
  have h1 := h.keep0 hfd
  refine c19 ?_; unfold T19
  refine ⟨fun w' => RAt w' bx q d, h1.r, ?_⟩
  simp only [Pu_some, extV_0, extV_1, extV_2, extV_3, nilV_ptr, nilV_fn, faV_ptr, lenV_sl, lenS_s, capV_sl, pickV_t, pickV_f, unV_not, unV_neg, isB_t, isB_f, isB_u, binV_add, binV_sub, binV_mul, binV_eql, binV_neq, binV_lss, binV_leq, binV_gtr, binV_geq, binV_seql, binV_sneq, binV_slss, binV_beql, binV_bneq, binV_peql, binV_pneq, add_add, add_none, Go.Al.add_zero, Nat.zero_add, Nat.add_zero, IfB_t, IfB_f, Gd_t, Gd_f, Ld_ptr, LdN_ptr, Option.isNone_some, Option.isNone_none, Option.isSome_some, Option.isSome_none, Bool.not_true, Bool.not_false, drew_cell, drew_heap]
  refine ⟨_, fun w' hw' => by simp only [Pu_some, extV_0, extV_1, extV_2, extV_3, nilV_ptr, nilV_fn, faV_ptr, lenV_sl, lenS_s, capV_sl, pickV_t, pickV_f, unV_not, unV_neg, isB_t, isB_f, isB_u, binV_add, binV_sub, binV_mul, binV_eql, binV_neq, binV_lss, binV_leq, binV_gtr, binV_geq, binV_seql, binV_sneq, binV_slss, binV_beql, binV_bneq, binV_peql, binV_pneq, add_add, add_none, Go.Al.add_zero, Nat.zero_add, Nat.add_zero, IfB_t, IfB_f, Gd_t, Gd_f, Ld_ptr, LdN_ptr, Option.isNone_some, Option.isNone_none, Option.isSome_some, Option.isSome_none, Bool.not_true, Bool.not_false, drew_cell, drew_heap, hw'.c0]; exact ⟨rfl, (by trivial)⟩, ?_⟩
  simp only [Pu_some, extV_0, extV_1, extV_2, extV_3, nilV_ptr, nilV_fn, faV_ptr, lenV_sl, lenS_s, capV_sl, pickV_t, pickV_f, unV_not, unV_neg, isB_t, isB_f, isB_u, binV_add, binV_sub, binV_mul, binV_eql, binV_neq, binV_lss, binV_leq, binV_gtr, binV_geq, binV_seql, binV_sneq, binV_slss, binV_beql, binV_bneq, binV_peql, binV_pneq, add_add, add_none, Go.Al.add_zero, Nat.zero_add, Nat.add_zero, IfB_t, IfB_f, Gd_t, Gd_f, Ld_ptr, LdN_ptr, Option.isNone_some, Option.isNone_none, Option.isSome_some, Option.isSome_none, Bool.not_true, Bool.not_false, drew_cell, drew_heap]
  refine (size_spec h1.p).mono ?_
  rintro _ _ ⟨rfl, rfl⟩
  refine ⟨h1.r, ?_⟩
  rw [hlo]
  simp only [Pu_some, extV_0, extV_1, extV_2, extV_3, nilV_ptr, nilV_fn, faV_ptr, lenV_sl, lenS_s, capV_sl, pickV_t, pickV_f, unV_not, unV_neg, isB_t, isB_f, isB_u, binV_add, binV_sub, binV_mul, binV_eql, binV_neq, binV_lss, binV_leq, binV_gtr, binV_geq, binV_seql, binV_sneq, binV_slss, binV_beql, binV_bneq, binV_peql, binV_pneq, add_add, add_none, Go.Al.add_zero, Nat.zero_add, Nat.add_zero, IfB_t, IfB_f, Gd_t, Gd_f, Ld_ptr, LdN_ptr, Option.isNone_some, Option.isNone_none, Option.isSome_some, Option.isSome_none, Bool.not_true, Bool.not_false, drew_cell, drew_heap, bne_self_eq_false]
  refine ⟨.bool d.gone, fun w' hw' => by simp only [Pu_some, extV_0, extV_1, extV_2, extV_3, nilV_ptr, nilV_fn, faV_ptr, lenV_sl, lenS_s, capV_sl, pickV_t, pickV_f, unV_not, unV_neg, isB_t, isB_f, isB_u, binV_add, binV_sub, binV_mul, binV_eql, binV_neq, binV_lss, binV_leq, binV_gtr, binV_geq, binV_seql, binV_sneq, binV_slss, binV_beql, binV_bneq, binV_peql, binV_pneq, add_add, add_none, Go.Al.add_zero, Nat.zero_add, Nat.add_zero, IfB_t, IfB_f, Gd_t, Gd_f, Ld_ptr, LdN_ptr, Option.isNone_some, Option.isNone_none, Option.isSome_some, Option.isSome_none, Bool.not_true, Bool.not_false, drew_cell, drew_heap, hw'.c4]; exact ⟨(by trivial), (by trivial)⟩, ?_⟩
  refine (dead_spec h1.p).mono ?_
  rintro _ _ ⟨rfl, rfl⟩
  refine ⟨h1.r, ?_⟩
  simp only [Pu_some, extV_0, extV_1, extV_2, extV_3, nilV_ptr, nilV_fn, faV_ptr, lenV_sl, lenS_s, capV_sl, pickV_t, pickV_f, unV_not, unV_neg, isB_t, isB_f, isB_u, binV_add, binV_sub, binV_mul, binV_eql, binV_neq, binV_lss, binV_leq, binV_gtr, binV_geq, binV_seql, binV_sneq, binV_slss, binV_beql, binV_bneq, binV_peql, binV_pneq, add_add, add_none, Go.Al.add_zero, Nat.zero_add, Nat.add_zero, IfB_t, IfB_f, Gd_t, Gd_f, Ld_ptr, LdN_ptr, Option.isNone_some, Option.isNone_none, Option.isSome_some, Option.isSome_none, Bool.not_true, Bool.not_false, drew_cell, drew_heap, bne_self_eq_false]
  refine ⟨iv d.done, fun w' hw' => by simp only [Pu_some, extV_0, extV_1, extV_2, extV_3, nilV_ptr, nilV_fn, faV_ptr, lenV_sl, lenS_s, capV_sl, pickV_t, pickV_f, unV_not, unV_neg, isB_t, isB_f, isB_u, binV_add, binV_sub, binV_mul, binV_eql, binV_neq, binV_lss, binV_leq, binV_gtr, binV_geq, binV_seql, binV_sneq, binV_slss, binV_beql, binV_bneq, binV_peql, binV_pneq, add_add, add_none, Go.Al.add_zero, Nat.zero_add, Nat.add_zero, IfB_t, IfB_f, Gd_t, Gd_f, Ld_ptr, LdN_ptr, Option.isNone_some, Option.isNone_none, Option.isSome_some, Option.isSome_none, Bool.not_true, Bool.not_false, drew_cell, drew_heap, hw'.c5]; exact ⟨(by trivial), (by trivial)⟩, ?_⟩
  refine (acts_spec h1.p).mono ?_
  rintro _ _ ⟨rfl, rfl⟩
  refine ⟨h1.r, ?_⟩
  simp only [Pu_some, extV_0, extV_1, extV_2, extV_3, nilV_ptr, nilV_fn, faV_ptr, lenV_sl, lenS_s, capV_sl, pickV_t, pickV_f, unV_not, unV_neg, isB_t, isB_f, isB_u, binV_add, binV_sub, binV_mul, binV_eql, binV_neq, binV_lss, binV_leq, binV_gtr, binV_geq, binV_seql, binV_sneq, binV_slss, binV_beql, binV_bneq, binV_peql, binV_pneq, add_add, add_none, Go.Al.add_zero, Nat.zero_add, Nat.add_zero, IfB_t, IfB_f, Gd_t, Gd_f, Ld_ptr, LdN_ptr, Option.isNone_some, Option.isNone_none, Option.isSome_some, Option.isSome_none, Bool.not_true, Bool.not_false, drew_cell, drew_heap, bne_self_eq_false]
  refine (pend_spec h1.p).mono ?_
  rintro l1 w2 ⟨o1, -, hf2⟩
  have h2 := h1.keep0 hf2
  refine ⟨h2.r, ?_⟩
  try simp only [Pu_some, extV_0, extV_1, extV_2, extV_3, nilV_ptr, nilV_fn, faV_ptr, lenV_sl, lenS_s, capV_sl, pickV_t, pickV_f, unV_not, unV_neg, isB_t, isB_f, isB_u, binV_add, binV_sub, binV_mul, binV_eql, binV_neq, binV_lss, binV_leq, binV_gtr, binV_geq, binV_seql, binV_sneq, binV_slss, binV_beql, binV_bneq, binV_peql, binV_pneq, add_add, add_none, Go.Al.add_zero, Nat.zero_add, Nat.add_zero, IfB_t, IfB_f, Gd_t, Gd_f, Ld_ptr, LdN_ptr, Option.isNone_some, Option.isNone_none, Option.isSome_some, Option.isSome_none, Bool.not_true, Bool.not_false, drew_cell, drew_heap]
  refine (rpend_spec h2.r h2.p.wf).mono ?_
  rintro l3 w3 ⟨o3, hf3⟩
  have h3 := h2.keep0 hf3
  refine ⟨h3.r, ?_⟩
  try simp only [Pu_some, extV_0, extV_1, extV_2, extV_3, nilV_ptr, nilV_fn, faV_ptr, lenV_sl, lenS_s, capV_sl, pickV_t, pickV_f, unV_not, unV_neg, isB_t, isB_f, isB_u, binV_add, binV_sub, binV_mul, binV_eql, binV_neq, binV_lss, binV_leq, binV_gtr, binV_geq, binV_seql, binV_sneq, binV_slss, binV_beql, binV_bneq, binV_peql, binV_pneq, add_add, add_none, Go.Al.add_zero, Nat.zero_add, Nat.add_zero, IfB_t, IfB_f, Gd_t, Gd_f, Ld_ptr, LdN_ptr, Option.isNone_some, Option.isNone_none, Option.isSome_some, Option.isSome_none, Bool.not_true, Bool.not_false, drew_cell, drew_heap]
  have o1' := own_keep o1 hf3 (fun _ _ _ _ e => e)
  have cells : ∀ {base : Nat} {v : Value} {w : World}, w.ownsRow base 3 1 v d.pend.length (d.pend.map fun i => iv (i : Nat)) → CellsAt w v (d.pend.map fun i : Nat => (i : Int)).length 1 ((d.pend.map fun i : Nat => (i : Int)).map iv) := by
    intro base v w ho
    have := CellsAt.of_own ho
    rw [List.length_map, List.map_map]; exact this
  refine (sameints_spec (cells o1') (cells o3)).mono ?_
  rintro _ w4 ⟨rfl, hf4⟩
  have h4 := h3.keep0 hf4
  refine ⟨h4.r, ?_⟩
  have hF4 := Fmf (Fmf (Fmf hfd hf2) hf3) hf4
  simp only [Pu_some, extV_0, extV_1, extV_2, extV_3, nilV_ptr, nilV_fn, faV_ptr, lenV_sl, lenS_s, capV_sl, pickV_t, pickV_f, unV_not, unV_neg, isB_t, isB_f, isB_u, binV_add, binV_sub, binV_mul, binV_eql, binV_neq, binV_lss, binV_leq, binV_gtr, binV_geq, binV_seql, binV_sneq, binV_slss, binV_beql, binV_bneq, binV_peql, binV_pneq, add_add, add_none, Go.Al.add_zero, Nat.zero_add, Nat.add_zero, IfB_t, IfB_f, Gd_t, Gd_f, Ld_ptr, LdN_ptr, Option.isNone_some, Option.isNone_none, Option.isSome_some, Option.isSome_none, Bool.not_true, Bool.not_false, drew_cell, drew_heap, decide_true, h4.r.c0]
  refine (read_spec h4.p _ _).mono ?_
  rintro _ _ ⟨rfl, rfl⟩
  simp only [Pu_some, extV_0, extV_1, extV_2, extV_3, nilV_ptr, nilV_fn, faV_ptr, lenV_sl, lenS_s, capV_sl, pickV_t, pickV_f, unV_not, unV_neg, isB_t, isB_f, isB_u, binV_add, binV_sub, binV_mul, binV_eql, binV_neq, binV_lss, binV_leq, binV_gtr, binV_geq, binV_seql, binV_sneq, binV_slss, binV_beql, binV_bneq, binV_peql, binV_pneq, add_add, add_none, Go.Al.add_zero, Nat.zero_add, Nat.add_zero, IfB_t, IfB_f, Gd_t, Gd_f, Ld_ptr, LdN_ptr, Option.isNone_some, Option.isNone_none, Option.isSome_some, Option.isSome_none, Bool.not_true, Bool.not_false, drew_cell, drew_heap, h4.r.c0]
  refine (rread_spec h4.r h4.p.wf _ _).mono ?_
  rintro _ w5 ⟨rfl, hf5⟩
  simp only [Pu_some, extV_0, extV_1, extV_2, extV_3, nilV_ptr, nilV_fn, faV_ptr, lenV_sl, lenS_s, capV_sl, pickV_t, pickV_f, unV_not, unV_neg, isB_t, isB_f, isB_u, binV_add, binV_sub, binV_mul, binV_eql, binV_neq, binV_lss, binV_leq, binV_gtr, binV_geq, binV_seql, binV_sneq, binV_slss, binV_beql, binV_bneq, binV_peql, binV_pneq, add_add, add_none, Go.Al.add_zero, Nat.zero_add, Nat.add_zero, IfB_t, IfB_f, Gd_t, Gd_f, Ld_ptr, LdN_ptr, Option.isNone_some, Option.isNone_none, Option.isSome_some, Option.isSome_none, Bool.not_true, Bool.not_false, drew_cell, drew_heap, str_size, str_nil, str_inj, decide_true, beq_self_eq_true]
  exact ⟨(by trivial), Fmf hF4 hf5⟩
end

theorem acts_cell {w : World} {v : Value} {acts : List ActT} (h : SliceAs vAct w v acts) {k : Nat} (hk : k < acts.length) : ∃ ad cs, ixV 6 v (iv k) = some (.pointer (some ad)) ∧ vAct.rel w cs acts[k] ∧ cellsV w ad 6 = some (.agg cs.toArray) := by
  obtain ⟨ad, cs, h1, h2, h3⟩ := h.at (List.getElem?_eq_getElem hk) (c := 6) (by kernel_rfl) .i64
  refine ⟨ad, cs, h1, h2, ?_⟩
  obtain ⟨hv, rfl, _⟩ := act_rel h2
  unfold cellsV
  have : ∀ i, i < 6 → w.cell? (ad.add i) = [Value.int .u8 (acts[k]).1, iv (acts[k]).2.1, iv (acts[k]).2.2.1, iv (acts[k]).2.2.2.1, .bool (acts[k]).2.2.2.2.1, hv][i]? := h3
  simp [cellsAt, this]

/-- What a list in the law's own input may not meet. -/
theorem ints_apart {w0 w : World} {v : Value} {L : List Int} (h : SliceAs vI w0 v L) {S : Nat → Prop} (hS : ∀ x, S x → w0.heap.size ≤ x) : L ≠ [] → ∀ y, blockOf v = some y → ¬ S y := by
  intro hne y hy hs
  have := (ints_in' h).1.blt (fun e => hne (List.map_eq_nil_iff.1 e)) y hy
  have := hS y hs
  omega

theorem mended_calm (how : List Int) {d : Dk} (h : d.Wf) (hc : ∀ i, Dk.isC d.chg i = false) : Dk.mended how d = d.cur := by
  apply List.ext_getElem?
  intro i
  rw [Dk.mended_get]
  split
  · rename_i hi
    rw [Dk.mend, hc i, cond_false]; exact (Dk.getD_eq hi).symm
  · rename_i hi; rw [List.getElem?_eq_none (by omega)]
/-- What is there is written: a crash behind it changes nothing. -/
theorem wr_same (d : Dk) : ∀ (l : List Bs) (i : Nat), (∀ j x, l[j]? = some x → d.cur[i + j]? = some x) → (d.wr i l).1.cur = d.cur ∧ (d.wr i l).1.old = d.old := by
  intro l
  induction l generalizing d with
  | nil => intro i _; exact ⟨rfl, rfl⟩
  | cons x l ih =>
    intro i hl
    have h0 : d.cur[i]? = some x := by have := hl 0 x rfl; rw [Nat.add_zero] at this; exact this
    have hset : d.cur.set i x = d.cur := by
      apply List.ext_getElem?
      intro j
      rw [List.getElem?_set]
      split
      · rename_i e; subst e; rw [h0, if_pos (List.getElem?_eq_some_iff.1 h0).1]
      · rfl
    have hc : (d.put i x).tick.cur = d.cur := by rw [(Dk.tick_cur _).1]; exact hset
    have ho : (d.put i x).tick.old = d.old := by rw [(Dk.tick_cur _).2.1]; rfl
    rw [Dk.wr]
    cases hg : (d.put i x).tick.gone with
    | true => simp only [hg, cond_true]; exact ⟨hc, ho⟩
    | false =>
      simp only [hg, cond_false]
      have := ih (d.put i x).tick (i + 1) (fun j y hj => by rw [hc]; have := hl (j + 1) y (by simpa using hj); rw [show i + 1 + j = i + (j + 1) by omega]; exact this)
      rw [hc, ho] at this; exact this
theorem wr_calm (d : Dk) : ∀ (l : List Bs) (i : Nat), d.armed = 0 → d.gone = false → (d.wr i l).2 = 0 ∧ (d.wr i l).1.gone = false := by
  intro l
  induction l generalizing d with
  | nil => intro i _ h; exact ⟨rfl, h⟩
  | cons x l ih =>
    intro i ha hg
    have ht : (d.put i x).tick = { d.put i x with done := IntKind.i64.wrap (d.done + 1) } := by unfold Dk.tick; rw [if_neg (by show ¬ 0 < d.armed; omega)]; rfl
    rw [Dk.wr]
    have hg2 : (d.put i x).tick.gone = false := by rw [ht]; exact hg
    simp only [hg2, cond_false]
    exact ih _ _ (by rw [ht]; exact ha) hg2
theorem chunks_flat : ∀ (l : List Bs), (∀ x ∈ l, x.length = 64) → Dk.chunks l.length l.flatten = l
  | [], _ => rfl
  | x :: l, h => by
    have hx := h x (by simp)
    rw [List.length_cons, Dk.chunks, List.flatten_cons]
    rw [List.take_append_of_le_length (by omega), List.take_of_length_le (by omega), List.drop_append, hx, Nat.sub_self, List.drop_eq_nil_of_le (by omega), List.nil_append, List.drop_zero, chunks_flat l (fun y hy => h y (by simp [hy]))]

set_option maxHeartbeats 1000000 in
theorem twice_law (w : World) (av hv gv : Value) (acts : List ActT) (how again : List Int) (ha : SliceAs vAct w av acts) (hh : SliceAs vI w hv how) (hg : SliceAs vI w gv again) :
    Cl Try.prog 6 [av, hv, gv] w fun v w' => v = .bool true ∧ Fm (fun _ => False) w w' := by
  have hal := ha.len
  unfold maxLen at hal
  refine c6 ?_
  unfold T6
  refine (dnew_spec w 12).mono ?_
  rintro _ w1 ⟨-, hok⟩
  obtain ⟨b, g, m, rfl, hb, hgb, hm, hD, hf1⟩ := hok (by decide)
  clear hok
  simp only [Pu_some, extV_0, extV_1, extV_2, extV_3, nilV_ptr, nilV_fn, faV_ptr, lenV_sl, lenS_s, capV_sl, pickV_t, pickV_f, unV_not, unV_neg, isB_t, isB_f, isB_u, binV_add, binV_sub, binV_mul, binV_eql, binV_neq, binV_lss, binV_leq, binV_gtr, binV_geq, binV_seql, binV_sneq, binV_slss, binV_beql, binV_bneq, binV_peql, binV_pneq, add_add, add_none, Go.Al.add_zero, Nat.zero_add, Nat.add_zero, IfB_t, IfB_f, Gd_t, Gd_f, Ld_ptr, LdN_ptr, Option.isNone_some, Option.isNone_none, Option.isSome_some, Option.isSome_none, Bool.not_true, Bool.not_false, drew_cell, drew_heap]
  refine (rnew_spec w1 12).mono ?_
  rintro _ w2 ⟨-, hok⟩
  obtain ⟨bx, q, rfl, hq, hR, hf2⟩ := hok (by decide)
  clear hok
  rw [show (Dk.mk0 (12 : Int).toNat) = Dk.mk0 12 from rfl] at hD hR
  have hz1 := hf1.size
  have hlt := hD.lt
  have hmine : ∀ y, bothM b g m bx q y → w.heap.size ≤ y := by
    rintro y ((rfl | rfl | rfl) | hy)
    · omega
    · omega
    · omega
    · have := hq y hy; omega
  have hbgm : ∀ y, bgm b g m y → w.heap.size ≤ y := fun y hy => hmine y (.inl hy)
  have h2 : Both w2 b g m bx q (Dk.mk0 12) := ⟨hD.keep0 hf2, hR, fun x hx hy => by
    have := hq x hy
    rcases hx with rfl | rfl | rfl <;> omega⟩
  have hF2 := Fmf hf1 hf2
  simp only [Pu_some, extV_0, extV_1, extV_2, extV_3, nilV_ptr, nilV_fn, faV_ptr, lenV_sl, lenS_s, capV_sl, pickV_t, pickV_f, unV_not, unV_neg, isB_t, isB_f, isB_u, binV_add, binV_sub, binV_mul, binV_eql, binV_neq, binV_lss, binV_leq, binV_gtr, binV_geq, binV_seql, binV_sneq, binV_slss, binV_beql, binV_bneq, binV_peql, binV_pneq, add_add, add_none, Go.Al.add_zero, Nat.zero_add, Nat.add_zero, IfB_t, IfB_f, Gd_t, Gd_f, Ld_ptr, LdN_ptr, Option.isNone_some, Option.isNone_none, Option.isSome_some, Option.isSome_none, Bool.not_true, Bool.not_false, drew_cell, drew_heap, bne_self_eq_false]
  refine ⟨fun vs w3 => ∃ (k : Nat) (d : Dk), vs = [iv k] ∧ k ≤ acts.length ∧ Both w3 b g m bx q d ∧ d.cur.length = 12 ∧ Fm (fun _ => False) w w3, fun vs _ => (acts.length - nth vs 0).toNat, ⟨0, _, rfl, by omega, h2, by simp [Dk.mk0], hF2⟩, ?_⟩
  clear h2 hD hR hF2 hf1 hf2 hz1 hlt hq hb hgb hm
  rintro _ w3 ik ⟨k, d, hvs, hk, h3, hl3, hF3⟩
  cases hvs
  have ha3 := ha.keep hF3
  simp only [Pu_some, extV_0, extV_1, extV_2, extV_3, nilV_ptr, nilV_fn, faV_ptr, lenV_sl, lenS_s, capV_sl, pickV_t, pickV_f, unV_not, unV_neg, isB_t, isB_f, isB_u, binV_add, binV_sub, binV_mul, binV_eql, binV_neq, binV_lss, binV_leq, binV_gtr, binV_geq, binV_seql, binV_sneq, binV_slss, binV_beql, binV_bneq, binV_peql, binV_pneq, add_add, add_none, Go.Al.add_zero, Nat.zero_add, Nat.add_zero, IfB_t, IfB_f, Gd_t, Gd_f, Ld_ptr, LdN_ptr, Option.isNone_some, Option.isNone_none, Option.isSome_some, Option.isSome_none, Bool.not_true, Bool.not_false, drew_cell, drew_heap, ha3.lenV]
  by_cases hlt : k < acts.length
  · have e1 : decide ((k : Int) < (acts.length : Int)) = true := by rw [decide_eq_true_eq]; omega
    have e2 : IntKind.i64.wrap ((k : Int) + 1) = ((k + 1 : Nat) : Int) := by rw [wrap_id] <;> omega
    obtain ⟨ad, cs, hix, hrel, hcv⟩ := acts_cell ha3 hlt
    obtain ⟨ad0, cs0, hix0, hrel0, hcv0⟩ := acts_cell ha hlt
    have hadd : ad = ad0 := by rw [hix] at hix0; simpa using hix0
    subst hadd
    simp only [Pu_some, extV_0, extV_1, extV_2, extV_3, nilV_ptr, nilV_fn, faV_ptr, lenV_sl, lenS_s, capV_sl, pickV_t, pickV_f, unV_not, unV_neg, isB_t, isB_f, isB_u, binV_add, binV_sub, binV_mul, binV_eql, binV_neq, binV_lss, binV_leq, binV_gtr, binV_geq, binV_seql, binV_sneq, binV_slss, binV_beql, binV_bneq, binV_peql, binV_pneq, add_add, add_none, Go.Al.add_zero, Nat.zero_add, Nat.add_zero, IfB_t, IfB_f, Gd_t, Gd_f, Ld_ptr, LdN_ptr, Option.isNone_some, Option.isNone_none, Option.isSome_some, Option.isSome_none, Bool.not_true, Bool.not_false, drew_cell, drew_heap, e1, hix, hcv]
    have hcs : cs = cs0 := by
      obtain ⟨u, rfl, _, _, hu⟩ := act_rel hrel
      obtain ⟨u0, rfl, _, _, hu0⟩ := act_rel hrel0
      have h6 : ∀ (w : World) (cs : List Value), cs.length = 6 → cellsV w ad 6 = some (.agg cs.toArray) → ∀ i, i < 6 → w.cell? (ad.add i) = cs[i]? := by
        intro w cs hl hc i hi
        unfold cellsV at hc
        rw [Option.map_eq_some_iff] at hc
        obtain ⟨l, hl1, hl2⟩ := hc
        have hll : l = cs := by
          have := congrArg Value.cells hl2
          simpa [Value.cells] using this
        subst hll
        have key : ∀ (n o : Nat) (l : List Value), cellsAt w ad o n = some l → ∀ i, i < n → w.cell? (ad.add (o + i)) = l[i]? := by
          intro n
          induction n with
          | zero => intro o l _ i hi; omega
          | succ n ih =>
            intro o l h i hi
            simp only [cellsAt] at h
            cases hc : w.cell? (ad.add o) with
            | none => simp [hc] at h
            | some v =>
              simp only [hc, Option.map_eq_some_iff] at h
              obtain ⟨l', h1, rfl⟩ := h
              cases i with
              | zero => rw [Nat.add_zero, hc]; rfl
              | succ i => rw [List.getElem?_cons_succ, ← ih (o + 1) l' h1 i (by omega)]; congr 2; omega
        have := key 6 0 l hl1 i hi
        rw [Nat.zero_add] at this; exact this
      have k5 := h6 w3 _ rfl hcv 5 (by omega)
      have k50 := h6 w _ rfl hcv0 5 (by omega)
      have := hF3.cell' k50 (fun e => e)
      rw [k5] at this
      have := Option.some.inj this
      try simp only [List.getElem_cons_succ, List.getElem_cons_zero] at this
      rw [this]
    subst hcs
    refine (does_spec h3 hrel0 hF3 hmine).mono ?_
    rintro _ w4 ⟨rfl, d', h4, hf4, hl4⟩
    simp only [Pu_some, extV_0, extV_1, extV_2, extV_3, nilV_ptr, nilV_fn, faV_ptr, lenV_sl, lenS_s, capV_sl, pickV_t, pickV_f, unV_not, unV_neg, isB_t, isB_f, isB_u, binV_add, binV_sub, binV_mul, binV_eql, binV_neq, binV_lss, binV_leq, binV_gtr, binV_geq, binV_seql, binV_sneq, binV_slss, binV_beql, binV_bneq, binV_peql, binV_pneq, add_add, add_none, Go.Al.add_zero, Nat.zero_add, Nat.add_zero, IfB_t, IfB_f, Gd_t, Gd_f, Ld_ptr, LdN_ptr, Option.isNone_some, Option.isNone_none, Option.isSome_some, Option.isSome_none, Bool.not_true, Bool.not_false, drew_cell, drew_heap, e2]
    exact ⟨⟨k + 1, d', rfl, by omega, h4, by omega, Fm.own hF3 hf4 hmine⟩, by simp only [nth_0]; omega⟩
  · have hke : k = acts.length := by omega
    subst hke
    have e1 : decide (((acts.length : Nat) : Int) < (acts.length : Int)) = false := by simp
    simp only [Pu_some, extV_0, extV_1, extV_2, extV_3, nilV_ptr, nilV_fn, faV_ptr, lenV_sl, lenS_s, capV_sl, pickV_t, pickV_f, unV_not, unV_neg, isB_t, isB_f, isB_u, binV_add, binV_sub, binV_mul, binV_eql, binV_neq, binV_lss, binV_leq, binV_gtr, binV_geq, binV_seql, binV_sneq, binV_slss, binV_beql, binV_bneq, binV_peql, binV_pneq, add_add, add_none, Go.Al.add_zero, Nat.zero_add, Nat.add_zero, IfB_t, IfB_f, Gd_t, Gd_f, Ld_ptr, LdN_ptr, Option.isNone_some, Option.isNone_none, Option.isSome_some, Option.isSome_none, Bool.not_true, Bool.not_false, drew_cell, drew_heap, e1]
    obtain ⟨hhc, hhr, _⟩ := ints_in' hh
    obtain ⟨hgc, hgr, _⟩ := ints_in' hg
    have out : ∀ {L : List Int} {v : Value}, SliceAs vI w v L → L ≠ [] → ∀ y, blockOf v = some y → y ≠ b ∧ y ≠ g ∧ y ≠ m := fun {L v} hs hne y hy => by
      have := ints_apart (w := w) hs hbgm hne y hy
      refine ⟨fun e => this (.inl e), fun e => this (.inr (.inl e)), fun e => this (.inr (.inr e))⟩
    refine (crash_spec h3.p (hhc.keepAny hF3 (fun _ _ _ e => e)) (out hh) hhr).mono ?_
    rintro _ w4 ⟨rfl, hD4, hf4⟩
    have hF4 := Fm.own hF3 hf4 hbgm
    have hl4 : (d.crash how).cur.length = 12 := by show (Dk.mended how d).length = _; rw [Dk.mended_len, hl3]
    have hc4 : ∀ i, Dk.isC (d.crash how).chg i = false := fun i => Dk.isC_rep _ _
    have hg4 : (d.crash how).gone = false := rfl
    have ha4 : (d.crash how).armed = 0 := rfl
    have ho4 : (d.crash how).old = (d.crash how).cur := rfl
    clear h3 hl3
    generalize d.crash how = e at hD4 hl4 hc4 hg4 ha4 ho4
    have rd : ∀ {e : Dk}, e.cur.length = 12 → e.gone = false → e.read 0 12 = (e.cur.flatten, 0) := fun {e} hl hg => by
      unfold Dk.read
      have : e.has 0 12 = true := by unfold Dk.has; rw [hl]; rfl
      rw [hg, this]
      simp only [cond_false, Bool.not_true]
      rw [show ((0 : Int).toNat) = 0 from rfl, show ((12 : Int).toNat) = 12 from rfl, List.drop_zero, List.take_of_length_le (by omega)]
    refine (read_spec hD4 0 12).mono ?_
    rintro _ w4 ⟨rfl, rfl⟩
    rw [rd hl4 hg4]
    simp only [Pu_some, extV_0, extV_1, extV_2, extV_3, nilV_ptr, nilV_fn, faV_ptr, lenV_sl, lenS_s, capV_sl, pickV_t, pickV_f, unV_not, unV_neg, isB_t, isB_f, isB_u, binV_add, binV_sub, binV_mul, binV_eql, binV_neq, binV_lss, binV_leq, binV_gtr, binV_geq, binV_seql, binV_sneq, binV_slss, binV_beql, binV_bneq, binV_peql, binV_pneq, add_add, add_none, Go.Al.add_zero, Nat.zero_add, Nat.add_zero, IfB_t, IfB_f, Gd_t, Gd_f, Ld_ptr, LdN_ptr, Option.isNone_some, Option.isNone_none, Option.isSome_some, Option.isSome_none, Bool.not_true, Bool.not_false, drew_cell, drew_heap]
    refine (crash_spec hD4 (hgc.keepAny hF4 (fun _ _ _ e => e)) (out hg) hgr).mono ?_
    rintro _ w5 ⟨rfl, hD5, hf5⟩
    have hF5 := Fm.own hF4 hf5 hbgm
    have hm5 : Dk.mended again e = e.cur := mended_calm again hD4.wf hc4
    have hcr : e.crash again = { e with old := e.cur, chg := List.replicate e.cur.length false } := by
      unfold Dk.crash; rw [hm5, ← hg4, ← ha4]
    have hc5 : (e.crash again).cur = e.cur := by rw [hcr]
    have hl5 : (e.crash again).cur.length = 12 := by rw [hc5, hl4]
    have hg5 : (e.crash again).gone = false := rfl
    have ha5 : (e.crash again).armed = 0 := rfl
    have ho5 : (e.crash again).old = (e.crash again).cur := rfl
    refine (read_spec hD5 0 12).mono ?_
    rintro _ w5 ⟨rfl, rfl⟩
    rw [rd hl5 hg5, hc5]
    simp only [Pu_some, extV_0, extV_1, extV_2, extV_3, nilV_ptr, nilV_fn, faV_ptr, lenV_sl, lenS_s, capV_sl, pickV_t, pickV_f, unV_not, unV_neg, isB_t, isB_f, isB_u, binV_add, binV_sub, binV_mul, binV_eql, binV_neq, binV_lss, binV_leq, binV_gtr, binV_geq, binV_seql, binV_sneq, binV_slss, binV_beql, binV_bneq, binV_peql, binV_pneq, add_add, add_none, Go.Al.add_zero, Nat.zero_add, Nat.add_zero, IfB_t, IfB_f, Gd_t, Gd_f, Ld_ptr, LdN_ptr, Option.isNone_some, Option.isNone_none, Option.isSome_some, Option.isSome_none, Bool.not_true, Bool.not_false, drew_cell, drew_heap]
    have hfl := Dk.flat_len hD4.wf.s1
    rw [hl4] at hfl
    refine (write_spec hD5 0 e.cur.flatten (by omega)).mono ?_
    rintro _ w6 ⟨rfl, hD6, hf6⟩
    have hF6 := Fm.own hF5 hf6 hbgm
    have hwr : (e.crash again).write 0 e.cur.flatten = (e.crash again).wr 0 e.cur := by
      unfold Dk.write
      have hh : (e.crash again).has 0 12 = true := by unfold Dk.has; rw [hl5]; rfl
      have hch := chunks_flat e.cur hD4.wf.s1
      rw [hl4] at hch
      rw [hg5, hfl, show ((64 * 12 / 64 : Nat) : Int) = 12 from rfl, hh, show 64 * 12 / 64 = 12 from rfl, hch]; rfl
    rw [hwr] at hD6 ⊢
    obtain ⟨c6, o6⟩ := wr_same (e.crash again) e.cur 0 (fun j x hj => by rw [Nat.zero_add, hc5]; exact hj)
    obtain ⟨v6, g6⟩ := wr_calm (e.crash again) e.cur 0 ha5 hg5
    rw [v6]
    have hwf6 := hD6.wf
    generalize ((e.crash again).wr 0 e.cur).1 = f at hD6 c6 o6 g6 hwf6
    try simp only [Pu_some, extV_0, extV_1, extV_2, extV_3, nilV_ptr, nilV_fn, faV_ptr, lenV_sl, lenS_s, capV_sl, pickV_t, pickV_f, unV_not, unV_neg, isB_t, isB_f, isB_u, binV_add, binV_sub, binV_mul, binV_eql, binV_neq, binV_lss, binV_leq, binV_gtr, binV_geq, binV_seql, binV_sneq, binV_slss, binV_beql, binV_bneq, binV_peql, binV_pneq, add_add, add_none, Go.Al.add_zero, Nat.zero_add, Nat.add_zero, IfB_t, IfB_f, Gd_t, Gd_f, Ld_ptr, LdN_ptr, Option.isNone_some, Option.isNone_none, Option.isSome_some, Option.isSome_none, Bool.not_true, Bool.not_false, drew_cell, drew_heap]
    refine (crash_spec hD6 (hgc.keepAny hF6 (fun _ _ _ e => e)) (out hg) hgr).mono ?_
    rintro _ w7 ⟨rfl, hD7, hf7⟩
    have hF7 := Fm.own hF6 hf7 hbgm
    have hm7 : Dk.mended again f = e.cur := by
      apply List.ext_getElem?
      intro i
      have hfe : f.cur = e.cur := by rw [c6, hc5]
      have hoe : f.old = e.cur := by rw [o6, ho5, hc5]
      rw [Dk.mended_get]
      split
      · rename_i hi
        rw [hfe] at hi
        have he64 := hD4.wf.cur64 hi
        rw [Dk.mend, hfe, hoe]
        have : Dk.torn (Dk.fate again (Dk.rank f.chg i)) (e.cur.getD i []) (e.cur.getD i []) = e.cur.getD i [] := by rw [Dk.torn, List.take_append_drop]
        rw [this]
        cases Dk.isC f.chg i <;> exact (Dk.getD_eq hi).symm
      · rename_i hi; rw [hfe] at hi; rw [List.getElem?_eq_none (by omega)]
    have hc7 : (f.crash again).cur = e.cur := hm7
    refine (read_spec hD7 0 12).mono ?_
    rintro _ w7 ⟨rfl, rfl⟩
    rw [rd (by rw [hc7, hl4]) rfl, hc7]
    simp only [Pu_some, extV_0, extV_1, extV_2, extV_3, nilV_ptr, nilV_fn, faV_ptr, lenV_sl, lenS_s, capV_sl, pickV_t, pickV_f, unV_not, unV_neg, isB_t, isB_f, isB_u, binV_add, binV_sub, binV_mul, binV_eql, binV_neq, binV_lss, binV_leq, binV_gtr, binV_geq, binV_seql, binV_sneq, binV_slss, binV_beql, binV_bneq, binV_peql, binV_pneq, add_add, add_none, Go.Al.add_zero, Nat.zero_add, Nat.add_zero, IfB_t, IfB_f, Gd_t, Gd_f, Ld_ptr, LdN_ptr, Option.isNone_some, Option.isNone_none, Option.isSome_some, Option.isSome_none, Bool.not_true, Bool.not_false, drew_cell, drew_heap]
    refine (awake_spec w7).mono ?_
    rintro _ w8 ⟨rfl, hf8⟩
    simp only [Pu_some, extV_0, extV_1, extV_2, extV_3, nilV_ptr, nilV_fn, faV_ptr, lenV_sl, lenS_s, capV_sl, pickV_t, pickV_f, unV_not, unV_neg, isB_t, isB_f, isB_u, binV_add, binV_sub, binV_mul, binV_eql, binV_neq, binV_lss, binV_leq, binV_gtr, binV_geq, binV_seql, binV_sneq, binV_slss, binV_beql, binV_bneq, binV_peql, binV_pneq, add_add, add_none, Go.Al.add_zero, Nat.zero_add, Nat.add_zero, IfB_t, IfB_f, Gd_t, Gd_f, Ld_ptr, LdN_ptr, Option.isNone_some, Option.isNone_none, Option.isSome_some, Option.isSome_none, Bool.not_true, Bool.not_false, drew_cell, drew_heap, str_size, str_nil, str_inj, decide_true, beq_self_eq_true]
    exact ⟨(by trivial), Fmf hF7 hf8⟩

end Go.Proofs.Ythgdinjgdjiknaa
