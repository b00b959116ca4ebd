/- What the document's answer for layer 10 does: taking a key, letting go. -/
import Derived.Test.YtgknklnbcjjlkaaLocksRef
namespace Go.Proofs.Ytgknklnbcjjlkaa
open Go.Al Go.Proofs
set_option linter.unusedVariables false
set_option linter.unusedSimpArgs false
set_option linter.unusedSectionVars false

section
variable {H : HL} {W : WL} {hs ws : QL}
theorem QRel.wlen (h : QRel H W hs ws) : W.length = ws.length := by
  have := congrArg List.length h.waiting
  rw [len_wk, List.length_map] at this; exact this
end

theorem round_spec {w : World} {base rb : Nat} {H : HL} {W : WL} {hs ws : QL} (h : IsQ w base rb hs ws) (hr : QRel H W hs ws) (hS : Sound H W) (h1 : hs.length < 4611686018427387904) (h2 : ws.length < 4611686018427387904) (who from_ : Int) :
    Cl Try.prog 48 [.pointer (some ⟨rb, 0, none⟩), jv who, jv from_] w fun v w' => ∃ r : Bool, v = .bool r ∧ (r = true ↔ Chain H W from_ who) ∧ w' = w := by
  obtain ⟨hv, wv, hb, hho, ho⟩ := h.ex
  obtain ⟨f, hrank⟩ := hS.rank
  refine c48 ?_
  unfold T48
  have c0 : w.cell? ⟨rb, 1, none⟩ = some wv := by rw [cell_at hb]; rfl
  have hlv := (CellsAt.of_own ho).lenV
  refine ⟨fun vs w2 => ∃ (p : Int) (vis : List Int), vs = [jv p, jv vis.length] ∧ w2 = w ∧ vis.Nodup ∧ (∀ v ∈ vis, (getD W v).isSome = true) ∧ (∀ v ∈ vis, f p < f v) ∧ (Chain H W from_ who ↔ Chain H W p who), fun vs _ => f (nth vs 0), ⟨from_, [], rfl, rfl, List.nodup_nil, by simp, by simp, Iff.rfl⟩, ?_⟩
  rintro g w2 _ _ ⟨p, vis, ⟨⟩, rfl, hvn, hvw, hvf, hiff⟩
  have hvl : vis.length ≤ (sortK W).length := len_sub hvn fun y hy => mem_wk.2 (hvw y hy)
  rw [len_wk, hr.wlen] at hvl
  have e1 : decide ((vis.length : Int) ≤ (ws.length : Int)) = true := by simpa using hvl
  simp only [Pu_some, extV_0, extV_1, extV_2, extV_3, nilV_ptr, nilV_fn, faV_ptr, lenV_sl, lenS_s, capV_sl, pickV_t, pickV_f, unV_not, unV_neg, isB_t, isB_f, isB_u, binV_add, binV_sub, binV_mul, binV_eql, binV_neq, binV_lss, binV_leq, binV_gtr, binV_geq, binV_seql, binV_sneq, binV_slss, binV_beql, binV_bneq, binV_peql, binV_pneq, add_add, add_none, Go.Al.add_zero, Nat.zero_add, Nat.add_zero, IfB_t, IfB_f, Gd_t, Gd_f, Ld_ptr, LdN_ptr, Option.isNone_some, Option.isNone_none, Option.isSome_some, Option.isSome_none, Bool.not_true, Bool.not_false, drew_cell, drew_heap, c0, hlv, e1]
  by_cases hpw : p = who
  · have e2 : (p == who) = true := by simpa using hpw
    simp only [Pu_some, extV_0, extV_1, extV_2, extV_3, nilV_ptr, nilV_fn, faV_ptr, lenV_sl, lenS_s, capV_sl, pickV_t, pickV_f, unV_not, unV_neg, isB_t, isB_f, isB_u, binV_add, binV_sub, binV_mul, binV_eql, binV_neq, binV_lss, binV_leq, binV_gtr, binV_geq, binV_seql, binV_sneq, binV_slss, binV_beql, binV_bneq, binV_peql, binV_pneq, add_add, add_none, Go.Al.add_zero, Nat.zero_add, Nat.add_zero, IfB_t, IfB_f, Gd_t, Gd_f, Ld_ptr, LdN_ptr, Option.isNone_some, Option.isNone_none, Option.isSome_some, Option.isSome_none, Bool.not_true, Bool.not_false, drew_cell, drew_heap, e2]
    exact ⟨true, rfl, by rw [hiff, hpw]; exact ⟨fun _ => .here _, fun _ => rfl⟩, trivial⟩
  · have e2 : (p == who) = false := by simpa using hpw
    simp only [Pu_some, extV_0, extV_1, extV_2, extV_3, nilV_ptr, nilV_fn, faV_ptr, lenV_sl, lenS_s, capV_sl, pickV_t, pickV_f, unV_not, unV_neg, isB_t, isB_f, isB_u, binV_add, binV_sub, binV_mul, binV_eql, binV_neq, binV_lss, binV_leq, binV_gtr, binV_geq, binV_seql, binV_sneq, binV_slss, binV_beql, binV_bneq, binV_peql, binV_pneq, add_add, add_none, Go.Al.add_zero, Nat.zero_add, Nat.add_zero, IfB_t, IfB_f, Gd_t, Gd_f, Ld_ptr, LdN_ptr, Option.isNone_some, Option.isNone_none, Option.isSome_some, Option.isSome_none, Bool.not_true, Bool.not_false, drew_cell, drew_heap, e2]
    refine (qfor_spec h h2 p).mono ?_
    rintro _ w2 ⟨rfl, rfl⟩
    rw [qfor, hr.for]
    cases hg : getD W p with
    | none =>
      simp only [Pu_some, extV_0, extV_1, extV_2, extV_3, nilV_ptr, nilV_fn, faV_ptr, lenV_sl, lenS_s, capV_sl, pickV_t, pickV_f, unV_not, unV_neg, isB_t, isB_f, isB_u, binV_add, binV_sub, binV_mul, binV_eql, binV_neq, binV_lss, binV_leq, binV_gtr, binV_geq, binV_seql, binV_sneq, binV_slss, binV_beql, binV_bneq, binV_peql, binV_pneq, add_add, add_none, Go.Al.add_zero, Nat.zero_add, Nat.add_zero, IfB_t, IfB_f, Gd_t, Gd_f, Ld_ptr, LdN_ptr, Option.isNone_some, Option.isNone_none, Option.isSome_some, Option.isSome_none, Bool.not_true, Bool.not_false, drew_cell, drew_heap]
      refine ⟨false, rfl, ?_, trivial⟩
      rw [hiff]
      constructor
      · intro e; cases e
      · intro c
        cases c with
        | here => exact absurd rfl hpw
        | step e _ => obtain ⟨k, h1, _⟩ := e; rw [hg] at h1; cases h1
    | some key =>
      simp only [Pu_some, extV_0, extV_1, extV_2, extV_3, nilV_ptr, nilV_fn, faV_ptr, lenV_sl, lenS_s, capV_sl, pickV_t, pickV_f, unV_not, unV_neg, isB_t, isB_f, isB_u, binV_add, binV_sub, binV_mul, binV_eql, binV_neq, binV_lss, binV_leq, binV_gtr, binV_geq, binV_seql, binV_sneq, binV_slss, binV_beql, binV_bneq, binV_peql, binV_pneq, add_add, add_none, Go.Al.add_zero, Nat.zero_add, Nat.add_zero, IfB_t, IfB_f, Gd_t, Gd_f, Ld_ptr, LdN_ptr, Option.isNone_some, Option.isNone_none, Option.isSome_some, Option.isSome_none, Bool.not_true, Bool.not_false, drew_cell, drew_heap, Option.getD_some]
      refine (qholder_spec h h1 key).mono ?_
      rintro _ w2 ⟨rfl, rfl⟩
      rw [qholder, hr.get]
      have hh := hS.held p key hg
      cases hk : getD H key with
      | none => rw [hk] at hh; cases hh
      | some q =>
        have he : Edge H W p q := ⟨key, hg, hk⟩
        have hqp := hrank p q he
        have hpn : p ∉ vis := fun hp => by have := hvf p hp; omega
        simp only [Pu_some, extV_0, extV_1, extV_2, extV_3, nilV_ptr, nilV_fn, faV_ptr, lenV_sl, lenS_s, capV_sl, pickV_t, pickV_f, unV_not, unV_neg, isB_t, isB_f, isB_u, binV_add, binV_sub, binV_mul, binV_eql, binV_neq, binV_lss, binV_leq, binV_gtr, binV_geq, binV_seql, binV_sneq, binV_slss, binV_beql, binV_bneq, binV_peql, binV_pneq, add_add, add_none, Go.Al.add_zero, Nat.zero_add, Nat.add_zero, IfB_t, IfB_f, Gd_t, Gd_f, Ld_ptr, LdN_ptr, Option.isNone_some, Option.isNone_none, Option.isSome_some, Option.isSome_none, Bool.not_true, Bool.not_false, drew_cell, drew_heap, Option.getD_some, wrap_succ (i := vis.length) (by omega)]
        refine ⟨⟨q, p :: vis, rfl, trivial, List.nodup_cons.2 ⟨hpn, hvn⟩, fun v hv => ?_, fun v hv => ?_, hiff.trans ⟨fun c => c.next he hpw, fun c => .step he c⟩⟩, by simp only [nth_0]; exact hqp⟩
        · rcases List.mem_cons.1 hv with rfl | hv
          · rw [hg]; rfl
          · exact hvw v hv
        · rcases List.mem_cons.1 hv with rfl | hv
          · exact hqp
          · have := hvf v hv; omega

/-- One more element, at place i: 'l = append(nil, x[:i]...); l = append(l, e); x = append(l, x[i:]...)'. -/
theorem ins_chain {w : World} {base rb j : Nat} {hv wv v : Value} {R : QL} (hb : w.heap[rb]? = some (.cells #[hv, wv] 54)) (hj : j < 2) (hvj : #[hv, wv][j]? = some v) (ho : RowQ w base v R) (hsz : (R.length + 1) * 24 ≤ 140737488355328) {i : Nat} (hi : i ≤ R.length) (p : ByteArray) (r : Int) {k : World → Prop}
    (hk : ∀ u w', w'.heap[rb]? = some (.cells (#[hv, wv].setIfInBounds j u) 54) → RowQ w' w.heap.size u (R.take i ++ (p, r) :: R.drop i) → Fm (· = rb) w w' → k w') :
    Pu (slV 2 v none (some (jv (i : Nat))) none) fun t38 =>
      RunS Try.prog (Builtin.append_ #[52, 52] 52 #[(Value.slice none 0 0), t38]) w fun t39 w64 =>
      RunS Try.prog (Instr.build 84 #[(0, sv p), (1, jv r)]) w64 fun t43 w66 =>
      RunS Try.prog (Instr.buildSlice 52 1 #[(0, t43)]) w66 fun t44 w68 =>
      RunS Try.prog (Builtin.append_ #[52, 52] 52 #[t39, t44]) w68 fun t45 w70 =>
      Ld w70 (.pointer (some ⟨rb, j, none⟩)) fun t51 w74 =>
      Pu (slV 2 t51 (some (jv (i : Nat))) none none) fun t53 =>
      RunS Try.prog (Builtin.append_ #[52, 52] 52 #[t45, t53]) w74 fun t54 w77 =>
      St 1 w77 (.pointer (some ⟨rb, j, none⟩)) t54 fun _ w81 => k w81 := by
  obtain ⟨v1, hs1, hc1, hb1⟩ := (CellsAt.of_own ho).hi hi .i64
  obtain ⟨u1, w3, hr1, ho1, hf3, _⟩ := append_src E52 (by omega) (World.ownsRow_nil w w.heap.size 84 2) hc1 (by rw [flq_take]; exact flq_one) 52 (by have := (CellsAt.of_own ho).lt; omega) (by omega) (Nat.le_refl _)
  rw [List.nil_append, flq_take, Nat.zero_add] at ho1
  rw [hs1]
  simp only [Pu_some, extV_0, extV_1, extV_2, extV_3, nilV_ptr, nilV_fn, faV_ptr, lenV_sl, lenS_s, capV_sl, pickV_t, pickV_f, unV_not, unV_neg, isB_t, isB_f, isB_u, binV_add, binV_sub, binV_mul, binV_eql, binV_neq, binV_lss, binV_leq, binV_gtr, binV_geq, binV_seql, binV_sneq, binV_slss, binV_beql, binV_bneq, binV_peql, binV_pneq, add_add, add_none, Go.Al.add_zero, Nat.zero_add, Nat.add_zero, IfB_t, IfB_f, Gd_t, Gd_f, Ld_ptr, LdN_ptr, Option.isNone_some, Option.isNone_none, Option.isSome_some, Option.isSome_none, Bool.not_true, Bool.not_false, drew_cell, drew_heap]
  refine RunS_ok hr1 (RunS_ok (bld84 p r w3) ?_)
  have hz3 := hf3.size
  refine append_el E52 (by omega) 52 (cs := [sv p, jv r]) rfl (bs52 _ _ _) (by intro u hu; simp at hu; rcases hu with rfl | rfl <;> rfl) ho1 (by unfold maxLen; omega) (by omega) hf3.size ?_
  intro u2 w4 ho2 hne hf4
  have hf24 : Fm (fun _ => False) w w4 := hf3.trans hf4 (fun x hx e => by omega) (fun x hx e => by omega)
  have hb4 := hf24.heap hb (fun e => e)
  have ho4 := own_keep ho hf24 (fun k hk hk' _ => fun e => e)
  have c4 : w4.cell? ⟨rb, j, none⟩ = some v := by rw [cell_at hb4, hvj]
  obtain ⟨v2, hs2, hc2, hb2⟩ := (CellsAt.of_own ho4).lo hi .i64
  simp only [Pu_some, extV_0, extV_1, extV_2, extV_3, nilV_ptr, nilV_fn, faV_ptr, lenV_sl, lenS_s, capV_sl, pickV_t, pickV_f, unV_not, unV_neg, isB_t, isB_f, isB_u, binV_add, binV_sub, binV_mul, binV_eql, binV_neq, binV_lss, binV_leq, binV_gtr, binV_geq, binV_seql, binV_sneq, binV_slss, binV_beql, binV_bneq, binV_peql, binV_pneq, add_add, add_none, Go.Al.add_zero, Nat.zero_add, Nat.add_zero, IfB_t, IfB_f, Gd_t, Gd_f, Ld_ptr, LdN_ptr, Option.isNone_some, Option.isNone_none, Option.isSome_some, Option.isSome_none, Bool.not_true, Bool.not_false, drew_cell, drew_heap, c4, hs2]
  obtain ⟨u3, w5, hr3, ho3, hf5, _⟩ := append_src E52 (by omega) ho2 hc2 (by rw [flq_drop]; exact flq_one) 52 (by unfold maxLen; omega) (by omega) (Nat.le_trans hz3 hf4.size)
  have hz4 := hf4.size
  refine RunS_ok hr3 ?_
  have hf25 : Fm (fun _ => False) w w5 := hf24.trans hf5 (fun x hx e => e) (fun x hx e => by omega)
  have hb5 := hf25.heap hb (fun e => e)
  refine St_blk hb5 (by simpa using hj) (own_one ho3) ?_
  intro w6 hw6 hs6 hf6
  have hF := hf25.trans hf6 (U := (· = rb)) (fun _ _ e => e.elim) (fun _ _ e => e)
  have hrl := lt_of_heap hb
  have ho6 := own_keep ho3 hf6 (fun k hk _ _ => by omega)
  refine hk u3 w6 hw6 ?_ hF
  have e1 : i + 1 + (R.length - i) = (R.take i ++ (p, r) :: R.drop i).length := by
    simp only [List.length_append, List.length_cons, List.length_take, List.length_drop]; omega
  have e2 : flq (R.take i) ++ [sv p, jv r] ++ (flq R).drop (i * 2) = flq (R.take i ++ (p, r) :: R.drop i) := by
    rw [flq_append, flq_drop, List.append_assoc]; rfl
  rw [e1, e2] at ho6
  exact ho6

/-- Where something stands or would stand. -/
def pos (f : ByteArray × Int → Bool) : QL → Nat
  | [] => 0
  | q :: R => if f q = true then pos f R + 1 else 0
theorem pos_le (f : ByteArray × Int → Bool) (R : QL) : pos f R ≤ R.length := by
  induction R with
  | nil => simp [pos]
  | cons q R ih => rw [pos]; split <;> simp; exact ih
theorem pos_before {f : ByteArray × Int → Bool} {R : QL} {i : Nat} (h : i < pos f R) {q : ByteArray × Int} (hq : R[i]? = some q) : f q = true := by
  induction R generalizing i with
  | nil => simp at hq
  | cons x R ih =>
    rw [pos] at h
    split at h
    · rename_i hx
      cases i with
      | zero => simp at hq; subst hq; exact hx
      | succ i => exact ih (i := i) (by omega) (by simpa using hq)
    · omega
theorem pos_stop {f : ByteArray × Int → Bool} {R : QL} {q : ByteArray × Int} (h : R[pos f R]? = some q) : f q = false := by
  induction R with
  | nil => simp at h
  | cons x R ih =>
    rw [pos] at h
    split at h
    · exact ih (by simpa using h)
    · rename_i hx; simp at h; subst h; simpa using hx
def ins (f : ByteArray × Int → Bool) (R : QL) (x : ByteArray × Int) : QL := R.take (pos f R) ++ x :: R.drop (pos f R)
theorem ins_memq (f : ByteArray × Int → Bool) (T : QL) (x q : ByteArray × Int) : q ∈ ins f T x ↔ q = x ∨ q ∈ T := by
  have := List.take_append_drop (pos f T) T
  unfold ins
  constructor
  · intro hq
    rcases List.mem_append.1 hq with hq | hq
    · exact .inr (List.mem_of_mem_take hq)
    · rcases List.mem_cons.1 hq with e | hq
      · exact .inl e
      · exact .inr (List.mem_of_mem_drop hq)
  · rintro (rfl | hq)
    · simp
    · rw [← this] at hq
      rcases List.mem_append.1 hq with hq | hq
      · exact List.mem_append_left _ hq
      · exact List.mem_append_right _ (List.mem_cons_of_mem _ hq)
theorem ins_pw {lt : ByteArray × Int → ByteArray × Int → Prop} (htr : ∀ a b c, lt a b → lt b c → lt a c) {f : ByteArray × Int → Bool} {x : ByteArray × Int} {T : QL} (h : T.Pairwise lt) (hf : ∀ q ∈ T, (f q = true → lt q x) ∧ (f q = false → lt x q)) : (ins f T x).Pairwise lt := by
  induction T with
  | nil => simp [ins, pos]
  | cons y T ih =>
    have h' := List.pairwise_cons.1 h
    have hy := hf y (by simp)
    have e : ins f (y :: T) x = if f y = true then y :: ins f T x else x :: y :: T := by
      unfold ins; rw [pos]; split <;> simp
    rw [e]
    split
    · rename_i hfy
      rw [List.pairwise_cons]
      refine ⟨fun z hz => ?_, ih h'.2 (fun q hq => hf q (by simp [hq]))⟩
      rcases (ins_memq f T x z).1 hz with rfl | hz
      · exact hy.1 hfy
      · exact h'.1 z hz
    · rename_i hfy
      have hxy := hy.2 (by simpa using hfy)
      rw [List.pairwise_cons]
      refine ⟨fun z hz => ?_, h⟩
      rcases List.mem_cons.1 hz with rfl | hz
      · exact hxy
      · exact htr _ _ _ hxy (h'.1 z hz)

end Go.Proofs.Ytgknklnbcjjlkaa
