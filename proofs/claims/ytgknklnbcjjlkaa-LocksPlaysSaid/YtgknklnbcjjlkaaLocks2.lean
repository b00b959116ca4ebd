/- What the functions of package locks do: letting go, what one holds, who waits. -/
import Derived.Test.YtgknklnbcjjlkaaLocks
import Derived.Test.YtgknklnbcjjlkaaSorts
import Derived.Test.YtgknklnbcjjlkaaAlSl
namespace Go.Proofs.Ytgknklnbcjjlkaa
open Go.Al Go.Proofs
set_option linter.unusedVariables false
set_option linter.unusedSimpArgs false
set_option linter.unusedSectionVars false

theorem Fmf {a b c : World} (h : Fm (fun _ => False) a b) (k : Fm (fun _ => False) b c) : Fm (fun _ => False) a c := h.trans k (fun _ _ e => e) (fun _ _ e => e)
theorem mem_erase {α : Type} {l : List α} (hn : l.Nodup) {i : Nat} {p : α} (hi : l[i]? = some p) (q : α) : q ∈ l.eraseIdx i ↔ q ∈ l ∧ q ≠ p := by
  induction l generalizing i with
  | nil => simp at hi
  | cons x l ih =>
    rw [List.nodup_cons] at hn
    cases i with
    | zero =>
      simp at hi; subst hi
      rw [List.eraseIdx_cons_zero, List.mem_cons]
      constructor
      · intro h; exact ⟨.inr h, fun e => hn.1 (by rw [← e]; exact h)⟩
      · rintro ⟨h | h, hne⟩
        · exact absurd h hne
        · exact h
    | succ i =>
      have hi' : l[i]? = some p := by simpa using hi
      rw [List.eraseIdx_cons_succ, List.mem_cons, List.mem_cons, ih hn.2 hi']
      constructor
      · rintro (rfl | ⟨h, hne⟩)
        · exact ⟨.inl rfl, fun e => hn.1 (by rw [e]; exact List.mem_of_getElem? hi')⟩
        · exact ⟨.inr h, hne⟩
      · rintro ⟨rfl | h, hne⟩
        · exact .inl rfl
        · exact .inr ⟨h, hne⟩
theorem nodup_erase {α : Type} {l : List α} (hn : l.Nodup) (i : Nat) : (l.eraseIdx i).Nodup := hn.sublist (List.eraseIdx_sublist _ _)
theorem len_erase {α : Type} {l : List α} {i : Nat} {p : α} (hi : l[i]? = some p) : (l.eraseIdx i).length + 1 = l.length := by
  obtain ⟨hlt, _⟩ := List.getElem?_eq_some_iff.1 hi
  rw [List.length_eraseIdx]; simp [hlt]; omega
theorem nodup_pairs {α β : Type} {D : List (α × β)} (h : (D.map (·.1)).Nodup) : D.Nodup := by
  rw [List.Nodup, List.pairwise_map] at h
  exact h.imp fun hne e => hne (by rw [e])
theorem key_fn {α β : Type} {D : List (α × β)} (h : (D.map (·.1)).Nodup) {p q : α × β} (hp : p ∈ D) (hq : q ∈ D) (e : p.1 = q.1) : p = q := by
  induction D with
  | nil => simp at hp
  | cons x D ih =>
    rw [List.map_cons, List.nodup_cons] at h
    rcases List.mem_cons.1 hp with hpx | hp
    · rcases List.mem_cons.1 hq with hqx | hq
      · rw [hpx, hqx]
      · exact absurd (List.mem_map.2 ⟨q, hq, e.symm.trans (by rw [hpx])⟩) h.1
    · rcases List.mem_cons.1 hq with hqx | hq
      · exact absurd (List.mem_map.2 ⟨p, hp, e.trans (by rw [hqx])⟩) h.1
      · exact ih h.2 hp hq

theorem F35 : ElemT Try.prog 35 3 1 8 := elemT_of Try.underlying35 (by kernel_rfl)
theorem F58 : ElemT Try.prog 58 9 1 16 := elemT_of Try.underlying58 (by kernel_rfl)
theorem is35 (p : Int) (w : World) : (Instr.buildSlice 35 1 #[(0, jv p)]).run Try.prog w = .ok (.slice (some ⟨w.heap.size, 0, none⟩) 1 1) (w.alloc (.cells #[jv p] 3)) := by kernel_rfl
theorem is58 (p : ByteArray) (w : World) : (Instr.buildSlice 58 1 #[(0, sv p)]).run Try.prog w = .ok (.slice (some ⟨w.heap.size, 0, none⟩) 1 1) (w.alloc (.cells #[sv p] 9)) := by kernel_rfl

/-- What Waiting answers. -/
theorem waiting_spec {w : World} {b bh bw : Nat} {H : HL} {W : WL} (h : IsT w b bh bw H W) (hwf : ∀ p ∈ W, (Lit.int .i64 p.1).wf = true) (hsz : W.length * 8 ≤ 140737488355328) :
    Cl Try.prog 39 [.pointer (some ⟨b, 0, none⟩)] w fun v w' => w'.ownsRow w.heap.size 3 1 v W.length ((sortK W).map jv) ∧ (v = .slice none 0 0 ↔ W = []) ∧ Fm (fun _ => False) w w' := by
  refine c39 ?_; unfold T39
  simp only [Pu_some, extV_0, extV_1, extV_2, extV_3, nilV_ptr, nilV_fn, faV_ptr, lenV_sl, lenS_s, capV_sl, pickV_t, pickV_f, unV_not, unV_neg, isB_t, isB_f, isB_u, binV_add, binV_sub, binV_mul, binV_eql, binV_neq, binV_lss, binV_leq, binV_gtr, binV_geq, binV_seql, binV_sneq, binV_slss, binV_beql, binV_bneq, binV_peql, binV_pneq, add_add, add_none, Go.Al.add_zero, Nat.zero_add, Nat.add_zero, IfB_t, IfB_f, Gd_t, Gd_f, Ld_ptr, LdN_ptr, Option.isNone_some, Option.isNone_none, Option.isSome_some, Option.isSome_none, Bool.not_true, Bool.not_false, drew_cell, drew_heap, h.cell1]
  refine (keysB_spec (some bw) w).mono ?_
  rintro _ _ ⟨rfl, rfl⟩
  exact (sortedB_spec h.ws hwf hsz).mono fun v w' h => h

abbrev txt (k : ByteArray) : List UInt8 := k.data.toList
theorem sv_txt (k : ByteArray) : sv k = encStr (txt k) := by rw [encStr]
theorem txt_inj {a b : ByteArray} (h : txt a = txt b) : a = b := by
  obtain ⟨⟨x⟩⟩ := a
  obtain ⟨⟨y⟩⟩ := b
  simp [txt] at h
  rw [h]

/-- What Held answers. -/
theorem held_spec {w : World} {b bh bw : Nat} {H : HL} {W : WL} (h : IsT w b bh bw H W) (hsz : H.length * 16 ≤ 140737488355328) (who : Int) :
    Cl Try.prog 37 [.pointer (some ⟨b, 0, none⟩), jv who] w fun v w' => ∃ ls : List ByteArray, w'.ownsRow w.heap.size 9 1 v ls.length (ls.map sv) ∧ (ls.map txt).Pairwise (fun x y => x ≤ y ∧ x ≠ y) ∧ (∀ k, k ∈ ls ↔ (k, who) ∈ H) ∧ ls.length ≤ H.length ∧ Fm (fun _ => False) w w' := by
  refine c37 ?_
  unfold T37
  simp only [Pu_some, extV_0, extV_1, extV_2, extV_3, nilV_ptr, nilV_fn, faV_ptr, lenV_sl, lenS_s, capV_sl, pickV_t, pickV_f, unV_not, unV_neg, isB_t, isB_f, isB_u, binV_add, binV_sub, binV_mul, binV_eql, binV_neq, binV_lss, binV_leq, binV_gtr, binV_geq, binV_seql, binV_sneq, binV_slss, binV_beql, binV_bneq, binV_peql, binV_pneq, add_add, add_none, Go.Al.add_zero, Nat.zero_add, Nat.add_zero, IfB_t, IfB_f, Gd_t, Gd_f, Ld_ptr, LdN_ptr, Option.isNone_some, Option.isNone_none, Option.isSome_some, Option.isSome_none, Bool.not_true, Bool.not_false, drew_cell, drew_heap, h.cell0]
  obtain ⟨w1, hr1, hR, hf1, hs1⟩ := range_run K74.map h.hs
  refine RunS_ok hr1 ?_
  refine ⟨fun vs w2 => ∃ (u : Value) (xs : List ByteArray) (left : HL), vs = [u] ∧ RangeAt w2 w.heap.size bh sv jv H left ∧ left.Nodup ∧ (∀ q ∈ left, q ∈ H) ∧ w2.ownsRow (w.heap.size + 1) 9 1 u xs.length (xs.map sv) ∧ xs.Nodup ∧ (∀ k, k ∈ xs ↔ (k, who) ∈ H ∧ (k, who) ∉ left) ∧ xs.length + left.length ≤ H.length ∧ Fm (fun _ => False) w w2, fun _ w2 => rl w2 w.heap.size bh, ⟨.slice none 0 0, [], H, rfl, hR, nodup_pairs h.hs.keys, fun q hq => hq, World.ownsRow_nil _ _ _ _, List.nodup_nil, fun k => by simp, by simp, hf1⟩, ?_⟩
  rintro g w2 u ⟨_, xs, left, ⟨⟩, hR, hln, hsub, ho, hxn, hxm, hxl, hf⟩
  rcases next_run (P := Try.prog) hR 0 with ⟨rfl, hrun⟩ | ⟨i, p, w3, hp, hrun, hR', hf', hs', hent⟩
  · refine RunS_ok hrun ?_
    simp only [Pu_some, extV_0, extV_1, extV_2, extV_3, nilV_ptr, nilV_fn, faV_ptr, lenV_sl, lenS_s, capV_sl, pickV_t, pickV_f, unV_not, unV_neg, isB_t, isB_f, isB_u, binV_add, binV_sub, binV_mul, binV_eql, binV_neq, binV_lss, binV_leq, binV_gtr, binV_geq, binV_seql, binV_sneq, binV_slss, binV_beql, binV_bneq, binV_peql, binV_pneq, add_add, add_none, Go.Al.add_zero, Nat.zero_add, Nat.add_zero, IfB_t, IfB_f, Gd_t, Gd_f, Ld_ptr, LdN_ptr, Option.isNone_some, Option.isNone_none, Option.isSome_some, Option.isSome_none, Bool.not_true, Bool.not_false, drew_cell, drew_heap]
    simp only [List.length_nil, Nat.add_zero] at hxl
    have ho' : w2.ownsRow (w.heap.size + 1) 9 1 u xs.length ((xs.map txt).map encStr) := by rw [List.map_map]; exact ho
    refine (sort_str (by omega) ho').mono ?_
    rintro _ w3 ⟨hs, hf3⟩
    have hperm := List.mergeSort_perm (xs.map txt) (fun x y => decide (x ≤ y))
    let ys := ((xs.map txt).mergeSort fun x y => decide (x ≤ y)).map fun l => (⟨l.toArray⟩ : ByteArray)
    have hyt : ys.map txt = (xs.map txt).mergeSort fun x y => decide (x ≤ y) := by
      show List.map txt (List.map _ _) = _
      rw [List.map_map]
      conv => rhs; rw [← List.map_id ((xs.map txt).mergeSort fun x y => decide (x ≤ y))]
      exact List.map_congr_left fun l _ => by simp [txt]
    have hyl : ys.length = xs.length := by
      show (List.map _ _).length = _
      rw [List.length_map, List.length_mergeSort, List.length_map]
    have hys : ((xs.map txt).mergeSort fun x y => decide (x ≤ y)).map encStr = ys.map sv := by
      show _ = List.map sv (List.map _ _)
      rw [List.map_map]; rfl
    rw [hys] at hs
    refine ⟨ys, by rw [hyl]; exact own_base hs (by omega), ?_, fun k => ?_, by omega, hf.trans hf3 (fun _ _ e => e) (fun x hx e => by omega)⟩
    · rw [hyt]
      have h1 := List.pairwise_mergeSort (le := fun x y : List UInt8 => decide (x ≤ y)) (fun a b c h1 h2 => by simp at *; exact List.le_trans h1 h2) (fun a b => by simp; exact List.le_total a b) (xs.map txt)
      have h2 : ((xs.map txt).mergeSort fun x y => decide (x ≤ y)).Nodup := by
        rw [hperm.nodup_iff, List.Nodup, List.pairwise_map]; exact hxn.imp fun hne e => hne (txt_inj e)
      exact (h1.and h2).imp fun ⟨h, hn⟩ => ⟨by simpa using h, hn⟩
    · have h1 := hxm k
      simp at h1
      rw [← h1]
      constructor
      · intro hk
        have : txt k ∈ ys.map txt := List.mem_map.2 ⟨k, hk, rfl⟩
        rw [hyt, List.mem_mergeSort] at this
        obtain ⟨k', hk', e⟩ := List.mem_map.1 this
        rw [← txt_inj e]; exact hk'
      · intro hk
        have : txt k ∈ ys.map txt := by rw [hyt, List.mem_mergeSort]; exact List.mem_map.2 ⟨k, hk, rfl⟩
        obtain ⟨k', hk', e⟩ := List.mem_map.1 this
        rw [← txt_inj e]; exact hk'
  · refine RunS_ok hrun ?_
    simp only [Pu_some, extV_0, extV_1, extV_2, extV_3, nilV_ptr, nilV_fn, faV_ptr, lenV_sl, lenS_s, capV_sl, pickV_t, pickV_f, unV_not, unV_neg, isB_t, isB_f, isB_u, binV_add, binV_sub, binV_mul, binV_eql, binV_neq, binV_lss, binV_leq, binV_gtr, binV_geq, binV_seql, binV_sneq, binV_slss, binV_beql, binV_bneq, binV_peql, binV_pneq, add_add, add_none, Go.Al.add_zero, Nat.zero_add, Nat.add_zero, IfB_t, IfB_f, Gd_t, Gd_f, Ld_ptr, LdN_ptr, Option.isNone_some, Option.isNone_none, Option.isSome_some, Option.isSome_none, Bool.not_true, Bool.not_false, drew_cell, drew_heap]
    refine RunS_ok hent ?_
    have hlen : rl w3 w.heap.size bh < rl w2 w.heap.size bh := by
      rw [hR.len, hR'.len]; have := len_erase hp; omega
    have hl1 := len_erase hp
    have hpH : p ∈ H := hsub p (List.mem_of_getElem? hp)
    have hsub' : ∀ q ∈ left.eraseIdx i, q ∈ H := fun q hq => hsub q (List.mem_of_mem_eraseIdx hq)
    have hfw : Fm (fun _ => False) w w3 := hf.trans hf' (fun _ _ e => e) (fun x hx e => by omega)
    have ho3 := own_keep ho hf' (fun k hk hk' hb e => by omega)
    obtain ⟨k, q⟩ := p
    by_cases hq : q = who
    · subst hq
      have e1 : (q == q) = true := by simp
      simp only [Pu_some, extV_0, extV_1, extV_2, extV_3, nilV_ptr, nilV_fn, faV_ptr, lenV_sl, lenS_s, capV_sl, pickV_t, pickV_f, unV_not, unV_neg, isB_t, isB_f, isB_u, binV_add, binV_sub, binV_mul, binV_eql, binV_neq, binV_lss, binV_leq, binV_gtr, binV_geq, binV_seql, binV_sneq, binV_slss, binV_beql, binV_bneq, binV_peql, binV_pneq, add_add, add_none, Go.Al.add_zero, Nat.zero_add, Nat.add_zero, IfB_t, IfB_f, Gd_t, Gd_f, Ld_ptr, LdN_ptr, Option.isNone_some, Option.isNone_none, Option.isSome_some, Option.isSome_none, Bool.not_true, Bool.not_false, drew_cell, drew_heap, e1]
      have hk : k ∉ xs := fun hk => ((hxm k).1 hk).2 (List.mem_of_getElem? hp)
      refine append_one F58 58 (is58 _ _) rfl ho3 (by unfold maxLen; omega) (by omega) (by have := hf1.size; have := hR'.lt; omega) ?_
      intro v' w4 ho4 hne hf4
      have hR4 := hR'.keep hf4 (by omega) (by have := h.hs.lt; omega)
      refine ⟨⟨v', xs ++ [k], _, rfl, hR4, nodup_erase hln i, hsub', by simpa using ho4, ?_, fun x => ?_, by simp; omega, hfw.trans hf4 (fun _ _ e => e) (fun x hx e => by omega)⟩, by rw [hR4.len, ← hR'.len]; exact hlen⟩
      · rw [List.nodup_append]; exact ⟨hxn, by simp, fun a ha b hb => by simp at hb; subst hb; rintro rfl; exact hk ha⟩
      · rw [List.mem_append, hxm, mem_erase hln hp, List.mem_singleton]
        constructor
        · rintro (⟨h1, h2⟩ | rfl)
          · exact ⟨h1, fun ⟨h3, _⟩ => h2 h3⟩
          · exact ⟨hpH, fun h3 => h3.2 rfl⟩
        · rintro ⟨h1, h2⟩
          by_cases hx : x = k
          · exact .inr hx
          · exact .inl ⟨h1, fun h3 => h2 ⟨h3, fun e => by cases e; exact hx rfl⟩⟩
    · have e1 : (q == who) = false := by simpa using hq
      simp only [Pu_some, extV_0, extV_1, extV_2, extV_3, nilV_ptr, nilV_fn, faV_ptr, lenV_sl, lenS_s, capV_sl, pickV_t, pickV_f, unV_not, unV_neg, isB_t, isB_f, isB_u, binV_add, binV_sub, binV_mul, binV_eql, binV_neq, binV_lss, binV_leq, binV_gtr, binV_geq, binV_seql, binV_sneq, binV_slss, binV_beql, binV_bneq, binV_peql, binV_pneq, add_add, add_none, Go.Al.add_zero, Nat.zero_add, Nat.add_zero, IfB_t, IfB_f, Gd_t, Gd_f, Ld_ptr, LdN_ptr, Option.isNone_some, Option.isNone_none, Option.isSome_some, Option.isSome_none, Bool.not_true, Bool.not_false, drew_cell, drew_heap, e1]
      refine ⟨⟨u, xs, _, rfl, hR', nodup_erase hln i, hsub', ho3, hxn, fun x => ?_, by omega, hfw⟩, hlen⟩
      rw [hxm, mem_erase hln hp]
      constructor
      · rintro ⟨h1, h2⟩; exact ⟨h1, fun ⟨h3, _⟩ => h2 h3⟩
      · rintro ⟨h1, h2⟩; exact ⟨h1, fun h3 => h2 ⟨h3, fun e => by cases e; exact hq rfl⟩⟩

theorem zcells (x : Int) : (Value.cells (jv x)) = #[jv x] := rfl

/-- maps.DeleteFunc with the closure of Release. -/
theorem delfunc_spec {w : World} {bh c : Nat} {H : HL} {who : Int} (h : MapAt w bh sv jv H) (hc : w.heap[c]? = some (.cells #[jv who] 3)) :
    Cl Try.prog 43 [.map (some bh), .func (.func 44) #[] #[.pointer (some ⟨c, 0, none⟩)]] w fun v w' => ∃ H', MapAt w' bh sv jv H' ∧ (∀ q, q ∈ H' ↔ q ∈ H ∧ q.2 ≠ who) ∧ Fm (· = bh) w w' := by
  refine c43 ?_
  unfold T43
  obtain ⟨w1, hr1, hR, hf1, hs1⟩ := range_run K74.map h
  refine RunS_ok hr1 ?_
  have hcb : c ≠ bh := by rintro rfl; obtain ⟨es, cl, hb, _⟩ := h.ex; rw [hc] at hb; cases hb
  refine ⟨fun vs w2 => ∃ (H' left : HL), vs = [] ∧ RangeAt w2 w.heap.size bh sv jv H' left ∧ (H'.map (·.1)).Nodup ∧ (left.map (·.1)).Nodup ∧ (∀ q, q ∈ left → q ∈ H) ∧ (∀ q, q ∈ H' ↔ q ∈ H ∧ (q ∈ left ∨ q.2 ≠ who)) ∧ Fm (· = bh) w w2, fun _ w2 => rl w2 w.heap.size bh, ⟨H, H, rfl, hR, h.keys, h.keys, fun q hq => hq, fun q => by simp; exact fun h => .inl h, hf1.mono fun _ _ e => e.elim⟩, ?_⟩
  rintro g w2 ⟨H', left, -, hR, hHn, hLn, hsub, hm, hf⟩
  rcases next_run (P := Try.prog) hR 0 with ⟨rfl, hrun⟩ | ⟨i, p, w3, hp, hrun, hR', hf', hs', hent⟩
  · refine RunS_ok hrun ?_
    simp only [Pu_some, extV_0, extV_1, extV_2, extV_3, nilV_ptr, nilV_fn, faV_ptr, lenV_sl, lenS_s, capV_sl, pickV_t, pickV_f, unV_not, unV_neg, isB_t, isB_f, isB_u, binV_add, binV_sub, binV_mul, binV_eql, binV_neq, binV_lss, binV_leq, binV_gtr, binV_geq, binV_seql, binV_sneq, binV_slss, binV_beql, binV_bneq, binV_peql, binV_pneq, add_add, add_none, Go.Al.add_zero, Nat.zero_add, Nat.add_zero, IfB_t, IfB_f, Gd_t, Gd_f, Ld_ptr, LdN_ptr, Option.isNone_some, Option.isNone_none, Option.isSome_some, Option.isSome_none, Bool.not_true, Bool.not_false, drew_cell, drew_heap]
    exact ⟨H', hR.map hHn, fun q => by rw [hm]; simp, hf⟩
  · refine RunS_ok hrun ?_
    simp only [Pu_some, extV_0, extV_1, extV_2, extV_3, nilV_ptr, nilV_fn, faV_ptr, lenV_sl, lenS_s, capV_sl, pickV_t, pickV_f, unV_not, unV_neg, isB_t, isB_f, isB_u, binV_add, binV_sub, binV_mul, binV_eql, binV_neq, binV_lss, binV_leq, binV_gtr, binV_geq, binV_seql, binV_sneq, binV_slss, binV_beql, binV_bneq, binV_peql, binV_pneq, add_add, add_none, Go.Al.add_zero, Nat.zero_add, Nat.add_zero, IfB_t, IfB_f, Gd_t, Gd_f, Ld_ptr, LdN_ptr, Option.isNone_some, Option.isNone_none, Option.isSome_some, Option.isSome_none, Bool.not_true, Bool.not_false, drew_cell, drew_heap]
    refine RunS_ok hent ?_
    have hlen : rl w3 w.heap.size bh < rl w2 w.heap.size bh := by
      rw [hR.len, hR'.len]; have := len_erase hp; omega
    have hln := nodup_pairs hLn
    have hpl := List.mem_of_getElem? hp
    have hpH : p ∈ H := hsub p hpl
    have hsub' : ∀ q, q ∈ left.eraseIdx i → q ∈ H := fun q hq => hsub q (List.mem_of_mem_eraseIdx hq)
    have hLn' : ((left.eraseIdx i).map (·.1)).Nodup := by rw [← eraseIdx_mp]; exact nodup_erase hLn i
    have hfw : Fm (· = bh) w w3 := hf.trans hf' (fun _ _ e => e) (fun x hx e => by omega)
    have hc3 := hfw.heap hc hcb
    simp only [Pu_some, extV_0, extV_1, extV_2, extV_3, nilV_ptr, nilV_fn, faV_ptr, lenV_sl, lenS_s, capV_sl, pickV_t, pickV_f, unV_not, unV_neg, isB_t, isB_f, isB_u, binV_add, binV_sub, binV_mul, binV_eql, binV_neq, binV_lss, binV_leq, binV_gtr, binV_geq, binV_seql, binV_sneq, binV_slss, binV_beql, binV_bneq, binV_peql, binV_pneq, add_add, add_none, Go.Al.add_zero, Nat.zero_add, Nat.add_zero, IfB_t, IfB_f, Gd_t, Gd_f, Ld_ptr, LdN_ptr, Option.isNone_some, Option.isNone_none, Option.isSome_some, Option.isSome_none, Bool.not_true, Bool.not_false, drew_cell, drew_heap]
    refine ClV_func (by kernel_rfl) ?_
    simp only [Pu_some, extV_0, extV_1, extV_2, extV_3, nilV_ptr, nilV_fn, faV_ptr, lenV_sl, lenS_s, capV_sl, pickV_t, pickV_f, unV_not, unV_neg, isB_t, isB_f, isB_u, binV_add, binV_sub, binV_mul, binV_eql, binV_neq, binV_lss, binV_leq, binV_gtr, binV_geq, binV_seql, binV_sneq, binV_slss, binV_beql, binV_bneq, binV_peql, binV_pneq, add_add, add_none, Go.Al.add_zero, Nat.zero_add, Nat.add_zero, IfB_t, IfB_f, Gd_t, Gd_f, Ld_ptr, LdN_ptr, Option.isNone_some, Option.isNone_none, Option.isSome_some, Option.isSome_none, Bool.not_true, Bool.not_false, drew_cell, drew_heap, List.nil_append, List.cons_append]
    refine c44 ?_
    unfold T44
    have cc : w3.cell? ⟨c, 0, none⟩ = some (jv who) := by rw [cell_at hc3]; rfl
    simp only [Pu_some, extV_0, extV_1, extV_2, extV_3, nilV_ptr, nilV_fn, faV_ptr, lenV_sl, lenS_s, capV_sl, pickV_t, pickV_f, unV_not, unV_neg, isB_t, isB_f, isB_u, binV_add, binV_sub, binV_mul, binV_eql, binV_neq, binV_lss, binV_leq, binV_gtr, binV_geq, binV_seql, binV_sneq, binV_slss, binV_beql, binV_bneq, binV_peql, binV_pneq, add_add, add_none, Go.Al.add_zero, Nat.zero_add, Nat.add_zero, IfB_t, IfB_f, Gd_t, Gd_f, Ld_ptr, LdN_ptr, Option.isNone_some, Option.isNone_none, Option.isSome_some, Option.isSome_none, Bool.not_true, Bool.not_false, drew_cell, drew_heap, cc]
    by_cases hq : p.2 = who
    · have e1 : (p.2 == who) = true := by simpa using hq
      simp only [Pu_some, extV_0, extV_1, extV_2, extV_3, nilV_ptr, nilV_fn, faV_ptr, lenV_sl, lenS_s, capV_sl, pickV_t, pickV_f, unV_not, unV_neg, isB_t, isB_f, isB_u, binV_add, binV_sub, binV_mul, binV_eql, binV_neq, binV_lss, binV_leq, binV_gtr, binV_geq, binV_seql, binV_sneq, binV_slss, binV_beql, binV_bneq, binV_peql, binV_pneq, add_add, add_none, Go.Al.add_zero, Nat.zero_add, Nat.add_zero, IfB_t, IfB_f, Gd_t, Gd_f, Ld_ptr, LdN_ptr, Option.isNone_some, Option.isNone_none, Option.isSome_some, Option.isSome_none, Bool.not_true, Bool.not_false, drew_cell, drew_heap, e1]
      have hnk : p.1 ∉ (left.eraseIdx i).map (·.1) := by
        intro hk
        obtain ⟨q, hq', e⟩ := List.mem_map.1 hk
        rw [mem_erase hln hp] at hq'
        exact hq'.2 (key_fn hLn hq'.1 hpl e)
      obtain ⟨w4, hr4, hR4, hf4, hs4⟩ := range_delete K74 hR' hHn p.1 hnk 0 9
      refine RunS_ok hr4 ?_
      refine ⟨⟨_, _, trivial, hR4, nodup_delD hHn _, hLn', hsub', fun q => ?_, hfw.trans hf4 (fun _ _ e => e) (fun _ _ e => e)⟩, by rw [hR4.len, ← hR'.len]; exact hlen⟩
      have hqd : q ∈ delD H' p.1 ↔ q ∈ H' ∧ q.1 ≠ p.1 := by
        obtain ⟨a, b⟩ := q
        rw [← getD_some (nodup_delD hHn _), getD_delD hHn, ← getD_some hHn]
        by_cases e : a = p.1 <;> simp [e]
      rw [hqd, hm, mem_erase hln hp]
      constructor
      · rintro ⟨⟨h1, h2⟩, h3⟩
        exact ⟨h1, h2.imp (fun h4 => ⟨h4, fun e => h3 (by rw [e])⟩) id⟩
      · rintro ⟨h1, h2⟩
        refine ⟨⟨h1, h2.imp (fun h4 => h4.1) id⟩, fun e => ?_⟩
        have := key_fn h.keys h1 hpH e
        rcases h2 with h2 | h2
        · exact h2.2 this
        · rw [this] at h2; exact h2 hq
    · have e1 : (p.2 == who) = false := by simpa using hq
      simp only [Pu_some, extV_0, extV_1, extV_2, extV_3, nilV_ptr, nilV_fn, faV_ptr, lenV_sl, lenS_s, capV_sl, pickV_t, pickV_f, unV_not, unV_neg, isB_t, isB_f, isB_u, binV_add, binV_sub, binV_mul, binV_eql, binV_neq, binV_lss, binV_leq, binV_gtr, binV_geq, binV_seql, binV_sneq, binV_slss, binV_beql, binV_bneq, binV_peql, binV_pneq, add_add, add_none, Go.Al.add_zero, Nat.zero_add, Nat.add_zero, IfB_t, IfB_f, Gd_t, Gd_f, Ld_ptr, LdN_ptr, Option.isNone_some, Option.isNone_none, Option.isSome_some, Option.isSome_none, Bool.not_true, Bool.not_false, drew_cell, drew_heap, e1]
      refine ⟨⟨_, _, trivial, hR', hHn, hLn', hsub', fun q => ?_, hfw⟩, hlen⟩
      rw [hm, mem_erase hln hp]
      constructor
      · rintro ⟨h1, h2⟩
        refine ⟨h1, ?_⟩
        by_cases e : q = p
        · exact .inr (by rw [e]; exact hq)
        · exact h2.imp (fun h3 => ⟨h3, e⟩) id
      · rintro ⟨h1, h2⟩; exact ⟨h1, h2.imp (fun h3 => h3.1) id⟩

theorem mem_delD {α β : Type} [DecidableEq α] {D : List (α × β)} (h : (D.map (·.1)).Nodup) (p : α) (q : α × β) : q ∈ delD D p ↔ q ∈ D ∧ q.1 ≠ p := by
  obtain ⟨a, b⟩ := q
  rw [← getD_some (nodup_delD h p), getD_delD h, ← getD_some h]
  by_cases e : a = p <;> simp [e]

theorem delD_le {α β : Type} [DecidableEq α] (D : List (α × β)) (p : α) : (delD D p).length ≤ D.length := by
  have := congrArg List.length (keys_delD D p)
  rw [List.length_map] at this
  rw [this]; exact Nat.le_trans (List.erase_sublist.length_le) (by simp)

/-- What Release does. -/
structure LetR (H : HL) (W : WL) (who : Int) (H' : HL) (W' : WL) (ls : List Int) : Prop where
  up : ls.Pairwise (· < ·)
  told : ∀ x, x ∈ ls ↔ x ≠ who ∧ ∃ key, (x, key) ∈ W ∧ getD H key = some who
  hold : ∀ q, q ∈ H' ↔ q ∈ H ∧ q.2 ≠ who
  wait : ∀ q, q ∈ W' ↔ q ∈ W ∧ q.1 ≠ who ∧ getD H q.2 ≠ some who

set_option maxHeartbeats 1000000 in
theorem release_spec {w : World} {b bh bw : Nat} {H : HL} {W : WL} (h : IsT w b bh bw H W) (hsz : W.length * 8 ≤ 140737488355328) (who : Int) :
    Cl Try.prog 28 [.pointer (some ⟨b, 0, none⟩), jv who] w fun v w' => ∃ H' W' ls, w'.ownsRow w.heap.size 3 1 v ls.length (ls.map jv) ∧ LetR H W who H' W' ls ∧ IsT w' b bh bw H' W' ∧ Fm (fun x => x = bh ∨ x = bw) w w' := by
  have hbw := h.ws.lt
  have hbh := h.hs.lt
  refine c28 ?_
  unfold T28
  refine New_any ?_
  intro c w1 hcs hs1 hc1 hf1
  replace hc1 : w1.heap[c]? = some (.cells #[jv who] 3) := hc1
  have hT1 := (h.keep hf1 (fun e => e) (fun e => e) (fun e => e)).drew
  have hcd : w1.drew.heap[c]? = some (.cells #[jv who] 3) := hc1
  have cc : w1.cell? ⟨c, 0, none⟩ = some (jv who) := by rw [cell_at hc1]; rfl
  have hf1d := Fmf hf1 (Fm.drew _ w1)
  have c1' := hT1.cell1
  rw [drew_cell] at c1'
  have hs1' : w1.drew.heap.size = w.heap.size + 1 := hs1
  obtain ⟨ptr, hptr⟩ : ∃ q : Option Addr, q = some ⟨c, 0, none⟩ := ⟨_, rfl⟩
  simp only [Pu_some, extV_0, extV_1, extV_2, extV_3, nilV_ptr, nilV_fn, faV_ptr, lenV_sl, lenS_s, capV_sl, pickV_t, pickV_f, unV_not, unV_neg, isB_t, isB_f, isB_u, binV_add, binV_sub, binV_mul, binV_eql, binV_neq, binV_lss, binV_leq, binV_gtr, binV_geq, binV_seql, binV_sneq, binV_slss, binV_beql, binV_bneq, binV_peql, binV_pneq, add_add, add_none, Go.Al.add_zero, Nat.zero_add, Nat.add_zero, IfB_t, IfB_f, Gd_t, Gd_f, Ld_ptr, LdN_ptr, Option.isNone_some, Option.isNone_none, Option.isSome_some, Option.isSome_none, Bool.not_true, Bool.not_false, drew_cell, drew_heap, c1', cc, true_and]
  generalize w1.drew = wd at hT1 hcd hf1d hs1'
  clear hptr ptr cc c1' hc1 hf1 hs1 w1
  obtain ⟨w2, hr2, hW2, hf2, hs2⟩ := delete_run K75 hT1.ws who 0 3
  refine RunS_ok hr2 ?_
  have hcw : c ≠ bw := by omega
  have hchh : c ≠ bh := by omega
  have hc2 := hf2.heap hcd hcw
  have hst2 := hf2.heap hT1.st h.nw
  have hH2 := hT1.hs.keep hf2 h.ne
  have hW1m := fun q => mem_delD h.ws.keys who q
  have hW1l := delD_le W who
  generalize delD W who = W1 at hW2 hW1m hW1l
  have c1' : w2.cell? ⟨b, 1, none⟩ = some (.map (some bw)) := by rw [cell_at hst2]; rfl
  simp only [Pu_some, extV_0, extV_1, extV_2, extV_3, nilV_ptr, nilV_fn, faV_ptr, lenV_sl, lenS_s, capV_sl, pickV_t, pickV_f, unV_not, unV_neg, isB_t, isB_f, isB_u, binV_add, binV_sub, binV_mul, binV_eql, binV_neq, binV_lss, binV_leq, binV_gtr, binV_geq, binV_seql, binV_sneq, binV_slss, binV_beql, binV_bneq, binV_peql, binV_pneq, add_add, add_none, Go.Al.add_zero, Nat.zero_add, Nat.add_zero, IfB_t, IfB_f, Gd_t, Gd_f, Ld_ptr, LdN_ptr, Option.isNone_some, Option.isNone_none, Option.isSome_some, Option.isSome_none, Bool.not_true, Bool.not_false, drew_cell, drew_heap, c1']
  obtain ⟨w3, hr3, hR, hf3, hs3⟩ := range_run K75.map hW2
  refine RunS_ok hr3 ?_
  have hF2 : Fm (· = bw) w w2 := hf1d.trans hf2 (fun _ _ e => e.elim) (fun _ _ e => e)
  have hrsz : w2.heap.size = w.heap.size + 1 := by rw [hs2, hs1']
  refine ⟨fun vs w4 => ∃ (u : Value) (xs : List Int) (left : WL), vs = [u] ∧ RangeAt w4 w2.heap.size bw jv sv W1 left ∧ left.Nodup ∧ (∀ q ∈ left, q ∈ W1) ∧ w4.ownsRow (w2.heap.size + 1) 3 1 u xs.length (xs.map jv) ∧ xs.Nodup ∧ (∀ x, x ∈ xs ↔ ∃ key, (x, key) ∈ W1 ∧ (x, key) ∉ left ∧ getD H key = some who) ∧ xs.length + left.length ≤ W1.length ∧ Fm (fun _ => False) w2 w4, fun _ w4 => rl w4 w2.heap.size bw, ⟨.slice none 0 0, [], W1, rfl, hR, nodup_pairs hW2.keys, fun q hq => hq, World.ownsRow_nil _ _ _ _, List.nodup_nil, fun k => by simp; exact fun _ h1 h2 => absurd h1 h2, by simp, hf3⟩, ?_⟩
  rintro g w4 u ⟨_, xs, left, ⟨⟩, hR, hln, hsub, ho, hxn, hxm, hxl, hf⟩
  have hst4 := hf.heap hst2 (fun e => e)
  have hH4 := hH2.keep hf (fun e => e)
  have hc4 := hf.heap hc2 (fun e => e)
  rcases next_run (P := Try.prog) hR 0 with ⟨rfl, hrun⟩ | ⟨i, p, w5, hp, hrun, hR', hf', hs', hent⟩
  · refine RunS_ok hrun ?_
    simp only [List.length_nil, Nat.add_zero, List.not_mem_nil, not_false_eq_true, true_and] at hxl hxm
    simp only [Pu_some, extV_0, extV_1, extV_2, extV_3, nilV_ptr, nilV_fn, faV_ptr, lenV_sl, lenS_s, capV_sl, pickV_t, pickV_f, unV_not, unV_neg, isB_t, isB_f, isB_u, binV_add, binV_sub, binV_mul, binV_eql, binV_neq, binV_lss, binV_leq, binV_gtr, binV_geq, binV_seql, binV_sneq, binV_slss, binV_beql, binV_bneq, binV_peql, binV_pneq, add_add, add_none, Go.Al.add_zero, Nat.zero_add, Nat.add_zero, IfB_t, IfB_f, Gd_t, Gd_f, Ld_ptr, LdN_ptr, Option.isNone_some, Option.isNone_none, Option.isSome_some, Option.isSome_none, Bool.not_true, Bool.not_false, drew_cell, drew_heap, (CellsAt.of_own ho).lenV]
    refine ⟨fun vs w5 => ∃ (k : Nat) (Wk : WL), vs = [jv k] ∧ k ≤ xs.length ∧ MapAt w5 bw jv sv Wk ∧ (∀ q, q ∈ Wk ↔ q ∈ W1 ∧ q.1 ∉ xs.take k) ∧ Fm (· = bw) w4 w5, fun vs _ => (xs.length - nth vs 0).toNat, ⟨0, W1, rfl, by omega, hR.map hW2.keys, fun q => by simp, Fm.refl _ _⟩, ?_⟩
    rintro g w5 kv ⟨k, Wk, ⟨⟩, hk, hWk, hWm, hf5⟩
    have hst5 := hf5.heap hst4 h.nw
    have ho5 := own_keep ho hf5 (fun k hk _ _ e => by omega)
    by_cases hlt : k < xs.length
    · have e1 : decide ((k : Int) < (xs.length : Int)) = true := by simpa using hlt
      have hx : xs[k]? = some xs[k] := List.getElem?_eq_getElem hlt
      obtain ⟨ad, i1, _, q1⟩ := (CellsAt.of_own ho5).at1 (i := k) (x := jv xs[k]) (by rw [List.getElem?_map, hx]; rfl) .i64
      have c5 : w5.cell? ⟨b, 1, none⟩ = some (.map (some bw)) := by rw [cell_at hst5]; rfl
      simp only [Pu_some, extV_0, extV_1, extV_2, extV_3, nilV_ptr, nilV_fn, faV_ptr, lenV_sl, lenS_s, capV_sl, pickV_t, pickV_f, unV_not, unV_neg, isB_t, isB_f, isB_u, binV_add, binV_sub, binV_mul, binV_eql, binV_neq, binV_lss, binV_leq, binV_gtr, binV_geq, binV_seql, binV_sneq, binV_slss, binV_beql, binV_bneq, binV_peql, binV_pneq, add_add, add_none, Go.Al.add_zero, Nat.zero_add, Nat.add_zero, IfB_t, IfB_f, Gd_t, Gd_f, Ld_ptr, LdN_ptr, Option.isNone_some, Option.isNone_none, Option.isSome_some, Option.isSome_none, Bool.not_true, Bool.not_false, drew_cell, drew_heap, e1, i1, q1, c5]
      obtain ⟨w6, hr6, hW6, hf6, hs6⟩ := delete_run K75 hWk xs[k] 0 3
      refine RunS_ok hr6 ?_
      simp only [Pu_some, extV_0, extV_1, extV_2, extV_3, nilV_ptr, nilV_fn, faV_ptr, lenV_sl, lenS_s, capV_sl, pickV_t, pickV_f, unV_not, unV_neg, isB_t, isB_f, isB_u, binV_add, binV_sub, binV_mul, binV_eql, binV_neq, binV_lss, binV_leq, binV_gtr, binV_geq, binV_seql, binV_sneq, binV_slss, binV_beql, binV_bneq, binV_peql, binV_pneq, add_add, add_none, Go.Al.add_zero, Nat.zero_add, Nat.add_zero, IfB_t, IfB_f, Gd_t, Gd_f, Ld_ptr, LdN_ptr, Option.isNone_some, Option.isNone_none, Option.isSome_some, Option.isSome_none, Bool.not_true, Bool.not_false, drew_cell, drew_heap, wrap_succ (i := k) (by omega)]
      refine ⟨⟨k + 1, _, rfl, by omega, hW6, fun q => ?_, hf5.trans hf6 (fun _ _ e => e) (fun _ _ e => e)⟩, by simp only [nth_0]; omega⟩
      rw [mem_delD hWk.keys, hWm, List.take_add_one, hx]
      simp only [Option.toList_some, List.mem_append, List.mem_singleton, not_or]
      exact ⟨fun ⟨⟨a, b⟩, c⟩ => ⟨a, b, c⟩, fun ⟨a, b, c⟩ => ⟨⟨a, b⟩, c⟩⟩
    · have hke : k = xs.length := by omega
      subst hke
      have e1 : decide ((xs.length : Int) < (xs.length : Int)) = false := by simp
      have c5 : w5.cell? ⟨b, 0, none⟩ = some (.map (some bh)) := by rw [cell_at hst5]; rfl
      rw [List.take_length] at hWm
      simp only [Pu_some, extV_0, extV_1, extV_2, extV_3, nilV_ptr, nilV_fn, faV_ptr, lenV_sl, lenS_s, capV_sl, pickV_t, pickV_f, unV_not, unV_neg, isB_t, isB_f, isB_u, binV_add, binV_sub, binV_mul, binV_eql, binV_neq, binV_lss, binV_leq, binV_gtr, binV_geq, binV_seql, binV_sneq, binV_slss, binV_beql, binV_bneq, binV_peql, binV_pneq, add_add, add_none, Go.Al.add_zero, Nat.zero_add, Nat.add_zero, IfB_t, IfB_f, Gd_t, Gd_f, Ld_ptr, LdN_ptr, Option.isNone_some, Option.isNone_none, Option.isSome_some, Option.isSome_none, Bool.not_true, Bool.not_false, drew_cell, drew_heap, e1, c5]
      refine (delfunc_spec (hH4.keep hf5 h.ne) (hf5.heap hc4 hcw)).mono ?_
      rintro _ w6 ⟨H', hH6, hHm, hf6⟩
      have ho6 := own_keep ho5 hf6 (fun k hk _ _ e => by omega)
      refine (sort_int (by omega) ho6).mono ?_
      rintro _ w7 ⟨ho7, hf7⟩
      have hz : w4.heap.size ≤ w6.heap.size := Nat.le_trans hf5.size hf6.size
      have hz4 := hf.size
      have hperm := List.mergeSort_perm xs (fun x y => decide (x ≤ y))
      refine ⟨H', Wk, xs.mergeSort fun x y => decide (x ≤ y), ?_, ⟨?_, fun x => ?_, hHm, fun q => ?_⟩, ⟨?_, ?_, ?_, h.ne⟩, ?_⟩
      · rw [List.length_mergeSort]; exact own_base ho7 (by omega)
      · have h1 := List.pairwise_mergeSort (le := fun x y : Int => decide (x ≤ y)) (fun a b c h1 h2 => by simp at *; omega) (fun a b => by simp; omega) xs
        have h2 : (xs.mergeSort fun x y => decide (x ≤ y)).Nodup := hperm.nodup_iff.2 hxn
        exact (h1.and h2).imp fun ⟨h, hn⟩ => by simp at h; omega
      · rw [List.mem_mergeSort, hxm]
        constructor
        · rintro ⟨key, h1, h2⟩; have := (hW1m _).1 h1; exact ⟨this.2, key, this.1, h2⟩
        · rintro ⟨hne, key, h1, h2⟩; exact ⟨key, (hW1m _).2 ⟨h1, hne⟩, h2⟩
      · rw [hWm, hW1m, hxm, and_assoc]
        constructor
        · rintro ⟨h1, h2, h3⟩; exact ⟨h1, h2, fun e => h3 ⟨q.2, (hW1m _).2 ⟨h1, h2⟩, e⟩⟩
        · rintro ⟨h1, h2, h3⟩
          refine ⟨h1, h2, fun ⟨key, h4, h5⟩ => h3 ?_⟩
          have := key_fn h.ws.keys ((hW1m _).1 h4).1 h1 rfl
          rw [← this]; exact h5
      · exact hf7.heap (hf6.heap hst5 h.nh) (by have := lt_of_heap h.st; omega)
      · exact hH6.keep hf7 (by omega)
      · exact (hWk.keep hf6 (fun e => h.ne e.symm)).keep hf7 (by omega)
      · have f1 : Fm (· = bw) w w5 := (hF2.trans hf (U := (· = bw)) (fun _ _ e => e) (fun _ _ e => e.elim)).trans hf5 (fun _ _ e => e) (fun _ _ e => e)
        have f2 : Fm (fun x => x = bh ∨ x = bw) w w6 := f1.trans hf6 (fun _ _ e => .inr e) (fun _ _ e => .inl e)
        exact f2.trans hf7 (fun _ _ e => e) (fun x hx e => by omega)
  · refine RunS_ok hrun ?_
    simp only [Pu_some, extV_0, extV_1, extV_2, extV_3, nilV_ptr, nilV_fn, faV_ptr, lenV_sl, lenS_s, capV_sl, pickV_t, pickV_f, unV_not, unV_neg, isB_t, isB_f, isB_u, binV_add, binV_sub, binV_mul, binV_eql, binV_neq, binV_lss, binV_leq, binV_gtr, binV_geq, binV_seql, binV_sneq, binV_slss, binV_beql, binV_bneq, binV_peql, binV_pneq, add_add, add_none, Go.Al.add_zero, Nat.zero_add, Nat.add_zero, IfB_t, IfB_f, Gd_t, Gd_f, Ld_ptr, LdN_ptr, Option.isNone_some, Option.isNone_none, Option.isSome_some, Option.isSome_none, Bool.not_true, Bool.not_false, drew_cell, drew_heap]
    refine RunS_ok hent ?_
    have hlen : rl w5 w2.heap.size bw < rl w4 w2.heap.size bw := by
      rw [hR.len, hR'.len]; have := len_erase hp; omega
    have hl1 := len_erase hp
    have hpl := List.mem_of_getElem? hp
    have hpH : p ∈ W1 := hsub p hpl
    have hsub' : ∀ q ∈ left.eraseIdx i, q ∈ W1 := fun q hq => hsub q (List.mem_of_mem_eraseIdx hq)
    have hfw : Fm (fun _ => False) w2 w5 := hf.trans hf' (fun _ _ e => e) (fun x hx e => by omega)
    have ho3 := own_keep ho hf' (fun k hk hk' hb e => by omega)
    have hst5 := hfw.heap hst2 (fun e => e)
    have hH5 := hH2.keep hfw (fun e => e)
    have hc5 := hfw.heap hc2 (fun e => e)
    have c5 : w5.cell? ⟨b, 0, none⟩ = some (.map (some bh)) := by rw [cell_at hst5]; rfl
    have cc : w5.cell? ⟨c, 0, none⟩ = some (jv who) := by rw [cell_at hc5]; rfl
    simp only [Pu_some, extV_0, extV_1, extV_2, extV_3, nilV_ptr, nilV_fn, faV_ptr, lenV_sl, lenS_s, capV_sl, pickV_t, pickV_f, unV_not, unV_neg, isB_t, isB_f, isB_u, binV_add, binV_sub, binV_mul, binV_eql, binV_neq, binV_lss, binV_leq, binV_gtr, binV_geq, binV_seql, binV_sneq, binV_slss, binV_beql, binV_bneq, binV_peql, binV_pneq, add_add, add_none, Go.Al.add_zero, Nat.zero_add, Nat.add_zero, IfB_t, IfB_f, Gd_t, Gd_f, Ld_ptr, LdN_ptr, Option.isNone_some, Option.isNone_none, Option.isSome_some, Option.isSome_none, Bool.not_true, Bool.not_false, drew_cell, drew_heap, c5]
    obtain ⟨x, key⟩ := p
    refine RunS_ok (lookup_run K74 hH5 key true (zz3 w5)) ?_
    have skip : getD H key ≠ some who → (∃ (u' : Value) (xs : List Int) (left : WL), [u] = [u'] ∧ RangeAt w5 w2.heap.size bw jv sv W1 left ∧ left.Nodup ∧ (∀ q ∈ left, q ∈ W1) ∧ w5.ownsRow (w2.heap.size + 1) 3 1 u' xs.length (xs.map jv) ∧ xs.Nodup ∧ (∀ x, x ∈ xs ↔ ∃ key, (x, key) ∈ W1 ∧ (x, key) ∉ left ∧ getD H key = some who) ∧ xs.length + left.length ≤ W1.length ∧ Fm (fun _ => False) w2 w5) ∧ rl w5 w2.heap.size bw < rl w4 w2.heap.size bw := by
      intro hne
      refine ⟨⟨u, xs, _, rfl, hR', nodup_erase hln i, hsub', ho3, hxn, fun y => ?_, by omega, hfw⟩, hlen⟩
      rw [hxm]
      constructor
      · rintro ⟨k, h1, h2, h3⟩; exact ⟨k, h1, fun h4 => h2 ((mem_erase hln hp _).1 h4).1, h3⟩
      · rintro ⟨k, h1, h2, h3⟩
        refine ⟨k, h1, fun h4 => h2 ((mem_erase hln hp _).2 ⟨h4, fun e => ?_⟩), h3⟩
        cases e; exact hne h3
    cases hg : getD H key with
    | none =>
      simp only [okV, cond_true]
      simp only [Pu_some, extV_0, extV_1, extV_2, extV_3, nilV_ptr, nilV_fn, faV_ptr, lenV_sl, lenS_s, capV_sl, pickV_t, pickV_f, unV_not, unV_neg, isB_t, isB_f, isB_u, binV_add, binV_sub, binV_mul, binV_eql, binV_neq, binV_lss, binV_leq, binV_gtr, binV_geq, binV_seql, binV_sneq, binV_slss, binV_beql, binV_bneq, binV_peql, binV_pneq, add_add, add_none, Go.Al.add_zero, Nat.zero_add, Nat.add_zero, IfB_t, IfB_f, Gd_t, Gd_f, Ld_ptr, LdN_ptr, Option.isNone_some, Option.isNone_none, Option.isSome_some, Option.isSome_none, Bool.not_true, Bool.not_false, drew_cell, drew_heap]
      exact skip (by rw [hg]; simp)
    | some hh =>
      simp only [okV, cond_true]
      by_cases hq : hh = who
      · subst hq
        have e1 : (hh == hh) = true := by simp
        simp only [Pu_some, extV_0, extV_1, extV_2, extV_3, nilV_ptr, nilV_fn, faV_ptr, lenV_sl, lenS_s, capV_sl, pickV_t, pickV_f, unV_not, unV_neg, isB_t, isB_f, isB_u, binV_add, binV_sub, binV_mul, binV_eql, binV_neq, binV_lss, binV_leq, binV_gtr, binV_geq, binV_seql, binV_sneq, binV_slss, binV_beql, binV_bneq, binV_peql, binV_pneq, add_add, add_none, Go.Al.add_zero, Nat.zero_add, Nat.add_zero, IfB_t, IfB_f, Gd_t, Gd_f, Ld_ptr, LdN_ptr, Option.isNone_some, Option.isNone_none, Option.isSome_some, Option.isSome_none, Bool.not_true, Bool.not_false, drew_cell, drew_heap, e1, cc]
        have hk : x ∉ xs := fun hk => by
          obtain ⟨k', h1, h2, h3⟩ := (hxm x).1 hk
          have := key_fn hW2.keys h1 hpH rfl
          rw [this] at h2; exact h2 hpl
        refine append_one F35 35 (is35 _ _) rfl ho3 (by unfold maxLen; omega) (by omega) (by have := hR'.lt; omega) ?_
        intro v' w6 ho6 hne hf6
        have hR6 := hR'.keep hf6 (by omega) (by omega)
        refine ⟨⟨v', xs ++ [x], _, rfl, hR6, nodup_erase hln i, hsub', by simpa using ho6, ?_, fun y => ?_, by simp; omega, hfw.trans hf6 (fun _ _ e => e) (fun x hx e => by omega)⟩, by rw [hR6.len, ← hR'.len]; exact hlen⟩
        · rw [List.nodup_append]; exact ⟨hxn, by simp, fun a ha b hb => by simp at hb; subst hb; rintro rfl; exact hk ha⟩
        · rw [List.mem_append, hxm, List.mem_singleton]
          constructor
          · rintro (⟨k, h1, h2, h3⟩ | rfl)
            · exact ⟨k, h1, fun h4 => h2 ((mem_erase hln hp _).1 h4).1, h3⟩
            · exact ⟨key, hpH, fun h4 => ((mem_erase hln hp _).1 h4).2 rfl, hg⟩
          · rintro ⟨k, h1, h2, h3⟩
            by_cases hy : y = x
            · exact .inr hy
            · exact .inl ⟨k, h1, fun h4 => h2 ((mem_erase hln hp _).2 ⟨h4, fun e => by cases e; exact hy rfl⟩), h3⟩
      · have e1 : (hh == who) = false := by simpa using hq
        simp only [Pu_some, extV_0, extV_1, extV_2, extV_3, nilV_ptr, nilV_fn, faV_ptr, lenV_sl, lenS_s, capV_sl, pickV_t, pickV_f, unV_not, unV_neg, isB_t, isB_f, isB_u, binV_add, binV_sub, binV_mul, binV_eql, binV_neq, binV_lss, binV_leq, binV_gtr, binV_geq, binV_seql, binV_sneq, binV_slss, binV_beql, binV_bneq, binV_peql, binV_pneq, add_add, add_none, Go.Al.add_zero, Nat.zero_add, Nat.add_zero, IfB_t, IfB_f, Gd_t, Gd_f, Ld_ptr, LdN_ptr, Option.isNone_some, Option.isNone_none, Option.isSome_some, Option.isSome_none, Bool.not_true, Bool.not_false, drew_cell, drew_heap, e1, cc]
        exact skip (by rw [hg]; simpa using hq)

end Go.Proofs.Ytgknklnbcjjlkaa
