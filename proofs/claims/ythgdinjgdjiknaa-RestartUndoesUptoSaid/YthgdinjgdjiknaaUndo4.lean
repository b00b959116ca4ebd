/- RestartUndoes. -/
import Derived.Test.YthgdinjgdjiknaaUndo3
namespace Go.Proofs.Ythgdinjgdjiknaa
open Go.Al Go.Proofs
set_option linter.unusedVariables false
set_option linter.unusedSimpArgs false
set_option linter.unusedSectionVars false
set_option maxRecDepth 100000

theorem E79 : ElemT Try.prog 79 81 2 16 := elemT_of Try.underlying79 (by kernel_rfl)
theorem bs79 (a b : Int) (w : World) : (Instr.buildSlice 79 1 #[(0, .agg #[iv a, iv b])]).run Try.prog w = .ok (.slice (some ⟨w.heap.size, 0, none⟩) 1 1) (w.alloc (.cells #[iv a, iv b] 81)) := by kernel_rfl
theorem slot_rem2 (x : Int) : (x.tmod 8 + 8).tmod 8 = (slot x : Int) ∧ -8 < x.tmod 8 ∧ x.tmod 8 < 8 := by
  have h2 : 0 ≤ x % 8 ∧ x % 8 < 8 := by omega
  have h1 : x.tmod 8 = x % 8 ∨ (x.tmod 8 = x % 8 - 8 ∧ 0 < x % 8) := by
    rw [Int.tmod_eq_emod]
    split
    · omega
    · rename_i hn
      right
      have : ¬ (8 : Int) ∣ x := fun e => hn (.inr e)
      constructor
      · rfl
      · omega
  unfold slot
  rcases h1 with h1 | ⟨h1, h3⟩
  · rw [h1, Int.tmod_eq_emod_of_nonneg (by omega)]; omega
  · rw [h1, Int.tmod_eq_emod_of_nonneg (by omega)]; omega
theorem lenSum_take {O : List (List Int)} {i : Nat} (hi : i < O.length) : lenSum (O.take (i + 1)) = lenSum (O.take i) + (oS O i).length := by
  have : O[i]? = some (oS O i) := by unfold oS; rw [List.getD_eq_getElem?_getD, List.getElem?_eq_getElem hi]; rfl
  unfold lenSum
  rw [List.take_add_one, this]
  simp
theorem UInv.done {ks : List Int} {O : List (List Int)} {L : List (Int × Int)} {before : Int} (h : UInv ks O L before 0) : nextN L = 0 := by
  have hz : ∀ s, s < 8 → oS O s = [] := by
    intro s hs
    have h1 := lenSum_set (O := O) (s := s) (by rw [h.len]; exact hs) []
    have h2 := h.tot
    simp only [List.length_nil] at h1
    exact List.length_eq_zero_iff.1 (by omega)
  rcases next_mem L 0 with he | ⟨p, hp, he⟩
  · exact he
  · have he' : p.2 = nextN L := he
    rw [← he']
    rw [h.lo] at hp
    obtain ⟨x, hx, rfl⟩ := List.mem_map.1 hp
    have h8 := h.k8 x hx
    show cur (oS O (x - 1).toNat) = 0
    rw [hz _ (by omega)]; rfl

set_option maxHeartbeats 16000000 in
theorem undoes_law {w : World} {v : Value} {L : List Act} (h : CellsAt w v L.length 2 (bcs L)) (hin : ∀ a ∈ L, In a.1 ∧ In a.2) : Cl Try.prog 9 [v] w fun r w' => r = .bool true ∧ Fm (fun _ => False) w w' := by
  have hlm := h.lt
  unfold maxLen at hlm
  refine c9 ?_; unfold T9
  refine RunS_ok (mk57 w) ?_
  have hf1 := Fm.alloc (fun _ => False) w (.cells (List.replicate 8 (Value.bool false)).toArray 4)
  have hn1 := alloc_new w (.cells (List.replicate 8 (Value.bool false)).toArray 4)
  have hs1 := alloc_size w (.cells (List.replicate 8 (Value.bool false)).toArray 4)
  generalize w.alloc (.cells (List.replicate 8 (Value.bool false)).toArray 4) = w1 at hf1 hn1 hs1
  refine ⟨fun vs w' => ∃ (i : Nat) (st : List Bool × List Act) (ov : Value), vs = [ov, iv i] ∧ i ≤ L.length ∧ i ≤ 200 ∧ KInv st ∧ (∀ a ∈ st.2, a ∈ L) ∧ st.2.length ≤ i ∧ w'.heap[w.heap.size]? = some (.cells (st.1.map Value.bool).toArray 4) ∧ w'.ownsRow (w.heap.size + 1) 81 2 ov st.2.length (bcs st.2) ∧ Fm (fun _ => False) w w', fun vs _ => (L.length - nth vs 1).toNat, ⟨0, kept0, nl, rfl, by omega, by omega, KInv.zero, by simp [kept0], by simp [kept0], hn1, World.ownsRow_nil _ _ _ _, hf1⟩, ?_⟩
  rintro _ w2 ov ivv ⟨i, st, ov0, hvs, hi, hi2, hK, hmem, hlen, hg2, ho2, hF2⟩
  cases hvs
  by_cases hlt : i < L.length ∧ i < 200
  · obtain ⟨hlt, hlt2⟩ := hlt
    have ha : L[i]? = some L[i] := List.getElem?_eq_getElem hlt
    generalize L[i] = a at ha
    obtain ⟨hia, hib⟩ := hin a (List.mem_of_getElem? ha)
    have d1 : decide ((i : Int) < (L.length : Int)) = true := by rw [decide_eq_true_eq]; omega
    have d2 : decide ((i : Int) < 200) = true := by rw [decide_eq_true_eq]; omega
    have e2 : IntKind.i64.wrap ((i : Int) + 1) = ((i + 1 : Nat) : Int) := by rw [wrap_id] <;> omega
    obtain ⟨ad, hix, q0, q1⟩ := bcs_at (h.keep hF2 (fun _ _ e => e)) ha
    obtain ⟨r1, r2, r3⟩ := slot_rem2 a.2
    have hr := rem_emod (TypeDesc.int IntKind.i64) (a := a.2) (b := 8) (by omega)
    have e8 : IntKind.i64.wrap (a.2.tmod 8 + 8) = a.2.tmod 8 + 8 := by rw [wrap_id]; omega
    have hr2 := rem_emod (TypeDesc.int IntKind.i64) (a := a.2.tmod 8 + 8) (b := 8) (by omega)
    rw [r1] at hr2
    have hs := slot_lt a.2
    have hks := hK.step a
    generalize hse : slot a.2 = s at hs hr2
    have hc : w2.cell? ⟨w.heap.size, s, none⟩ = some (.bool (st.1.getD s false)) := by
      refine rowc hg2 ?_
      have : st.1[s]? = some (st.1.getD s false) := by
        rw [List.getD_eq_getElem?_getD, List.getElem?_eq_getElem (by have := hK.len; omega)]; rfl
      rw [List.getElem?_map, this]; rfl
    simp only [Pu_some, extV_0, extV_1, extV_2, extV_3, nilV_ptr, nilV_fn, faV_ptr, lenV_sl, lenS_s, capV_sl, pickV_t, pickV_f, unV_not, unV_neg, isB_t, isB_f, isB_u, binV_add, binV_sub, binV_mul, binV_eql, binV_neq, binV_lss, binV_leq, binV_gtr, binV_geq, binV_seql, binV_sneq, binV_slss, binV_beql, binV_bneq, binV_peql, binV_pneq, add_add, add_none, Go.Al.add_zero, Nat.zero_add, Nat.add_zero, IfB_t, IfB_f, Gd_t, Gd_f, Ld_ptr, LdN_ptr, Option.isNone_some, Option.isNone_none, Option.isSome_some, Option.isSome_none, Bool.not_true, Bool.not_false, drew_cell, drew_heap, h.lenV, d1, d2]
    refine Jn_at (fun vs w' => ∃ (st : List Bool × List Act) (ov : Value), vs = [ov] ∧ KInv st ∧ (∀ a ∈ st.2, a ∈ L) ∧ st.2.length ≤ i + 1 ∧ w'.heap[w.heap.size]? = some (.cells (st.1.map Value.bool).toArray 4) ∧ w'.ownsRow (w.heap.size + 1) 81 2 ov st.2.length (bcs st.2) ∧ Fm (fun _ => False) w w') ?_ ?_
    · rintro _ w3 ⟨st', ov', rfl, g1, g2, g3, g4, g5, g6⟩ _
      refine ⟨_, rfl, ?_⟩
      simp only [Pu_some, extV_0, extV_1, extV_2, extV_3, nilV_ptr, nilV_fn, faV_ptr, lenV_sl, lenS_s, capV_sl, pickV_t, pickV_f, unV_not, unV_neg, isB_t, isB_f, isB_u, binV_add, binV_sub, binV_mul, binV_eql, binV_neq, binV_lss, binV_leq, binV_gtr, binV_geq, binV_seql, binV_sneq, binV_slss, binV_beql, binV_bneq, binV_peql, binV_pneq, add_add, add_none, Go.Al.add_zero, Nat.zero_add, Nat.add_zero, IfB_t, IfB_f, Gd_t, Gd_f, Ld_ptr, LdN_ptr, Option.isNone_some, Option.isNone_none, Option.isSome_some, Option.isSome_none, Bool.not_true, Bool.not_false, drew_cell, drew_heap, e2]
      exact ⟨⟨i + 1, st', ov', rfl, by omega, by omega, g1, g2, g3, g4, g5, g6⟩, by simp only [nth_1]; omega⟩
    · intro jj hjj
      simp only [Pu_some, extV_0, extV_1, extV_2, extV_3, nilV_ptr, nilV_fn, faV_ptr, lenV_sl, lenS_s, capV_sl, pickV_t, pickV_f, unV_not, unV_neg, isB_t, isB_f, isB_u, binV_add, binV_sub, binV_mul, binV_eql, binV_neq, binV_lss, binV_leq, binV_gtr, binV_geq, binV_seql, binV_sneq, binV_slss, binV_beql, binV_bneq, binV_peql, binV_pneq, add_add, add_none, Go.Al.add_zero, Nat.zero_add, Nat.add_zero, IfB_t, IfB_f, Gd_t, Gd_f, Ld_ptr, LdN_ptr, Option.isNone_some, Option.isNone_none, Option.isSome_some, Option.isSome_none, Bool.not_true, Bool.not_false, drew_cell, drew_heap, hix, q1, hr, e8, hr2, ix8 _ s hs, hc]
      -- it is kept
      have keep : (keepStep st a) = (st.1.set s (st.1.getD s false || decide (a.1 = 3)), st.2 ++ [a]) → ∀ b : Bool, b = (st.1.getD s false || decide (a.1 = 3)) → St 1 w2 (.pointer (some ⟨w.heap.size, s, none⟩)) (.bool b) fun u_191 w_192 =>
          Pu (cellsV w_192 ad 2) fun t81_194 =>
          RunS Try.prog (Instr.buildSlice 79 1 #[(0, t81_194)]) w_192 fun t82_196 w_197 =>
          RunS Try.prog (Builtin.append_ #[79, 79] 79 #[ov, t82_196]) w_197 fun t83_198 w_199 =>
          jj [t83_198] w_199 := by
        rintro hk b rfl
        rw [hk] at hks
        refine St_blk hg2 (by have := hK.len; simp only [List.size_toArray, List.length_map]; omega) rfl ?_
        intro w3 hw3 hs3 hf3
        have hF3 : Fm (fun _ => False) w w3 := Fm.own hF2 hf3 (by rintro y rfl; omega)
        have hne : ad.block ≠ w.heap.size := by
          intro e
          obtain ⟨ad', hix', hbl, _⟩ := h.at (by omega) hlt .i64
          rw [show (Value.int .i64 (i : Int)) = iv (i : Int) from rfl, hix] at hix'
          cases hix'
          have := h.blt (by intro e; have := h.len; rw [e] at this; simp at this; omega) _ hbl
          omega
        have q03 := hf3.cell' q0 (fun e => hne e)
        have q13 := hf3.cell' q1 (fun e => hne (by rw [add_block] at e; exact e))
        have ho3 := own_keep ho2 hf3 (fun k h1 _ _ e => by omega)
        simp only [Pu_some, extV_0, extV_1, extV_2, extV_3, nilV_ptr, nilV_fn, faV_ptr, lenV_sl, lenS_s, capV_sl, pickV_t, pickV_f, unV_not, unV_neg, isB_t, isB_f, isB_u, binV_add, binV_sub, binV_mul, binV_eql, binV_neq, binV_lss, binV_leq, binV_gtr, binV_geq, binV_seql, binV_sneq, binV_slss, binV_beql, binV_bneq, binV_peql, binV_pneq, add_add, add_none, Go.Al.add_zero, Nat.zero_add, Nat.add_zero, IfB_t, IfB_f, Gd_t, Gd_f, Ld_ptr, LdN_ptr, Option.isNone_some, Option.isNone_none, Option.isSome_some, Option.isSome_none, Bool.not_true, Bool.not_false, drew_cell, drew_heap, cellsV_2 q03 q13]
        refine RunS_ok (bs79 _ _ _) ?_
        have hf4 := Fm.alloc (fun _ => False) w3 (.cells #[iv a.1, iv a.2] 81)
        have hn4 := alloc_new w3 (.cells #[iv a.1, iv a.2] 81)
        have hz3 := hF3.size
        have hw4 := hf4.heap hw3 (fun e => e)
        have ho4 := own_keep ho3 hf4 (fun _ _ _ _ e => e)
        have hF4 := Fmf hF3 hf4
        have hz4 := alloc_size w3 (.cells #[iv a.1, iv a.2] 81)
        generalize w3.alloc (.cells #[iv a.1, iv a.2] 81) = w4 at hf4 hn4 hw4 ho4 hF4 hz4
        obtain ⟨ov', w5, hr5, ho5, _, hf5⟩ := app_fine E79 (by omega) ho4 (cs := [iv a.1, iv a.2]) hn4 rfl (by intro u hu; simp at hu; rcases hu with rfl | rfl <;> rfl) (by omega) (by unfold maxLen; omega) (by omega)
        refine RunS_ok hr5 ?_
        have hlt4 := own_lt ho4
        refine hjj _ _ ⟨_, ov', rfl, hks, ?_, ?_, ?_, ?_, Fm.own hF4 hf5 (fun y hy => by have := hlt4 y hy; omega)⟩
        · intro b hb
          rcases List.mem_append.1 hb with hb | hb
          · exact hmem b hb
          · obtain rfl : b = a := by simpa using hb
            exact List.mem_of_getElem? ha
        · simp only [List.length_append, List.length_cons, List.length_nil]; omega
        · rw [hf5.heap hw4 (fun e => by have := hlt4 _ e; omega), setA, List.map_set]
        · show w5.ownsRow _ _ _ _ (st.2 ++ [a]).length _
          rw [List.length_append, bcs_app]
          exact ho5
      cases hu : st.1.getD s false with
      | true =>
        rw [hu] at keep
        simp only [Pu_some, extV_0, extV_1, extV_2, extV_3, nilV_ptr, nilV_fn, faV_ptr, lenV_sl, lenS_s, capV_sl, pickV_t, pickV_f, unV_not, unV_neg, isB_t, isB_f, isB_u, binV_add, binV_sub, binV_mul, binV_eql, binV_neq, binV_lss, binV_leq, binV_gtr, binV_geq, binV_seql, binV_sneq, binV_slss, binV_beql, binV_bneq, binV_peql, binV_pneq, add_add, add_none, Go.Al.add_zero, Nat.zero_add, Nat.add_zero, IfB_t, IfB_f, Gd_t, Gd_f, Ld_ptr, LdN_ptr, Option.isNone_some, Option.isNone_none, Option.isSome_some, Option.isSome_none, Bool.not_true, Bool.not_false, drew_cell, drew_heap, hix, q0]
        cases hlo : decide (a.1 < 2) with
        | true =>
          simp only [Pu_some, extV_0, extV_1, extV_2, extV_3, nilV_ptr, nilV_fn, faV_ptr, lenV_sl, lenS_s, capV_sl, pickV_t, pickV_f, unV_not, unV_neg, isB_t, isB_f, isB_u, binV_add, binV_sub, binV_mul, binV_eql, binV_neq, binV_lss, binV_leq, binV_gtr, binV_geq, binV_seql, binV_sneq, binV_slss, binV_beql, binV_bneq, binV_peql, binV_pneq, add_add, add_none, Go.Al.add_zero, Nat.zero_add, Nat.add_zero, IfB_t, IfB_f, Gd_t, Gd_f, Ld_ptr, LdN_ptr, Option.isNone_some, Option.isNone_none, Option.isSome_some, Option.isSome_none, Bool.not_true, Bool.not_false, drew_cell, drew_heap]
          exact hjj _ _ ⟨st, ov, rfl, hK, hmem, by omega, hg2, ho2, hF2⟩
        | false =>
          simp only [Pu_some, extV_0, extV_1, extV_2, extV_3, nilV_ptr, nilV_fn, faV_ptr, lenV_sl, lenS_s, capV_sl, pickV_t, pickV_f, unV_not, unV_neg, isB_t, isB_f, isB_u, binV_add, binV_sub, binV_mul, binV_eql, binV_neq, binV_lss, binV_leq, binV_gtr, binV_geq, binV_seql, binV_sneq, binV_slss, binV_beql, binV_bneq, binV_peql, binV_pneq, add_add, add_none, Go.Al.add_zero, Nat.zero_add, Nat.add_zero, IfB_t, IfB_f, Gd_t, Gd_f, Ld_ptr, LdN_ptr, Option.isNone_some, Option.isNone_none, Option.isSome_some, Option.isSome_none, Bool.not_true, Bool.not_false, drew_cell, drew_heap, hix, q0, beq_dec]
          cases h2 : decide (a.1 = 2) with
          | true =>
            simp only [Pu_some, extV_0, extV_1, extV_2, extV_3, nilV_ptr, nilV_fn, faV_ptr, lenV_sl, lenS_s, capV_sl, pickV_t, pickV_f, unV_not, unV_neg, isB_t, isB_f, isB_u, binV_add, binV_sub, binV_mul, binV_eql, binV_neq, binV_lss, binV_leq, binV_gtr, binV_geq, binV_seql, binV_sneq, binV_slss, binV_beql, binV_bneq, binV_peql, binV_pneq, add_add, add_none, Go.Al.add_zero, Nat.zero_add, Nat.add_zero, IfB_t, IfB_f, Gd_t, Gd_f, Ld_ptr, LdN_ptr, Option.isNone_some, Option.isNone_none, Option.isSome_some, Option.isSome_none, Bool.not_true, Bool.not_false, drew_cell, drew_heap]
            exact hjj _ _ ⟨st, ov, rfl, hK, hmem, by omega, hg2, ho2, hF2⟩
          | false =>
            simp only [Pu_some, extV_0, extV_1, extV_2, extV_3, nilV_ptr, nilV_fn, faV_ptr, lenV_sl, lenS_s, capV_sl, pickV_t, pickV_f, unV_not, unV_neg, isB_t, isB_f, isB_u, binV_add, binV_sub, binV_mul, binV_eql, binV_neq, binV_lss, binV_leq, binV_gtr, binV_geq, binV_seql, binV_sneq, binV_slss, binV_beql, binV_bneq, binV_peql, binV_pneq, add_add, add_none, Go.Al.add_zero, Nat.zero_add, Nat.add_zero, IfB_t, IfB_f, Gd_t, Gd_f, Ld_ptr, LdN_ptr, Option.isNone_some, Option.isNone_none, Option.isSome_some, Option.isSome_none, Bool.not_true, Bool.not_false, drew_cell, drew_heap, hu, hc]
            exact keep (by unfold keepStep; rw [hse, hu, hlo, h2]; rfl) true (by rw [Bool.true_or])
      | false =>
        rw [hu] at keep hc
        simp only [Pu_some, extV_0, extV_1, extV_2, extV_3, nilV_ptr, nilV_fn, faV_ptr, lenV_sl, lenS_s, capV_sl, pickV_t, pickV_f, unV_not, unV_neg, isB_t, isB_f, isB_u, binV_add, binV_sub, binV_mul, binV_eql, binV_neq, binV_lss, binV_leq, binV_gtr, binV_geq, binV_seql, binV_sneq, binV_slss, binV_beql, binV_bneq, binV_peql, binV_pneq, add_add, add_none, Go.Al.add_zero, Nat.zero_add, Nat.add_zero, IfB_t, IfB_f, Gd_t, Gd_f, Ld_ptr, LdN_ptr, Option.isNone_some, Option.isNone_none, Option.isSome_some, Option.isSome_none, Bool.not_true, Bool.not_false, drew_cell, drew_heap, hc, hix, q0, beq_dec]
        exact keep (by unfold keepStep; rw [hse, hu]; rfl) _ (by rw [Bool.false_or])
  · have hdd : (decide ((i : Int) < (L.length : Int)) = true ∧ decide ((i : Int) < 200) = false) ∨ decide ((i : Int) < (L.length : Int)) = false := by
      by_cases h1 : (i : Int) < (L.length : Int)
      · exact .inl ⟨decide_eq_true h1, decide_eq_false (by omega)⟩
      · exact .inr (decide_eq_false h1)
    have main : Cl Try.prog 34 [iv 16, ov] w2 (fun r w' => ∃ vs out, r = .tuple #[out, .slice (some ⟨w2.heap.size + 1, 0, none⟩) 8 8] ∧ LgAt w2 w' w2.heap.size vs out (lgN st.2 st.2.length)) :=
      log_spec (CellsAt.of_own ho2) (fun a ha => hin a (hmem a ha)) hK.good (by omega)
    have hinv := lgInv hK.good st.2.length (Nat.le_refl _)
    rw [List.take_length] at hinv
    generalize lgN st.2 st.2.length = σ at main hinv
    have hun := hinv.undoes (by omega)
    have hstart := hinv.start (by omega)
    have hon := hinv.n
    have hll : (losers σ.out).length ≤ 200 := by
      unfold losers
      rw [List.length_map, sortK_len]
      have := lastM_len σ.out
      omega
    have hbound : lenSum σ.opn ≤ 1600 := by
      rw [← lenSum_L8 hinv.l2]
      refine Nat.le_trans (sum_le (b := 200) (fun x hx => ?_)) (by simp [L8])
      have h8 := mem_L8.1 hx
      have := hinv.lo (x - 1).toNat (by omega)
      show (opnS σ (x - 1).toNat).length ≤ _
      omega
    have hgl : ∀ (f : Nat → Prop), True := fun _ => trivial
    have t8 : σ.opn.take 8 = σ.opn := List.take_of_length_le (by rw [hinv.l2]; exact Nat.le_refl _)
    have hmono : ∀ j, j ≤ 8 → lenSum (σ.opn.take j) ≤ 1600 := fun j hj => by
      refine Nat.le_trans ?_ hbound
      have : lenSum σ.opn = lenSum (σ.opn.take j) + lenSum (σ.opn.drop j) := by
        unfold lenSum
        rw [← List.sum_append, ← List.map_append, List.take_append_drop]
      omega
    have hin3 : ∀ r ∈ σ.out, (In r.lsn ∧ In r.prev ∧ In r.next ∧ In r.xid) ∧ r.imgs = [] := fun r hr => by
      obtain ⟨⟨a1, a2, a3, a4, a5, a6, a7, a8⟩, a9⟩ := hinv.inb r hr
      unfold In
      refine ⟨⟨?_, ?_, ?_, ?_⟩, a9⟩ <;> omega
    generalize hks : sortK (lastM σ.out) = ks at hstart
    generalize hlL : losers σ.out = L0 at hstart hll
    have hF2' := hF2.size
    rcases hdd with ⟨dd1, dd2⟩ | dd1
    all_goals first | simp only [Pu_some, extV_0, extV_1, extV_2, extV_3, nilV_ptr, nilV_fn, faV_ptr, lenV_sl, lenS_s, capV_sl, pickV_t, pickV_f, unV_not, unV_neg, isB_t, isB_f, isB_u, binV_add, binV_sub, binV_mul, binV_eql, binV_neq, binV_lss, binV_leq, binV_gtr, binV_geq, binV_seql, binV_sneq, binV_slss, binV_beql, binV_bneq, binV_peql, binV_pneq, add_add, add_none, Go.Al.add_zero, Nat.zero_add, Nat.add_zero, IfB_t, IfB_f, Gd_t, Gd_f, Ld_ptr, LdN_ptr, Option.isNone_some, Option.isNone_none, Option.isSome_some, Option.isSome_none, Bool.not_true, Bool.not_false, drew_cell, drew_heap, h.lenV, dd1, dd2] | simp only [Pu_some, extV_0, extV_1, extV_2, extV_3, nilV_ptr, nilV_fn, faV_ptr, lenV_sl, lenS_s, capV_sl, pickV_t, pickV_f, unV_not, unV_neg, isB_t, isB_f, isB_u, binV_add, binV_sub, binV_mul, binV_eql, binV_neq, binV_lss, binV_leq, binV_gtr, binV_geq, binV_seql, binV_sneq, binV_slss, binV_beql, binV_bneq, binV_peql, binV_pneq, add_add, add_none, Go.Al.add_zero, Nat.zero_add, Nat.add_zero, IfB_t, IfB_f, Gd_t, Gd_f, Ld_ptr, LdN_ptr, Option.isNone_some, Option.isNone_none, Option.isSome_some, Option.isSome_none, Bool.not_true, Bool.not_false, drew_cell, drew_heap, h.lenV, dd1]
    all_goals
      refine main.mono ?_
      rintro _ w3 ⟨ws, out, rfl, hA3⟩
      simp only [Pu_some, extV_0, extV_1, extV_2, extV_3, nilV_ptr, nilV_fn, faV_ptr, lenV_sl, lenS_s, capV_sl, pickV_t, pickV_f, unV_not, unV_neg, isB_t, isB_f, isB_u, binV_add, binV_sub, binV_mul, binV_eql, binV_neq, binV_lss, binV_leq, binV_gtr, binV_geq, binV_seql, binV_sneq, binV_slss, binV_beql, binV_bneq, binV_peql, binV_pneq, add_add, add_none, Go.Al.add_zero, Nat.zero_add, Nat.add_zero, IfB_t, IfB_f, Gd_t, Gd_f, Ld_ptr, LdN_ptr, Option.isNone_some, Option.isNone_none, Option.isSome_some, Option.isSome_none, Bool.not_true, Bool.not_false, drew_cell, drew_heap]
      refine RunS_ok (bld65 1 _) ?_
      have hsl := rows_as (CellsAt.of_own hA3.ot) hin3 (by omega)
      refine (find_spec (m := 16) (by unfold In; omega) 0 0 0 0 0 1 0 hsl).mono ?_
      rintro _ w4 ⟨redo, hd, lv, rfl, ho4, _, hf4⟩
      rw [hun, hlL] at *
      refine New_any ?_
      intro gf w5 hgf hs5 hw5 hf5
      refine St_all hw5 rfl rfl (by intro u hu; simp [fcs] at hu; rcases hu with rfl | rfl | rfl | rfl | rfl | rfl <;> first | rfl | exact own_one ho4) ?_
      intro w6 hw6 hs6 hf6
      have hf46 : Fm (fun _ => False) w4 w6 := Fm.own hf5 hf6 (by rintro y rfl; omega)
      have hg6 : FdAt w6 gf redo hd lv (lenSum σ.opn : Nat) := hw6
      have hA6 := hA3.keep (Fmf hf4 hf46)
      have ho6 := own_keep ho4 hf46 (fun _ _ _ _ e => e)
      have hgw := hA3.gw
      refine ⟨fun vs w' => ∃ j : Nat, vs = [iv (lenSum (σ.opn.take j) : Nat), iv j] ∧ j ≤ 8 ∧ w' = w6, fun vs _ => (8 - nth vs 1).toNat, ⟨0, rfl, by omega, rfl⟩, ?_⟩
      rintro _ w7 wv jv ⟨j, hvs, hj, hw7⟩
      cases hvs
      subst hw7
      by_cases h8 : j < 8
      · have d3 : decide ((j : Int) < ((8 : Nat) : Int)) = true := by rw [decide_eq_true_eq]; omega
        have e3 : IntKind.i64.wrap ((j : Int) + 1) = ((j + 1 : Nat) : Int) := by rw [wrap_id] <;> omega
        obtain ⟨vv, hv, hc⟩ := hA6.at15 h8
        have hlv := (CellsAt.of_own (hA6.own _ _ hv)).lenV
        have hlt3 : lenSum (σ.opn.take (j + 1)) = lenSum (σ.opn.take j) + (opnS σ j).length := lenSum_take (by rw [hinv.l2]; exact h8)
        have hm := hmono (j + 1) (by omega)
        have e4 : IntKind.i64.wrap ((lenSum (σ.opn.take j) : Nat) + ((opnS σ j).length : Int)) = ((lenSum (σ.opn.take (j + 1)) : Nat) : Int) := by rw [wrap_id] <;> omega
        simp only [Pu_some, extV_0, extV_1, extV_2, extV_3, nilV_ptr, nilV_fn, faV_ptr, lenV_sl, lenS_s, capV_sl, pickV_t, pickV_f, unV_not, unV_neg, isB_t, isB_f, isB_u, binV_add, binV_sub, binV_mul, binV_eql, binV_neq, binV_lss, binV_leq, binV_gtr, binV_geq, binV_seql, binV_sneq, binV_slss, binV_beql, binV_bneq, binV_peql, binV_pneq, add_add, add_none, Go.Al.add_zero, Nat.zero_add, Nat.add_zero, IfB_t, IfB_f, Gd_t, Gd_f, Ld_ptr, LdN_ptr, Option.isNone_some, Option.isNone_none, Option.isSome_some, Option.isSome_none, Bool.not_true, Bool.not_false, drew_cell, drew_heap, d3, ix8 _ j h8, hc, hlv, e4, e3]
        exact ⟨⟨j + 1, rfl, by omega, (by trivial)⟩, by simp only [nth_1]; omega⟩
      · have hj8 : j = 8 := by omega
        subst hj8
        have d3 : decide (((8 : Nat) : Int) < ((8 : Nat) : Int)) = false := by simp
        rw [t8]
        simp only [Pu_some, extV_0, extV_1, extV_2, extV_3, nilV_ptr, nilV_fn, faV_ptr, lenV_sl, lenS_s, capV_sl, pickV_t, pickV_f, unV_not, unV_neg, isB_t, isB_f, isB_u, binV_add, binV_sub, binV_mul, binV_eql, binV_neq, binV_lss, binV_leq, binV_gtr, binV_geq, binV_seql, binV_sneq, binV_slss, binV_beql, binV_bneq, binV_peql, binV_pneq, add_add, add_none, Go.Al.add_zero, Nat.zero_add, Nat.add_zero, IfB_t, IfB_f, Gd_t, Gd_f, Ld_ptr, LdN_ptr, Option.isNone_some, Option.isNone_none, Option.isSome_some, Option.isSome_none, Bool.not_true, Bool.not_false, drew_cell, drew_heap, d3, hg6.c5, bne_self_eq_false, hg6.c4]
        generalize hW : lenSum σ.opn = W at hstart hbound
        refine ⟨fun vs w' => ∃ (k : Nat) (O : List (List Int)) (Lo : List (Int × Int)) (ws' : List Value) (lv' : Value) (b : Int), vs = [lv', iv b, iv k] ∧ k ≤ W ∧ LgAt w2 w' w2.heap.size ws' out ⟨σ.last, O, σ.over, σ.out⟩ ∧ UInv ks O Lo b (W - k) ∧ w'.ownsRow (w2.heap.size + 3) 77 2 lv' Lo.length (bcs Lo) ∧ Lo.length ≤ 200, fun vs _ => (W - nth vs 2).toNat, ⟨0, σ.opn, L0, ws, lv, _, rfl, by omega, hA6, hstart, own_base ho6 (by omega), hll⟩, ?_⟩
        rintro _ w8 lv1 bv kv ⟨k, O, Lo, ws1, lv1', b, hvs, hk, hA8, hU, ho8, hLo⟩
        cases hvs
        have hc8 := CellsAt.of_own ho8
        by_cases hkW : k < W
        · have d4 : decide ((k : Int) < (W : Int)) = true := by rw [decide_eq_true_eq]; omega
          have e5 : IntKind.i64.wrap ((k : Int) + 1) = ((k + 1 : Nat) : Int) := by rw [wrap_id] <;> omega
          obtain ⟨n, hn⟩ : ∃ n, W - k = n + 1 := ⟨W - k - 1, by omega⟩
          have hWn : W - (k + 1) = n := by omega
          rw [hn] at hU
          obtain ⟨hpos, hbef, s, hs, hne, hcur, hoth⟩ := hU.next
          simp only [Pu_some, extV_0, extV_1, extV_2, extV_3, nilV_ptr, nilV_fn, faV_ptr, lenV_sl, lenS_s, capV_sl, pickV_t, pickV_f, unV_not, unV_neg, isB_t, isB_f, isB_u, binV_add, binV_sub, binV_mul, binV_eql, binV_neq, binV_lss, binV_leq, binV_gtr, binV_geq, binV_seql, binV_sneq, binV_slss, binV_beql, binV_bneq, binV_peql, binV_pneq, add_add, add_none, Go.Al.add_zero, Nat.zero_add, Nat.add_zero, IfB_t, IfB_f, Gd_t, Gd_f, Ld_ptr, LdN_ptr, Option.isNone_some, Option.isNone_none, Option.isSome_some, Option.isSome_none, Bool.not_true, Bool.not_false, drew_cell, drew_heap, d4]
          refine (next_spec hc8).mono ?_
          rintro _ w9 ⟨rfl, hf9⟩
          have hA9 := hA8.keep hf9
          have ho9 := own_keep ho8 hf9 (fun _ _ _ _ e => e)
          have d5 : decide (0 < nextN Lo) = true := decide_eq_true hpos
          have d6 : decide (b ≤ nextN Lo) = false := decide_eq_false (by omega)
          rw [d5]
          simp only [Pu_some, extV_0, extV_1, extV_2, extV_3, nilV_ptr, nilV_fn, faV_ptr, lenV_sl, lenS_s, capV_sl, pickV_t, pickV_f, unV_not, unV_neg, isB_t, isB_f, isB_u, binV_add, binV_sub, binV_mul, binV_eql, binV_neq, binV_lss, binV_leq, binV_gtr, binV_geq, binV_seql, binV_sneq, binV_slss, binV_beql, binV_bneq, binV_peql, binV_pneq, add_add, add_none, Go.Al.add_zero, Nat.zero_add, Nat.add_zero, IfB_t, IfB_f, Gd_t, Gd_f, Ld_ptr, LdN_ptr, Option.isNone_some, Option.isNone_none, Option.isSome_some, Option.isSome_none, Bool.not_true, Bool.not_false, drew_cell, drew_heap, d6]
          have hO8 := hU.len
          refine ⟨fun vs w' => ∃ (j : Nat) (hit next : Int) (ws2 : List Value) (O2 : List (List Int)), vs = [iv hit, iv next, iv j] ∧ j ≤ 8 ∧ LgAt w2 w' w2.heap.size ws2 out ⟨σ.last, O2, σ.over, σ.out⟩ ∧ w'.ownsRow (w2.heap.size + 3) 77 2 lv1 Lo.length (bcs Lo) ∧ ((j ≤ s ∧ hit = -1 ∧ next = 0 ∧ O2 = O) ∨ (s < j ∧ hit = (s : Int) ∧ next = cur ((oS O s).take ((oS O s).length - 1)) ∧ O2 = O.set s ((oS O s).take ((oS O s).length - 1)))), fun vs _ => (8 - nth vs 2).toNat, ⟨0, -1, 0, ws1, O, rfl, by omega, hA9, ho9, .inl ⟨by omega, rfl, rfl, rfl⟩⟩, ?_⟩
          rintro _ w10 hv nv jv ⟨j, hit, next, ws2, O2, hvs, hj, hA10, ho10, hcase⟩
          cases hvs
          by_cases h8 : j < 8
          · have d7 : decide ((j : Int) < ((8 : Nat) : Int)) = true := by rw [decide_eq_true_eq]; omega
            have e6 : IntKind.i64.wrap ((j : Int) + 1) = ((j + 1 : Nat) : Int) := by rw [wrap_id] <;> omega
            obtain ⟨vv, hv, hc⟩ := hA10.at15 h8
            have hov := hA10.own _ _ hv
            have hOj : opnS ⟨σ.last, O2, σ.over, σ.out⟩ j = oS O2 j := rfl
            rw [hOj] at hov
            have hOlen : O2.length = 8 := hA10.n2
            have hlv := (CellsAt.of_own hov).lenV
            have hlt := (CellsAt.of_own hov).lt
            unfold maxLen at hlt
            simp only [Pu_some, extV_0, extV_1, extV_2, extV_3, nilV_ptr, nilV_fn, faV_ptr, lenV_sl, lenS_s, capV_sl, pickV_t, pickV_f, unV_not, unV_neg, isB_t, isB_f, isB_u, binV_add, binV_sub, binV_mul, binV_eql, binV_neq, binV_lss, binV_leq, binV_gtr, binV_geq, binV_seql, binV_sneq, binV_slss, binV_beql, binV_bneq, binV_peql, binV_pneq, add_add, add_none, Go.Al.add_zero, Nat.zero_add, Nat.add_zero, IfB_t, IfB_f, Gd_t, Gd_f, Ld_ptr, LdN_ptr, Option.isNone_some, Option.isNone_none, Option.isSome_some, Option.isSome_none, Bool.not_true, Bool.not_false, drew_cell, drew_heap, d7]
            refine Jn_at (fun vs w' => ∃ (hit next : Int) (ws2 : List Value) (O2 : List (List Int)), vs = [iv hit, iv next] ∧ LgAt w2 w' w2.heap.size ws2 out ⟨σ.last, O2, σ.over, σ.out⟩ ∧ w'.ownsRow (w2.heap.size + 3) 77 2 lv1 Lo.length (bcs Lo) ∧ ((j + 1 ≤ s ∧ hit = -1 ∧ next = 0 ∧ O2 = O) ∨ (s < j + 1 ∧ hit = (s : Int) ∧ next = cur ((oS O s).take ((oS O s).length - 1)) ∧ O2 = O.set s ((oS O s).take ((oS O s).length - 1))))) ?_ ?_
            · rintro _ w11 ⟨hit', next', ws3, O3, rfl, g1, g2, g3⟩ _
              refine ⟨_, _, rfl, ?_⟩
              simp only [Pu_some, extV_0, extV_1, extV_2, extV_3, nilV_ptr, nilV_fn, faV_ptr, lenV_sl, lenS_s, capV_sl, pickV_t, pickV_f, unV_not, unV_neg, isB_t, isB_f, isB_u, binV_add, binV_sub, binV_mul, binV_eql, binV_neq, binV_lss, binV_leq, binV_gtr, binV_geq, binV_seql, binV_sneq, binV_slss, binV_beql, binV_bneq, binV_peql, binV_pneq, add_add, add_none, Go.Al.add_zero, Nat.zero_add, Nat.add_zero, IfB_t, IfB_f, Gd_t, Gd_f, Ld_ptr, LdN_ptr, Option.isNone_some, Option.isNone_none, Option.isSome_some, Option.isSome_none, Bool.not_true, Bool.not_false, drew_cell, drew_heap, e6]
              exact ⟨⟨j + 1, hit', next', ws3, O3, rfl, by omega, g1, g2, g3⟩, by simp only [nth_2]; omega⟩
            · intro jj hjj
              have d8 : decide ((0 : Int) < ((oS O2 j).length : Int)) = !decide (oS O2 j = []) := by
                cases hoj : oS O2 j with
                | nil => rfl
                | cons x l => rw [decide_eq_true (by simp only [List.length_cons]; omega)]; rfl
              simp only [Pu_some, extV_0, extV_1, extV_2, extV_3, nilV_ptr, nilV_fn, faV_ptr, lenV_sl, lenS_s, capV_sl, pickV_t, pickV_f, unV_not, unV_neg, isB_t, isB_f, isB_u, binV_add, binV_sub, binV_mul, binV_eql, binV_neq, binV_lss, binV_leq, binV_gtr, binV_geq, binV_seql, binV_sneq, binV_slss, binV_beql, binV_bneq, binV_peql, binV_pneq, add_add, add_none, Go.Al.add_zero, Nat.zero_add, Nat.add_zero, IfB_t, IfB_f, Gd_t, Gd_f, Ld_ptr, LdN_ptr, Option.isNone_some, Option.isNone_none, Option.isSome_some, Option.isSome_none, Bool.not_true, Bool.not_false, drew_cell, drew_heap, ix8 _ j h8, hc, hlv, d8]
              -- what is not the one
              have other : j ≠ s → jj [iv hit, iv next] w10 := fun hjs => hjj _ _ ⟨hit, next, ws2, O2, rfl, hA10, ho10, by
                rcases hcase with ⟨c1, c2⟩ | ⟨c1, c2⟩
                · exact .inl ⟨by omega, c2⟩
                · exact .inr ⟨by omega, c2⟩⟩
              cases hem : decide (oS O2 j = []) with
              | true =>
                rw [decide_eq_true_eq] at hem
                simp only [Pu_some, extV_0, extV_1, extV_2, extV_3, nilV_ptr, nilV_fn, faV_ptr, lenV_sl, lenS_s, capV_sl, pickV_t, pickV_f, unV_not, unV_neg, isB_t, isB_f, isB_u, binV_add, binV_sub, binV_mul, binV_eql, binV_neq, binV_lss, binV_leq, binV_gtr, binV_geq, binV_seql, binV_sneq, binV_slss, binV_beql, binV_bneq, binV_peql, binV_pneq, add_add, add_none, Go.Al.add_zero, Nat.zero_add, Nat.add_zero, IfB_t, IfB_f, Gd_t, Gd_f, Ld_ptr, LdN_ptr, Option.isNone_some, Option.isNone_none, Option.isSome_some, Option.isSome_none, Bool.not_true, Bool.not_false, drew_cell, drew_heap, Bool.not_true]
                refine other ?_
                rintro rfl
                rcases hcase with ⟨c1, _, _, rfl⟩ | ⟨c1, _⟩
                · exact hne hem
                · omega
              | false =>
                rw [decide_eq_false_iff_not] at hem
                have hlp : 0 < (oS O2 j).length := List.length_pos_iff.2 hem
                have e7 : IntKind.i64.wrap (((oS O2 j).length : Int) - 1) = (((oS O2 j).length - 1 : Nat) : Int) := by rw [wrap_id] <;> omega
                obtain ⟨ad, hix, _, hcu⟩ := (CellsAt.of_own hov).at1 (i := (oS O2 j).length - 1) (x := iv (cur (oS O2 j))) (by rw [List.getElem?_map, cur_of hem]; rfl) .i64
                simp only [Pu_some, extV_0, extV_1, extV_2, extV_3, nilV_ptr, nilV_fn, faV_ptr, lenV_sl, lenS_s, capV_sl, pickV_t, pickV_f, unV_not, unV_neg, isB_t, isB_f, isB_u, binV_add, binV_sub, binV_mul, binV_eql, binV_neq, binV_lss, binV_leq, binV_gtr, binV_geq, binV_seql, binV_sneq, binV_slss, binV_beql, binV_bneq, binV_peql, binV_pneq, add_add, add_none, Go.Al.add_zero, Nat.zero_add, Nat.add_zero, IfB_t, IfB_f, Gd_t, Gd_f, Ld_ptr, LdN_ptr, Option.isNone_some, Option.isNone_none, Option.isSome_some, Option.isSome_none, Bool.not_true, Bool.not_false, drew_cell, drew_heap, Bool.not_false, ix8 _ j h8, hc, e7, hix, hcu, beq_dec]
                cases hat : decide (cur (oS O2 j) = nextN Lo) with
                | false =>
                  rw [decide_eq_false_iff_not] at hat
                  simp only [Pu_some, extV_0, extV_1, extV_2, extV_3, nilV_ptr, nilV_fn, faV_ptr, lenV_sl, lenS_s, capV_sl, pickV_t, pickV_f, unV_not, unV_neg, isB_t, isB_f, isB_u, binV_add, binV_sub, binV_mul, binV_eql, binV_neq, binV_lss, binV_leq, binV_gtr, binV_geq, binV_seql, binV_sneq, binV_slss, binV_beql, binV_bneq, binV_peql, binV_pneq, add_add, add_none, Go.Al.add_zero, Nat.zero_add, Nat.add_zero, IfB_t, IfB_f, Gd_t, Gd_f, Ld_ptr, LdN_ptr, Option.isNone_some, Option.isNone_none, Option.isSome_some, Option.isSome_none, Bool.not_true, Bool.not_false, drew_cell, drew_heap]
                  refine other ?_
                  rintro rfl
                  rcases hcase with ⟨c1, _, _, rfl⟩ | ⟨c1, _⟩
                  · exact hat hcur
                  · omega
                | true =>
                  rw [decide_eq_true_eq] at hat
                  have hjs : j = s := by
                    apply Classical.byContradiction
                    intro hjs
                    have : oS O2 j = oS O j := by
                      rcases hcase with ⟨_, _, _, rfl⟩ | ⟨_, _, _, rfl⟩
                      · rfl
                      · rw [oS_set (by omega), if_neg hjs]
                    rw [this] at hat hem
                    exact hoth j h8 hjs hem hat
                  subst hjs
                  obtain ⟨rfl, rfl, rfl⟩ : hit = -1 ∧ next = 0 ∧ O2 = O := by
                    rcases hcase with ⟨_, c⟩ | ⟨c1, _⟩
                    · exact c
                    · omega
                  obtain ⟨v', hsl', hov', hob⟩ := own_hi hov (m := (oS O2 j).length - 1) (by omega) hlp
                  simp only [Pu_some, extV_0, extV_1, extV_2, extV_3, nilV_ptr, nilV_fn, faV_ptr, lenV_sl, lenS_s, capV_sl, pickV_t, pickV_f, unV_not, unV_neg, isB_t, isB_f, isB_u, binV_add, binV_sub, binV_mul, binV_eql, binV_neq, binV_lss, binV_leq, binV_gtr, binV_geq, binV_seql, binV_sneq, binV_slss, binV_beql, binV_bneq, binV_peql, binV_pneq, add_add, add_none, Go.Al.add_zero, Nat.zero_add, Nat.add_zero, IfB_t, IfB_f, Gd_t, Gd_f, Ld_ptr, LdN_ptr, Option.isNone_some, Option.isNone_none, Option.isSome_some, Option.isSome_none, Bool.not_true, Bool.not_false, drew_cell, drew_heap, ix8 _ j h8, hc, e7, hsl']
                  refine St_blk hA10.l15 (by have := hA10.nv; simp only [List.size_toArray]; omega) (own_one hov') ?_
                  intro w11 hw11 hs11 hf11
                  have hl1 : ((oS O2 j).take ((oS O2 j).length - 1)).length = (oS O2 j).length - 1 := by rw [List.length_take]; omega
                  have hA11 := hA10.setOpen h8 hv (Fm.refl _ w10) (o := (oS O2 j).take ((oS O2 j).length - 1)) (by rw [hl1, List.map_take]; exact hov') (fun b hb => .inl (by rw [← hob]; exact hb)) hw11 hf11
                  have ho11 := own_keep ho10 hf11 (fun k h1 _ _ e => by omega)
                  have hres : ∀ nx, nx = cur ((oS O2 j).take ((oS O2 j).length - 1)) → jj [iv j, iv nx] w11 := fun nx hnx => hjj _ _ ⟨_, _, _, _, rfl, hA11, ho11, .inr ⟨by omega, rfl, hnx, rfl⟩⟩
                  by_cases hg1 : 1 < (oS O2 j).length
                  · have d9 : decide ((1 : Int) < ((oS O2 j).length : Int)) = true := by rw [decide_eq_true_eq]; omega
                    have e9 : IntKind.i64.wrap (((oS O2 j).length : Int) - 2) = (((oS O2 j).length - 2 : Nat) : Int) := by rw [wrap_id] <;> omega
                    have hx2 : (oS O2 j)[(oS O2 j).length - 2]? = some (oS O2 j)[(oS O2 j).length - 2] := List.getElem?_eq_getElem (by omega)
                    have hcur2 := cur_take hx2
                    rw [show (oS O2 j).length - 2 + 1 = (oS O2 j).length - 1 by omega] at hcur2
                    generalize (oS O2 j)[(oS O2 j).length - 2] = y at hx2 hcur2
                    obtain ⟨v3, hv3, hc3⟩ := hA11.at15 h8
                    have hv3' : v3 = v' := by
                      rw [List.getElem?_set_self (by have := hA10.nv; omega)] at hv3
                      exact (Option.some.inj hv3).symm
                    subst hv3'
                    have hov11 := own_keep hov' hf11 (fun k h1 _ _ e => by omega)
                    obtain ⟨ad3, hix3, _, hcy⟩ := (CellsAt.of_own hov11).at1 (i := (oS O2 j).length - 2) (x := iv y) (by rw [List.getElem?_take, if_pos (by omega), List.getElem?_map, hx2]; rfl) .i64
                    simp only [Pu_some, extV_0, extV_1, extV_2, extV_3, nilV_ptr, nilV_fn, faV_ptr, lenV_sl, lenS_s, capV_sl, pickV_t, pickV_f, unV_not, unV_neg, isB_t, isB_f, isB_u, binV_add, binV_sub, binV_mul, binV_eql, binV_neq, binV_lss, binV_leq, binV_gtr, binV_geq, binV_seql, binV_sneq, binV_slss, binV_beql, binV_bneq, binV_peql, binV_pneq, add_add, add_none, Go.Al.add_zero, Nat.zero_add, Nat.add_zero, IfB_t, IfB_f, Gd_t, Gd_f, Ld_ptr, LdN_ptr, Option.isNone_some, Option.isNone_none, Option.isSome_some, Option.isSome_none, Bool.not_true, Bool.not_false, drew_cell, drew_heap, d9, ix8 _ j h8, hc3, e9, hix3, hcy]
                    exact hres y hcur2.symm
                  · have d9 : decide ((1 : Int) < ((oS O2 j).length : Int)) = false := by rw [decide_eq_false_iff_not]; omega
                    simp only [Pu_some, extV_0, extV_1, extV_2, extV_3, nilV_ptr, nilV_fn, faV_ptr, lenV_sl, lenS_s, capV_sl, pickV_t, pickV_f, unV_not, unV_neg, isB_t, isB_f, isB_u, binV_add, binV_sub, binV_mul, binV_eql, binV_neq, binV_lss, binV_leq, binV_gtr, binV_geq, binV_seql, binV_sneq, binV_slss, binV_beql, binV_bneq, binV_peql, binV_pneq, add_add, add_none, Go.Al.add_zero, Nat.zero_add, Nat.add_zero, IfB_t, IfB_f, Gd_t, Gd_f, Ld_ptr, LdN_ptr, Option.isNone_some, Option.isNone_none, Option.isSome_some, Option.isSome_none, Bool.not_true, Bool.not_false, drew_cell, drew_heap, d9]
                    exact hres 0 (by rw [show (oS O2 j).length - 1 = 0 by omega]; rfl)
          · have hj8 : j = 8 := by omega
            subst hj8
            have d7 : decide (((8 : Nat) : Int) < ((8 : Nat) : Int)) = false := by simp
            obtain ⟨_, rfl, rfl, rfl⟩ : s < 8 ∧ hit = (s : Int) ∧ next = cur ((oS O s).take ((oS O s).length - 1)) ∧ O2 = O.set s ((oS O s).take ((oS O s).length - 1)) := by
              rcases hcase with ⟨c1, _⟩ | c
              · omega
              · exact c
            have d8 : decide ((s : Int) < 0) = false := by rw [decide_eq_false_iff_not]; omega
            simp only [Pu_some, extV_0, extV_1, extV_2, extV_3, nilV_ptr, nilV_fn, faV_ptr, lenV_sl, lenS_s, capV_sl, pickV_t, pickV_f, unV_not, unV_neg, isB_t, isB_f, isB_u, binV_add, binV_sub, binV_mul, binV_eql, binV_neq, binV_lss, binV_leq, binV_gtr, binV_geq, binV_seql, binV_sneq, binV_slss, binV_beql, binV_bneq, binV_peql, binV_pneq, add_add, add_none, Go.Al.add_zero, Nat.zero_add, Nat.add_zero, IfB_t, IfB_f, Gd_t, Gd_f, Ld_ptr, LdN_ptr, Option.isNone_some, Option.isNone_none, Option.isSome_some, Option.isSome_none, Bool.not_true, Bool.not_false, drew_cell, drew_heap, d7, d8]
            refine (undone_spec (CellsAt.of_own ho10) (by omega) (nextN Lo) _).mono ?_
            rintro lv2 w11 ⟨L', ho11, hl', hL', hf11⟩
            have hgw10 := hA10.gw
            simp only [Pu_some, extV_0, extV_1, extV_2, extV_3, nilV_ptr, nilV_fn, faV_ptr, lenV_sl, lenS_s, capV_sl, pickV_t, pickV_f, unV_not, unV_neg, isB_t, isB_f, isB_u, binV_add, binV_sub, binV_mul, binV_eql, binV_neq, binV_lss, binV_leq, binV_gtr, binV_geq, binV_seql, binV_sneq, binV_slss, binV_beql, binV_bneq, binV_peql, binV_pneq, add_add, add_none, Go.Al.add_zero, Nat.zero_add, Nat.add_zero, IfB_t, IfB_f, Gd_t, Gd_f, Ld_ptr, LdN_ptr, Option.isNone_some, Option.isNone_none, Option.isSome_some, Option.isSome_none, Bool.not_true, Bool.not_false, drew_cell, drew_heap, e5]
            refine ⟨⟨k + 1, _, L', ws2, lv2, nextN Lo, rfl, by omega, hA10.keep hf11, ?_, ?_, by omega⟩, by simp only [nth_2]; omega⟩
            · rw [hWn]
              exact hU.undo hs hne hcur hL'
            · rw [hl']; exact own_base ho11 (by omega)
        · have hkW' : k = W := by omega
          subst hkW'
          have d4 : decide ((k : Int) < (k : Int)) = false := by simp
          rw [Nat.sub_self] at hU
          simp only [Pu_some, extV_0, extV_1, extV_2, extV_3, nilV_ptr, nilV_fn, faV_ptr, lenV_sl, lenS_s, capV_sl, pickV_t, pickV_f, unV_not, unV_neg, isB_t, isB_f, isB_u, binV_add, binV_sub, binV_mul, binV_eql, binV_neq, binV_lss, binV_leq, binV_gtr, binV_geq, binV_seql, binV_sneq, binV_slss, binV_beql, binV_bneq, binV_peql, binV_pneq, add_add, add_none, Go.Al.add_zero, Nat.zero_add, Nat.add_zero, IfB_t, IfB_f, Gd_t, Gd_f, Ld_ptr, LdN_ptr, Option.isNone_some, Option.isNone_none, Option.isSome_some, Option.isSome_none, Bool.not_true, Bool.not_false, drew_cell, drew_heap, d4]
          refine (next_spec hc8).mono ?_
          rintro _ w9 ⟨rfl, hf9⟩
          rw [hU.done]
          have d5 : decide ((0 : Int) < 0) = false := by decide
          rw [d5]
          simp only [Pu_some, extV_0, extV_1, extV_2, extV_3, nilV_ptr, nilV_fn, faV_ptr, lenV_sl, lenS_s, capV_sl, pickV_t, pickV_f, unV_not, unV_neg, isB_t, isB_f, isB_u, binV_add, binV_sub, binV_mul, binV_eql, binV_neq, binV_lss, binV_leq, binV_gtr, binV_geq, binV_seql, binV_sneq, binV_slss, binV_beql, binV_bneq, binV_peql, binV_pneq, add_add, add_none, Go.Al.add_zero, Nat.zero_add, Nat.add_zero, IfB_t, IfB_f, Gd_t, Gd_f, Ld_ptr, LdN_ptr, Option.isNone_some, Option.isNone_none, Option.isSome_some, Option.isSome_none, Bool.not_true, Bool.not_false, drew_cell, drew_heap]
          refine (awake_spec w9).mono ?_
          rintro _ w10 ⟨rfl, hf10⟩
          simp only [Pu_some, extV_0, extV_1, extV_2, extV_3, nilV_ptr, nilV_fn, faV_ptr, lenV_sl, lenS_s, capV_sl, pickV_t, pickV_f, unV_not, unV_neg, isB_t, isB_f, isB_u, binV_add, binV_sub, binV_mul, binV_eql, binV_neq, binV_lss, binV_leq, binV_gtr, binV_geq, binV_seql, binV_sneq, binV_slss, binV_beql, binV_bneq, binV_peql, binV_pneq, add_add, add_none, Go.Al.add_zero, Nat.zero_add, Nat.add_zero, IfB_t, IfB_f, Gd_t, Gd_f, Ld_ptr, LdN_ptr, Option.isNone_some, Option.isNone_none, Option.isSome_some, Option.isSome_none, Bool.not_true, Bool.not_false, drew_cell, drew_heap]
          exact ⟨(by trivial), Fmf (Fmf hF2 hA8.fm) (Fmf hf9 hf10)⟩

end Go.Proofs.Ythgdinjgdjiknaa
