/- What the functions of package space do. -/
import Derived.Test.YtgknklnbcjjlkaaCps
import Derived.Test.YtgknklnbcjjlkaaAlHeap
namespace Go.Proofs.Ytgknklnbcjjlkaa
open Go.Al Go.Proofs
set_option linter.unusedVariables false
set_option linter.unusedSimpArgs false
set_option linter.unusedSectionVars false

abbrev iv : Int → Value := Value.int .i64
theorem K62 : KeyT Try.prog 62 3 3 iv := keyT_int Try.underlying62 Try.underlying3
theorem z3 (w : World) : (zeroValue 3).run Try.prog w = .ok (iv 0) w := by kernel_rfl
theorem bld64 (v : Nat) (w : World) : (Instr.build 64 #[(0, .map (some v))]).run Try.prog w = .ok (.agg #[.map (some v)]) w := by kernel_rfl

/-- A map of rooms: the struct in block b, its map in block bm. -/
structure IsM (w : World) (b bm : Nat) (D : List (Int × Int)) : Prop where
  st : w.heap[b]? = some (.cells #[.map (some bm)] 64)
  mp : MapAt w bm iv iv D

theorem IsM.keep {S : Nat → Prop} {w w' : World} {b bm : Nat} {D : List (Int × Int)} (h : IsM w b bm D) (hf : Fm S w w') (h1 : ¬ S b) (h2 : ¬ S bm) : IsM w' b bm D := ⟨hf.heap h.st h1, h.mp.keep hf h2⟩
theorem IsM.ne {w : World} {b bm : Nat} {D : List (Int × Int)} (h : IsM w b bm D) : b ≠ bm := by
  rintro rfl
  obtain ⟨es, c, hb, _⟩ := h.mp.ex
  rw [h.st] at hb; cases hb

theorem new_spec (w : World) : Cl Try.prog 12 [] w fun v w' => ∃ b bm, v = .pointer (some ⟨b, 0, none⟩) ∧ w.heap.size ≤ b ∧ w.heap.size ≤ bm ∧ IsM w' b bm [] ∧ Fm (fun _ => False) w w' := by
  refine c12 ?_
  unfold T12
  refine RunS_ok (makeMap_run _ _) (RunS_ok (bld64 _ _) (New_any ?_))
  intro b w' hb hs hw hf
  have hb' : w.heap.size < b := by rw [hb, alloc_size]; omega
  refine ⟨b, w.heap.size, rfl, by omega, Nat.le_refl _, ⟨hw, (MapAt.empty w iv iv).keep hf (fun e => e)⟩, (Fm.alloc _ w _).trans hf (fun _ _ h => h) (fun _ _ h => h)⟩

theorem drop_spec {w : World} {b bm : Nat} {D : List (Int × Int)} (h : IsM w b bm D) (p : Int) : Cl Try.prog 13 [.pointer (some ⟨b, 0, none⟩), iv p] w fun v w' => IsM w' b bm (delD D p) ∧ Fm (· = bm) w w' := by
  refine c13 ?_
  unfold T13
  simp only [Pu_some, extV_0, extV_1, extV_2, extV_3, nilV_ptr, nilV_fn, faV_ptr, lenV_sl, lenS_s, capV_sl, pickV_t, pickV_f, unV_not, unV_neg, isB_t, isB_f, isB_u, binV_add, binV_sub, binV_mul, binV_eql, binV_neq, binV_lss, binV_leq, binV_gtr, binV_geq, binV_seql, binV_sneq, binV_slss, binV_beql, binV_bneq, binV_peql, binV_pneq, add_add, add_none, Nat.zero_add, Nat.add_zero, IfB_t, IfB_f, Gd_t, Gd_f, Ld_ptr, LdN_ptr, Option.isNone_some, Option.isNone_none, Option.isSome_some, Option.isSome_none, Bool.not_true, Bool.not_false, drew_cell, drew_heap, cell_at h.st, List.getElem?_toArray, List.getElem?_cons_zero]
  obtain ⟨w', hr, hm, hf, _⟩ := delete_run K62 h.mp p 0 3
  exact RunS_ok hr ⟨⟨hf.heap h.st h.ne, hm⟩, hf⟩

theorem set_spec {w : World} {b bm : Nat} {D : List (Int × Int)} (h : IsM w b bm D) (p r : Int) : Cl Try.prog 14 [.pointer (some ⟨b, 0, none⟩), iv p, iv r] w fun v w' => IsM w' b bm (setD D p r) ∧ Fm (· = bm) w w' := by
  refine c14 ?_
  unfold T14
  simp only [Pu_some, extV_0, extV_1, extV_2, extV_3, nilV_ptr, nilV_fn, faV_ptr, lenV_sl, lenS_s, capV_sl, pickV_t, pickV_f, unV_not, unV_neg, isB_t, isB_f, isB_u, binV_add, binV_sub, binV_mul, binV_eql, binV_neq, binV_lss, binV_leq, binV_gtr, binV_geq, binV_seql, binV_sneq, binV_slss, binV_beql, binV_bneq, binV_peql, binV_pneq, add_add, add_none, Nat.zero_add, Nat.add_zero, IfB_t, IfB_f, Gd_t, Gd_f, Ld_ptr, LdN_ptr, Option.isNone_some, Option.isNone_none, Option.isSome_some, Option.isSome_none, Bool.not_true, Bool.not_false, drew_cell, drew_heap, cell_at h.st, List.getElem?_toArray, List.getElem?_cons_zero]
  obtain ⟨w', hr, hm, hf, _⟩ := update_run K62 h.mp p r
  exact RunU_ok hr ⟨⟨hf.heap h.st h.ne, hm⟩, hf⟩

/-- What Room answers. -/
def roomV (D : List (Int × Int)) (p : Int) : Value := .tuple #[iv ((getD D p).getD 0), .bool (getD D p).isSome]

theorem room_spec {w : World} {b bm : Nat} {D : List (Int × Int)} (h : IsM w b bm D) (p : Int) : Cl Try.prog 15 [.pointer (some ⟨b, 0, none⟩), iv p] w fun v w' => v = roomV D p ∧ w' = w := by
  refine c15 ?_
  unfold T15
  simp only [Pu_some, extV_0, extV_1, extV_2, extV_3, nilV_ptr, nilV_fn, faV_ptr, lenV_sl, lenS_s, capV_sl, pickV_t, pickV_f, unV_not, unV_neg, isB_t, isB_f, isB_u, binV_add, binV_sub, binV_mul, binV_eql, binV_neq, binV_lss, binV_leq, binV_gtr, binV_geq, binV_seql, binV_sneq, binV_slss, binV_beql, binV_bneq, binV_peql, binV_pneq, add_add, add_none, Nat.zero_add, Nat.add_zero, IfB_t, IfB_f, Gd_t, Gd_f, Ld_ptr, LdN_ptr, Option.isNone_some, Option.isNone_none, Option.isSome_some, Option.isSome_none, Bool.not_true, Bool.not_false, drew_cell, drew_heap, cell_at h.st, List.getElem?_toArray, List.getElem?_cons_zero]
  refine RunS_ok (lookup_run K62 h.mp p true (z3 w)) ?_
  cases hg : getD D p <;> simp only [okV, cond_true] <;> simp only [Pu_some, extV_0, extV_1, extV_2, extV_3, nilV_ptr, nilV_fn, faV_ptr, lenV_sl, lenS_s, capV_sl, pickV_t, pickV_f, unV_not, unV_neg, isB_t, isB_f, isB_u, binV_add, binV_sub, binV_mul, binV_eql, binV_neq, binV_lss, binV_leq, binV_gtr, binV_geq, binV_seql, binV_sneq, binV_slss, binV_beql, binV_bneq, binV_peql, binV_pneq, add_add, add_none, Nat.zero_add, Nat.add_zero, IfB_t, IfB_f, Gd_t, Gd_f, Ld_ptr, LdN_ptr, Option.isNone_some, Option.isNone_none, Option.isSome_some, Option.isSome_none, Bool.not_true, Bool.not_false, drew_cell, drew_heap] <;> simp [roomV, hg]

/-- What Find answers. -/
structure FindR (D : List (Int × Int)) (room : Int) (best : Int) (found : Bool) : Prop where
  no : found = false → best = 0 ∧ ∀ q ∈ D, q.2 < room
  yes : found = true → (∃ r, (best, r) ∈ D ∧ room ≤ r) ∧ ∀ q ∈ D, room ≤ q.2 → best ≤ q.1
structure FindI (D left : List (Int × Int)) (room : Int) (best : Int) (found : Bool) : Prop where
  no : found = false → best = 0 ∧ ∀ q ∈ D, room ≤ q.2 → q ∈ left
  yes : found = true → (∃ r, (best, r) ∈ D ∧ room ≤ r) ∧ ∀ q ∈ D, room ≤ q.2 → q ∈ left ∨ best ≤ q.1

theorem FindI.skip {D left : List (Int × Int)} {room best : Int} {found : Bool} {i : Nat} {p : Int × Int} (h : FindI D left room best found) (hp : left[i]? = some p) (hs : room ≤ p.2 → found = true ∧ best ≤ p.1) : FindI D (left.eraseIdx i) room best found := by
  refine ⟨fun hf => ⟨(h.no hf).1, fun q hq hr => ?_⟩, fun hf => ⟨(h.yes hf).1, fun q hq hr => ?_⟩⟩
  · rcases mem_erase_or hp ((h.no hf).2 q hq hr) with rfl | h'
    · rw [(hs hr).1] at hf; cases hf
    · exact h'
  · rcases (h.yes hf).2 q hq hr with h' | h'
    · rcases mem_erase_or hp h' with rfl | h'
      · exact .inr (hs hr).2
      · exact .inl h'
    · exact .inr h'
theorem FindI.take {D left : List (Int × Int)} {room best : Int} {found : Bool} {i : Nat} {p : Int × Int} (h : FindI D left room best found) (hp : left[i]? = some p) (hD : p ∈ D) (hr : room ≤ p.2) (hs : found = true → p.1 ≤ best) : FindI D (left.eraseIdx i) room p.1 true := by
  refine ⟨fun hf => (by cases hf), fun _ => ⟨⟨p.2, hD, hr⟩, fun q hq hqr => ?_⟩⟩
  have : q ∈ left ∨ (found = true ∧ best ≤ q.1) := by
    cases hf : found with
    | false => exact .inl ((h.no hf).2 q hq hqr)
    | true => exact ((h.yes hf).2 q hq hqr).imp id fun e => ⟨rfl, e⟩
  rcases this with h' | ⟨hf, h'⟩
  · rcases mem_erase_or hp h' with rfl | h'
    · exact .inr (Int.le_refl _)
    · exact .inl h'
  · exact .inr (Int.le_trans (hs hf) h')

theorem find_spec {w : World} {b bm : Nat} {D : List (Int × Int)} (h : IsM w b bm D) (room : Int) : Cl Try.prog 20 [.pointer (some ⟨b, 0, none⟩), iv room] w fun v w' => ∃ best found, v = .tuple #[iv best, .bool found] ∧ FindR D room best found ∧ Fm (fun _ => False) w w' := by
  refine c20 ?_
  unfold T20
  simp only [Pu_some, extV_0, extV_1, extV_2, extV_3, nilV_ptr, nilV_fn, faV_ptr, lenV_sl, lenS_s, capV_sl, pickV_t, pickV_f, unV_not, unV_neg, isB_t, isB_f, isB_u, binV_add, binV_sub, binV_mul, binV_eql, binV_neq, binV_lss, binV_leq, binV_gtr, binV_geq, binV_seql, binV_sneq, binV_slss, binV_beql, binV_bneq, binV_peql, binV_pneq, add_add, add_none, Nat.zero_add, Nat.add_zero, IfB_t, IfB_f, Gd_t, Gd_f, Ld_ptr, LdN_ptr, Option.isNone_some, Option.isNone_none, Option.isSome_some, Option.isSome_none, Bool.not_true, Bool.not_false, drew_cell, drew_heap, cell_at h.st, List.getElem?_toArray, List.getElem?_cons_zero]
  obtain ⟨w1, hr1, hR, hf1, hs1⟩ := range_run K62.map h.mp
  refine RunS_ok hr1 ?_
  refine ⟨fun vs w2 => ∃ best found left, vs = [iv best, .bool found] ∧ RangeAt w2 w.heap.size bm iv iv D left ∧ FindI D left room best found ∧ (∀ q ∈ left, q ∈ D) ∧ Fm (fun _ => False) w w2, fun _ w2 => rl w2 w.heap.size bm, ⟨0, false, D, rfl, hR, ⟨fun _ => ⟨rfl, fun q hq _ => hq⟩, fun e => by cases e⟩, fun q hq => hq, hf1⟩, ?_⟩
  rintro g w2 bv fv ⟨best, found, left, ⟨⟩, hR, hI, hsub, hf⟩
  rcases next_run (P := Try.prog) hR 0 with ⟨rfl, hrun⟩ | ⟨i, p, w3, hp, hrun, hR', hf', hs', hent⟩
  · refine RunS_ok hrun ?_
    simp only [Pu_some, extV_0, extV_1, extV_2, extV_3, nilV_ptr, nilV_fn, faV_ptr, lenV_sl, lenS_s, capV_sl, pickV_t, pickV_f, unV_not, unV_neg, isB_t, isB_f, isB_u, binV_add, binV_sub, binV_mul, binV_eql, binV_neq, binV_lss, binV_leq, binV_gtr, binV_geq, binV_seql, binV_sneq, binV_slss, binV_beql, binV_bneq, binV_peql, binV_pneq, add_add, add_none, Nat.zero_add, Nat.add_zero, IfB_t, IfB_f, Gd_t, Gd_f, Ld_ptr, LdN_ptr, Option.isNone_some, Option.isNone_none, Option.isSome_some, Option.isSome_none, Bool.not_true, Bool.not_false, drew_cell, drew_heap]
    refine ⟨best, found, rfl, ⟨fun e => ⟨(hI.no e).1, fun q hq => ?_⟩, fun e => ⟨(hI.yes e).1, fun q hq hr => ?_⟩⟩, hf⟩
    · rcases Int.lt_or_le q.2 room with h | h
      · exact h
      · exact absurd ((hI.no e).2 q hq h) (by simp)
    · rcases (hI.yes e).2 q hq hr with h | h
      · exact absurd h (by simp)
      · exact h
  · refine RunS_ok hrun ?_
    simp only [Pu_some, extV_0, extV_1, extV_2, extV_3, nilV_ptr, nilV_fn, faV_ptr, lenV_sl, lenS_s, capV_sl, pickV_t, pickV_f, unV_not, unV_neg, isB_t, isB_f, isB_u, binV_add, binV_sub, binV_mul, binV_eql, binV_neq, binV_lss, binV_leq, binV_gtr, binV_geq, binV_seql, binV_sneq, binV_slss, binV_beql, binV_bneq, binV_peql, binV_pneq, add_add, add_none, Nat.zero_add, Nat.add_zero, IfB_t, IfB_f, Gd_t, Gd_f, Ld_ptr, LdN_ptr, Option.isNone_some, Option.isNone_none, Option.isSome_some, Option.isSome_none, Bool.not_true, Bool.not_false, drew_cell, drew_heap]
    refine RunS_ok hent ?_
    have hpD : p ∈ D := hsub p (List.mem_of_getElem? hp)
    have hlen : rl w3 w.heap.size bm < rl w2 w.heap.size bm := by
      rw [hR.len, hR'.len]
      obtain ⟨hlt, _⟩ := List.getElem?_eq_some_iff.1 hp
      rw [List.length_eraseIdx]; simp [hlt]; omega
    have hsub' : ∀ q ∈ left.eraseIdx i, q ∈ D := fun q hq => hsub q (List.mem_of_mem_eraseIdx hq)
    have hfw : Fm (fun _ => False) w w3 := hf.trans hf' (fun _ _ e => e) (fun x hx e => by omega)
    have skip : (room ≤ p.2 → found = true ∧ best ≤ p.1) → (∃ best' found' left', [iv best, .bool found] = [iv best', .bool found'] ∧ RangeAt w3 w.heap.size bm iv iv D left' ∧ FindI D left' room best' found' ∧ (∀ q ∈ left', q ∈ D) ∧ Fm (fun _ => False) w w3) ∧ rl w3 w.heap.size bm < rl w2 w.heap.size bm := fun hs =>
      ⟨⟨best, found, _, rfl, hR', hI.skip hp hs, hsub', hfw⟩, hlen⟩
    have take : room ≤ p.2 → (found = true → p.1 ≤ best) → (∃ best' found' left', [iv p.1, .bool true] = [iv best', .bool found'] ∧ RangeAt w3 w.heap.size bm iv iv D left' ∧ FindI D left' room best' found' ∧ (∀ q ∈ left', q ∈ D) ∧ Fm (fun _ => False) w w3) ∧ rl w3 w.heap.size bm < rl w2 w.heap.size bm := fun hr hs =>
      ⟨⟨p.1, true, _, rfl, hR', hI.take hp hpD hr hs, hsub', hfw⟩, hlen⟩
    rcases Int.lt_or_le p.2 room with hr | hr
    · have e1 : decide (room ≤ p.2) = false := by simpa using hr
      simp only [Pu_some, extV_0, extV_1, extV_2, extV_3, nilV_ptr, nilV_fn, faV_ptr, lenV_sl, lenS_s, capV_sl, pickV_t, pickV_f, unV_not, unV_neg, isB_t, isB_f, isB_u, binV_add, binV_sub, binV_mul, binV_eql, binV_neq, binV_lss, binV_leq, binV_gtr, binV_geq, binV_seql, binV_sneq, binV_slss, binV_beql, binV_bneq, binV_peql, binV_pneq, add_add, add_none, Nat.zero_add, Nat.add_zero, IfB_t, IfB_f, Gd_t, Gd_f, Ld_ptr, LdN_ptr, Option.isNone_some, Option.isNone_none, Option.isSome_some, Option.isSome_none, Bool.not_true, Bool.not_false, drew_cell, drew_heap, e1]
      exact skip fun e => by omega
    · have e1 : decide (room ≤ p.2) = true := by simpa using hr
      cases found with
      | false =>
        simp only [Pu_some, extV_0, extV_1, extV_2, extV_3, nilV_ptr, nilV_fn, faV_ptr, lenV_sl, lenS_s, capV_sl, pickV_t, pickV_f, unV_not, unV_neg, isB_t, isB_f, isB_u, binV_add, binV_sub, binV_mul, binV_eql, binV_neq, binV_lss, binV_leq, binV_gtr, binV_geq, binV_seql, binV_sneq, binV_slss, binV_beql, binV_bneq, binV_peql, binV_pneq, add_add, add_none, Nat.zero_add, Nat.add_zero, IfB_t, IfB_f, Gd_t, Gd_f, Ld_ptr, LdN_ptr, Option.isNone_some, Option.isNone_none, Option.isSome_some, Option.isSome_none, Bool.not_true, Bool.not_false, drew_cell, drew_heap, e1]
        exact take hr (fun e => by cases e)
      | true =>
        rcases Int.lt_or_le p.1 best with hb | hb
        · have e2 : decide (p.1 < best) = true := by simpa using hb
          simp only [Pu_some, extV_0, extV_1, extV_2, extV_3, nilV_ptr, nilV_fn, faV_ptr, lenV_sl, lenS_s, capV_sl, pickV_t, pickV_f, unV_not, unV_neg, isB_t, isB_f, isB_u, binV_add, binV_sub, binV_mul, binV_eql, binV_neq, binV_lss, binV_leq, binV_gtr, binV_geq, binV_seql, binV_sneq, binV_slss, binV_beql, binV_bneq, binV_peql, binV_pneq, add_add, add_none, Nat.zero_add, Nat.add_zero, IfB_t, IfB_f, Gd_t, Gd_f, Ld_ptr, LdN_ptr, Option.isNone_some, Option.isNone_none, Option.isSome_some, Option.isSome_none, Bool.not_true, Bool.not_false, drew_cell, drew_heap, e1, e2]
          exact take hr (fun _ => by omega)
        · have e2 : decide (p.1 < best) = false := by simpa using hb
          simp only [Pu_some, extV_0, extV_1, extV_2, extV_3, nilV_ptr, nilV_fn, faV_ptr, lenV_sl, lenS_s, capV_sl, pickV_t, pickV_f, unV_not, unV_neg, isB_t, isB_f, isB_u, binV_add, binV_sub, binV_mul, binV_eql, binV_neq, binV_lss, binV_leq, binV_gtr, binV_geq, binV_seql, binV_sneq, binV_slss, binV_beql, binV_bneq, binV_peql, binV_pneq, add_add, add_none, Nat.zero_add, Nat.add_zero, IfB_t, IfB_f, Gd_t, Gd_f, Ld_ptr, LdN_ptr, Option.isNone_some, Option.isNone_none, Option.isSome_some, Option.isSome_none, Bool.not_true, Bool.not_false, drew_cell, drew_heap, e1, e2]
          exact skip fun _ => ⟨rfl, hb⟩

end Go.Proofs.Ytgknklnbcjjlkaa
