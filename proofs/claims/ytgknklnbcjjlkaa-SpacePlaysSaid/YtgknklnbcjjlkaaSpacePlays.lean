/- SpacePlays: which page has room, change by change. -/
import Derived.Test.YtgknklnbcjjlkaaSpaceRef
namespace Go.Proofs.Ytgknklnbcjjlkaa
open Go.Al Go.Proofs
set_option linter.unusedVariables false
set_option linter.unusedSimpArgs false
set_option linter.unusedSectionVars false

abbrev Rises (R : PL) : Prop := R.Pairwise fun x y => x.1 < y.1
theorem Rises.nodup {R : PL} (h : Rises R) : (R.map (·.1)).Nodup := by
  rw [List.Nodup, List.pairwise_map]; exact h.imp fun e => by omega
/-- The list says what the map says. -/
structure Rel (D R : PL) : Prop where
  up : Rises R
  nd : (D.map (·.1)).Nodup
  mem : ∀ q, q ∈ D ↔ q ∈ R
theorem Rel.get {D R : PL} (h : Rel D R) (p : Int) : getD D p = getD R p := by
  cases hD : getD D p with
  | some b => exact ((getD_some h.up.nodup).2 ((h.mem _).1 ((getD_some h.nd).1 hD))).symm
  | none =>
    cases hR : getD R p with
    | none => rfl
    | some b => have := (getD_some h.nd).2 ((h.mem _).2 ((getD_some h.up.nodup).1 hR)); rw [hD] at this; cases this
theorem Rel.find {D R : PL} (h : Rel D R) {room best : Int} {found : Bool} (hf : FindR D room best found) : pairV ((rfind R room).map (·.1)) = .tuple #[iv best, .bool found] := by
  cases found with
  | false =>
    obtain ⟨rfl, hno⟩ := hf.no rfl
    have : rfind R room = none := by
      rw [rfind, List.find?_eq_none]; intro q hq
      have := hno q ((h.mem q).2 hq)
      simp; exact this
    rw [this]; rfl
  | true =>
    obtain ⟨⟨r, hr, hle⟩, hmin⟩ := hf.yes rfl
    cases hq : rfind R room with
    | none =>
      rw [rfind, List.find?_eq_none] at hq
      have := hq _ ((h.mem _).1 hr)
      simp at this; omega
    | some q =>
      have hqp := List.find?_some hq
      obtain ⟨hqr, l1, l2, hR, has⟩ := List.find?_eq_some_iff_append.1 hq
      have hqm : q ∈ R := List.mem_of_find?_eq_some hq
      have h1 := hmin q ((h.mem q).2 hqm) (by simpa using hqp)
      have h2 : q.1 ≤ best := by
        have hm := (h.mem _).1 hr
        have hup := h.up
        rw [hR] at hm hup
        rcases List.mem_append.1 hm with hm | hm
        · have := has _ hm; simp at this; omega
        · rcases List.mem_cons.1 hm with e | hm
          · rw [← e]; exact Int.le_refl _
          · have := (List.pairwise_append.1 hup).2.1
            have := (List.pairwise_cons.1 this).1 _ hm
            simp at this; omega
      have : q.1 = best := by omega
      simp [pairV, this]
theorem Rel.pages {D R : PL} (h : Rel D R) : sortK D = R.map (·.1) := by
  have h1 := sortK_rises h.nd
  have h2 : (R.map (·.1)).Pairwise (· < ·) := List.pairwise_map.2 h.up
  have hm : ∀ x, x ∈ sortK D ↔ x ∈ R.map (·.1) := fun x => by
    rw [mem_sortK, List.mem_map, List.mem_map]
    exact ⟨fun ⟨q, hq, e⟩ => ⟨q, (h.mem q).1 hq, e⟩, fun ⟨q, hq, e⟩ => ⟨q, (h.mem q).2 hq, e⟩⟩
  have hp : (sortK D).Perm (R.map (·.1)) := (List.perm_ext_iff_of_nodup (h1.imp fun e => by omega) (h2.imp fun e => by omega)).2 hm
  exact List.Perm.eq_of_pairwise (fun a b _ _ x y => by omega) h1 h2 hp
theorem Rel.nil : Rel [] [] := ⟨List.Pairwise.nil, by simp, by simp⟩
theorem mem_del {D : PL} (h : (D.map (·.1)).Nodup) (p : Int) (q : Int × Int) : q ∈ delD D p ↔ q ∈ D ∧ q.1 ≠ p := by
  obtain ⟨a, b⟩ := q
  rw [← getD_some (nodup_delD h p), getD_delD h, ← getD_some h]
  by_cases e : a = p <;> simp [e]
theorem mem_set {D : PL} (h : (D.map (·.1)).Nodup) (p r : Int) (q : Int × Int) : q ∈ setD D p r ↔ q = (p, r) ∨ (q ∈ D ∧ q.1 ≠ p) := by
  obtain ⟨a, b⟩ := q
  rw [← getD_some (nodup_setD h p r), getD_setD, ← getD_some h]
  by_cases e : a = p
  · simp [e, eq_comm]
  · simp [e]
theorem Rel.drop {D R : PL} (h : Rel D R) (p : Int) : Rel (delD D p) (R.filter fun q => q.1 != p) := by
  refine ⟨h.up.filter _, nodup_delD h.nd p, fun q => ?_⟩
  rw [mem_del h.nd, List.mem_filter, h.mem]; simp
theorem ins_mem (T : PL) (p r : Int) (q : Int × Int) : q ∈ T.take (posOf T p) ++ (p, r) :: T.drop (posOf T p) ↔ q = (p, r) ∨ q ∈ T := by
  have := List.take_append_drop (posOf T p) T
  constructor
  · intro hq
    rcases List.mem_append.1 hq with hq | hq
    · exact .inr (List.mem_of_mem_take hq)
    · rcases List.mem_cons.1 hq with e | hq
      · exact .inl e
      · exact .inr (List.mem_of_mem_drop hq)
  · rintro (rfl | hq)
    · simp
    · rw [← this] at hq
      rcases List.mem_append.1 hq with hq | hq
      · exact List.mem_append_left _ hq
      · exact List.mem_append_right _ (List.mem_cons_of_mem _ hq)
theorem ins_rises {T : PL} (h : Rises T) (p r : Int) (hp : ∀ q ∈ T, q.1 ≠ p) : Rises (T.take (posOf T p) ++ (p, r) :: T.drop (posOf T p)) := by
  induction T with
  | nil => simp [posOf]
  | cons x T ih =>
    have hx := hp x (by simp)
    have h := List.pairwise_cons.1 h
    rw [posOf]
    by_cases hlt : x.1 < p
    · rw [if_pos hlt, List.take_succ_cons, List.drop_succ_cons, List.cons_append, Rises, List.pairwise_cons]
      refine ⟨fun y hy => ?_, ih h.2 (fun q hq => hp q (by simp [hq]))⟩
      rcases (ins_mem T p r y).1 hy with rfl | hy
      · exact hlt
      · exact h.1 y hy
    · rw [if_neg hlt, List.take_zero, List.drop_zero, List.nil_append, Rises, List.pairwise_cons]
      refine ⟨fun y hy => ?_, List.pairwise_cons.2 h⟩
      rcases List.mem_cons.1 hy with rfl | hy
      · show p < y.1; omega
      · have := h.1 y hy; show p < y.1; omega
theorem Rel.set {D R : PL} (h : Rel D R) (p r : Int) : Rel (setD D p r) (rset R p r) := by
  have hd := h.drop p
  refine ⟨ins_rises hd.up p r (fun q hq => by rw [List.mem_filter] at hq; simpa using hq.2), nodup_setD h.nd p r, fun q => ?_⟩
  rw [rset, ins_mem, ← hd.mem, mem_del h.nd, mem_set h.nd]

theorem roomV_pair (D : PL) (p : Int) : roomV D p = pairV (getD D p) := rfl

set_option maxHeartbeats 1000000 in
theorem plays_law (w : World) (a0 : Option Addr) (c0 : Nat) (ops : List (Bool × Int × Int)) (ask : Int) (h0 : OpsAt w a0 ops) (hwf : OpsWf ops) (hsm : ops.length * 24 ≤ 140737488351232) :
    Cl Try.prog 4 [.slice a0 ops.length c0, iv ask] w fun v w' => v = .bool true ∧ Fm (fun _ => False) w w' := by
  refine c4 ?_
  unfold T4
  refine (new_spec w).mono ?_
  rintro _ w1 ⟨b, bm, rfl, hb, hbm, hM, hf1⟩
  refine (rnew_spec w1).mono ?_
  rintro _ w2 ⟨rfl, hR, hf2⟩
  have hbl : b < w1.heap.size := lt_of_heap hM.st
  have hbml : bm < w1.heap.size := hM.mp.lt
  have hM := hM.keep hf2 (fun e => e) (fun e => e)
  have hf := Fm.f hf1 hf2
  generalize w1.heap.size = rb at hR hbl hbml
  have hbase : ∃ base, base = rb + 1 := ⟨_, rfl⟩
  obtain ⟨base, hbase⟩ := hbase
  rw [← hbase] at hR
  simp only [Pu_some, extV_0, extV_1, extV_2, extV_3, nilV_ptr, nilV_fn, faV_ptr, lenV_sl, lenS_s, capV_sl, pickV_t, pickV_f, unV_not, unV_neg, isB_t, isB_f, isB_u, binV_add, binV_sub, binV_mul, binV_eql, binV_neq, binV_lss, binV_leq, binV_gtr, binV_geq, binV_seql, binV_sneq, binV_slss, binV_beql, binV_bneq, binV_peql, binV_pneq, add_add, add_none, Go.Al.add_zero, Nat.zero_add, Nat.add_zero, IfB_t, IfB_f, Gd_t, Gd_f, Ld_ptr, LdN_ptr, Option.isNone_some, Option.isNone_none, Option.isSome_some, Option.isSome_none, Bool.not_true, Bool.not_false, drew_cell, drew_heap]
  refine ⟨fun vs w2 => ∃ (k : Nat) (D R : PL), vs = [iv k] ∧ k ≤ ops.length ∧ D.length ≤ k ∧ R.length ≤ k ∧ (∀ p ∈ D, (Lit.int .i64 p.1).wf = true) ∧ IsM w2 b bm D ∧ IsR w2 base rb R ∧ Rel D R ∧ Fm (fun _ => False) w w2, fun vs _ => (ops.length - nth vs 0).toNat, ⟨0, [], [], rfl, by omega, by simp, by simp, by simp, hM, hR, Rel.nil, hf⟩, ?_⟩
  clear hM hR hf hf1 hf2 w2
  rintro g w2 iw ⟨k, D, R, ⟨⟩, hk, hDk, hRk, hDw, hM, hR, hRel, hf⟩
  by_cases hlt : k < ops.length
  · have e1 : decide ((k : Int) < (ops.length : Int)) = true := by simpa using hlt
    obtain ⟨x, rfl, q0, q1, q2⟩ := (h0.keep hf).at_ k _ (List.getElem?_eq_getElem hlt)
    have hw1 := (hwf _ (List.getElem_mem hlt)).1
    generalize ops[k] = o at q0 q1 q2 hw1
    obtain ⟨d, p, r⟩ := o
    simp only at q0 q1 q2 hw1
    have cv := cellsV_3 q0 (show w2.cell? ((x.add (k * 3)).add 1) = _ by rw [add_add]; exact q1) (show w2.cell? ((x.add (k * 3)).add 2) = _ by rw [add_add]; exact q2)
    simp only [Pu_some, extV_0, extV_1, extV_2, extV_3, nilV_ptr, nilV_fn, faV_ptr, lenV_sl, lenS_s, capV_sl, pickV_t, pickV_f, unV_not, unV_neg, isB_t, isB_f, isB_u, binV_add, binV_sub, binV_mul, binV_eql, binV_neq, binV_lss, binV_leq, binV_gtr, binV_geq, binV_seql, binV_sneq, binV_slss, binV_beql, binV_bneq, binV_peql, binV_pneq, add_add, add_none, Go.Al.add_zero, Nat.zero_add, Nat.add_zero, IfB_t, IfB_f, Gd_t, Gd_f, Ld_ptr, LdN_ptr, Option.isNone_some, Option.isNone_none, Option.isSome_some, Option.isSome_none, Bool.not_true, Bool.not_false, drew_cell, drew_heap, e1, ixV_at hlt, cv]
    refine New_any ?_
    intro x8 w3 hx8 hs3 hw3 hf3
    refine St_blkN hw3 rfl (by simp) (by intro u hu; simp at hu; rcases hu with rfl | rfl | rfl <;> rfl) ?_
    intro w4 hw4 hs4 hf4
    replace hw4 : w4.heap[x8]? = some (.cells #[.bool d, iv p, iv r] 26) := hw4
    have hf24 : Fm (fun _ => False) w2 w4 := hf3.trans hf4 (fun _ _ e => e) (fun x hx e => by omega)
    have hM4 := hM.keep hf24 (fun e => e) (fun e => e)
    have hR4 := hR.keep0 hf24
    have hF4 := Fm.f hf hf24
    have hz := hR.le
    refine Jn_at (fun vs w5 => vs = [] ∧ ∃ D' R', D'.length ≤ k + 1 ∧ R'.length ≤ k + 1 ∧ (∀ p ∈ D', (Lit.int .i64 p.1).wf = true) ∧ IsM w5 b bm D' ∧ IsR w5 base rb R' ∧ Rel D' R' ∧ w5.heap[x8]? = some (.cells #[.bool d, iv p, iv r] 26) ∧ Fm (fun _ => False) w w5) ?_ ?_
    · clear hM hR hRel hDw hDk hRk hf D R hM4 hR4 hF4 hf24 hf4 hs4 hw4 w4 hf3 hw3 hs3 w3 hx8 q0 q1 q2 cv hz
      rintro _ w5 ⟨rfl, D, R, hDk, hRk, hDw, hM, hR, hRel, hx, hf⟩ _
      refine ⟨rfl, ?_⟩
      refine (find_spec hM ask).mono ?_
      rintro _ w6 ⟨best, found, rfl, hF, hf6⟩
      have hM6 := hM.keep hf6 (fun e => e) (fun e => e)
      have hR6 := hR.keep0 hf6
      have hx6 := hf6.heap hx (fun e => e)
      have c1 : w6.cell? ⟨x8, 1, none⟩ = some (iv p) := by rw [cell_at hx6]; rfl
      simp only [Pu_some, extV_0, extV_1, extV_2, extV_3, nilV_ptr, nilV_fn, faV_ptr, lenV_sl, lenS_s, capV_sl, pickV_t, pickV_f, unV_not, unV_neg, isB_t, isB_f, isB_u, binV_add, binV_sub, binV_mul, binV_eql, binV_neq, binV_lss, binV_leq, binV_gtr, binV_geq, binV_seql, binV_sneq, binV_slss, binV_beql, binV_bneq, binV_peql, binV_pneq, add_add, add_none, Go.Al.add_zero, Nat.zero_add, Nat.add_zero, IfB_t, IfB_f, Gd_t, Gd_f, Ld_ptr, LdN_ptr, Option.isNone_some, Option.isNone_none, Option.isSome_some, Option.isSome_none, Bool.not_true, Bool.not_false, drew_cell, drew_heap]
      refine (rfind_spec hR6 (by omega) ask).mono ?_
      rintro _ w6 ⟨rfl, rfl⟩
      simp only [Pu_some, extV_0, extV_1, extV_2, extV_3, nilV_ptr, nilV_fn, faV_ptr, lenV_sl, lenS_s, capV_sl, pickV_t, pickV_f, unV_not, unV_neg, isB_t, isB_f, isB_u, binV_add, binV_sub, binV_mul, binV_eql, binV_neq, binV_lss, binV_leq, binV_gtr, binV_geq, binV_seql, binV_sneq, binV_slss, binV_beql, binV_bneq, binV_peql, binV_pneq, add_add, add_none, Go.Al.add_zero, Nat.zero_add, Nat.add_zero, IfB_t, IfB_f, Gd_t, Gd_f, Ld_ptr, LdN_ptr, Option.isNone_some, Option.isNone_none, Option.isSome_some, Option.isSome_none, Bool.not_true, Bool.not_false, drew_cell, drew_heap, hRel.find hF, c1]
      refine (room_spec hM6 p).mono ?_
      rintro _ w6 ⟨rfl, rfl⟩
      simp only [Pu_some, extV_0, extV_1, extV_2, extV_3, nilV_ptr, nilV_fn, faV_ptr, lenV_sl, lenS_s, capV_sl, pickV_t, pickV_f, unV_not, unV_neg, isB_t, isB_f, isB_u, binV_add, binV_sub, binV_mul, binV_eql, binV_neq, binV_lss, binV_leq, binV_gtr, binV_geq, binV_seql, binV_sneq, binV_slss, binV_beql, binV_bneq, binV_peql, binV_pneq, add_add, add_none, Go.Al.add_zero, Nat.zero_add, Nat.add_zero, IfB_t, IfB_f, Gd_t, Gd_f, Ld_ptr, LdN_ptr, Option.isNone_some, Option.isNone_none, Option.isSome_some, Option.isSome_none, Bool.not_true, Bool.not_false, drew_cell, drew_heap, roomV, c1]
      refine (rroom_spec hR6 (by omega) p).mono ?_
      rintro _ w6 ⟨rfl, rfl⟩
      rw [← hRel.get]
      simp only [Pu_some, extV_0, extV_1, extV_2, extV_3, nilV_ptr, nilV_fn, faV_ptr, lenV_sl, lenS_s, capV_sl, pickV_t, pickV_f, unV_not, unV_neg, isB_t, isB_f, isB_u, binV_add, binV_sub, binV_mul, binV_eql, binV_neq, binV_lss, binV_leq, binV_gtr, binV_geq, binV_seql, binV_sneq, binV_slss, binV_beql, binV_bneq, binV_peql, binV_pneq, add_add, add_none, Go.Al.add_zero, Nat.zero_add, Nat.add_zero, IfB_t, IfB_f, Gd_t, Gd_f, Ld_ptr, LdN_ptr, Option.isNone_some, Option.isNone_none, Option.isSome_some, Option.isSome_none, Bool.not_true, Bool.not_false, drew_cell, drew_heap, pairV]
      refine (pages_spec hM6 hDw (by omega)).mono ?_
      rintro l w7 ⟨hrow, hnil, hf7⟩
      have hM7 := hM6.keep hf7 (fun e => e) (fun e => e)
      have hR7 := hR6.keep0 hf7
      simp only [Pu_some, extV_0, extV_1, extV_2, extV_3, nilV_ptr, nilV_fn, faV_ptr, lenV_sl, lenS_s, capV_sl, pickV_t, pickV_f, unV_not, unV_neg, isB_t, isB_f, isB_u, binV_add, binV_sub, binV_mul, binV_eql, binV_neq, binV_lss, binV_leq, binV_gtr, binV_geq, binV_seql, binV_sneq, binV_slss, binV_beql, binV_bneq, binV_peql, binV_pneq, add_add, add_none, Go.Al.add_zero, Nat.zero_add, Nat.add_zero, IfB_t, IfB_f, Gd_t, Gd_f, Ld_ptr, LdN_ptr, Option.isNone_some, Option.isNone_none, Option.isSome_some, Option.isSome_none, Bool.not_true, Bool.not_false, drew_cell, drew_heap, bne_self_eq_false]
      refine (rpages_spec hR7 (by omega)).mono ?_
      rintro l2 w8 ⟨hrow2, hf8⟩
      refine (same_spec (CellsAt.of_own (own_keep hrow hf8 (fun k hk hk' _ => fun e => e))) (CellsAt.of_own hrow2) (by omega)).mono ?_
      rintro _ w9 ⟨rfl, hf9⟩
      have e2 : decide (sortK D = R.map (·.1)) = true := by simpa using hRel.pages
      simp only [Pu_some, extV_0, extV_1, extV_2, extV_3, nilV_ptr, nilV_fn, faV_ptr, lenV_sl, lenS_s, capV_sl, pickV_t, pickV_f, unV_not, unV_neg, isB_t, isB_f, isB_u, binV_add, binV_sub, binV_mul, binV_eql, binV_neq, binV_lss, binV_leq, binV_gtr, binV_geq, binV_seql, binV_sneq, binV_slss, binV_beql, binV_bneq, binV_peql, binV_pneq, add_add, add_none, Go.Al.add_zero, Nat.zero_add, Nat.add_zero, IfB_t, IfB_f, Gd_t, Gd_f, Ld_ptr, LdN_ptr, Option.isNone_some, Option.isNone_none, Option.isSome_some, Option.isSome_none, Bool.not_true, Bool.not_false, drew_cell, drew_heap, e2]
      have hf69 := Fm.f hf7 (Fm.f hf8 hf9)
      have hrow9 := own_keep hrow (Fm.f hf8 hf9) (fun k hk hk' _ => fun e => e)
      refine ⟨fun vs w10 => ∃ (j : Nat) (xs : List Value), vs = [iv j] ∧ j ≤ D.length ∧ w10.ownsRow w6.heap.size 3 1 l D.length xs ∧ Fm (fun _ => False) w6 w10, fun vs _ => (D.length - nth vs 0).toNat, ⟨0, _, rfl, by omega, hrow9, hf69⟩, ?_⟩
      clear hrow9 hf69 hrow2 hf8 hf9 hM7 hR7
      rintro g w10 jw ⟨j, xs, ⟨⟩, hj, hrow, hf10⟩
      have hlv := own_len hrow
      simp only [Pu_some, extV_0, extV_1, extV_2, extV_3, nilV_ptr, nilV_fn, faV_ptr, lenV_sl, lenS_s, capV_sl, pickV_t, pickV_f, unV_not, unV_neg, isB_t, isB_f, isB_u, binV_add, binV_sub, binV_mul, binV_eql, binV_neq, binV_lss, binV_leq, binV_gtr, binV_geq, binV_seql, binV_sneq, binV_slss, binV_beql, binV_bneq, binV_peql, binV_pneq, add_add, add_none, Go.Al.add_zero, Nat.zero_add, Nat.add_zero, IfB_t, IfB_f, Gd_t, Gd_f, Ld_ptr, LdN_ptr, Option.isNone_some, Option.isNone_none, Option.isSome_some, Option.isSome_none, Bool.not_true, Bool.not_false, drew_cell, drew_heap, hlv]
      by_cases hlt' : j < D.length
      · have e3 : decide ((j : Int) < (D.length : Int)) = true := by simpa using hlt'
        rcases (own_cases hrow).2 with ⟨rfl, h0⟩ | ⟨gb, cap, rfl, hg1, hg2, hcell⟩
        · omega
        have hxl := (own_cases hrow).1
        obtain ⟨ho, hgr⟩ := hrow.stored j (iv (-1))
        simp only [Pu_some, extV_0, extV_1, extV_2, extV_3, nilV_ptr, nilV_fn, faV_ptr, lenV_sl, lenS_s, capV_sl, pickV_t, pickV_f, unV_not, unV_neg, isB_t, isB_f, isB_u, binV_add, binV_sub, binV_mul, binV_eql, binV_neq, binV_lss, binV_leq, binV_gtr, binV_geq, binV_seql, binV_sneq, binV_slss, binV_beql, binV_bneq, binV_peql, binV_pneq, add_add, add_none, Go.Al.add_zero, Nat.zero_add, Nat.add_zero, IfB_t, IfB_f, Gd_t, Gd_f, Ld_ptr, LdN_ptr, Option.isNone_some, Option.isNone_none, Option.isSome_some, Option.isSome_none, Bool.not_true, Bool.not_false, drew_cell, drew_heap, e3, ixV_at hlt', Nat.mul_one]
        refine St_one rfl (x := xs[j]'(by omega)) (by rw [hcell j hlt']; simp) (hrow.frozenAt j) ?_
        simp only [Pu_some, extV_0, extV_1, extV_2, extV_3, nilV_ptr, nilV_fn, faV_ptr, lenV_sl, lenS_s, capV_sl, pickV_t, pickV_f, unV_not, unV_neg, isB_t, isB_f, isB_u, binV_add, binV_sub, binV_mul, binV_eql, binV_neq, binV_lss, binV_leq, binV_gtr, binV_geq, binV_seql, binV_sneq, binV_slss, binV_beql, binV_bneq, binV_peql, binV_pneq, add_add, add_none, Go.Al.add_zero, Nat.zero_add, Nat.add_zero, IfB_t, IfB_f, Gd_t, Gd_f, Ld_ptr, LdN_ptr, Option.isNone_some, Option.isNone_none, Option.isSome_some, Option.isSome_none, Bool.not_true, Bool.not_false, drew_cell, drew_heap, wrap_succ (i := j) (by omega)]
        exact ⟨⟨j + 1, _, rfl, by omega, ho, hf10.trans (Fm.grown (S := (· = gb)) hgr (fun k hk _ => by simpa using hk.symm)) (fun _ _ e => e) (fun x hx e => by omega)⟩, by simp only [nth_0]; omega⟩
      · have e3 : decide ((j : Int) < (D.length : Int)) = false := by simpa using hlt'
        simp only [Pu_some, extV_0, extV_1, extV_2, extV_3, nilV_ptr, nilV_fn, faV_ptr, lenV_sl, lenS_s, capV_sl, pickV_t, pickV_f, unV_not, unV_neg, isB_t, isB_f, isB_u, binV_add, binV_sub, binV_mul, binV_eql, binV_neq, binV_lss, binV_leq, binV_gtr, binV_geq, binV_seql, binV_sneq, binV_slss, binV_beql, binV_bneq, binV_peql, binV_pneq, add_add, add_none, Go.Al.add_zero, Nat.zero_add, Nat.add_zero, IfB_t, IfB_f, Gd_t, Gd_f, Ld_ptr, LdN_ptr, Option.isNone_some, Option.isNone_none, Option.isSome_some, Option.isSome_none, Bool.not_true, Bool.not_false, drew_cell, drew_heap, e3]
        have hM10 := hM6.keep hf10 (fun e => e) (fun e => e)
        have hR10 := hR6.keep0 hf10
        refine (pages_spec hM10 hDw (by omega)).mono ?_
        rintro l3 w11 ⟨hrow3, _, hf11⟩
        refine (rpages_spec (hR10.keep0 hf11) (by omega)).mono ?_
        rintro l4 w12 ⟨hrow4, hf12⟩
        refine (same_spec (CellsAt.of_own (own_keep hrow3 hf12 (fun k hk hk' _ => fun e => e))) (CellsAt.of_own hrow4) (by omega)).mono ?_
        rintro _ w13 ⟨rfl, hf13⟩
        have hf1013 := Fm.f hf11 (Fm.f hf12 hf13)
        simp only [Pu_some, extV_0, extV_1, extV_2, extV_3, nilV_ptr, nilV_fn, faV_ptr, lenV_sl, lenS_s, capV_sl, pickV_t, pickV_f, unV_not, unV_neg, isB_t, isB_f, isB_u, binV_add, binV_sub, binV_mul, binV_eql, binV_neq, binV_lss, binV_leq, binV_gtr, binV_geq, binV_seql, binV_sneq, binV_slss, binV_beql, binV_bneq, binV_peql, binV_pneq, add_add, add_none, Go.Al.add_zero, Nat.zero_add, Nat.add_zero, IfB_t, IfB_f, Gd_t, Gd_f, Ld_ptr, LdN_ptr, Option.isNone_some, Option.isNone_none, Option.isSome_some, Option.isSome_none, Bool.not_true, Bool.not_false, drew_cell, drew_heap, e2, wrap_succ (i := k) (by omega)]
        exact ⟨⟨k + 1, D, R, rfl, by omega, hDk, hRk, hDw, hM10.keep hf1013 (fun e => e) (fun e => e), hR10.keep0 hf1013, hRel, Fm.f hf (Fm.f hf6 (Fm.f hf10 hf1013))⟩, by simp only [nth_0]; omega⟩
    · intro kk hkk
      have c0' : w4.cell? ⟨x8, 0, none⟩ = some (.bool d) := by rw [cell_at hw4]; rfl
      have c1 : w4.cell? ⟨x8, 1, none⟩ = some (iv p) := by rw [cell_at hw4]; rfl
      have c2 : w4.cell? ⟨x8, 2, none⟩ = some (iv r) := by rw [cell_at hw4]; rfl
      have hn1 : ¬ rb = bm := by omega
      have hn2 : ∀ k, base ≤ k → k < w4.heap.size → ¬ k = bm := fun k h1 _ => by omega
      have hx8b : ¬ x8 = bm := by omega
      have hx8r : ¬ x8 = rb := by omega
      cases d with
      | true =>
        simp only [Pu_some, extV_0, extV_1, extV_2, extV_3, nilV_ptr, nilV_fn, faV_ptr, lenV_sl, lenS_s, capV_sl, pickV_t, pickV_f, unV_not, unV_neg, isB_t, isB_f, isB_u, binV_add, binV_sub, binV_mul, binV_eql, binV_neq, binV_lss, binV_leq, binV_gtr, binV_geq, binV_seql, binV_sneq, binV_slss, binV_beql, binV_bneq, binV_peql, binV_pneq, add_add, add_none, Go.Al.add_zero, Nat.zero_add, Nat.add_zero, IfB_t, IfB_f, Gd_t, Gd_f, Ld_ptr, LdN_ptr, Option.isNone_some, Option.isNone_none, Option.isSome_some, Option.isSome_none, Bool.not_true, Bool.not_false, drew_cell, drew_heap, c0', c1]
        refine (drop_spec hM4 p).mono ?_
        rintro _ w5 ⟨hM5, hf5⟩
        have hx5 := hf5.heap hw4 hx8b
        have c5 : w5.cell? ⟨x8, 1, none⟩ = some (iv p) := by rw [cell_at hx5]; rfl
        have hR5 := hR4.keep hf5 hn1 hn2
        simp only [Pu_some, extV_0, extV_1, extV_2, extV_3, nilV_ptr, nilV_fn, faV_ptr, lenV_sl, lenS_s, capV_sl, pickV_t, pickV_f, unV_not, unV_neg, isB_t, isB_f, isB_u, binV_add, binV_sub, binV_mul, binV_eql, binV_neq, binV_lss, binV_leq, binV_gtr, binV_geq, binV_seql, binV_sneq, binV_slss, binV_beql, binV_bneq, binV_peql, binV_pneq, add_add, add_none, Go.Al.add_zero, Nat.zero_add, Nat.add_zero, IfB_t, IfB_f, Gd_t, Gd_f, Ld_ptr, LdN_ptr, Option.isNone_some, Option.isNone_none, Option.isSome_some, Option.isSome_none, Bool.not_true, Bool.not_false, drew_cell, drew_heap, c5]
        refine (rdrop_spec hR5 (by omega) p).mono ?_
        rintro _ w6 ⟨hR6, hf6⟩
        exact hkk _ _ ⟨rfl, _, _, Nat.le_trans (delD_len _ _) (by omega), Nat.le_trans (List.length_filter_le _ _) (by omega), delD_wf hDw, hM5.keep hf6 (by omega) (by omega), hR6, hRel.drop p, hf6.heap hx5 hx8r, (hF4.trans hf5 (U := fun _ => False) (fun _ _ e => e) (fun x hx e => by omega)).trans hf6 (fun _ _ e => e) (fun x hx e => by omega)⟩
      | false =>
        simp only [Pu_some, extV_0, extV_1, extV_2, extV_3, nilV_ptr, nilV_fn, faV_ptr, lenV_sl, lenS_s, capV_sl, pickV_t, pickV_f, unV_not, unV_neg, isB_t, isB_f, isB_u, binV_add, binV_sub, binV_mul, binV_eql, binV_neq, binV_lss, binV_leq, binV_gtr, binV_geq, binV_seql, binV_sneq, binV_slss, binV_beql, binV_bneq, binV_peql, binV_pneq, add_add, add_none, Go.Al.add_zero, Nat.zero_add, Nat.add_zero, IfB_t, IfB_f, Gd_t, Gd_f, Ld_ptr, LdN_ptr, Option.isNone_some, Option.isNone_none, Option.isSome_some, Option.isSome_none, Bool.not_true, Bool.not_false, drew_cell, drew_heap, c0', c1, c2]
        refine (set_spec hM4 p r).mono ?_
        rintro _ w5 ⟨hM5, hf5⟩
        have hx5 := hf5.heap hw4 hx8b
        have c5 : w5.cell? ⟨x8, 1, none⟩ = some (iv p) := by rw [cell_at hx5]; rfl
        have c6 : w5.cell? ⟨x8, 2, none⟩ = some (iv r) := by rw [cell_at hx5]; rfl
        have hR5 := hR4.keep hf5 hn1 hn2
        simp only [Pu_some, extV_0, extV_1, extV_2, extV_3, nilV_ptr, nilV_fn, faV_ptr, lenV_sl, lenS_s, capV_sl, pickV_t, pickV_f, unV_not, unV_neg, isB_t, isB_f, isB_u, binV_add, binV_sub, binV_mul, binV_eql, binV_neq, binV_lss, binV_leq, binV_gtr, binV_geq, binV_seql, binV_sneq, binV_slss, binV_beql, binV_bneq, binV_peql, binV_pneq, add_add, add_none, Go.Al.add_zero, Nat.zero_add, Nat.add_zero, IfB_t, IfB_f, Gd_t, Gd_f, Ld_ptr, LdN_ptr, Option.isNone_some, Option.isNone_none, Option.isSome_some, Option.isSome_none, Bool.not_true, Bool.not_false, drew_cell, drew_heap, c5, c6]
        refine (rset_spec hR5 (by omega) p r).mono ?_
        rintro _ w6 ⟨hR6, hf6⟩
        exact hkk _ _ ⟨rfl, _, _, Nat.le_trans (setD_len _ _ _) (by omega), Nat.le_trans (rset_len _ _ _) (by omega), setD_wf hDw hw1, hM5.keep hf6 (by omega) (by omega), hR6, hRel.set p r, hf6.heap hx5 hx8r, (hF4.trans hf5 (U := fun _ => False) (fun _ _ e => e) (fun x hx e => by omega)).trans hf6 (fun _ _ e => e) (fun x hx e => by omega)⟩
  · have e1 : decide ((k : Int) < (ops.length : Int)) = false := by simpa using hlt
    simp only [Pu_some, extV_0, extV_1, extV_2, extV_3, nilV_ptr, nilV_fn, faV_ptr, lenV_sl, lenS_s, capV_sl, pickV_t, pickV_f, unV_not, unV_neg, isB_t, isB_f, isB_u, binV_add, binV_sub, binV_mul, binV_eql, binV_neq, binV_lss, binV_leq, binV_gtr, binV_geq, binV_seql, binV_sneq, binV_slss, binV_beql, binV_bneq, binV_peql, binV_pneq, add_add, add_none, Go.Al.add_zero, Nat.zero_add, Nat.add_zero, IfB_t, IfB_f, Gd_t, Gd_f, Ld_ptr, LdN_ptr, Option.isNone_some, Option.isNone_none, Option.isSome_some, Option.isSome_none, Bool.not_true, Bool.not_false, drew_cell, drew_heap, e1]
    refine (awake_spec _).mono ?_
    rintro _ w5 ⟨rfl, hf5⟩
    exact ⟨rfl, Fm.f hf hf5⟩

end Go.Proofs.Ytgknklnbcjjlkaa
