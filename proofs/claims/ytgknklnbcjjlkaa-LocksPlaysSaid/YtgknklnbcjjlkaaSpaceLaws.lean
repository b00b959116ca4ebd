/- The laws of package space: awake, SpaceApart, SpaceNil. -/
import Derived.Test.YtgknklnbcjjlkaaSpace
namespace Go.Proofs.Ytgknklnbcjjlkaa
open Go.Al Go.Proofs
set_option linter.unusedVariables false
set_option linter.unusedSimpArgs false
set_option linter.unusedSectionVars false

theorem find_ex {D : List (Int × Int)} {room best : Int} {found : Bool} (h : FindR D room best found) {q : Int × Int} (hq : q ∈ D) (hr : room ≤ q.2) : found = true := by
  cases hf : found with
  | true => rfl
  | false => have := (h.no hf).2 q hq; omega

theorem awake_spec (w : World) : Cl Try.prog 16 [] w fun v w' => v = .bool true ∧ Fm (fun _ => False) w w' := by
  refine c16 ?_
  unfold T16
  refine (new_spec w).mono ?_
  rintro _ w1 ⟨b, bm, rfl, hb, hbm, hM, hf1⟩
  refine (set_spec hM 5 100).mono ?_
  rintro _ w2 ⟨hM, hf2⟩
  refine (set_spec hM 3 10).mono ?_
  rintro _ w3 ⟨hM, hf3⟩
  have hf : Fm (fun _ => False) w w3 := (hf1.trans hf2 (U := fun _ => False) (fun _ _ h => h) (fun x hx e => by omega)).trans hf3 (fun _ _ h => h) (fun x hx e => by omega)
  have hD : setD (setD [] 5 100) 3 10 = [((5 : Int), (100 : Int)), (3, 10)] := by decide
  rw [hD] at hM
  refine (find_spec hM 11).mono ?_
  rintro _ w4 ⟨x, fx, rfl, hx, hf4⟩
  have hM4 := hM.keep hf4 (fun e => e) (fun e => e)
  simp only [Pu_some, extV_0, extV_1, extV_2, extV_3, nilV_ptr, nilV_fn, faV_ptr, lenV_sl, lenS_s, capV_sl, pickV_t, pickV_f, unV_not, unV_neg, isB_t, isB_f, isB_u, binV_add, binV_sub, binV_mul, binV_eql, binV_neq, binV_lss, binV_leq, binV_gtr, binV_geq, binV_seql, binV_sneq, binV_slss, binV_beql, binV_bneq, binV_peql, binV_pneq, add_add, add_none, Nat.zero_add, Nat.add_zero, IfB_t, IfB_f, Gd_t, Gd_f, Ld_ptr, LdN_ptr, Option.isNone_some, Option.isNone_none, Option.isSome_some, Option.isSome_none, Bool.not_true, Bool.not_false, drew_cell, drew_heap]
  refine (find_spec hM4 10).mono ?_
  rintro _ w5 ⟨y, fy, rfl, hy, hf5⟩
  have hM5 := hM4.keep hf5 (fun e => e) (fun e => e)
  simp only [Pu_some, extV_0, extV_1, extV_2, extV_3, nilV_ptr, nilV_fn, faV_ptr, lenV_sl, lenS_s, capV_sl, pickV_t, pickV_f, unV_not, unV_neg, isB_t, isB_f, isB_u, binV_add, binV_sub, binV_mul, binV_eql, binV_neq, binV_lss, binV_leq, binV_gtr, binV_geq, binV_seql, binV_sneq, binV_slss, binV_beql, binV_bneq, binV_peql, binV_pneq, add_add, add_none, Nat.zero_add, Nat.add_zero, IfB_t, IfB_f, Gd_t, Gd_f, Ld_ptr, LdN_ptr, Option.isNone_some, Option.isNone_none, Option.isSome_some, Option.isSome_none, Bool.not_true, Bool.not_false, drew_cell, drew_heap]
  refine (find_spec hM5 101).mono ?_
  rintro _ w6 ⟨z, fz, rfl, hz, hf6⟩
  have e1 : fx = true := find_ex hx (q := (5, 100)) (by simp) (by decide)
  have e2 : fy = true := find_ex hy (q := (5, 100)) (by simp) (by decide)
  have e3 : fz = false := by
    cases hfz : fz with
    | false => rfl
    | true =>
      obtain ⟨r, hr, hle⟩ := (hz.yes hfz).1
      simp at hr; omega
  have e4 : x = 5 := by
    obtain ⟨r, hr, hle⟩ := (hx.yes e1).1
    simp at hr; omega
  have e5 : y = 3 := by
    obtain ⟨⟨r, hr, hle⟩, hmin⟩ := hy.yes e2
    have := hmin (3, 10) (by simp) (by decide)
    simp at hr; omega
  subst e1 e2 e3 e4 e5
  simp only [Pu_some, extV_0, extV_1, extV_2, extV_3, nilV_ptr, nilV_fn, faV_ptr, lenV_sl, lenS_s, capV_sl, pickV_t, pickV_f, unV_not, unV_neg, isB_t, isB_f, isB_u, binV_add, binV_sub, binV_mul, binV_eql, binV_neq, binV_lss, binV_leq, binV_gtr, binV_geq, binV_seql, binV_sneq, binV_slss, binV_beql, binV_bneq, binV_peql, binV_pneq, add_add, add_none, Nat.zero_add, Nat.add_zero, IfB_t, IfB_f, Gd_t, Gd_f, Ld_ptr, LdN_ptr, Option.isNone_some, Option.isNone_none, Option.isSome_some, Option.isSome_none, Bool.not_true, Bool.not_false, drew_cell, drew_heap]
  refine ⟨rfl, ?_⟩
  exact ((hf.trans hf4 (U := fun _ => False) (fun _ _ h => h) (fun _ _ h => h)).trans hf5 (U := fun _ => False) (fun _ _ h => h) (fun _ _ h => h)).trans hf6 (fun _ _ h => h) (fun _ _ h => h)

/-- A list of changes that came in. -/
structure OpsAt (w : World) (a : Option Addr) (ops : List (Bool × Int × Int)) : Prop where
  len : ops.length ≤ maxLen
  at_ : ∀ i o, ops[i]? = some o → ∃ x, a = some x ∧ w.cell? (x.add (i * 3)) = some (.bool o.1) ∧ w.cell? (x.add (i * 3 + 1)) = some (iv o.2.1) ∧ w.cell? (x.add (i * 3 + 2)) = some (iv o.2.2)
theorem OpsAt.keep {w w' : World} {a : Option Addr} {ops : List (Bool × Int × Int)} (h : OpsAt w a ops) (hf : Fm (fun _ => False) w w') : OpsAt w' a ops := by
  refine ⟨h.len, fun i o ho => ?_⟩
  obtain ⟨x, hx, h0, h1, h2⟩ := h.at_ i o ho
  exact ⟨x, hx, hf.cell' h0 (fun e => e), hf.cell' h1 (fun e => e), hf.cell' h2 (fun e => e)⟩

theorem apart_law (w : World) (a0 a1 : Option Addr) (c0 c1 : Nat) (ops own : List (Bool × Int × Int)) (page : Int) (h0 : OpsAt w a0 ops) (h1 : OpsAt w a1 own) :
    Cl Try.prog 3 [.slice a0 ops.length c0, .slice a1 own.length c1, iv page] w fun v w' => v = .bool true ∧ Fm (fun _ => False) w w' := by
  refine c3 ?_
  unfold T3
  refine (new_spec w).mono ?_
  rintro _ w1 ⟨b, bm, rfl, hb, hbm, hM, hf1⟩
  have m0 := h0.len
  have m1 := h1.len
  unfold maxLen at m0 m1
  simp only [Pu_some, extV_0, extV_1, extV_2, extV_3, nilV_ptr, nilV_fn, faV_ptr, lenV_sl, lenS_s, capV_sl, pickV_t, pickV_f, unV_not, unV_neg, isB_t, isB_f, isB_u, binV_add, binV_sub, binV_mul, binV_eql, binV_neq, binV_lss, binV_leq, binV_gtr, binV_geq, binV_seql, binV_sneq, binV_slss, binV_beql, binV_bneq, binV_peql, binV_pneq, add_add, add_none, Nat.zero_add, Nat.add_zero, IfB_t, IfB_f, Gd_t, Gd_f, Ld_ptr, LdN_ptr, Option.isNone_some, Option.isNone_none, Option.isSome_some, Option.isSome_none, Bool.not_true, Bool.not_false, drew_cell, drew_heap]
  refine ⟨fun vs w2 => ∃ (k : Nat) (D : List (Int × Int)), vs = [iv k] ∧ k ≤ ops.length ∧ IsM w2 b bm D ∧ Fm (fun _ => False) w w2, fun vs _ => (ops.length - nth vs 0).toNat, ⟨0, [], rfl, by omega, hM, hf1⟩, ?_⟩
  rintro g w2 iw ⟨k, D, ⟨⟩, hk, hM, hf⟩
  by_cases hlt : k < ops.length
  · have e1 : decide ((k : Int) < (ops.length : Int)) = true := by simpa using hlt
    simp only [Pu_some, extV_0, extV_1, extV_2, extV_3, nilV_ptr, nilV_fn, faV_ptr, lenV_sl, lenS_s, capV_sl, pickV_t, pickV_f, unV_not, unV_neg, isB_t, isB_f, isB_u, binV_add, binV_sub, binV_mul, binV_eql, binV_neq, binV_lss, binV_leq, binV_gtr, binV_geq, binV_seql, binV_sneq, binV_slss, binV_beql, binV_bneq, binV_peql, binV_pneq, add_add, add_none, Nat.zero_add, Nat.add_zero, IfB_t, IfB_f, Gd_t, Gd_f, Ld_ptr, LdN_ptr, Option.isNone_some, Option.isNone_none, Option.isSome_some, Option.isSome_none, Bool.not_true, Bool.not_false, drew_cell, drew_heap, e1]
    have H0 := h0.keep hf
    obtain ⟨x, rfl, q0, q1, q2⟩ := H0.at_ k _ (List.getElem?_eq_getElem hlt)
    refine Jn_at (fun vs w3 => vs = [] ∧ ∃ D', IsM w3 b bm D' ∧ Fm (fun _ => False) w w3) ?_ ?_
    · rintro _ w3 ⟨rfl, D', hM', hf'⟩ _
      refine ⟨rfl, ?_⟩
      simp only [Pu_some, extV_0, extV_1, extV_2, extV_3, nilV_ptr, nilV_fn, faV_ptr, lenV_sl, lenS_s, capV_sl, pickV_t, pickV_f, unV_not, unV_neg, isB_t, isB_f, isB_u, binV_add, binV_sub, binV_mul, binV_eql, binV_neq, binV_lss, binV_leq, binV_gtr, binV_geq, binV_seql, binV_sneq, binV_slss, binV_beql, binV_bneq, binV_peql, binV_pneq, add_add, add_none, Nat.zero_add, Nat.add_zero, IfB_t, IfB_f, Gd_t, Gd_f, Ld_ptr, LdN_ptr, Option.isNone_some, Option.isNone_none, Option.isSome_some, Option.isSome_none, Bool.not_true, Bool.not_false, drew_cell, drew_heap, wrap_succ (i := k) (by omega)]
      exact ⟨⟨k + 1, D', rfl, by omega, hM', hf'⟩, by simp only [nth_0]; omega⟩
    · intro kk hkk
      simp only [Pu_some, extV_0, extV_1, extV_2, extV_3, nilV_ptr, nilV_fn, faV_ptr, lenV_sl, lenS_s, capV_sl, pickV_t, pickV_f, unV_not, unV_neg, isB_t, isB_f, isB_u, binV_add, binV_sub, binV_mul, binV_eql, binV_neq, binV_lss, binV_leq, binV_gtr, binV_geq, binV_seql, binV_sneq, binV_slss, binV_beql, binV_bneq, binV_peql, binV_pneq, add_add, add_none, Nat.zero_add, Nat.add_zero, IfB_t, IfB_f, Gd_t, Gd_f, Ld_ptr, LdN_ptr, Option.isNone_some, Option.isNone_none, Option.isSome_some, Option.isSome_none, Bool.not_true, Bool.not_false, drew_cell, drew_heap, ixV_at hlt, q0]
      cases hd : (ops[k]).1
      · simp only [Pu_some, extV_0, extV_1, extV_2, extV_3, nilV_ptr, nilV_fn, faV_ptr, lenV_sl, lenS_s, capV_sl, pickV_t, pickV_f, unV_not, unV_neg, isB_t, isB_f, isB_u, binV_add, binV_sub, binV_mul, binV_eql, binV_neq, binV_lss, binV_leq, binV_gtr, binV_geq, binV_seql, binV_sneq, binV_slss, binV_beql, binV_bneq, binV_peql, binV_pneq, add_add, add_none, Nat.zero_add, Nat.add_zero, IfB_t, IfB_f, Gd_t, Gd_f, Ld_ptr, LdN_ptr, Option.isNone_some, Option.isNone_none, Option.isSome_some, Option.isSome_none, Bool.not_true, Bool.not_false, drew_cell, drew_heap, ixV_at hlt, q1, q2, true_and]
        refine (set_spec (w := w2.drew) ⟨hM.st, hM.mp.keep (Fm.drew (fun _ => False) w2) (fun e => e)⟩ _ _).mono ?_
        rintro _ w3 ⟨hM', hf'⟩
        exact hkk _ _ ⟨rfl, _, hM', (hf.trans (Fm.drew (fun _ => False) w2) (U := fun _ => False) (fun _ _ h => h) (fun _ _ h => h)).trans hf' (fun _ _ h => h) (fun x hx e => by omega)⟩
      · simp only [Pu_some, extV_0, extV_1, extV_2, extV_3, nilV_ptr, nilV_fn, faV_ptr, lenV_sl, lenS_s, capV_sl, pickV_t, pickV_f, unV_not, unV_neg, isB_t, isB_f, isB_u, binV_add, binV_sub, binV_mul, binV_eql, binV_neq, binV_lss, binV_leq, binV_gtr, binV_geq, binV_seql, binV_sneq, binV_slss, binV_beql, binV_bneq, binV_peql, binV_pneq, add_add, add_none, Nat.zero_add, Nat.add_zero, IfB_t, IfB_f, Gd_t, Gd_f, Ld_ptr, LdN_ptr, Option.isNone_some, Option.isNone_none, Option.isSome_some, Option.isSome_none, Bool.not_true, Bool.not_false, drew_cell, drew_heap, ixV_at hlt, q1]
        refine (drop_spec hM _).mono ?_
        rintro _ w3 ⟨hM', hf'⟩
        exact hkk _ _ ⟨rfl, _, hM', hf.trans hf' (fun _ _ h => h) (fun x hx e => by omega)⟩
  · have hke : k = ops.length := by omega
    subst hke
    have e1 : decide ((ops.length : Int) < (ops.length : Int)) = false := by simp
    simp only [Pu_some, extV_0, extV_1, extV_2, extV_3, nilV_ptr, nilV_fn, faV_ptr, lenV_sl, lenS_s, capV_sl, pickV_t, pickV_f, unV_not, unV_neg, isB_t, isB_f, isB_u, binV_add, binV_sub, binV_mul, binV_eql, binV_neq, binV_lss, binV_leq, binV_gtr, binV_geq, binV_seql, binV_sneq, binV_slss, binV_beql, binV_bneq, binV_peql, binV_pneq, add_add, add_none, Nat.zero_add, Nat.add_zero, IfB_t, IfB_f, Gd_t, Gd_f, Ld_ptr, LdN_ptr, Option.isNone_some, Option.isNone_none, Option.isSome_some, Option.isSome_none, Bool.not_true, Bool.not_false, drew_cell, drew_heap, e1]
    clear hk hlt e1
    refine (room_spec hM page).mono ?_
    rintro _ _ ⟨rfl, rfl⟩
    simp only [Pu_some, extV_0, extV_1, extV_2, extV_3, nilV_ptr, nilV_fn, faV_ptr, lenV_sl, lenS_s, capV_sl, pickV_t, pickV_f, unV_not, unV_neg, isB_t, isB_f, isB_u, binV_add, binV_sub, binV_mul, binV_eql, binV_neq, binV_lss, binV_leq, binV_gtr, binV_geq, binV_seql, binV_sneq, binV_slss, binV_beql, binV_bneq, binV_peql, binV_pneq, add_add, add_none, Nat.zero_add, Nat.add_zero, IfB_t, IfB_f, Gd_t, Gd_f, Ld_ptr, LdN_ptr, Option.isNone_some, Option.isNone_none, Option.isSome_some, Option.isSome_none, Bool.not_true, Bool.not_false, drew_cell, drew_heap, roomV]
    refine ⟨fun vs w2 => ∃ (k : Nat) (D' : List (Int × Int)), vs = [iv k] ∧ k ≤ own.length ∧ IsM w2 b bm D' ∧ getD D' page = getD D page ∧ Fm (fun _ => False) w w2, fun vs _ => (own.length - nth vs 0).toNat, ⟨0, D, rfl, by omega, hM, rfl, hf⟩, ?_⟩
    rintro g w4 iw ⟨k, D', ⟨⟩, hk, hM, hg, hf⟩
    by_cases hlt : k < own.length
    · have e1 : decide ((k : Int) < (own.length : Int)) = true := by simpa using hlt
      simp only [Pu_some, extV_0, extV_1, extV_2, extV_3, nilV_ptr, nilV_fn, faV_ptr, lenV_sl, lenS_s, capV_sl, pickV_t, pickV_f, unV_not, unV_neg, isB_t, isB_f, isB_u, binV_add, binV_sub, binV_mul, binV_eql, binV_neq, binV_lss, binV_leq, binV_gtr, binV_geq, binV_seql, binV_sneq, binV_slss, binV_beql, binV_bneq, binV_peql, binV_pneq, add_add, add_none, Nat.zero_add, Nat.add_zero, IfB_t, IfB_f, Gd_t, Gd_f, Ld_ptr, LdN_ptr, Option.isNone_some, Option.isNone_none, Option.isSome_some, Option.isSome_none, Bool.not_true, Bool.not_false, drew_cell, drew_heap, e1]
      have H0 := h1.keep hf
      obtain ⟨x, rfl, q0, q1, q2⟩ := H0.at_ k _ (List.getElem?_eq_getElem hlt)
      refine Jn_at (fun vs w3 => vs = [] ∧ ∃ D'', IsM w3 b bm D'' ∧ getD D'' page = getD D page ∧ Fm (fun _ => False) w w3) ?_ ?_
      · rintro _ w3 ⟨rfl, D', hM', hg', hf'⟩ _
        refine ⟨rfl, ?_⟩
        simp only [Pu_some, extV_0, extV_1, extV_2, extV_3, nilV_ptr, nilV_fn, faV_ptr, lenV_sl, lenS_s, capV_sl, pickV_t, pickV_f, unV_not, unV_neg, isB_t, isB_f, isB_u, binV_add, binV_sub, binV_mul, binV_eql, binV_neq, binV_lss, binV_leq, binV_gtr, binV_geq, binV_seql, binV_sneq, binV_slss, binV_beql, binV_bneq, binV_peql, binV_pneq, add_add, add_none, Nat.zero_add, Nat.add_zero, IfB_t, IfB_f, Gd_t, Gd_f, Ld_ptr, LdN_ptr, Option.isNone_some, Option.isNone_none, Option.isSome_some, Option.isSome_none, Bool.not_true, Bool.not_false, drew_cell, drew_heap, wrap_succ (i := k) (by omega)]
        exact ⟨⟨k + 1, D', rfl, by omega, hM', hg', hf'⟩, by simp only [nth_0]; omega⟩
      · intro kk hkk
        simp only [Pu_some, extV_0, extV_1, extV_2, extV_3, nilV_ptr, nilV_fn, faV_ptr, lenV_sl, lenS_s, capV_sl, pickV_t, pickV_f, unV_not, unV_neg, isB_t, isB_f, isB_u, binV_add, binV_sub, binV_mul, binV_eql, binV_neq, binV_lss, binV_leq, binV_gtr, binV_geq, binV_seql, binV_sneq, binV_slss, binV_beql, binV_bneq, binV_peql, binV_pneq, add_add, add_none, Nat.zero_add, Nat.add_zero, IfB_t, IfB_f, Gd_t, Gd_f, Ld_ptr, LdN_ptr, Option.isNone_some, Option.isNone_none, Option.isSome_some, Option.isSome_none, Bool.not_true, Bool.not_false, drew_cell, drew_heap, ixV_at hlt, q1]
        by_cases hp : (own[k]).2.1 = page
        · have e2 : ((own[k]).2.1 == page) = true := by simpa using hp
          simp only [Pu_some, extV_0, extV_1, extV_2, extV_3, nilV_ptr, nilV_fn, faV_ptr, lenV_sl, lenS_s, capV_sl, pickV_t, pickV_f, unV_not, unV_neg, isB_t, isB_f, isB_u, binV_add, binV_sub, binV_mul, binV_eql, binV_neq, binV_lss, binV_leq, binV_gtr, binV_geq, binV_seql, binV_sneq, binV_slss, binV_beql, binV_bneq, binV_peql, binV_pneq, add_add, add_none, Nat.zero_add, Nat.add_zero, IfB_t, IfB_f, Gd_t, Gd_f, Ld_ptr, LdN_ptr, Option.isNone_some, Option.isNone_none, Option.isSome_some, Option.isSome_none, Bool.not_true, Bool.not_false, drew_cell, drew_heap, e2]
          exact hkk _ _ ⟨rfl, _, hM, hg, hf⟩
        · have e2 : ((own[k]).2.1 == page) = false := by simpa using hp
          have hp' : ¬ page = (own[k]).2.1 := fun e => hp e.symm
          simp only [Pu_some, extV_0, extV_1, extV_2, extV_3, nilV_ptr, nilV_fn, faV_ptr, lenV_sl, lenS_s, capV_sl, pickV_t, pickV_f, unV_not, unV_neg, isB_t, isB_f, isB_u, binV_add, binV_sub, binV_mul, binV_eql, binV_neq, binV_lss, binV_leq, binV_gtr, binV_geq, binV_seql, binV_sneq, binV_slss, binV_beql, binV_bneq, binV_peql, binV_pneq, add_add, add_none, Nat.zero_add, Nat.add_zero, IfB_t, IfB_f, Gd_t, Gd_f, Ld_ptr, LdN_ptr, Option.isNone_some, Option.isNone_none, Option.isSome_some, Option.isSome_none, Bool.not_true, Bool.not_false, drew_cell, drew_heap, e2, ixV_at hlt, q0]
          cases hd : (own[k]).1
          · simp only [Pu_some, extV_0, extV_1, extV_2, extV_3, nilV_ptr, nilV_fn, faV_ptr, lenV_sl, lenS_s, capV_sl, pickV_t, pickV_f, unV_not, unV_neg, isB_t, isB_f, isB_u, binV_add, binV_sub, binV_mul, binV_eql, binV_neq, binV_lss, binV_leq, binV_gtr, binV_geq, binV_seql, binV_sneq, binV_slss, binV_beql, binV_bneq, binV_peql, binV_pneq, add_add, add_none, Nat.zero_add, Nat.add_zero, IfB_t, IfB_f, Gd_t, Gd_f, Ld_ptr, LdN_ptr, Option.isNone_some, Option.isNone_none, Option.isSome_some, Option.isSome_none, Bool.not_true, Bool.not_false, drew_cell, drew_heap, ixV_at hlt, q1, q2, true_and]
            refine (set_spec (w := w4.drew) ⟨hM.st, hM.mp.keep (Fm.drew (fun _ => False) w4) (fun e => e)⟩ _ _).mono ?_
            rintro _ w3 ⟨hM', hf'⟩
            exact hkk _ _ ⟨rfl, _, hM', by rw [getD_setD, if_neg hp', hg], (hf.trans (Fm.drew (fun _ => False) w4) (U := fun _ => False) (fun _ _ h => h) (fun _ _ h => h)).trans hf' (fun _ _ h => h) (fun x hx e => by omega)⟩
          · simp only [Pu_some, extV_0, extV_1, extV_2, extV_3, nilV_ptr, nilV_fn, faV_ptr, lenV_sl, lenS_s, capV_sl, pickV_t, pickV_f, unV_not, unV_neg, isB_t, isB_f, isB_u, binV_add, binV_sub, binV_mul, binV_eql, binV_neq, binV_lss, binV_leq, binV_gtr, binV_geq, binV_seql, binV_sneq, binV_slss, binV_beql, binV_bneq, binV_peql, binV_pneq, add_add, add_none, Nat.zero_add, Nat.add_zero, IfB_t, IfB_f, Gd_t, Gd_f, Ld_ptr, LdN_ptr, Option.isNone_some, Option.isNone_none, Option.isSome_some, Option.isSome_none, Bool.not_true, Bool.not_false, drew_cell, drew_heap, ixV_at hlt, q1]
            refine (drop_spec hM _).mono ?_
            rintro _ w3 ⟨hM', hf'⟩
            exact hkk _ _ ⟨rfl, _, hM', by rw [getD_delD hM.mp.keys, if_neg hp', hg], hf.trans hf' (fun _ _ h => h) (fun x hx e => by omega)⟩
    · have hke : k = own.length := by omega
      subst hke
      have e1 : decide ((own.length : Int) < (own.length : Int)) = false := by simp
      simp only [Pu_some, extV_0, extV_1, extV_2, extV_3, nilV_ptr, nilV_fn, faV_ptr, lenV_sl, lenS_s, capV_sl, pickV_t, pickV_f, unV_not, unV_neg, isB_t, isB_f, isB_u, binV_add, binV_sub, binV_mul, binV_eql, binV_neq, binV_lss, binV_leq, binV_gtr, binV_geq, binV_seql, binV_sneq, binV_slss, binV_beql, binV_bneq, binV_peql, binV_pneq, add_add, add_none, Nat.zero_add, Nat.add_zero, IfB_t, IfB_f, Gd_t, Gd_f, Ld_ptr, LdN_ptr, Option.isNone_some, Option.isNone_none, Option.isSome_some, Option.isSome_none, Bool.not_true, Bool.not_false, drew_cell, drew_heap, e1]
      refine (room_spec hM page).mono ?_
      rintro _ _ ⟨rfl, rfl⟩
      simp only [Pu_some, extV_0, extV_1, extV_2, extV_3, nilV_ptr, nilV_fn, faV_ptr, lenV_sl, lenS_s, capV_sl, pickV_t, pickV_f, unV_not, unV_neg, isB_t, isB_f, isB_u, binV_add, binV_sub, binV_mul, binV_eql, binV_neq, binV_lss, binV_leq, binV_gtr, binV_geq, binV_seql, binV_sneq, binV_slss, binV_beql, binV_bneq, binV_peql, binV_pneq, add_add, add_none, Nat.zero_add, Nat.add_zero, IfB_t, IfB_f, Gd_t, Gd_f, Ld_ptr, LdN_ptr, Option.isNone_some, Option.isNone_none, Option.isSome_some, Option.isSome_none, Bool.not_true, Bool.not_false, drew_cell, drew_heap, roomV, hg, beq_self_eq_true]
      refine (awake_spec _).mono ?_
      rintro _ w5 ⟨rfl, hf5⟩
      simp only [Pu_some, extV_0, extV_1, extV_2, extV_3, nilV_ptr, nilV_fn, faV_ptr, lenV_sl, lenS_s, capV_sl, pickV_t, pickV_f, unV_not, unV_neg, isB_t, isB_f, isB_u, binV_add, binV_sub, binV_mul, binV_eql, binV_neq, binV_lss, binV_leq, binV_gtr, binV_geq, binV_seql, binV_sneq, binV_slss, binV_beql, binV_bneq, binV_peql, binV_pneq, add_add, add_none, Nat.zero_add, Nat.add_zero, IfB_t, IfB_f, Gd_t, Gd_f, Ld_ptr, LdN_ptr, Option.isNone_some, Option.isNone_none, Option.isSome_some, Option.isSome_none, Bool.not_true, Bool.not_false, drew_cell, drew_heap]
      exact ⟨trivial, hf.trans hf5 (fun _ _ h => h) (fun _ _ h => h)⟩

end Go.Proofs.Ytgknklnbcjjlkaa
