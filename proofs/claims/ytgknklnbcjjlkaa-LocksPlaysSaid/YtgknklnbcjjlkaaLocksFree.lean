/- LocksFree: who lets go holds nothing, and all who waited for him are told: the law. -/
import Derived.Test.YtgknklnbcjjlkaaLocksRing
import Derived.Test.YtgknklnbcjjlkaaSpaceRef
namespace Go.Proofs.Ytgknklnbcjjlkaa
open Go.Al Go.Proofs
set_option linter.unusedVariables false
set_option linter.unusedSimpArgs false
set_option linter.unusedSectionVars false

theorem sorted_same {l m : List Int} (h1 : l.Pairwise (· < ·)) (h2 : m.Pairwise (· < ·)) (hm : ∀ x, x ∈ l ↔ x ∈ m) : l = m :=
  List.Perm.eq_of_pairwise (fun a b _ _ x y => by omega) h1 h2 ((List.perm_ext_iff_of_nodup (h1.imp fun e => by omega) (h2.imp fun e => by omega)).2 hm)
theorem wk_rises {W : WL} (h : (W.map (·.1)).Nodup) : (sortK W).Pairwise (· < ·) := by
  have h1 : (sortK W).Pairwise (fun x y => decide (x ≤ y) = true) := List.pairwise_mergeSort (fun a b c h1 h2 => by simp at *; omega) (fun a b => by simp; omega) _
  have h2 : (sortK W).Nodup := by rw [sortK]; exact (List.mergeSort_perm _ _).nodup_iff.2 h
  exact (h1.and h2).imp fun ⟨h, hn⟩ => by simp at h; omega

/-- Does x wait for who? -/
def tells (H : HL) (W : WL) (who x : Int) : Bool := ((getD W x).bind fun k => getD H k) == some who && x != who
def wkey (W : WL) (x : Int) : ByteArray := (getD W x).getD ByteArray.empty

set_option maxHeartbeats 2000000 in
theorem free_law (w : World) (a0 : Option Addr) (c0 : Nat) (ops : List LOp) (who : Int) (h0 : LopsAt w a0 ops) (hsm : ops.length * 32 ≤ 140737488351232) :
    Cl Try.prog 10 [.slice a0 ops.length c0, jv who] w fun v w' => v = .bool true ∧ Fm (fun _ => False) w w' := by
  refine c10 ?_
  unfold T10
  refine (lnew_spec w).mono ?_
  rintro _ w1 ⟨b, bh, bw, rfl, hb, hbh, hbw, hT, hf1⟩
  simp only [Pu_some, extV_0, extV_1, extV_2, extV_3, nilV_ptr, nilV_fn, faV_ptr, lenV_sl, lenS_s, capV_sl, pickV_t, pickV_f, unV_not, unV_neg, isB_t, isB_f, isB_u, binV_add, binV_sub, binV_mul, binV_eql, binV_neq, binV_lss, binV_leq, binV_gtr, binV_geq, binV_seql, binV_sneq, binV_slss, binV_beql, binV_bneq, binV_peql, binV_pneq, add_add, add_none, Go.Al.add_zero, Nat.zero_add, Nat.add_zero, IfB_t, IfB_f, Gd_t, Gd_f, Ld_ptr, LdN_ptr, Option.isNone_some, Option.isNone_none, Option.isSome_some, Option.isSome_none, Bool.not_true, Bool.not_false, drew_cell, drew_heap]
  refine ⟨fun vs w2 => ∃ (k : Nat) (H : HL) (W : WL), vs = [jv k] ∧ k ≤ ops.length ∧ LI w2 b bh bw H W k ∧ Fm (fun _ => False) w w2, fun vs _ => (ops.length - nth vs 0).toNat, ⟨0, [], [], rfl, by omega, ⟨hT, Sound.nil, by simp, by simp, by simp⟩, hf1⟩, ?_⟩
  clear hT hf1 w1
  rintro g w2 iw ⟨k, H, W, ⟨⟩, hk, hL, hf⟩
  by_cases hlt : k < ops.length
  · have e1 : decide ((k : Int) < (ops.length : Int)) = true := by simpa using hlt
    simp only [Pu_some, extV_0, extV_1, extV_2, extV_3, nilV_ptr, nilV_fn, faV_ptr, lenV_sl, lenS_s, capV_sl, pickV_t, pickV_f, unV_not, unV_neg, isB_t, isB_f, isB_u, binV_add, binV_sub, binV_mul, binV_eql, binV_neq, binV_lss, binV_leq, binV_gtr, binV_geq, binV_seql, binV_sneq, binV_slss, binV_beql, binV_bneq, binV_peql, binV_pneq, add_add, add_none, Go.Al.add_zero, Nat.zero_add, Nat.add_zero, IfB_t, IfB_f, Gd_t, Gd_f, Ld_ptr, LdN_ptr, Option.isNone_some, Option.isNone_none, Option.isSome_some, Option.isSome_none, Bool.not_true, Bool.not_false, drew_cell, drew_heap, e1]
    refine Jn_at (fun vs w3 => vs = [] ∧ ∃ H' W', LI w3 b bh bw H' W' (k + 1) ∧ Fm (fun _ => False) w w3) ?_ ?_
    · rintro _ w3 ⟨rfl, H', W', hL', hf'⟩ _
      refine ⟨rfl, ?_⟩
      simp only [Pu_some, extV_0, extV_1, extV_2, extV_3, nilV_ptr, nilV_fn, faV_ptr, lenV_sl, lenS_s, capV_sl, pickV_t, pickV_f, unV_not, unV_neg, isB_t, isB_f, isB_u, binV_add, binV_sub, binV_mul, binV_eql, binV_neq, binV_lss, binV_leq, binV_gtr, binV_geq, binV_seql, binV_sneq, binV_slss, binV_beql, binV_bneq, binV_peql, binV_pneq, add_add, add_none, Go.Al.add_zero, Nat.zero_add, Nat.add_zero, IfB_t, IfB_f, Gd_t, Gd_f, Ld_ptr, LdN_ptr, Option.isNone_some, Option.isNone_none, Option.isSome_some, Option.isSome_none, Bool.not_true, Bool.not_false, drew_cell, drew_heap, wrap_succ (i := k) (by omega)]
      exact ⟨⟨k + 1, H', W', rfl, by omega, hL', hf'⟩, by simp only [nth_0]; omega⟩
    · intro kk hkk
      obtain ⟨x, rfl, _⟩ := (h0.keep hf).at_ k _ (List.getElem?_eq_getElem hlt)
      exact step_ring (h0.keep hf) hlt hsm hL hf hbh hbw (fun w => kk [] w) (fun w' H' W' hL' hf' => hkk _ _ ⟨rfl, H', W', hL', hf'⟩) _ rfl
  · have e1 : decide ((k : Int) < (ops.length : Int)) = false := by simpa using hlt
    simp only [Pu_some, extV_0, extV_1, extV_2, extV_3, nilV_ptr, nilV_fn, faV_ptr, lenV_sl, lenS_s, capV_sl, pickV_t, pickV_f, unV_not, unV_neg, isB_t, isB_f, isB_u, binV_add, binV_sub, binV_mul, binV_eql, binV_neq, binV_lss, binV_leq, binV_gtr, binV_geq, binV_seql, binV_sneq, binV_slss, binV_beql, binV_bneq, binV_peql, binV_pneq, add_add, add_none, Go.Al.add_zero, Nat.zero_add, Nat.add_zero, IfB_t, IfB_f, Gd_t, Gd_f, Ld_ptr, LdN_ptr, Option.isNone_some, Option.isNone_none, Option.isSome_some, Option.isSome_none, Bool.not_true, Bool.not_false, drew_cell, drew_heap, e1]
    have hsz := hL.st (by omega)
    have hwl := hL.wl
    have hhl := hL.hl
    refine (held_spec hL.t hsz.2 who).mono ?_
    rintro mine w3 ⟨ms, hmine, _, hmm, hml, hf3⟩
    have hL3 := hL.keep hf3
    refine (waiting_spec hL3.t hL.wf hsz.1).mono ?_
    rintro l w4 ⟨hl, _, hf4⟩
    have hL4 := hL3.keep hf4
    have hF4 := Fmf hf (Fmf hf3 hf4)
    have hmine4 := own_keep hmine hf4 (fun k hk hk' _ => fun e => e)
    have hbwl := hL4.t.ws.lt
    have hbhl := hL4.t.hs.lt
    have hbl := lt_of_heap hL4.t.st
    have hz3 := hf3.size
    have hbh2 := hL.t.hs.lt
    have hbw2 := hL.t.ws.lt
    have hS := len_wk W
    let S := sortK W
    refine ⟨fun vs w5 => ∃ (want told : Value) (i : Nat), vs = [want, told, jv i] ∧ i ≤ W.length ∧ w5.ownsRow w4.heap.size 9 1 want (((sortK W).take i).filter (tells H W who)).length ((((sortK W).take i).filter (tells H W who)).map fun x => sv (wkey W x)) ∧ w5.ownsRow w4.heap.size 3 1 told (((sortK W).take i).filter (tells H W who)).length ((((sortK W).take i).filter (tells H W who)).map jv) ∧ Fm (fun _ => False) w4 w5, fun vs _ => (W.length - nth vs 2).toNat, ⟨.slice none 0 0, .slice none 0 0, 0, rfl, by omega, by simpa using World.ownsRow_nil w4 _ _ _, by simpa using World.ownsRow_nil w4 _ _ _, Fm.refl _ _⟩, ?_⟩
    rintro g w5 want told iv' ⟨_, _, i, ⟨⟩, hi, hwant, htold, hf5⟩
    have hL5 := hL4.keep hf5
    have hl5 := own_keep hl hf5 (fun k hk hk' _ => fun e => e)
    have hmine5 := own_keep hmine4 hf5 (fun k hk hk' _ => fun e => e)
    have hlv := own_len hl5
    simp only [Pu_some, extV_0, extV_1, extV_2, extV_3, nilV_ptr, nilV_fn, faV_ptr, lenV_sl, lenS_s, capV_sl, pickV_t, pickV_f, unV_not, unV_neg, isB_t, isB_f, isB_u, binV_add, binV_sub, binV_mul, binV_eql, binV_neq, binV_lss, binV_leq, binV_gtr, binV_geq, binV_seql, binV_sneq, binV_slss, binV_beql, binV_bneq, binV_peql, binV_pneq, add_add, add_none, Go.Al.add_zero, Nat.zero_add, Nat.add_zero, IfB_t, IfB_f, Gd_t, Gd_f, Ld_ptr, LdN_ptr, Option.isNone_some, Option.isNone_none, Option.isSome_some, Option.isSome_none, Bool.not_true, Bool.not_false, drew_cell, drew_heap, hlv]
    by_cases hlt' : i < W.length
    · have e3 : decide ((i : Int) < (W.length : Int)) = true := by simpa using hlt'
      have hxs : (sortK W)[i]? = some ((sortK W)[i]'(by rw [len_wk]; exact hlt')) := List.getElem?_eq_getElem _
      generalize (sortK W)[i]'(by rw [len_wk]; exact hlt') = x at hxs
      have hxw := mem_wk.1 (List.mem_of_getElem? hxs)
      obtain ⟨ad, i1, _, q1⟩ := (CellsAt.of_own hl5).at1 (i := i) (x := jv x) (by rw [List.getElem?_map, hxs]; rfl) .i64
      have hsucc : (sortK W).take (i + 1) = (sortK W).take i ++ [x] := by rw [List.take_add_one, hxs]; rfl
      have hfl : (((sortK W).take i).filter (tells H W who)).length ≤ i := Nat.le_trans (List.length_filter_le _ _) (by rw [List.length_take]; omega)
      simp only [Pu_some, extV_0, extV_1, extV_2, extV_3, nilV_ptr, nilV_fn, faV_ptr, lenV_sl, lenS_s, capV_sl, pickV_t, pickV_f, unV_not, unV_neg, isB_t, isB_f, isB_u, binV_add, binV_sub, binV_mul, binV_eql, binV_neq, binV_lss, binV_leq, binV_gtr, binV_geq, binV_seql, binV_sneq, binV_slss, binV_beql, binV_bneq, binV_peql, binV_pneq, add_add, add_none, Go.Al.add_zero, Nat.zero_add, Nat.add_zero, IfB_t, IfB_f, Gd_t, Gd_f, Ld_ptr, LdN_ptr, Option.isNone_some, Option.isNone_none, Option.isSome_some, Option.isSome_none, Bool.not_true, Bool.not_false, drew_cell, drew_heap, e3]
      refine Jn_at (fun vs w6 => ∃ (want told : Value), vs = [want, told] ∧ w6.ownsRow w4.heap.size 9 1 want (((sortK W).take (i + 1)).filter (tells H W who)).length ((((sortK W).take (i + 1)).filter (tells H W who)).map fun x => sv (wkey W x)) ∧ w6.ownsRow w4.heap.size 3 1 told (((sortK W).take (i + 1)).filter (tells H W who)).length ((((sortK W).take (i + 1)).filter (tells H W who)).map jv) ∧ Fm (fun _ => False) w4 w6) ?_ ?_
      · rintro _ w6 ⟨want', told', rfl, hw', ht', hf6⟩ _
        refine ⟨want', told', rfl, ?_⟩
        simp only [Pu_some, extV_0, extV_1, extV_2, extV_3, nilV_ptr, nilV_fn, faV_ptr, lenV_sl, lenS_s, capV_sl, pickV_t, pickV_f, unV_not, unV_neg, isB_t, isB_f, isB_u, binV_add, binV_sub, binV_mul, binV_eql, binV_neq, binV_lss, binV_leq, binV_gtr, binV_geq, binV_seql, binV_sneq, binV_slss, binV_beql, binV_bneq, binV_peql, binV_pneq, add_add, add_none, Go.Al.add_zero, Nat.zero_add, Nat.add_zero, IfB_t, IfB_f, Gd_t, Gd_f, Ld_ptr, LdN_ptr, Option.isNone_some, Option.isNone_none, Option.isSome_some, Option.isSome_none, Bool.not_true, Bool.not_false, drew_cell, drew_heap, wrap_succ (i := i) (by omega)]
        exact ⟨⟨_, _, i + 1, rfl, by omega, hw', ht', hf6⟩, by simp only [nth_2]; omega⟩
      · intro kk hkk
        simp only [Pu_some, extV_0, extV_1, extV_2, extV_3, nilV_ptr, nilV_fn, faV_ptr, lenV_sl, lenS_s, capV_sl, pickV_t, pickV_f, unV_not, unV_neg, isB_t, isB_f, isB_u, binV_add, binV_sub, binV_mul, binV_eql, binV_neq, binV_lss, binV_leq, binV_gtr, binV_geq, binV_seql, binV_sneq, binV_slss, binV_beql, binV_bneq, binV_peql, binV_pneq, add_add, add_none, Go.Al.add_zero, Nat.zero_add, Nat.add_zero, IfB_t, IfB_f, Gd_t, Gd_f, Ld_ptr, LdN_ptr, Option.isNone_some, Option.isNone_none, Option.isSome_some, Option.isSome_none, Bool.not_true, Bool.not_false, drew_cell, drew_heap, i1, q1]
        refine (waits_spec hL5.t x).mono ?_
        rintro _ w5 ⟨rfl, rfl⟩
        cases hg : getD W x with
        | none => rw [hg] at hxw; cases hxw
        | some key =>
          simp only [Pu_some, extV_0, extV_1, extV_2, extV_3, nilV_ptr, nilV_fn, faV_ptr, lenV_sl, lenS_s, capV_sl, pickV_t, pickV_f, unV_not, unV_neg, isB_t, isB_f, isB_u, binV_add, binV_sub, binV_mul, binV_eql, binV_neq, binV_lss, binV_leq, binV_gtr, binV_geq, binV_seql, binV_sneq, binV_slss, binV_beql, binV_bneq, binV_peql, binV_pneq, add_add, add_none, Go.Al.add_zero, Nat.zero_add, Nat.add_zero, IfB_t, IfB_f, Gd_t, Gd_f, Ld_ptr, LdN_ptr, Option.isNone_some, Option.isNone_none, Option.isSome_some, Option.isSome_none, Bool.not_true, Bool.not_false, drew_cell, drew_heap, waitsV, hg, Option.getD_some]
          refine (holder_spec hL5.t key).mono ?_
          rintro _ w5 ⟨rfl, rfl⟩
          have hh := hL.s.held x key hg
          cases hk : getD H key with
          | none => rw [hk] at hh; cases hh
          | some q =>
            have skip : tells H W who x = false → kk [want, told] w5 := fun ht => hkk _ _ ⟨want, told, rfl, by rw [hsucc, List.filter_append]; simpa [ht] using hwant, by rw [hsucc, List.filter_append]; simpa [ht] using htold, hf5⟩
            by_cases hq : q = who
            · by_cases hx : x = who
              · have e4 : (q == who) = true := by simpa using hq
                have e5 : (x != who) = false := by simpa using hx
                simp only [Pu_some, extV_0, extV_1, extV_2, extV_3, nilV_ptr, nilV_fn, faV_ptr, lenV_sl, lenS_s, capV_sl, pickV_t, pickV_f, unV_not, unV_neg, isB_t, isB_f, isB_u, binV_add, binV_sub, binV_mul, binV_eql, binV_neq, binV_lss, binV_leq, binV_gtr, binV_geq, binV_seql, binV_sneq, binV_slss, binV_beql, binV_bneq, binV_peql, binV_pneq, add_add, add_none, Go.Al.add_zero, Nat.zero_add, Nat.add_zero, IfB_t, IfB_f, Gd_t, Gd_f, Ld_ptr, LdN_ptr, Option.isNone_some, Option.isNone_none, Option.isSome_some, Option.isSome_none, Bool.not_true, Bool.not_false, drew_cell, drew_heap, holderV, hk, Option.getD_some, e4, i1, q1, e5]
                exact skip (by simp [tells, hx])
              · have e4 : (q == who) = true := by simpa using hq
                have e5 : (x != who) = true := by simpa using hx
                have ht : tells H W who x = true := by simp [tells, hg, hk, hq, hx]
                simp only [Pu_some, extV_0, extV_1, extV_2, extV_3, nilV_ptr, nilV_fn, faV_ptr, lenV_sl, lenS_s, capV_sl, pickV_t, pickV_f, unV_not, unV_neg, isB_t, isB_f, isB_u, binV_add, binV_sub, binV_mul, binV_eql, binV_neq, binV_lss, binV_leq, binV_gtr, binV_geq, binV_seql, binV_sneq, binV_slss, binV_beql, binV_bneq, binV_peql, binV_pneq, add_add, add_none, Go.Al.add_zero, Nat.zero_add, Nat.add_zero, IfB_t, IfB_f, Gd_t, Gd_f, Ld_ptr, LdN_ptr, Option.isNone_some, Option.isNone_none, Option.isSome_some, Option.isSome_none, Bool.not_true, Bool.not_false, drew_cell, drew_heap, holderV, hk, Option.getD_some, e4, i1, q1, e5]
                refine append_el' F35 (by omega) 35 (cs := [jv x]) rfl (is35 _ _) (by intro u hu; simp at hu; subst hu; rfl) htold (by unfold maxLen; omega) (by omega) hf5.size ?_
                intro told' w6 ht6 hn6 hf6
                have hw6 := own_keep hwant hf6 (fun k _ _ hb e => own_apart hwant htold (by decide) k hb e)
                have hlt5 := hf5.size
                have hto := fun k (h : told.ownBlock = some k) => (own_lt htold k h).1
                have hF46 : Fm (fun _ => False) w4 w6 := hf5.trans hf6 (fun _ _ e => e) (fun x hx e => by have := hto x e; omega)
                refine append_el' F58 (by omega) 58 (cs := [sv key]) rfl (is58 _ _) (by intro u hu; simp at hu; subst hu; rfl) hw6 (by unfold maxLen; omega) (by omega) hF46.size ?_
                intro want' w7 hw7 hn7 hf7
                have ht7 := own_keep ht6 hf7 (fun k _ _ hb e => own_apart hw6 ht6 (by decide) k e hb)
                have hwo := fun k (h : want.ownBlock = some k) => (own_lt hwant k h).1
                have hF47 : Fm (fun _ => False) w4 w7 := hF46.trans hf7 (fun _ _ e => e) (fun x hx e => by have := hwo x e; omega)
                have hfe : (((sortK W).take (i + 1)).filter (tells H W who)) = (((sortK W).take i).filter (tells H W who)) ++ [x] := by rw [hsucc, List.filter_append]; simp [ht]
                refine hkk _ _ ⟨want', told', rfl, ?_, ?_, hF47⟩
                · rw [hfe, List.map_append, List.length_append]; simpa [wkey, hg] using hw7
                · rw [hfe, List.map_append, List.length_append]; exact ht7
            · have e4 : (q == who) = false := by simpa using hq
              simp only [Pu_some, extV_0, extV_1, extV_2, extV_3, nilV_ptr, nilV_fn, faV_ptr, lenV_sl, lenS_s, capV_sl, pickV_t, pickV_f, unV_not, unV_neg, isB_t, isB_f, isB_u, binV_add, binV_sub, binV_mul, binV_eql, binV_neq, binV_lss, binV_leq, binV_gtr, binV_geq, binV_seql, binV_sneq, binV_slss, binV_beql, binV_bneq, binV_peql, binV_pneq, add_add, add_none, Go.Al.add_zero, Nat.zero_add, Nat.add_zero, IfB_t, IfB_f, Gd_t, Gd_f, Ld_ptr, LdN_ptr, Option.isNone_some, Option.isNone_none, Option.isSome_some, Option.isSome_none, Bool.not_true, Bool.not_false, drew_cell, drew_heap, holderV, hk, Option.getD_some, e4]
              exact skip (by simp [tells, hg, hk, hq])
    · have hie : i = W.length := by omega
      subst hie
      have e3 : decide ((W.length : Int) < (W.length : Int)) = false := by simp
      simp only [Pu_some, extV_0, extV_1, extV_2, extV_3, nilV_ptr, nilV_fn, faV_ptr, lenV_sl, lenS_s, capV_sl, pickV_t, pickV_f, unV_not, unV_neg, isB_t, isB_f, isB_u, binV_add, binV_sub, binV_mul, binV_eql, binV_neq, binV_lss, binV_leq, binV_gtr, binV_geq, binV_seql, binV_sneq, binV_slss, binV_beql, binV_bneq, binV_peql, binV_pneq, add_add, add_none, Go.Al.add_zero, Nat.zero_add, Nat.add_zero, IfB_t, IfB_f, Gd_t, Gd_f, Ld_ptr, LdN_ptr, Option.isNone_some, Option.isNone_none, Option.isSome_some, Option.isSome_none, Bool.not_true, Bool.not_false, drew_cell, drew_heap, e3]
      rw [← hS, List.take_length] at hwant htold
      have hTup : ((sortK W).filter (tells H W who)).Pairwise (· < ·) := (wk_rises hL.t.ws.keys).filter _
      have hTm : ∀ x, x ∈ (sortK W).filter (tells H W who) ↔ x ≠ who ∧ ∃ key, (x, key) ∈ W ∧ getD H key = some who := by
        intro x
        rw [List.mem_filter, mem_wk]
        unfold tells
        constructor
        · rintro ⟨h1, h2⟩
          cases hg : getD W x with
          | none => rw [hg] at h1; cases h1
          | some key =>
            rw [hg] at h2
            simp at h2
            exact ⟨h2.2, key, (getD_some hL.t.ws.keys).1 hg, h2.1⟩
        · rintro ⟨h1, key, h2, h3⟩
          have hg := (getD_some hL.t.ws.keys).2 h2
          rw [hg]; simp [h3, h1]
      have hTk : ∀ x, x ∈ (sortK W).filter (tells H W who) → getD H (wkey W x) = some who := by
        intro x hx
        obtain ⟨_, key, h2, h3⟩ := (hTm x).1 hx
        rw [wkey, (getD_some hL.t.ws.keys).2 h2]; exact h3
      have hTl : ((sortK W).filter (tells H W who)).length ≤ W.length := Nat.le_trans (List.length_filter_le _ _) (by omega)
      generalize (sortK W).filter (tells H W who) = T at hwant htold hTup hTm hTl hTk
      refine (release_spec hL5.t hsz.1 who).mono ?_
      rintro rv w6 ⟨H', W', ls, hrow, hR, hT6, hf6⟩
      obtain rfl : ls = T := sorted_same hR.up hTup fun x => (hR.told x).trans (hTm x).symm
      have hz5 := hf5.size
      have htold6 := own_keep htold hf6 (fun k hk _ _ e => by omega)
      have hwant6 := own_keep hwant hf6 (fun k hk _ _ e => by omega)
      have hmine6 := own_keep hmine5 hf6 (fun k hk _ _ e => by omega)
      have hL6 := hL5.let hR hT6
      refine (same_spec (xs := ls) (ys := ls) (CellsAt.of_own hrow) (CellsAt.of_own htold6) (by omega)).mono ?_
      rintro r7 w7 ⟨hr7, hf7⟩
      obtain rfl : r7 = .bool true := by rw [hr7]; simp
      clear hr7
      simp only [Pu_some, extV_0, extV_1, extV_2, extV_3, nilV_ptr, nilV_fn, faV_ptr, lenV_sl, lenS_s, capV_sl, pickV_t, pickV_f, unV_not, unV_neg, isB_t, isB_f, isB_u, binV_add, binV_sub, binV_mul, binV_eql, binV_neq, binV_lss, binV_leq, binV_gtr, binV_geq, binV_seql, binV_sneq, binV_slss, binV_beql, binV_bneq, binV_peql, binV_pneq, add_add, add_none, Go.Al.add_zero, Nat.zero_add, Nat.add_zero, IfB_t, IfB_f, Gd_t, Gd_f, Ld_ptr, LdN_ptr, Option.isNone_some, Option.isNone_none, Option.isSome_some, Option.isSome_none, Bool.not_true, Bool.not_false, drew_cell, drew_heap]
      have hL7 := hL6.keep hf7
      refine (held_spec hL7.t (by have := hL7.hl; omega) who).mono ?_
      rintro hv w8 ⟨hs, hhs, _, hhm, _, hf8⟩
      obtain rfl : hs = [] := by
        cases hs with
        | nil => rfl
        | cons k r => have := (hR.hold _).1 ((hhm k).1 (by simp)); exact absurd rfl this.2
      have hL8 := hL7.keep hf8
      have e5 : ((([] : List ByteArray).length : Int) != 0) = false := by simp
      simp only [Pu_some, extV_0, extV_1, extV_2, extV_3, nilV_ptr, nilV_fn, faV_ptr, lenV_sl, lenS_s, capV_sl, pickV_t, pickV_f, unV_not, unV_neg, isB_t, isB_f, isB_u, binV_add, binV_sub, binV_mul, binV_eql, binV_neq, binV_lss, binV_leq, binV_gtr, binV_geq, binV_seql, binV_sneq, binV_slss, binV_beql, binV_bneq, binV_peql, binV_pneq, add_add, add_none, Go.Al.add_zero, Nat.zero_add, Nat.add_zero, IfB_t, IfB_f, Gd_t, Gd_f, Ld_ptr, LdN_ptr, Option.isNone_some, Option.isNone_none, Option.isSome_some, Option.isSome_none, Bool.not_true, Bool.not_false, drew_cell, drew_heap, own_len hhs, e5]
      have hF6 : Fm (fun _ => False) w w6 := (Fmf hF4 hf5).trans hf6 (fun _ _ e => e) (fun x hx e => by omega)
      have hF8 := Fmf hF6 (Fmf hf7 hf8)
      have htold8 := own_keep htold6 (Fmf hf7 hf8) (fun k hk hk' _ => fun e => e)
      have hwant8 := own_keep hwant6 (Fmf hf7 hf8) (fun k hk hk' _ => fun e => e)
      have hmine8 := own_keep hmine6 (Fmf hf7 hf8) (fun k hk hk' _ => fun e => e)
      refine ⟨fun vs w9 => ∃ (j : Nat), vs = [jv j] ∧ j ≤ ms.length ∧ w9 = w8, fun vs _ => (ms.length - nth vs 0).toNat, ⟨0, rfl, by omega, rfl⟩, ?_⟩
      rintro g w9 jw ⟨j, ⟨⟩, hj, rfl⟩
      simp only [Pu_some, extV_0, extV_1, extV_2, extV_3, nilV_ptr, nilV_fn, faV_ptr, lenV_sl, lenS_s, capV_sl, pickV_t, pickV_f, unV_not, unV_neg, isB_t, isB_f, isB_u, binV_add, binV_sub, binV_mul, binV_eql, binV_neq, binV_lss, binV_leq, binV_gtr, binV_geq, binV_seql, binV_sneq, binV_slss, binV_beql, binV_bneq, binV_peql, binV_pneq, add_add, add_none, Go.Al.add_zero, Nat.zero_add, Nat.add_zero, IfB_t, IfB_f, Gd_t, Gd_f, Ld_ptr, LdN_ptr, Option.isNone_some, Option.isNone_none, Option.isSome_some, Option.isSome_none, Bool.not_true, Bool.not_false, drew_cell, drew_heap, own_len hmine8]
      by_cases hjl : j < ms.length
      · have e6 : decide ((j : Int) < (ms.length : Int)) = true := by simpa using hjl
        have hmj : ms[j]? = some ms[j] := List.getElem?_eq_getElem hjl
        obtain ⟨ad, i1, _, q1⟩ := (CellsAt.of_own hmine8).at1 (i := j) (x := sv ms[j]) (by rw [List.getElem?_map, hmj]; rfl) .i64
        simp only [Pu_some, extV_0, extV_1, extV_2, extV_3, nilV_ptr, nilV_fn, faV_ptr, lenV_sl, lenS_s, capV_sl, pickV_t, pickV_f, unV_not, unV_neg, isB_t, isB_f, isB_u, binV_add, binV_sub, binV_mul, binV_eql, binV_neq, binV_lss, binV_leq, binV_gtr, binV_geq, binV_seql, binV_sneq, binV_slss, binV_beql, binV_bneq, binV_peql, binV_pneq, add_add, add_none, Go.Al.add_zero, Nat.zero_add, Nat.add_zero, IfB_t, IfB_f, Gd_t, Gd_f, Ld_ptr, LdN_ptr, Option.isNone_some, Option.isNone_none, Option.isSome_some, Option.isSome_none, Bool.not_true, Bool.not_false, drew_cell, drew_heap, e6, i1, q1]
        refine (holder_spec hL8.t ms[j]).mono ?_
        rintro _ w9 ⟨rfl, rfl⟩
        have hno : getD H' ms[j] = none := by
          have h1 := (getD_some hL.t.hs.keys).2 ((hmm ms[j]).1 (List.getElem_mem hjl))
          cases h' : getD H' ms[j] with
          | none => rfl
          | some y => have := (hR.hget hL.t.hs.keys hT6.hs.keys _ y).1 h'; rw [h1] at this; cases this.1; exact absurd rfl this.2
        simp only [Pu_some, extV_0, extV_1, extV_2, extV_3, nilV_ptr, nilV_fn, faV_ptr, lenV_sl, lenS_s, capV_sl, pickV_t, pickV_f, unV_not, unV_neg, isB_t, isB_f, isB_u, binV_add, binV_sub, binV_mul, binV_eql, binV_neq, binV_lss, binV_leq, binV_gtr, binV_geq, binV_seql, binV_sneq, binV_slss, binV_beql, binV_bneq, binV_peql, binV_pneq, add_add, add_none, Go.Al.add_zero, Nat.zero_add, Nat.add_zero, IfB_t, IfB_f, Gd_t, Gd_f, Ld_ptr, LdN_ptr, Option.isNone_some, Option.isNone_none, Option.isSome_some, Option.isSome_none, Bool.not_true, Bool.not_false, drew_cell, drew_heap, holderV, hno, wrap_succ (i := j) (by omega)]
        exact ⟨⟨j + 1, rfl, by omega, trivial⟩, by simp only [nth_0]; omega⟩
      · have e6 : decide ((j : Int) < (ms.length : Int)) = false := by simpa using hjl
        simp only [Pu_some, extV_0, extV_1, extV_2, extV_3, nilV_ptr, nilV_fn, faV_ptr, lenV_sl, lenS_s, capV_sl, pickV_t, pickV_f, unV_not, unV_neg, isB_t, isB_f, isB_u, binV_add, binV_sub, binV_mul, binV_eql, binV_neq, binV_lss, binV_leq, binV_gtr, binV_geq, binV_seql, binV_sneq, binV_slss, binV_beql, binV_bneq, binV_peql, binV_pneq, add_add, add_none, Go.Al.add_zero, Nat.zero_add, Nat.add_zero, IfB_t, IfB_f, Gd_t, Gd_f, Ld_ptr, LdN_ptr, Option.isNone_some, Option.isNone_none, Option.isSome_some, Option.isSome_none, Bool.not_true, Bool.not_false, drew_cell, drew_heap, e6]
        clear hjl hj e6 j
        refine ⟨fun vs w10 => ∃ (j : Nat), vs = [jv j] ∧ j ≤ ls.length ∧ w10 = w9, fun vs _ => (ls.length - nth vs 0).toNat, ⟨0, rfl, by omega, rfl⟩, ?_⟩
        rintro g w10 jw ⟨j, ⟨⟩, hj, rfl⟩
        simp only [Pu_some, extV_0, extV_1, extV_2, extV_3, nilV_ptr, nilV_fn, faV_ptr, lenV_sl, lenS_s, capV_sl, pickV_t, pickV_f, unV_not, unV_neg, isB_t, isB_f, isB_u, binV_add, binV_sub, binV_mul, binV_eql, binV_neq, binV_lss, binV_leq, binV_gtr, binV_geq, binV_seql, binV_sneq, binV_slss, binV_beql, binV_bneq, binV_peql, binV_pneq, add_add, add_none, Go.Al.add_zero, Nat.zero_add, Nat.add_zero, IfB_t, IfB_f, Gd_t, Gd_f, Ld_ptr, LdN_ptr, Option.isNone_some, Option.isNone_none, Option.isSome_some, Option.isSome_none, Bool.not_true, Bool.not_false, drew_cell, drew_heap, own_len htold8]
        by_cases hjl : j < ls.length
        · have e6 : decide ((j : Int) < (ls.length : Int)) = true := by simpa using hjl
          have hmj : ls[j]? = some ls[j] := List.getElem?_eq_getElem hjl
          obtain ⟨ad, i1, _, q1⟩ := (CellsAt.of_own htold8).at1 (i := j) (x := jv ls[j]) (by rw [List.getElem?_map, hmj]; rfl) .i64
          simp only [Pu_some, extV_0, extV_1, extV_2, extV_3, nilV_ptr, nilV_fn, faV_ptr, lenV_sl, lenS_s, capV_sl, pickV_t, pickV_f, unV_not, unV_neg, isB_t, isB_f, isB_u, binV_add, binV_sub, binV_mul, binV_eql, binV_neq, binV_lss, binV_leq, binV_gtr, binV_geq, binV_seql, binV_sneq, binV_slss, binV_beql, binV_bneq, binV_peql, binV_pneq, add_add, add_none, Go.Al.add_zero, Nat.zero_add, Nat.add_zero, IfB_t, IfB_f, Gd_t, Gd_f, Ld_ptr, LdN_ptr, Option.isNone_some, Option.isNone_none, Option.isSome_some, Option.isSome_none, Bool.not_true, Bool.not_false, drew_cell, drew_heap, e6, i1, q1]
          refine (waits_spec hL8.t ls[j]).mono ?_
          rintro _ w10 ⟨rfl, rfl⟩
          have hno : getD W' ls[j] = none := by
            obtain ⟨_, key, h2, h3⟩ := (hTm ls[j]).1 (List.getElem_mem hjl)
            cases h' : getD W' ls[j] with
            | none => rfl
            | some y =>
              have := (hR.wget hL.t.ws.keys hT6.ws.keys _ y).1 h'
              rw [(getD_some hL.t.ws.keys).2 h2] at this
              obtain ⟨e, _, hn⟩ := this
              cases e; exact absurd h3 hn
          simp only [Pu_some, extV_0, extV_1, extV_2, extV_3, nilV_ptr, nilV_fn, faV_ptr, lenV_sl, lenS_s, capV_sl, pickV_t, pickV_f, unV_not, unV_neg, isB_t, isB_f, isB_u, binV_add, binV_sub, binV_mul, binV_eql, binV_neq, binV_lss, binV_leq, binV_gtr, binV_geq, binV_seql, binV_sneq, binV_slss, binV_beql, binV_bneq, binV_peql, binV_pneq, add_add, add_none, Go.Al.add_zero, Nat.zero_add, Nat.add_zero, IfB_t, IfB_f, Gd_t, Gd_f, Ld_ptr, LdN_ptr, Option.isNone_some, Option.isNone_none, Option.isSome_some, Option.isSome_none, Bool.not_true, Bool.not_false, drew_cell, drew_heap, waitsV, hno, wrap_succ (i := j) (by omega)]
          exact ⟨⟨j + 1, rfl, by omega, trivial⟩, by simp only [nth_0]; omega⟩
        · have e6 : decide ((j : Int) < (ls.length : Int)) = false := by simpa using hjl
          simp only [Pu_some, extV_0, extV_1, extV_2, extV_3, nilV_ptr, nilV_fn, faV_ptr, lenV_sl, lenS_s, capV_sl, pickV_t, pickV_f, unV_not, unV_neg, isB_t, isB_f, isB_u, binV_add, binV_sub, binV_mul, binV_eql, binV_neq, binV_lss, binV_leq, binV_gtr, binV_geq, binV_seql, binV_sneq, binV_slss, binV_beql, binV_bneq, binV_peql, binV_pneq, add_add, add_none, Go.Al.add_zero, Nat.zero_add, Nat.add_zero, IfB_t, IfB_f, Gd_t, Gd_f, Ld_ptr, LdN_ptr, Option.isNone_some, Option.isNone_none, Option.isSome_some, Option.isSome_none, Bool.not_true, Bool.not_false, drew_cell, drew_heap, e6]
          by_cases hp : 0 < ls.length
          · have e7 : decide ((0 : Int) < (ls.length : Int)) = true := by simpa using hp
            have h0l : ls[0]? = some ls[0] := List.getElem?_eq_getElem hp
            obtain ⟨ad, i1, _, q1⟩ := (CellsAt.of_own htold8).at1 (i := 0) (x := jv ls[0]) (by rw [List.getElem?_map, h0l]; rfl) .i64
            obtain ⟨ae, i2, _, q2⟩ := (CellsAt.of_own hwant8).at1 (i := 0) (x := sv (wkey W ls[0])) (by rw [List.getElem?_map, h0l]; rfl) .i64
            have i1' : ixV 1 told (jv 0) = some (.pointer (some ad)) := i1
            have i2' : ixV 1 want (jv 0) = some (.pointer (some ae)) := i2
            simp only [Pu_some, extV_0, extV_1, extV_2, extV_3, nilV_ptr, nilV_fn, faV_ptr, lenV_sl, lenS_s, capV_sl, pickV_t, pickV_f, unV_not, unV_neg, isB_t, isB_f, isB_u, binV_add, binV_sub, binV_mul, binV_eql, binV_neq, binV_lss, binV_leq, binV_gtr, binV_geq, binV_seql, binV_sneq, binV_slss, binV_beql, binV_bneq, binV_peql, binV_pneq, add_add, add_none, Go.Al.add_zero, Nat.zero_add, Nat.add_zero, IfB_t, IfB_f, Gd_t, Gd_f, Ld_ptr, LdN_ptr, Option.isNone_some, Option.isNone_none, Option.isSome_some, Option.isSome_none, Bool.not_true, Bool.not_false, drew_cell, drew_heap, e7, i1', i2', q1, q2, true_and]
            have hL9 := hL8.keep (Fm.drew (fun _ => False) w10)
            refine (try_spec hL9.t hL9.s ls[0] (wkey W ls[0])).mono ?_
            rintro _ w11 ⟨H3, W3, ok, e, rfl, hR3, hT11, hf11⟩
            have hno : getD H' (wkey W ls[0]) = none := by
              have h1 := hTk _ (List.getElem_mem hp)
              cases h' : getD H' (wkey W ls[0]) with
              | none => rfl
              | some y => have := (hR.hget hL.t.hs.keys hT6.hs.keys _ y).1 h'; rw [h1] at this; cases this.1; exact absurd rfl this.2
            have hF11 : Fm (fun _ => False) w w11 := (Fmf hF8 (Fm.drew _ w10)).trans hf11 (fun _ _ e => e) (fun x hx e => by omega)
            cases hR3 with
            | ring h h1 => rw [hno] at h1; cases h1
            | wait h h1 => rw [hno] at h1; cases h1
            | take =>
              simp only [Pu_some, extV_0, extV_1, extV_2, extV_3, nilV_ptr, nilV_fn, faV_ptr, lenV_sl, lenS_s, capV_sl, pickV_t, pickV_f, unV_not, unV_neg, isB_t, isB_f, isB_u, binV_add, binV_sub, binV_mul, binV_eql, binV_neq, binV_lss, binV_leq, binV_gtr, binV_geq, binV_seql, binV_sneq, binV_slss, binV_beql, binV_bneq, binV_peql, binV_pneq, add_add, add_none, Go.Al.add_zero, Nat.zero_add, Nat.add_zero, IfB_t, IfB_f, Gd_t, Gd_f, Ld_ptr, LdN_ptr, Option.isNone_some, Option.isNone_none, Option.isSome_some, Option.isSome_none, Bool.not_true, Bool.not_false, drew_cell, drew_heap, beq_self_eq_true]
              refine (awake_locks _).mono ?_
              rintro _ w12 ⟨rfl, hf12⟩
              simp only [Pu_some, extV_0, extV_1, extV_2, extV_3, nilV_ptr, nilV_fn, faV_ptr, lenV_sl, lenS_s, capV_sl, pickV_t, pickV_f, unV_not, unV_neg, isB_t, isB_f, isB_u, binV_add, binV_sub, binV_mul, binV_eql, binV_neq, binV_lss, binV_leq, binV_gtr, binV_geq, binV_seql, binV_sneq, binV_slss, binV_beql, binV_bneq, binV_peql, binV_pneq, add_add, add_none, Go.Al.add_zero, Nat.zero_add, Nat.add_zero, IfB_t, IfB_f, Gd_t, Gd_f, Ld_ptr, LdN_ptr, Option.isNone_some, Option.isNone_none, Option.isSome_some, Option.isSome_none, Bool.not_true, Bool.not_false, drew_cell, drew_heap]
              exact ⟨trivial, Fmf hF11 hf12⟩
          · have e7 : decide ((0 : Int) < (ls.length : Int)) = false := by simpa using hp
            simp only [Pu_some, extV_0, extV_1, extV_2, extV_3, nilV_ptr, nilV_fn, faV_ptr, lenV_sl, lenS_s, capV_sl, pickV_t, pickV_f, unV_not, unV_neg, isB_t, isB_f, isB_u, binV_add, binV_sub, binV_mul, binV_eql, binV_neq, binV_lss, binV_leq, binV_gtr, binV_geq, binV_seql, binV_sneq, binV_slss, binV_beql, binV_bneq, binV_peql, binV_pneq, add_add, add_none, Go.Al.add_zero, Nat.zero_add, Nat.add_zero, IfB_t, IfB_f, Gd_t, Gd_f, Ld_ptr, LdN_ptr, Option.isNone_some, Option.isNone_none, Option.isSome_some, Option.isSome_none, Bool.not_true, Bool.not_false, drew_cell, drew_heap, e7]
            refine (awake_locks _).mono ?_
            rintro _ w12 ⟨rfl, hf12⟩
            exact ⟨rfl, Fmf hF8 hf12⟩

end Go.Proofs.Ytgknklnbcjjlkaa
