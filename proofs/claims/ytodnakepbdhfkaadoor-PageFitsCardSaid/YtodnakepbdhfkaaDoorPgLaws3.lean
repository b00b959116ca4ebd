/- Laws of pages: torn bytes; what is handed in stays. -/
import Derived.Test.YtodnakepbdhfkaaDoorPgLaws2
namespace Go.Proofs.YtodnakepbdhfkaaDoor
open Go.Al Go.Proofs
set_option linter.unusedVariables false
set_option linter.unusedSimpArgs false
set_option linter.unusedSectionVars false
set_option maxRecDepth 100000

theorem xor_u8 (d : TypeDesc) (a b : UInt8) : binV d .xor (.int .u8 a.toNat) (.int .u8 b.toNat) = some (.int .u8 (a ^^^ b).toNat) := by
  have h1 := a.toNat_lt
  have h2 := b.toNat_lt
  have : binV d .xor (.int .u8 a.toNat) (.int .u8 b.toNat) = some (.int .u8 (IntKind.u8.wrap ((BitVec.ofInt 8 (a.toNat : Int)) ^^^ (BitVec.ofInt 8 (b.toNat : Int))).toNat)) := rfl
  rw [this, BitVec.toNat_xor, ofInt_nat 8 _ h1, ofInt_nat 8 _ h2, wrap_u8_mod, UInt8.toNat_xor, Nat.mod_eq_of_lt (Nat.xor_lt_two_pow (n := 8) h1 h2)]
theorem xor_ne {a b : UInt8} (h : b ≠ 0) : a ^^^ b ≠ a := by
  intro e
  have := congrArg (a ^^^ ·) e
  simp only [← UInt8.xor_assoc, UInt8.xor_self, UInt8.zero_xor] at this
  exact h this

set_option maxHeartbeats 8000000 in
theorem torn_law {w : World} {cs : Array Value} {p : Pg} (h : PgAs w cs p) {a : Int} (ha : In a) (by_ : UInt8) : Cl Tryd.prog 8 [.agg cs, iv a, .int .u8 by_.toNat] w fun r w' => r = .bool true ∧ Fm (fun _ => False) w w' := by
  obtain ⟨v, hcs, hone, hc⟩ := h.ex
  refine c8 ?_; unfold T8
  refine New_any ?_
  intro x2 w2 hx2 hs2 hw2 hf2
  rw [hcs] at hw2
  replace hw2 : PB w2 x2 p v := hw2
  have pa : ∀ {w' : World}, Fm (fun _ => False) w w' → PgAs w' (pcs p v) p := fun hf => hcs ▸ h.keep hf
  simp only [Pu_some, extV_0, extV_1, extV_2, extV_3, nilV_ptr, nilV_fn, faV_ptr, lenV_sl, lenS_s, capV_sl, pickV_t, pickV_f, unV_not, unV_neg, isB_t, isB_f, isB_u, binV_add, binV_sub, binV_mul, binV_eql, binV_neq, binV_lss, binV_leq, binV_gtr, binV_geq, binV_seql, binV_sneq, binV_slss, binV_beql, binV_bneq, binV_peql, binV_pneq, add_add, add_none, Go.Al.add_zero, Nat.zero_add, Nat.add_zero, IfB_t, IfB_f, Gd_t, Gd_f, Ld_ptr, LdN_ptr, Option.isNone_some, Option.isNone_none, Option.isSome_some, Option.isSome_none, Bool.not_true, Bool.not_false, drew_cell, drew_heap, hw2.all]
  refine (encode_spec (pa hf2)).mono ?_
  rintro _ w3 ⟨rfl, hf3⟩
  have hF3 := Fmf hf2 hf3
  have he : encR p = .tuple #[stv (pEnc p).1, iv (pErr p)] := by unfold encR; rw [pEnc_err]
  rw [he]
  simp only [Pu_some, extV_0, extV_1, extV_2, extV_3, nilV_ptr, nilV_fn, faV_ptr, lenV_sl, lenS_s, capV_sl, pickV_t, pickV_f, unV_not, unV_neg, isB_t, isB_f, isB_u, binV_add, binV_sub, binV_mul, binV_eql, binV_neq, binV_lss, binV_leq, binV_gtr, binV_geq, binV_seql, binV_sneq, binV_slss, binV_beql, binV_bneq, binV_peql, binV_pneq, add_add, add_none, Go.Al.add_zero, Nat.zero_add, Nat.add_zero, IfB_t, IfB_f, Gd_t, Gd_f, Ld_ptr, LdN_ptr, Option.isNone_some, Option.isNone_none, Option.isSome_some, Option.isSome_none, Bool.not_true, Bool.not_false, drew_cell, drew_heap, bne_dec]
  cases hz : decide (pErr p = 0) with
  | false =>
    simp only [Pu_some, extV_0, extV_1, extV_2, extV_3, nilV_ptr, nilV_fn, faV_ptr, lenV_sl, lenS_s, capV_sl, pickV_t, pickV_f, unV_not, unV_neg, isB_t, isB_f, isB_u, binV_add, binV_sub, binV_mul, binV_eql, binV_neq, binV_lss, binV_leq, binV_gtr, binV_geq, binV_seql, binV_sneq, binV_slss, binV_beql, binV_bneq, binV_peql, binV_pneq, add_add, add_none, Go.Al.add_zero, Nat.zero_add, Nat.add_zero, IfB_t, IfB_f, Gd_t, Gd_f, Ld_ptr, LdN_ptr, Option.isNone_some, Option.isNone_none, Option.isSome_some, Option.isSome_none, Bool.not_true, Bool.not_false, drew_cell, drew_heap]
    refine (awake_spec w3).mono ?_
    rintro _ w4 ⟨rfl, hf4⟩
    simp only [Pu_some, extV_0, extV_1, extV_2, extV_3, nilV_ptr, nilV_fn, faV_ptr, lenV_sl, lenS_s, capV_sl, pickV_t, pickV_f, unV_not, unV_neg, isB_t, isB_f, isB_u, binV_add, binV_sub, binV_mul, binV_eql, binV_neq, binV_lss, binV_leq, binV_gtr, binV_geq, binV_seql, binV_sneq, binV_slss, binV_beql, binV_bneq, binV_peql, binV_pneq, add_add, add_none, Go.Al.add_zero, Nat.zero_add, Nat.add_zero, IfB_t, IfB_f, Gd_t, Gd_f, Ld_ptr, LdN_ptr, Option.isNone_some, Option.isNone_none, Option.isSome_some, Option.isSome_none, Bool.not_true, Bool.not_false, drew_cell, drew_heap, bne_dec, hz]
    exact ⟨(by trivial), Fmf hF3 hf4⟩
  | true =>
  have h0 : pErr p = 0 := by simpa using hz
  have d0 : ((by_.toNat : Int) == 0) = decide (by_ = 0) := by
    rw [beq_dec, decide_eq_decide]
    constructor
    · intro e
      exact UInt8.toNat_inj.1 (by simpa using (show by_.toNat = 0 by omega))
    · rintro rfl; rfl
  simp only [Pu_some, extV_0, extV_1, extV_2, extV_3, nilV_ptr, nilV_fn, faV_ptr, lenV_sl, lenS_s, capV_sl, pickV_t, pickV_f, unV_not, unV_neg, isB_t, isB_f, isB_u, binV_add, binV_sub, binV_mul, binV_eql, binV_neq, binV_lss, binV_leq, binV_gtr, binV_geq, binV_seql, binV_sneq, binV_slss, binV_beql, binV_bneq, binV_peql, binV_pneq, add_add, add_none, Go.Al.add_zero, Nat.zero_add, Nat.add_zero, IfB_t, IfB_f, Gd_t, Gd_f, Ld_ptr, LdN_ptr, Option.isNone_some, Option.isNone_none, Option.isSome_some, Option.isSome_none, Bool.not_true, Bool.not_false, drew_cell, drew_heap, d0]
  cases hb : decide (by_ = 0) with
  | true =>
    simp only [Pu_some, extV_0, extV_1, extV_2, extV_3, nilV_ptr, nilV_fn, faV_ptr, lenV_sl, lenS_s, capV_sl, pickV_t, pickV_f, unV_not, unV_neg, isB_t, isB_f, isB_u, binV_add, binV_sub, binV_mul, binV_eql, binV_neq, binV_lss, binV_leq, binV_gtr, binV_geq, binV_seql, binV_sneq, binV_slss, binV_beql, binV_bneq, binV_peql, binV_pneq, add_add, add_none, Go.Al.add_zero, Nat.zero_add, Nat.add_zero, IfB_t, IfB_f, Gd_t, Gd_f, Ld_ptr, LdN_ptr, Option.isNone_some, Option.isNone_none, Option.isSome_some, Option.isSome_none, Bool.not_true, Bool.not_false, drew_cell, drew_heap]
    refine (awake_spec w3).mono ?_
    rintro _ w4 ⟨rfl, hf4⟩
    simp only [Pu_some, extV_0, extV_1, extV_2, extV_3, nilV_ptr, nilV_fn, faV_ptr, lenV_sl, lenS_s, capV_sl, pickV_t, pickV_f, unV_not, unV_neg, isB_t, isB_f, isB_u, binV_add, binV_sub, binV_mul, binV_eql, binV_neq, binV_lss, binV_leq, binV_gtr, binV_geq, binV_seql, binV_sneq, binV_slss, binV_beql, binV_bneq, binV_peql, binV_pneq, add_add, add_none, Go.Al.add_zero, Nat.zero_add, Nat.add_zero, IfB_t, IfB_f, Gd_t, Gd_f, Ld_ptr, LdN_ptr, Option.isNone_some, Option.isNone_none, Option.isSome_some, Option.isSome_none, Bool.not_true, Bool.not_false, drew_cell, drew_heap, bne_dec, hz, d0, hb]
    exact ⟨(by trivial), Fmf hF3 hf4⟩
  | false =>
  have hbne : by_ ≠ 0 := by simpa using hb
  have hlen := pEnc_len h0
  have hne : decide ((pEnc p).1 = []) = false := by
    rw [decide_eq_false_iff_not]
    intro e; rw [e] at hlen; simp at hlen
  simp only [Pu_some, extV_0, extV_1, extV_2, extV_3, nilV_ptr, nilV_fn, faV_ptr, lenV_sl, lenS_s, capV_sl, pickV_t, pickV_f, unV_not, unV_neg, isB_t, isB_f, isB_u, binV_add, binV_sub, binV_mul, binV_eql, binV_neq, binV_lss, binV_leq, binV_gtr, binV_geq, binV_seql, binV_sneq, binV_slss, binV_beql, binV_bneq, binV_peql, binV_pneq, add_add, add_none, Go.Al.add_zero, Nat.zero_add, Nat.add_zero, IfB_t, IfB_f, Gd_t, Gd_f, Ld_ptr, LdN_ptr, Option.isNone_some, Option.isNone_none, Option.isSome_some, Option.isSome_none, Bool.not_true, Bool.not_false, drew_cell, drew_heap, str_nil, str_inj, hne]
  have htp := fun {j : Nat} {b c : UInt8} => torn_pure (p := p) h0 (j := j) (b := b) (c := c)
  generalize (pEnc p).1 = s at hlen htp
  refine Jn_at (fun vs w4 => ∃ n : Nat, vs = [iv n] ∧ n ≤ 9223372036854775807 ∧ w4 = w3) ?_ ?_
  · rintro _ w4 ⟨n, rfl, hn, rfl⟩ _
    refine ⟨_, rfl, ?_⟩
    obtain ⟨cap, w5, hr5, hb5, hf5, hs5⟩ := conv_bytes B38 w4 s
    refine RunS_ok hr5 ?_
    have hg5 : w4.heap.size ≤ w4.heap.size := Nat.le_refl _
    generalize hge : w4.heap.size = g at hb5 hr5 hs5
    rw [hlen] at hr5 ⊢
    have hrem := rem_nat (TypeDesc.int IntKind.i64) (n := n) (m := 512) (by omega) (by omega) (b := ((512 : Nat) : Int)) rfl
    have hjl : n % 512 < 512 := Nat.mod_lt _ (by omega)
    have hix : ixV 1 (.slice (some ⟨g, 0, none⟩) 512 cap) (iv (n % 512 : Nat)) = some (.pointer (some ⟨g, n % 512, none⟩)) := by rw [ixV_at hjl, add_none]; simp
    obtain ⟨b, hx⟩ : ∃ b, s[n % 512]? = some b := ⟨_, List.getElem?_eq_getElem (by omega)⟩
    generalize n % 512 = j at hrem hjl hix hx
    have hcell := hb5.cell hx
    have hf6 := Fm.drew (fun _ => False) w5
    have hb6 : BX w5.drew g 5 s := hb5.keep hf6 (fun e => e)
    have hcell6 : w5.drew.cell? ⟨g, j, none⟩ = some (.int .u8 b.toNat) := hcell
    simp only [Pu_some, extV_0, extV_1, extV_2, extV_3, nilV_ptr, nilV_fn, faV_ptr, lenV_sl, lenS_s, capV_sl, pickV_t, pickV_f, unV_not, unV_neg, isB_t, isB_f, isB_u, binV_add, binV_sub, binV_mul, binV_eql, binV_neq, binV_lss, binV_leq, binV_gtr, binV_geq, binV_seql, binV_sneq, binV_slss, binV_beql, binV_bneq, binV_peql, binV_pneq, add_add, add_none, Go.Al.add_zero, Nat.zero_add, Nat.add_zero, IfB_t, IfB_f, Gd_t, Gd_f, Ld_ptr, LdN_ptr, Option.isNone_some, Option.isNone_none, Option.isSome_some, Option.isSome_none, Bool.not_true, Bool.not_false, drew_cell, drew_heap, hrem, hix, hcell, hcell6, true_and, xor_u8]
    have hF6 : Fm (fun _ => False) w w5.drew := Fmf hF3 (Fmf hf5 hf6)
    generalize w5.drew = w6 at hb6 hF6
    refine hb6.put (b := b ^^^ by_) (by omega) ?_
    intro w7 hb7 hs7 hf7
    have hgw := hF3.size
    have hF7 : Fm (fun _ => False) w w7 := Fm.own hF6 hf7 (by rintro y rfl; omega)
    refine RunS_ok (BX.conv B38 hb7 (o := 0) (n := 512) (by rw [List.length_set]; omega) cap) ?_
    rw [List.drop_zero, List.take_of_length_le (by rw [List.length_set]; omega)]
    refine (decode_spec w7 (s.set j (b ^^^ by_)) (by rw [List.length_set]; omega)).mono ?_
    rintro _ w8 ⟨cs8, rfl, hO8, hf8⟩
    rw [htp hx (xor_ne hbne)] at hO8 ⊢
    have hA8 := hO8.as
    simp only [Pu_some, extV_0, extV_1, extV_2, extV_3, nilV_ptr, nilV_fn, faV_ptr, lenV_sl, lenS_s, capV_sl, pickV_t, pickV_f, unV_not, unV_neg, isB_t, isB_f, isB_u, binV_add, binV_sub, binV_mul, binV_eql, binV_neq, binV_lss, binV_leq, binV_gtr, binV_geq, binV_seql, binV_sneq, binV_slss, binV_beql, binV_bneq, binV_peql, binV_pneq, add_add, add_none, Go.Al.add_zero, Nat.zero_add, Nat.add_zero, IfB_t, IfB_f, Gd_t, Gd_f, Ld_ptr, LdN_ptr, Option.isNone_some, Option.isNone_none, Option.isSome_some, Option.isSome_none, Bool.not_true, Bool.not_false, drew_cell, drew_heap]
    refine New_any ?_
    intro x10 w9 hx10 hs9 hw9 hf9
    refine St_all hw9 rfl hA8.size hA8.one ?_
    intro w10 hw10 hs10 hf10
    refine (awake_spec w10).mono ?_
    rintro _ w11 ⟨rfl, hf11⟩
    simp only [Pu_some, extV_0, extV_1, extV_2, extV_3, nilV_ptr, nilV_fn, faV_ptr, lenV_sl, lenS_s, capV_sl, pickV_t, pickV_f, unV_not, unV_neg, isB_t, isB_f, isB_u, binV_add, binV_sub, binV_mul, binV_eql, binV_neq, binV_lss, binV_leq, binV_gtr, binV_geq, binV_seql, binV_sneq, binV_slss, binV_beql, binV_bneq, binV_peql, binV_pneq, add_add, add_none, Go.Al.add_zero, Nat.zero_add, Nat.add_zero, IfB_t, IfB_f, Gd_t, Gd_f, Ld_ptr, LdN_ptr, Option.isNone_some, Option.isNone_none, Option.isSome_some, Option.isSome_none, Bool.not_true, Bool.not_false, drew_cell, drew_heap, beq_self_eq_true]
    exact ⟨(by trivial), Fmf (Fmf hF7 hf8) (Fmf (Fm.own hf9 hf10 (by rintro y rfl; omega)) hf11)⟩
  · intro jj hjj
    unfold In at ha
    cases hneg : decide (a < 0) with
    | true =>
      rw [decide_eq_true_eq] at hneg
      have e1 : IntKind.i64.wrap (a + 1) = a + 1 := by rw [wrap_id]; omega
      have e2 : IntKind.i64.wrap (0 - (a + 1)) = (((0 - (a + 1)).toNat : Nat) : Int) := by rw [wrap_id] <;> omega
      simp only [Pu_some, extV_0, extV_1, extV_2, extV_3, nilV_ptr, nilV_fn, faV_ptr, lenV_sl, lenS_s, capV_sl, pickV_t, pickV_f, unV_not, unV_neg, isB_t, isB_f, isB_u, binV_add, binV_sub, binV_mul, binV_eql, binV_neq, binV_lss, binV_leq, binV_gtr, binV_geq, binV_seql, binV_sneq, binV_slss, binV_beql, binV_bneq, binV_peql, binV_pneq, add_add, add_none, Go.Al.add_zero, Nat.zero_add, Nat.add_zero, IfB_t, IfB_f, Gd_t, Gd_f, Ld_ptr, LdN_ptr, Option.isNone_some, Option.isNone_none, Option.isSome_some, Option.isSome_none, Bool.not_true, Bool.not_false, drew_cell, drew_heap, e1, e2]
      exact hjj _ _ ⟨_, rfl, by omega, rfl⟩
    | false =>
      rw [decide_eq_false_iff_not] at hneg
      obtain ⟨n, rfl⟩ := Int.eq_ofNat_of_zero_le (show 0 ≤ a by omega)
      simp only [Pu_some, extV_0, extV_1, extV_2, extV_3, nilV_ptr, nilV_fn, faV_ptr, lenV_sl, lenS_s, capV_sl, pickV_t, pickV_f, unV_not, unV_neg, isB_t, isB_f, isB_u, binV_add, binV_sub, binV_mul, binV_eql, binV_neq, binV_lss, binV_leq, binV_gtr, binV_geq, binV_seql, binV_sneq, binV_slss, binV_beql, binV_bneq, binV_peql, binV_pneq, add_add, add_none, Go.Al.add_zero, Nat.zero_add, Nat.add_zero, IfB_t, IfB_f, Gd_t, Gd_f, Ld_ptr, LdN_ptr, Option.isNone_some, Option.isNone_none, Option.isSome_some, Option.isSome_none, Bool.not_true, Bool.not_false, drew_cell, drew_heap]
      exact hjj _ _ ⟨n, rfl, by omega, rfl⟩

theorem torn_in {w : World} {cs : Array Value} {p : Pg} (h : PgAs w cs p) {a b : Int} (ha : (Lit.int .i64 a).wf = true) (hb : (Lit.int .u8 b).wf = true) : Cl Tryd.prog 8 [.agg cs, iv a, .int .u8 b] w fun r w' => r = .bool true ∧ Fm (fun _ => False) w w' := by
  have hb' : 0 ≤ b ∧ b ≤ 255 := by
    simp only [Lit.wf, Bool.and_eq_true, decide_eq_true_eq] at hb
    exact hb
  have he : b = (((UInt8.ofNat b.toNat).toNat : Nat) : Int) := by rw [ofN_toNat (by omega)]; omega
  rw [he]
  exact torn_law h (i64_of_wf ha) _

/-! ### Rows of the call's own that are written -/
theorem own_set {w : World} {base : Nat} {e : TypeId} {v : Value} {n : Nat} {xs : List Value} (h : w.ownsRow base e 1 v n xs) {i : Nat} (hi : i < n) : ∃ ad, ixV 1 v (iv i) = some (.pointer (some ad)) ∧ v.ownBlock = some ad.block ∧ ∀ {u : Value} {k : KV}, u.oneCell' = true → (∀ w', w'.ownsRow base e 1 v n (xs.set i u) → w'.heap.size = w.heap.size → Fm (fun y => v.ownBlock = some y) w w' → k undef w') → St 1 w (.pointer (some ad)) u k := by
  rcases h.2 with ⟨rfl, hn⟩ | ⟨g, cap, cur, rfl, hbg, hgg, hnc, hcm, hcs, htake⟩
  · omega
  · rw [Nat.mul_one] at hcs htake
    refine ⟨⟨g, i, none⟩, by rw [ixV_at hi, add_none]; simp, rfl, ?_⟩
    intro u k hu hk
    refine St_blk hgg (by omega) hu ?_
    intro w' h1 h2 h3
    refine hk w' ⟨by rw [List.length_set]; exact h.1, .inr ⟨g, cap, _, rfl, hbg, h1, hnc, hcm, by simp [hcs], ?_⟩⟩ h2 (h3.mono (fun y _ e => by rw [e]; rfl))
    rw [Nat.mul_one, ← htake]
    simp [List.take_set]
theorem own_set_slice {w : World} {base g n cap : Nat} {e : TypeId} {xs : List Value} (h : w.ownsRow base e 1 (.slice (some ⟨g, 0, none⟩) n cap) n xs) : n ≤ cap ∧ base ≤ g := by
  rcases h.2 with ⟨h1, _⟩ | ⟨g', cap', cur, h1, h2, _, h3, _⟩
  · cases h1
  · cases h1; exact ⟨h3, h2⟩

def markB : Bs := [109, 97, 114, 107]
theorem lent_spec {w : World} {cs : Array Value} {p : Pg} (h : PgAs w cs p) (hl : p.items.length * 16 ≤ 140737488351232) : Cl Tryd.prog 22 [.agg cs] w fun r w' => ∃ g cap, r = .agg (pcs p (.slice (some ⟨g, 0, none⟩) p.items.length cap)) ∧ w'.ownsRow w.heap.size 9 1 (.slice (some ⟨g, 0, none⟩) (p.items.length + 1) cap) (p.items.length + 1) (p.items.map stv ++ [stv markB]) ∧ Fm (fun _ => False) w w' := by
  obtain ⟨v, rfl, hone, hc⟩ := h.ex
  refine c22 ?_; unfold T22
  refine New_any ?_
  intro x1 w1 hx1 hs1 hw1 hf1
  refine New_any ?_
  intro x2 w2 hx2 hs2 hw2 hf2
  have hP2 : PB w2 x1 p v := hf2.heap hw1 (fun e => e)
  have hF2 := Fmf hf1 hf2
  have hsz : x1 = w.heap.size ∧ x2 = w.heap.size + 1 ∧ w2.heap.size = w.heap.size + 2 := by omega
  simp only [Pu_some, extV_0, extV_1, extV_2, extV_3, nilV_ptr, nilV_fn, faV_ptr, lenV_sl, lenS_s, capV_sl, pickV_t, pickV_f, unV_not, unV_neg, isB_t, isB_f, isB_u, binV_add, binV_sub, binV_mul, binV_eql, binV_neq, binV_lss, binV_leq, binV_gtr, binV_geq, binV_seql, binV_sneq, binV_slss, binV_beql, binV_bneq, binV_peql, binV_pneq, add_add, add_none, Go.Al.add_zero, Nat.zero_add, Nat.add_zero, IfB_t, IfB_f, Gd_t, Gd_f, Ld_ptr, LdN_ptr, Option.isNone_some, Option.isNone_none, Option.isSome_some, Option.isSome_none, Bool.not_true, Bool.not_false, drew_cell, drew_heap, hP2.c5]
  obtain ⟨lv, w3, hr3, ho3, hf3⟩ := append_srcO E22 (by omega) (World.ownsRow_nil w2 w2.heap.size 9 1) (hc.keep hF2 (fun _ _ e => e)) (stv_one _) 22 (by unfold maxLen; omega) (by omega) (Nat.le_refl _)
  refine RunS_ok hr3 ?_
  rw [Nat.zero_add, List.nil_append] at ho3
  replace hf3 : Fm (fun _ => False) w2 w3 := hf3.mono (fun y _ e => by cases e)
  have hP3 := hP2.keep hf3 (fun e => e)
  have hx3 := hf3.heap hw2 (fun e => e)
  have hz3 := hf3.size
  refine append_el E22 (by omega) 22 (cs := [stv markB]) rfl (bs22 _ _) (by intro u hu; simp at hu; subst hu; rfl) ho3 (by unfold maxLen; omega) (by omega) hz3 ?_
  intro v4 w4 ho4 _ hf4
  have hP4 := hP3.keep hf4 (by omega)
  have hx4 := hf4.heap hx3 (by omega)
  have hF4 : Fm (fun _ => False) w w4 := Fm.own (Fmf hF2 hf3) hf4 (fun y hy => by omega)
  obtain ⟨hl4, hc4⟩ := own_cases ho4
  rcases hc4 with ⟨_, h0⟩ | ⟨g, cap, rfl, hbg, hgl, _⟩
  · omega
  have hcap := (own_set_slice ho4).1
  have e1 : IntKind.i64.wrap (((p.items.length + 1 : Nat) : Int) - 1) = ((p.items.length : Nat) : Int) := by rw [wrap_id] <;> omega
  have s1 := slV_hi1 (g := g) (o := 0) (n := p.items.length + 1) (c := cap) (j := p.items.length) (by omega) .i64
  simp only [Pu_some, extV_0, extV_1, extV_2, extV_3, nilV_ptr, nilV_fn, faV_ptr, lenV_sl, lenS_s, capV_sl, pickV_t, pickV_f, unV_not, unV_neg, isB_t, isB_f, isB_u, binV_add, binV_sub, binV_mul, binV_eql, binV_neq, binV_lss, binV_leq, binV_gtr, binV_geq, binV_seql, binV_sneq, binV_slss, binV_beql, binV_bneq, binV_peql, binV_pneq, add_add, add_none, Go.Al.add_zero, Nat.zero_add, Nat.add_zero, IfB_t, IfB_f, Gd_t, Gd_f, Ld_ptr, LdN_ptr, Option.isNone_some, Option.isNone_none, Option.isSome_some, Option.isSome_none, Bool.not_true, Bool.not_false, drew_cell, drew_heap, e1, s1]
  refine St_blk hP4 (by show 5 < 6; decide) rfl ?_
  intro w5 hw5 hs5 hf5
  replace hw5 : PB w5 x1 p (.slice (some ⟨g, 0, none⟩) p.items.length cap) := hw5
  have hx5 := hf5.heap hx4 (by omega)
  have hF5 : Fm (fun _ => False) w w5 := Fm.own hF4 hf5 (by rintro y rfl; omega)
  simp only [Pu_some, extV_0, extV_1, extV_2, extV_3, nilV_ptr, nilV_fn, faV_ptr, lenV_sl, lenS_s, capV_sl, pickV_t, pickV_f, unV_not, unV_neg, isB_t, isB_f, isB_u, binV_add, binV_sub, binV_mul, binV_eql, binV_neq, binV_lss, binV_leq, binV_gtr, binV_geq, binV_seql, binV_sneq, binV_slss, binV_beql, binV_bneq, binV_peql, binV_pneq, add_add, add_none, Go.Al.add_zero, Nat.zero_add, Nat.add_zero, IfB_t, IfB_f, Gd_t, Gd_f, Ld_ptr, LdN_ptr, Option.isNone_some, Option.isNone_none, Option.isSome_some, Option.isSome_none, Bool.not_true, Bool.not_false, drew_cell, drew_heap, hw5.all]
  refine St_all hx5 rfl rfl (one24 p rfl) ?_
  intro w6 hw6 hs6 hf6
  have hF6 : Fm (fun _ => False) w w6 := Fm.own hF5 hf6 (by rintro y rfl; omega)
  have hret : RetO (resL Tryd.prog (fun j => bif Nat.beq j 2 then pv x2 else undef) w6 [(ResultVar.cell 2 24)]) w6 (fun r w' => ∃ g cap, r = .agg (pcs p (.slice (some ⟨g, 0, none⟩) p.items.length cap)) ∧ w'.ownsRow w.heap.size 9 1 (.slice (some ⟨g, 0, none⟩) (p.items.length + 1) cap) (p.items.length + 1) (p.items.map stv ++ [stv markB]) ∧ Fm (fun _ => False) w w') := by
    simp only [resL, resV_blk (f := fun j => bif Nat.beq j 2 then pv x2 else undef) (a := 2) rfl agg24 size24 hw6 rfl, RetO, RetV]
    exact ⟨g, cap, rfl, own_base (own_keep (own_keep ho4 hf5 (fun k h1 h2 h3 e => by omega)) hf6 (fun k h1 h2 h3 e => by omega)) (by omega), hF6⟩
  exact hret

set_option maxHeartbeats 4000000 in
theorem kept_spec {w : World} {base g cap : Nat} {cs : Array Value} {p : Pg} (h : PgAs w cs p) (ho : w.ownsRow base 9 1 (.slice (some ⟨g, 0, none⟩) (p.items.length + 1) cap) (p.items.length + 1) (p.items.map stv ++ [stv markB])) :
    Cl Tryd.prog 25 [.agg (pcs p (.slice (some ⟨g, 0, none⟩) p.items.length cap)), .agg cs] w fun r w' => r = .bool true ∧ Fm (fun y => y = g) w w' := by
  obtain ⟨v, hcs, hone, hc⟩ := h.ex
  have hin := h.ins
  refine c25 ?_; unfold T25
  refine New_any ?_
  intro x1 w1 hx1 hs1 hw1 hf1
  refine New_any ?_
  intro x2 w2 hx2 hs2 hw2 hf2
  have hO2 : PB w2 x1 p (.slice (some ⟨g, 0, none⟩) p.items.length cap) := hf2.heap hw1 (fun e => e)
  have hP2 : PB w2 x2 p v := by rw [PB, ← hcs]; exact hw2
  have hF2 := Fmf hf1 hf2
  have ho2 := own_keep ho hF2 (fun _ _ _ _ e => e)
  obtain ⟨hcap, hbg⟩ := own_set_slice ho2
  have hcA := CellsAt.of_own ho2
  have hsz := hc.lt
  unfold maxLen at hsz
  have e1 : IntKind.i64.wrap ((p.items.length : Int) + 1) = ((p.items.length + 1 : Nat) : Int) := by rw [wrap_id] <;> omega
  have s1 : slV 1 (.slice (some ⟨g, 0, none⟩) p.items.length cap) none (some (Value.int .i64 ((p.items.length + 1 : Nat) : Int))) none = some (.slice (some ⟨g, 0, none⟩) (p.items.length + 1) cap) := slV_hi1 (j := p.items.length + 1) hcap .i64
  have hAo : PgAs w2 (pcs p (.slice (some ⟨g, 0, none⟩) p.items.length cap)) p := by
    obtain ⟨v', h1, h2, _⟩ := hcA.hi (i := p.items.length) (by omega) .i64
    have h3 := slV_hi1 (g := g) (o := 0) (n := p.items.length + 1) (c := cap) (j := p.items.length) (by omega) .i64
    rw [h3] at h1
    cases h1
    rw [Nat.mul_one, show (p.items.map stv ++ [stv markB]).take p.items.length = p.items.map stv by rw [List.take_append_of_le_length (by simp), List.take_of_length_le (by simp)]] at h2
    exact ⟨⟨_, rfl, rfl, h2⟩, h.small, h.ins⟩
  have hA2 : PgAs w2 (pcs p v) p := hcs ▸ h.keep hF2
  simp only [Pu_some, extV_0, extV_1, extV_2, extV_3, nilV_ptr, nilV_fn, faV_ptr, lenV_sl, lenS_s, capV_sl, pickV_t, pickV_f, unV_not, unV_neg, isB_t, isB_f, isB_u, binV_add, binV_sub, binV_mul, binV_eql, binV_neq, binV_lss, binV_leq, binV_gtr, binV_geq, binV_seql, binV_sneq, binV_slss, binV_beql, binV_bneq, binV_peql, binV_pneq, add_add, add_none, Go.Al.add_zero, Nat.zero_add, Nat.add_zero, IfB_t, IfB_f, Gd_t, Gd_f, Ld_ptr, LdN_ptr, Option.isNone_some, Option.isNone_none, Option.isSome_some, Option.isSome_none, Bool.not_true, Bool.not_false, drew_cell, drew_heap, hP2.c5, hc.lenV, hO2.c5, e1, s1, hO2.all, hP2.all]
  refine (rsame_spec hAo hA2).mono ?_
  rintro _ w3 ⟨rfl, hf3⟩
  have ho3 := own_keep ho2 hf3 (fun _ _ _ _ e => e)
  have hcA3 := CellsAt.of_own ho3
  obtain ⟨ad, hix, _, hcell⟩ := hcA3.at1 (i := p.items.length) (x := stv markB) (by rw [List.getElem?_append_right (by simp)]; simp) .i64
  have hmk : ByteArray.mk #[109, 97, 114, 107] = str markB := rfl
  have hF3 := Fmf hF2 hf3
  simp only [Pu_some, extV_0, extV_1, extV_2, extV_3, nilV_ptr, nilV_fn, faV_ptr, lenV_sl, lenS_s, capV_sl, pickV_t, pickV_f, unV_not, unV_neg, isB_t, isB_f, isB_u, binV_add, binV_sub, binV_mul, binV_eql, binV_neq, binV_lss, binV_leq, binV_gtr, binV_geq, binV_seql, binV_sneq, binV_slss, binV_beql, binV_bneq, binV_peql, binV_pneq, add_add, add_none, Go.Al.add_zero, Nat.zero_add, Nat.add_zero, IfB_t, IfB_f, Gd_t, Gd_f, Ld_ptr, LdN_ptr, Option.isNone_some, Option.isNone_none, Option.isSome_some, Option.isSome_none, Bool.not_true, Bool.not_false, drew_cell, drew_heap, decide_true, hix, hcell, hmk]
  refine ⟨fun vs w4 => ∃ (i : Nat) (xs : List Value), vs = [iv i] ∧ i ≤ p.items.length + 1 ∧ w4.ownsRow base 9 1 (.slice (some ⟨g, 0, none⟩) (p.items.length + 1) cap) (p.items.length + 1) xs ∧ Fm (fun y => y = g) w w4, fun vs _ => (p.items.length + 1 - nth vs 0).toNat, ⟨0, _, rfl, by omega, ho3, hF3.mono (fun _ _ e => e.elim)⟩, ?_⟩
  rintro _ w4 ivv ⟨i, xs, hvs, hi, ho4, hf4⟩
  cases hvs
  by_cases hlt : i < p.items.length + 1
  · have d1 : decide ((i : Int) ≤ (p.items.length : Int)) = true := by rw [decide_eq_true_eq]; omega
    have e2 : IntKind.i64.wrap ((i : Int) + 1) = ((i + 1 : Nat) : Int) := by rw [wrap_id] <;> omega
    obtain ⟨ad, hix, hob, hst⟩ := own_set ho4 hlt
    simp only [Pu_some, extV_0, extV_1, extV_2, extV_3, nilV_ptr, nilV_fn, faV_ptr, lenV_sl, lenS_s, capV_sl, pickV_t, pickV_f, unV_not, unV_neg, isB_t, isB_f, isB_u, binV_add, binV_sub, binV_mul, binV_eql, binV_neq, binV_lss, binV_leq, binV_gtr, binV_geq, binV_seql, binV_sneq, binV_slss, binV_beql, binV_bneq, binV_peql, binV_pneq, add_add, add_none, Go.Al.add_zero, Nat.zero_add, Nat.add_zero, IfB_t, IfB_f, Gd_t, Gd_f, Ld_ptr, LdN_ptr, Option.isNone_some, Option.isNone_none, Option.isSome_some, Option.isSome_none, Bool.not_true, Bool.not_false, drew_cell, drew_heap, d1, hix]
    refine hst rfl ?_
    intro w5 ho5 hs5 hf5
    simp only [Pu_some, extV_0, extV_1, extV_2, extV_3, nilV_ptr, nilV_fn, faV_ptr, lenV_sl, lenS_s, capV_sl, pickV_t, pickV_f, unV_not, unV_neg, isB_t, isB_f, isB_u, binV_add, binV_sub, binV_mul, binV_eql, binV_neq, binV_lss, binV_leq, binV_gtr, binV_geq, binV_seql, binV_sneq, binV_slss, binV_beql, binV_bneq, binV_peql, binV_pneq, add_add, add_none, Go.Al.add_zero, Nat.zero_add, Nat.add_zero, IfB_t, IfB_f, Gd_t, Gd_f, Ld_ptr, LdN_ptr, Option.isNone_some, Option.isNone_none, Option.isSome_some, Option.isSome_none, Bool.not_true, Bool.not_false, drew_cell, drew_heap, e2]
    exact ⟨⟨i + 1, _, rfl, by omega, ho5, hf4.trans hf5 (fun _ _ e => e) (fun y _ e => by cases e; rfl)⟩, by simp only [nth_0]; omega⟩
  · have d1 : decide ((i : Int) ≤ (p.items.length : Int)) = false := by rw [decide_eq_false_iff_not]; omega
    simp only [Pu_some, extV_0, extV_1, extV_2, extV_3, nilV_ptr, nilV_fn, faV_ptr, lenV_sl, lenS_s, capV_sl, pickV_t, pickV_f, unV_not, unV_neg, isB_t, isB_f, isB_u, binV_add, binV_sub, binV_mul, binV_eql, binV_neq, binV_lss, binV_leq, binV_gtr, binV_geq, binV_seql, binV_sneq, binV_slss, binV_beql, binV_bneq, binV_peql, binV_pneq, add_add, add_none, Go.Al.add_zero, Nat.zero_add, Nat.add_zero, IfB_t, IfB_f, Gd_t, Gd_f, Ld_ptr, LdN_ptr, Option.isNone_some, Option.isNone_none, Option.isSome_some, Option.isSome_none, Bool.not_true, Bool.not_false, drew_cell, drew_heap, d1]
    exact ⟨(by trivial), hf4⟩

set_option maxHeartbeats 4000000 in
theorem encodes_law {w : World} {cs : Array Value} {p : Pg} (h : PgAs w cs p) (hl : p.items.length * 16 ≤ 140737488351232) : Cl Tryd.prog 4 [.agg cs] w fun r w' => r = .bool true ∧ Fm (fun _ => False) w w' := by
  obtain ⟨v, hcs, hone, hc⟩ := h.ex
  refine c4 ?_; unfold T4
  refine New_any ?_
  intro x1 w2 hx1 hs2 hw2 hf2
  rw [hcs] at hw2
  replace hw2 : PB w2 x1 p v := hw2
  have pa : ∀ {w' : World}, Fm (fun _ => False) w w' → PgAs w' (pcs p v) p := fun hf => hcs ▸ h.keep hf
  simp only [Pu_some, extV_0, extV_1, extV_2, extV_3, nilV_ptr, nilV_fn, faV_ptr, lenV_sl, lenS_s, capV_sl, pickV_t, pickV_f, unV_not, unV_neg, isB_t, isB_f, isB_u, binV_add, binV_sub, binV_mul, binV_eql, binV_neq, binV_lss, binV_leq, binV_gtr, binV_geq, binV_seql, binV_sneq, binV_slss, binV_beql, binV_bneq, binV_peql, binV_pneq, add_add, add_none, Go.Al.add_zero, Nat.zero_add, Nat.add_zero, IfB_t, IfB_f, Gd_t, Gd_f, Ld_ptr, LdN_ptr, Option.isNone_some, Option.isNone_none, Option.isSome_some, Option.isSome_none, Bool.not_true, Bool.not_false, drew_cell, drew_heap, hw2.all]
  refine (lent_spec (pa hf2) hl).mono ?_
  rintro _ w3 ⟨g, cap, rfl, ho3, hf3⟩
  have hP3 := hw2.keep hf3 (fun e => e)
  have hF3 := Fmf hf2 hf3
  refine New_any ?_
  intro x3 w4 hx3 hs4 hw4 hf4
  refine St_all hw4 rfl rfl (one24 p rfl) ?_
  intro w5 hw5 hs5 hf5
  replace hw5 : PB w5 x3 p (.slice (some ⟨g, 0, none⟩) p.items.length cap) := hw5
  have hf35 : Fm (fun _ => False) w3 w5 := Fm.own hf4 hf5 (by rintro y rfl; omega)
  have ho5 := own_keep ho3 hf35 (fun _ _ _ _ e => e)
  have hP5 := hP3.keep hf35 (fun e => e)
  have hF5 := Fmf hF3 hf35
  have hcA := CellsAt.of_own ho5
  obtain ⟨hcap, hbg⟩ := own_set_slice ho5
  have hAo : ∀ {w' : World}, Fm (fun _ => False) w5 w' → PgAs w' (pcs p (.slice (some ⟨g, 0, none⟩) p.items.length cap)) p := by
    intro w' hf
    obtain ⟨v', h1, h2, _⟩ := (hcA.keep hf (fun _ _ e => e)).hi (i := p.items.length) (by omega) .i64
    have h3 := slV_hi1 (g := g) (o := 0) (n := p.items.length + 1) (c := cap) (j := p.items.length) (by omega) .i64
    rw [h3] at h1
    cases h1
    rw [Nat.mul_one, show (p.items.map stv ++ [stv markB]).take p.items.length = p.items.map stv by rw [List.take_append_of_le_length (by simp), List.take_of_length_le (by simp)]] at h2
    exact ⟨⟨_, rfl, rfl, h2⟩, h.small, h.ins⟩
  simp only [Pu_some, extV_0, extV_1, extV_2, extV_3, nilV_ptr, nilV_fn, faV_ptr, lenV_sl, lenS_s, capV_sl, pickV_t, pickV_f, unV_not, unV_neg, isB_t, isB_f, isB_u, binV_add, binV_sub, binV_mul, binV_eql, binV_neq, binV_lss, binV_leq, binV_gtr, binV_geq, binV_seql, binV_sneq, binV_slss, binV_beql, binV_bneq, binV_peql, binV_pneq, add_add, add_none, Go.Al.add_zero, Nat.zero_add, Nat.add_zero, IfB_t, IfB_f, Gd_t, Gd_f, Ld_ptr, LdN_ptr, Option.isNone_some, Option.isNone_none, Option.isSome_some, Option.isSome_none, Bool.not_true, Bool.not_false, drew_cell, drew_heap, hw5.all]
  refine (encode_spec (hAo (Fm.refl _ _))).mono ?_
  rintro _ w6 ⟨rfl, hf6⟩
  have hP6 := hP5.keep hf6 (fun e => e)
  have hF6 := Fmf hF5 hf6
  have he : encR p = .tuple #[stv (pEnc p).1, iv (pErr p)] := by unfold encR; rw [pEnc_err]
  rw [he]
  simp only [Pu_some, extV_0, extV_1, extV_2, extV_3, nilV_ptr, nilV_fn, faV_ptr, lenV_sl, lenS_s, capV_sl, pickV_t, pickV_f, unV_not, unV_neg, isB_t, isB_f, isB_u, binV_add, binV_sub, binV_mul, binV_eql, binV_neq, binV_lss, binV_leq, binV_gtr, binV_geq, binV_seql, binV_sneq, binV_slss, binV_beql, binV_bneq, binV_peql, binV_pneq, add_add, add_none, Go.Al.add_zero, Nat.zero_add, Nat.add_zero, IfB_t, IfB_f, Gd_t, Gd_f, Ld_ptr, LdN_ptr, Option.isNone_some, Option.isNone_none, Option.isSome_some, Option.isSome_none, Bool.not_true, Bool.not_false, drew_cell, drew_heap, hP6.all]
  refine (rencode_spec (pa hF6)).mono ?_
  rintro _ w7 ⟨rfl, hf7⟩
  rw [he]
  simp only [Pu_some, extV_0, extV_1, extV_2, extV_3, nilV_ptr, nilV_fn, faV_ptr, lenV_sl, lenS_s, capV_sl, pickV_t, pickV_f, unV_not, unV_neg, isB_t, isB_f, isB_u, binV_add, binV_sub, binV_mul, binV_eql, binV_neq, binV_lss, binV_leq, binV_gtr, binV_geq, binV_seql, binV_sneq, binV_slss, binV_beql, binV_bneq, binV_peql, binV_pneq, add_add, add_none, Go.Al.add_zero, Nat.zero_add, Nat.add_zero, IfB_t, IfB_f, Gd_t, Gd_f, Ld_ptr, LdN_ptr, Option.isNone_some, Option.isNone_none, Option.isSome_some, Option.isSome_none, Bool.not_true, Bool.not_false, drew_cell, drew_heap]
  refine (awake_spec w7).mono ?_
  rintro _ w8 ⟨rfl, hf8⟩
  have hf58 := Fmf (Fmf hf6 hf7) hf8
  have hP8 := hP5.keep hf58 (fun e => e)
  have hO8 := hw5.keep hf58 (fun e => e)
  have hF8 := Fmf hF5 hf58
  simp only [Pu_some, extV_0, extV_1, extV_2, extV_3, nilV_ptr, nilV_fn, faV_ptr, lenV_sl, lenS_s, capV_sl, pickV_t, pickV_f, unV_not, unV_neg, isB_t, isB_f, isB_u, binV_add, binV_sub, binV_mul, binV_eql, binV_neq, binV_lss, binV_leq, binV_gtr, binV_geq, binV_seql, binV_sneq, binV_slss, binV_beql, binV_bneq, binV_peql, binV_pneq, add_add, add_none, Go.Al.add_zero, Nat.zero_add, Nat.add_zero, IfB_t, IfB_f, Gd_t, Gd_f, Ld_ptr, LdN_ptr, Option.isNone_some, Option.isNone_none, Option.isSome_some, Option.isSome_none, Bool.not_true, Bool.not_false, drew_cell, drew_heap, decide_true, beq_self_eq_true, hO8.all, hP8.all]
  refine (kept_spec (pa hF8) (own_keep ho5 hf58 (fun _ _ _ _ e => e))).mono ?_
  rintro _ w9 ⟨rfl, hf9⟩
  have hz := hf2.size
  simp only [Pu_some, extV_0, extV_1, extV_2, extV_3, nilV_ptr, nilV_fn, faV_ptr, lenV_sl, lenS_s, capV_sl, pickV_t, pickV_f, unV_not, unV_neg, isB_t, isB_f, isB_u, binV_add, binV_sub, binV_mul, binV_eql, binV_neq, binV_lss, binV_leq, binV_gtr, binV_geq, binV_seql, binV_sneq, binV_slss, binV_beql, binV_bneq, binV_peql, binV_pneq, add_add, add_none, Go.Al.add_zero, Nat.zero_add, Nat.add_zero, IfB_t, IfB_f, Gd_t, Gd_f, Ld_ptr, LdN_ptr, Option.isNone_some, Option.isNone_none, Option.isSome_some, Option.isSome_none, Bool.not_true, Bool.not_false, drew_cell, drew_heap]
  exact ⟨(by trivial), Fm.own hF8 hf9 (by rintro y rfl; omega)⟩

end Go.Proofs.YtodnakepbdhfkaaDoor
