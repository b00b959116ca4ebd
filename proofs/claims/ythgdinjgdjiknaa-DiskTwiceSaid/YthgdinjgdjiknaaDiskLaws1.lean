/- DiskNil and DiskDies: the laws. -/
import Derived.Test.YthgdinjgdjiknaaDiskAwake
import Derived.Test.YthgdinjgdjiknaaAlView
namespace Go.Proofs.Ythgdinjgdjiknaa
open Go.Al Go.Proofs
set_option linter.unusedVariables false
set_option linter.unusedSimpArgs false
set_option linter.unusedSectionVars false

theorem dnil_law (w : World) (a : Int) : Cl Try.prog 7 [iv a] w fun v w' => v = .bool true ∧ Fm (fun _ => False) w w' := by
  refine c7 ?_
  unfold T7
  refine (read_nil w _ _).mono ?_
  rintro _ w0 ⟨rfl, h0⟩
  subst h0
  simp only [Pu_some, extV_0, extV_1, extV_2, extV_3, nilV_ptr, nilV_fn, faV_ptr, lenV_sl, lenS_s, capV_sl, pickV_t, pickV_f, unV_not, unV_neg, isB_t, isB_f, isB_u, binV_add, binV_sub, binV_mul, binV_eql, binV_neq, binV_lss, binV_leq, binV_gtr, binV_geq, binV_seql, binV_sneq, binV_slss, binV_beql, binV_bneq, binV_peql, binV_pneq, add_add, add_none, Go.Al.add_zero, Nat.zero_add, Nat.add_zero, IfB_t, IfB_f, Gd_t, Gd_f, Ld_ptr, LdN_ptr, Option.isNone_some, Option.isNone_none, Option.isSome_some, Option.isSome_none, Bool.not_true, Bool.not_false, drew_cell, drew_heap]
  refine RunS_ok (bs34 a _) ?_
  have hf1 := Fm.alloc (fun _ => False) w0 (.cells #[iv a] 3)
  generalize w0.alloc (.cells #[iv a] 3) = w1 at hf1
  refine (crash_nil w1 _).mono ?_
  rintro _ w2 ⟨rfl, rfl⟩
  refine (awake_spec w2).mono ?_
  rintro _ w3 ⟨rfl, hf3⟩
  simp only [Pu_some, extV_0, extV_1, extV_2, extV_3, nilV_ptr, nilV_fn, faV_ptr, lenV_sl, lenS_s, capV_sl, pickV_t, pickV_f, unV_not, unV_neg, isB_t, isB_f, isB_u, binV_add, binV_sub, binV_mul, binV_eql, binV_neq, binV_lss, binV_leq, binV_gtr, binV_geq, binV_seql, binV_sneq, binV_slss, binV_beql, binV_bneq, binV_peql, binV_pneq, add_add, add_none, Go.Al.add_zero, Nat.zero_add, Nat.add_zero, IfB_t, IfB_f, Gd_t, Gd_f, Ld_ptr, LdN_ptr, Option.isNone_some, Option.isNone_none, Option.isSome_some, Option.isSome_none, Bool.not_true, Bool.not_false, drew_cell, drew_heap, str_size, str_nil, str_inj, decide_true, beq_self_eq_true]
  refine (write_nil w3 _ _).mono ?_
  rintro _ w4 ⟨rfl, rfl⟩
  simp only [Pu_some, extV_0, extV_1, extV_2, extV_3, nilV_ptr, nilV_fn, faV_ptr, lenV_sl, lenS_s, capV_sl, pickV_t, pickV_f, unV_not, unV_neg, isB_t, isB_f, isB_u, binV_add, binV_sub, binV_mul, binV_eql, binV_neq, binV_lss, binV_leq, binV_gtr, binV_geq, binV_seql, binV_sneq, binV_slss, binV_beql, binV_bneq, binV_peql, binV_pneq, add_add, add_none, Go.Al.add_zero, Nat.zero_add, Nat.add_zero, IfB_t, IfB_f, Gd_t, Gd_f, Ld_ptr, LdN_ptr, Option.isNone_some, Option.isNone_none, Option.isSome_some, Option.isSome_none, Bool.not_true, Bool.not_false, drew_cell, drew_heap, beq_self_eq_true]
  refine (sync_nil w4).mono ?_
  rintro _ w5 ⟨rfl, rfl⟩
  simp only [Pu_some, extV_0, extV_1, extV_2, extV_3, nilV_ptr, nilV_fn, faV_ptr, lenV_sl, lenS_s, capV_sl, pickV_t, pickV_f, unV_not, unV_neg, isB_t, isB_f, isB_u, binV_add, binV_sub, binV_mul, binV_eql, binV_neq, binV_lss, binV_leq, binV_gtr, binV_geq, binV_seql, binV_sneq, binV_slss, binV_beql, binV_bneq, binV_peql, binV_pneq, add_add, add_none, Go.Al.add_zero, Nat.zero_add, Nat.add_zero, IfB_t, IfB_f, Gd_t, Gd_f, Ld_ptr, LdN_ptr, Option.isNone_some, Option.isNone_none, Option.isSome_some, Option.isSome_none, Bool.not_true, Bool.not_false, drew_cell, drew_heap, beq_self_eq_true]
  refine (arm_nil w5 _).mono ?_
  rintro _ w6 ⟨rfl, rfl⟩
  simp only [Pu_some, extV_0, extV_1, extV_2, extV_3, nilV_ptr, nilV_fn, faV_ptr, lenV_sl, lenS_s, capV_sl, pickV_t, pickV_f, unV_not, unV_neg, isB_t, isB_f, isB_u, binV_add, binV_sub, binV_mul, binV_eql, binV_neq, binV_lss, binV_leq, binV_gtr, binV_geq, binV_seql, binV_sneq, binV_slss, binV_beql, binV_bneq, binV_peql, binV_pneq, add_add, add_none, Go.Al.add_zero, Nat.zero_add, Nat.add_zero, IfB_t, IfB_f, Gd_t, Gd_f, Ld_ptr, LdN_ptr, Option.isNone_some, Option.isNone_none, Option.isSome_some, Option.isSome_none, Bool.not_true, Bool.not_false, drew_cell, drew_heap, beq_self_eq_true]
  refine (size_nil w6).mono ?_
  rintro _ w7 ⟨rfl, rfl⟩
  simp only [Pu_some, extV_0, extV_1, extV_2, extV_3, nilV_ptr, nilV_fn, faV_ptr, lenV_sl, lenS_s, capV_sl, pickV_t, pickV_f, unV_not, unV_neg, isB_t, isB_f, isB_u, binV_add, binV_sub, binV_mul, binV_eql, binV_neq, binV_lss, binV_leq, binV_gtr, binV_geq, binV_seql, binV_sneq, binV_slss, binV_beql, binV_bneq, binV_peql, binV_pneq, add_add, add_none, Go.Al.add_zero, Nat.zero_add, Nat.add_zero, IfB_t, IfB_f, Gd_t, Gd_f, Ld_ptr, LdN_ptr, Option.isNone_some, Option.isNone_none, Option.isSome_some, Option.isSome_none, Bool.not_true, Bool.not_false, drew_cell, drew_heap, beq_self_eq_true]
  refine (dead_nil w7).mono ?_
  rintro _ w8 ⟨rfl, rfl⟩
  simp only [Pu_some, extV_0, extV_1, extV_2, extV_3, nilV_ptr, nilV_fn, faV_ptr, lenV_sl, lenS_s, capV_sl, pickV_t, pickV_f, unV_not, unV_neg, isB_t, isB_f, isB_u, binV_add, binV_sub, binV_mul, binV_eql, binV_neq, binV_lss, binV_leq, binV_gtr, binV_geq, binV_seql, binV_sneq, binV_slss, binV_beql, binV_bneq, binV_peql, binV_pneq, add_add, add_none, Go.Al.add_zero, Nat.zero_add, Nat.add_zero, IfB_t, IfB_f, Gd_t, Gd_f, Ld_ptr, LdN_ptr, Option.isNone_some, Option.isNone_none, Option.isSome_some, Option.isSome_none, Bool.not_true, Bool.not_false, drew_cell, drew_heap, beq_self_eq_true]
  refine (acts_nil w8).mono ?_
  rintro _ w9 ⟨rfl, rfl⟩
  simp only [Pu_some, extV_0, extV_1, extV_2, extV_3, nilV_ptr, nilV_fn, faV_ptr, lenV_sl, lenS_s, capV_sl, pickV_t, pickV_f, unV_not, unV_neg, isB_t, isB_f, isB_u, binV_add, binV_sub, binV_mul, binV_eql, binV_neq, binV_lss, binV_leq, binV_gtr, binV_geq, binV_seql, binV_sneq, binV_slss, binV_beql, binV_bneq, binV_peql, binV_pneq, add_add, add_none, Go.Al.add_zero, Nat.zero_add, Nat.add_zero, IfB_t, IfB_f, Gd_t, Gd_f, Ld_ptr, LdN_ptr, Option.isNone_some, Option.isNone_none, Option.isSome_some, Option.isSome_none, Bool.not_true, Bool.not_false, drew_cell, drew_heap, beq_self_eq_true]
  refine (pend_nil w9).mono ?_
  rintro _ w10 ⟨rfl, rfl⟩
  simp only [Pu_some, extV_0, extV_1, extV_2, extV_3, nilV_ptr, nilV_fn, faV_ptr, lenV_sl, lenS_s, capV_sl, pickV_t, pickV_f, unV_not, unV_neg, isB_t, isB_f, isB_u, binV_add, binV_sub, binV_mul, binV_eql, binV_neq, binV_lss, binV_leq, binV_gtr, binV_geq, binV_seql, binV_sneq, binV_slss, binV_beql, binV_bneq, binV_peql, binV_pneq, add_add, add_none, Go.Al.add_zero, Nat.zero_add, Nat.add_zero, IfB_t, IfB_f, Gd_t, Gd_f, Ld_ptr, LdN_ptr, Option.isNone_some, Option.isNone_none, Option.isSome_some, Option.isSome_none, Bool.not_true, Bool.not_false, drew_cell, drew_heap, beq_self_eq_true, Int.natCast_zero]
  exact ⟨(by trivial), Fmf hf1 hf3⟩

/-- Where an armed disk stands behind k acts. -/
structure Armed (d : Dk) (n k : Nat) : Prop where
  len : d.cur.length = 8
  armed : d.armed = (n : Int) - k
  gone : d.gone = decide (k = n)
  done : d.done = k
theorem Armed.tick {d : Dk} {n k : Nat} (h : Armed d n k) (hk : k < n) (hn : n ≤ 30) : Armed d.tick n (k + 1) := by
  have ha := h.armed
  have e : IntKind.i64.wrap ((k : Int) + 1) = ((k + 1 : Nat) : Int) := by rw [wrap_id] <;> omega
  unfold Dk.tick
  rw [if_pos (by omega)]
  refine ⟨h.len, by simp only; omega, ?_, by simp only; rw [h.done, e]⟩
  simp only [ha]
  rw [decide_eq_decide]; omega
theorem Armed.sync {d : Dk} {n k : Nat} (h : Armed d n k) (hk : k < n) (hn : n ≤ 30) : Armed d.sync.1 n (k + 1) ∧ d.sync.2 = if k + 1 = n then 5 else 0 := by
  have ht := h.tick hk hn
  have hg := h.gone
  rw [decide_eq_false (by omega)] at hg
  unfold Dk.sync
  rw [hg]
  simp only [cond_false]
  by_cases e : k + 1 = n
  · have hg2 : d.tick.gone = true := by rw [ht.gone]; simpa using e
    rw [hg2, if_pos e]
    exact ⟨ht, rfl⟩
  · have hg2 : d.tick.gone = false := by rw [ht.gone]; simpa using e
    rw [if_neg e]
    simp only [hg2, cond_false]
    refine ⟨⟨ht.len, ht.armed, ?_, ht.done⟩, trivial⟩
    have := ht.gone
    rw [hg2] at this; exact this
theorem Armed.write {d : Dk} {n k : Nat} (h : Armed d n k) (hk : k < n) (hn : n ≤ 30) {a : Nat} (ha : a < 8) {s : Bs} (hs : s.length = 64) : Armed (d.write a s).1 n (k + 1) ∧ (d.write a s).2 = if k + 1 = n then 5 else 0 := by
  have hg := h.gone
  rw [decide_eq_false (by omega)] at hg
  have hp : Armed (d.put a s) n k := ⟨by simp [Dk.put, h.len], h.armed, h.gone, h.done⟩
  have ht := hp.tick hk hn
  have hh : d.has (a : Int) 1 = true := by unfold Dk.has; rw [h.len]; simp; omega
  have hs2 : s.take 64 = s := List.take_of_length_le (by omega)
  have e0 : Dk.write d a s = (let d' := (d.put a s).tick; bif d'.gone then (d', 5) else (d', 0)) := by
    unfold Dk.write
    rw [hg, hs]
    simp only [cond_false, show ((64 / 64 : Nat) : Int) = 1 from rfl, hh, Int.toNat_natCast, show 64 / 64 = 1 from rfl, Dk.chunks, hs2, Dk.wr]
    rfl
  rw [e0]
  by_cases e : k + 1 = n
  · have hg2 : (d.put a s).tick.gone = true := by rw [ht.gone]; simpa using e
    simp only [hg2, cond_true, if_pos e]
    exact ⟨ht, trivial⟩
  · have hg2 : (d.put a s).tick.gone = false := by rw [ht.gone]; simpa using e
    simp only [hg2, cond_false, if_neg e]
    exact ⟨ht, trivial⟩

theorem cells_nil (w : World) (sz : Nat) : CellsAt w (.slice none 0 0) 0 sz [] := ⟨⟨none, 0, rfl, Nat.le_refl _, by simp [maxLen], fun _ => ⟨rfl, rfl⟩, fun j u hj => by simp at hj⟩, by simp⟩

theorem dies_law (w : World) (act : Int) (hact : -9223372036854775808 ≤ act ∧ act ≤ 9223372036854775807) (sv : Value) (syncs : List Bool) (hs : CellsAt w sv syncs.length 1 (syncs.map Value.bool)) :
    Cl Try.prog 5 [iv act, sv] w fun v w' => v = .bool true ∧ Fm (fun _ => False) w w' := by
  refine c5 ?_
  unfold T5
  refine (dnew_spec w 8).mono ?_
  rintro _ w1 ⟨-, hok⟩
  obtain ⟨b, g, m, rfl, hb, hg, hm, hD, hf1⟩ := hok (by decide)
  have hbgm : ∀ x, x = b ∨ x = g ∨ x = m → w.heap.size ≤ x := by rintro x (rfl | rfl | rfl) <;> assumption
  have hbb : ∀ x, x = b → w.heap.size ≤ x := by rintro x rfl; exact hb
  simp only [Pu_some, extV_0, extV_1, extV_2, extV_3, nilV_ptr, nilV_fn, faV_ptr, lenV_sl, lenS_s, capV_sl, pickV_t, pickV_f, unV_not, unV_neg, isB_t, isB_f, isB_u, binV_add, binV_sub, binV_mul, binV_eql, binV_neq, binV_lss, binV_leq, binV_gtr, binV_geq, binV_seql, binV_sneq, binV_slss, binV_beql, binV_bneq, binV_peql, binV_pneq, add_add, add_none, Go.Al.add_zero, Nat.zero_add, Nat.add_zero, IfB_t, IfB_f, Gd_t, Gd_f, Ld_ptr, LdN_ptr, Option.isNone_some, Option.isNone_none, Option.isSome_some, Option.isSome_none, Bool.not_true, Bool.not_false, drew_cell, drew_heap, bne_self_eq_false]
  refine (pick_spec w1 hact (n := 30) (by decide)).mono ?_
  rintro _ w1 ⟨rfl, rfl⟩
  have hp := pick_lt (c := act) (n := 30) (by decide)
  generalize pickI act 30 = p at hp
  have e1 : IntKind.i64.wrap (1 + p) = 1 + p := wrap_id (by omega)
  obtain ⟨n, hn⟩ := Int.eq_ofNat_of_zero_le (show 0 ≤ 1 + p by omega)
  have hn1 : 1 ≤ n ∧ n ≤ 30 := by omega
  have hn2 : p = (n : Int) - 1 := by omega
  have e1' : IntKind.i64.wrap (1 + ((n : Int) - 1)) = (n : Int) := by rw [wrap_id] <;> omega
  subst hn2
  clear hn hp hact e1
  simp only [Pu_some, extV_0, extV_1, extV_2, extV_3, nilV_ptr, nilV_fn, faV_ptr, lenV_sl, lenS_s, capV_sl, pickV_t, pickV_f, unV_not, unV_neg, isB_t, isB_f, isB_u, binV_add, binV_sub, binV_mul, binV_eql, binV_neq, binV_lss, binV_leq, binV_gtr, binV_geq, binV_seql, binV_sneq, binV_slss, binV_beql, binV_bneq, binV_peql, binV_pneq, add_add, add_none, Go.Al.add_zero, Nat.zero_add, Nat.add_zero, IfB_t, IfB_f, Gd_t, Gd_f, Ld_ptr, LdN_ptr, Option.isNone_some, Option.isNone_none, Option.isSome_some, Option.isSome_none, Bool.not_true, Bool.not_false, drew_cell, drew_heap, e1']
  rw [show (Dk.mk0 (8 : Int).toNat) = Dk.mk0 8 from rfl] at hD
  refine (arm_spec hD (a := (n : Int)) (by omega)).mono ?_
  rintro _ w2 ⟨rfl, hD2, hf2⟩
  have ha : (Dk.mk0 8).arm (n : Int) = ({ Dk.mk0 8 with armed := (n : Int) }, 0) := by
    unfold Dk.arm
    have : decide ((n : Int) < 0) = false := by simp
    rw [this]; rfl
  rw [ha] at hD2 ⊢
  have hA0 : Armed { Dk.mk0 8 with armed := (n : Int) } n 0 := ⟨by simp [Dk.mk0], by simp, by symm; show decide (0 = n) = false; simp; omega, rfl⟩
  have hF2 := Fm.own hf1 hf2 hbb
  simp only [Pu_some, extV_0, extV_1, extV_2, extV_3, nilV_ptr, nilV_fn, faV_ptr, lenV_sl, lenS_s, capV_sl, pickV_t, pickV_f, unV_not, unV_neg, isB_t, isB_f, isB_u, binV_add, binV_sub, binV_mul, binV_eql, binV_neq, binV_lss, binV_leq, binV_gtr, binV_geq, binV_seql, binV_sneq, binV_slss, binV_beql, binV_bneq, binV_peql, binV_pneq, add_add, add_none, Go.Al.add_zero, Nat.zero_add, Nat.add_zero, IfB_t, IfB_f, Gd_t, Gd_f, Ld_ptr, LdN_ptr, Option.isNone_some, Option.isNone_none, Option.isSome_some, Option.isSome_none, Bool.not_true, Bool.not_false, drew_cell, drew_heap, bne_self_eq_false]
  refine ⟨fun vs w3 => ∃ (k : Nat) (d : Dk), vs = [iv ((k + 1 : Nat) : Int)] ∧ k ≤ n ∧ Armed d n k ∧ DAt w3 b g m d ∧ Fm (fun _ => False) w w3, fun vs _ => (n + 1 - nth vs 0).toNat, ⟨0, _, rfl, by omega, hA0, hD2, hF2⟩, ?_⟩
  rintro _ w3 ik ⟨k, d, hvs, hk, hA, hD3, hF3⟩
  cases hvs
  by_cases hlt : k < n
  · have e2 : decide (((k + 1 : Nat) : Int) ≤ (n : Int)) = true := by rw [decide_eq_true_eq]; omega
    simp only [Pu_some, extV_0, extV_1, extV_2, extV_3, nilV_ptr, nilV_fn, faV_ptr, lenV_sl, lenS_s, capV_sl, pickV_t, pickV_f, unV_not, unV_neg, isB_t, isB_f, isB_u, binV_add, binV_sub, binV_mul, binV_eql, binV_neq, binV_lss, binV_leq, binV_gtr, binV_geq, binV_seql, binV_sneq, binV_slss, binV_beql, binV_bneq, binV_peql, binV_pneq, add_add, add_none, Go.Al.add_zero, Nat.zero_add, Nat.add_zero, IfB_t, IfB_f, Gd_t, Gd_f, Ld_ptr, LdN_ptr, Option.isNone_some, Option.isNone_none, Option.isSome_some, Option.isSome_none, Bool.not_true, Bool.not_false, drew_cell, drew_heap, e2]
    refine Jn_at (fun vs w4 => ∃ d', vs = [iv (if k + 1 = n then 5 else 0)] ∧ Armed d' n (k + 1) ∧ DAt w4 b g m d' ∧ Fm (fun _ => False) w w4) ?_ ?_
    · rintro _ w4 ⟨d', rfl, hA4, hD4, hF4⟩ _
      refine ⟨_, rfl, ?_⟩
      have e3 : ((if k + 1 = n then (5 : Int) else 0) == 5) = decide (k + 1 = n) := by split <;> simp_all
      have e4 : (((k + 1 : Nat) : Int) == (n : Int)) = decide (k + 1 = n) := by rw [beq_dec, decide_eq_decide]; omega
      simp only [Pu_some, extV_0, extV_1, extV_2, extV_3, nilV_ptr, nilV_fn, faV_ptr, lenV_sl, lenS_s, capV_sl, pickV_t, pickV_f, unV_not, unV_neg, isB_t, isB_f, isB_u, binV_add, binV_sub, binV_mul, binV_eql, binV_neq, binV_lss, binV_leq, binV_gtr, binV_geq, binV_seql, binV_sneq, binV_slss, binV_beql, binV_bneq, binV_peql, binV_pneq, add_add, add_none, Go.Al.add_zero, Nat.zero_add, Nat.add_zero, IfB_t, IfB_f, Gd_t, Gd_f, Ld_ptr, LdN_ptr, Option.isNone_some, Option.isNone_none, Option.isSome_some, Option.isSome_none, Bool.not_true, Bool.not_false, drew_cell, drew_heap, e3, e4, bne_self_eq_false]
      refine (dead_spec hD4).mono ?_
      rintro _ w4 ⟨rfl, rfl⟩
      rw [hA4.gone]
      simp only [Pu_some, extV_0, extV_1, extV_2, extV_3, nilV_ptr, nilV_fn, faV_ptr, lenV_sl, lenS_s, capV_sl, pickV_t, pickV_f, unV_not, unV_neg, isB_t, isB_f, isB_u, binV_add, binV_sub, binV_mul, binV_eql, binV_neq, binV_lss, binV_leq, binV_gtr, binV_geq, binV_seql, binV_sneq, binV_slss, binV_beql, binV_bneq, binV_peql, binV_pneq, add_add, add_none, Go.Al.add_zero, Nat.zero_add, Nat.add_zero, IfB_t, IfB_f, Gd_t, Gd_f, Ld_ptr, LdN_ptr, Option.isNone_some, Option.isNone_none, Option.isSome_some, Option.isSome_none, Bool.not_true, Bool.not_false, drew_cell, drew_heap, e4, bne_self_eq_false]
      refine (acts_spec hD4).mono ?_
      rintro _ w4 ⟨rfl, rfl⟩
      rw [hA4.done]
      have e5 : IntKind.i64.wrap (((k + 1 : Nat) : Int) + 1) = ((k + 1 + 1 : Nat) : Int) := by rw [wrap_id] <;> omega
      simp only [Pu_some, extV_0, extV_1, extV_2, extV_3, nilV_ptr, nilV_fn, faV_ptr, lenV_sl, lenS_s, capV_sl, pickV_t, pickV_f, unV_not, unV_neg, isB_t, isB_f, isB_u, binV_add, binV_sub, binV_mul, binV_eql, binV_neq, binV_lss, binV_leq, binV_gtr, binV_geq, binV_seql, binV_sneq, binV_slss, binV_beql, binV_bneq, binV_peql, binV_pneq, add_add, add_none, Go.Al.add_zero, Nat.zero_add, Nat.add_zero, IfB_t, IfB_f, Gd_t, Gd_f, Ld_ptr, LdN_ptr, Option.isNone_some, Option.isNone_none, Option.isSome_some, Option.isSome_none, Bool.not_true, Bool.not_false, drew_cell, drew_heap, bne_self_eq_false, e5]
      exact ⟨⟨k + 1, d', rfl, by omega, hA4, hD4, hF4⟩, by simp only [nth_0]; omega⟩
    · intro kk hkk
      have hs3 := hs.keep hF3 (fun _ _ e => e)
      have write : Pu (binV (TypeDesc.int IntKind.i64) .rem (iv ((k + 1 : Nat) : Int)) (Value.int IntKind.i64 8)) fun t50_135 =>
          Cl Try.prog 23 [iv ((k + 1 : Nat) : Int)] w3 fun t52_136 w_137 =>
          Cl Try.prog 24 [pv b, t50_135, t52_136] w_137 fun t53_138 w_139 =>
          kk [t53_138] w_139 := by
        have e5 := rem_nat (TypeDesc.int IntKind.i64) (n := k + 1) (m := 8) (b := 8) (by omega) (by omega) rfl
        simp only [Pu_some, extV_0, extV_1, extV_2, extV_3, nilV_ptr, nilV_fn, faV_ptr, lenV_sl, lenS_s, capV_sl, pickV_t, pickV_f, unV_not, unV_neg, isB_t, isB_f, isB_u, binV_add, binV_sub, binV_mul, binV_eql, binV_neq, binV_lss, binV_leq, binV_gtr, binV_geq, binV_seql, binV_sneq, binV_slss, binV_beql, binV_bneq, binV_peql, binV_pneq, add_add, add_none, Go.Al.add_zero, Nat.zero_add, Nat.add_zero, IfB_t, IfB_f, Gd_t, Gd_f, Ld_ptr, LdN_ptr, Option.isNone_some, Option.isNone_none, Option.isSome_some, Option.isSome_none, Bool.not_true, Bool.not_false, drew_cell, drew_heap, e5]
        refine (fill_spec w3 _).mono ?_
        rintro _ w4 ⟨rfl, hf4⟩
        obtain ⟨hA5, hv⟩ := hA.write hlt hn1.2 (a := (k + 1) % 8) (by omega) (fillB_len ((k + 1 : Nat) : Int))
        refine (write_spec (hD3.keep0 hf4) _ _ (by rw [fillB_len]; omega)).mono ?_
        rintro _ w5 ⟨rfl, hD5, hf5⟩
        rw [hv]
        exact hkk _ _ ⟨_, rfl, hA5, hD5, Fm.own (Fmf hF3 hf4) hf5 hbgm⟩
      simp only [Pu_some, extV_0, extV_1, extV_2, extV_3, nilV_ptr, nilV_fn, faV_ptr, lenV_sl, lenS_s, capV_sl, pickV_t, pickV_f, unV_not, unV_neg, isB_t, isB_f, isB_u, binV_add, binV_sub, binV_mul, binV_eql, binV_neq, binV_lss, binV_leq, binV_gtr, binV_geq, binV_seql, binV_sneq, binV_slss, binV_beql, binV_bneq, binV_peql, binV_pneq, add_add, add_none, Go.Al.add_zero, Nat.zero_add, Nat.add_zero, IfB_t, IfB_f, Gd_t, Gd_f, Ld_ptr, LdN_ptr, Option.isNone_some, Option.isNone_none, Option.isSome_some, Option.isSome_none, Bool.not_true, Bool.not_false, drew_cell, drew_heap, hs3.lenV]
      by_cases hks : k + 1 ≤ syncs.length
      · have e3 : decide (((k + 1 : Nat) : Int) ≤ (syncs.length : Int)) = true := by rw [decide_eq_true_eq]; omega
        have e4 : IntKind.i64.wrap (((k + 1 : Nat) : Int) - 1) = (k : Int) := by rw [wrap_id] <;> omega
        have hsk : syncs[k]? = some syncs[k] := List.getElem?_eq_getElem hks
        generalize syncs[k] = sy at hsk
        obtain ⟨ad, hix, _, hc⟩ := hs3.at1 (i := k) (x := .bool sy) (by rw [List.getElem?_map, hsk]; rfl) .i64
        simp only [Pu_some, extV_0, extV_1, extV_2, extV_3, nilV_ptr, nilV_fn, faV_ptr, lenV_sl, lenS_s, capV_sl, pickV_t, pickV_f, unV_not, unV_neg, isB_t, isB_f, isB_u, binV_add, binV_sub, binV_mul, binV_eql, binV_neq, binV_lss, binV_leq, binV_gtr, binV_geq, binV_seql, binV_sneq, binV_slss, binV_beql, binV_bneq, binV_peql, binV_pneq, add_add, add_none, Go.Al.add_zero, Nat.zero_add, Nat.add_zero, IfB_t, IfB_f, Gd_t, Gd_f, Ld_ptr, LdN_ptr, Option.isNone_some, Option.isNone_none, Option.isSome_some, Option.isSome_none, Bool.not_true, Bool.not_false, drew_cell, drew_heap, e3, e4, hix, hc]
        cases sy with
        | true =>
          simp only [Pu_some, extV_0, extV_1, extV_2, extV_3, nilV_ptr, nilV_fn, faV_ptr, lenV_sl, lenS_s, capV_sl, pickV_t, pickV_f, unV_not, unV_neg, isB_t, isB_f, isB_u, binV_add, binV_sub, binV_mul, binV_eql, binV_neq, binV_lss, binV_leq, binV_gtr, binV_geq, binV_seql, binV_sneq, binV_slss, binV_beql, binV_bneq, binV_peql, binV_pneq, add_add, add_none, Go.Al.add_zero, Nat.zero_add, Nat.add_zero, IfB_t, IfB_f, Gd_t, Gd_f, Ld_ptr, LdN_ptr, Option.isNone_some, Option.isNone_none, Option.isSome_some, Option.isSome_none, Bool.not_true, Bool.not_false, drew_cell, drew_heap]
          obtain ⟨hA5, hv⟩ := hA.sync hlt hn1.2
          refine (sync_spec hD3).mono ?_
          rintro _ w5 ⟨rfl, hD5, hf5⟩
          rw [hv]
          exact hkk _ _ ⟨_, rfl, hA5, hD5, Fm.own hF3 hf5 hbgm⟩
        | false =>
          simp only [Pu_some, extV_0, extV_1, extV_2, extV_3, nilV_ptr, nilV_fn, faV_ptr, lenV_sl, lenS_s, capV_sl, pickV_t, pickV_f, unV_not, unV_neg, isB_t, isB_f, isB_u, binV_add, binV_sub, binV_mul, binV_eql, binV_neq, binV_lss, binV_leq, binV_gtr, binV_geq, binV_seql, binV_sneq, binV_slss, binV_beql, binV_bneq, binV_peql, binV_pneq, add_add, add_none, Go.Al.add_zero, Nat.zero_add, Nat.add_zero, IfB_t, IfB_f, Gd_t, Gd_f, Ld_ptr, LdN_ptr, Option.isNone_some, Option.isNone_none, Option.isSome_some, Option.isSome_none, Bool.not_true, Bool.not_false, drew_cell, drew_heap]
          exact write
      · have e3 : decide (((k + 1 : Nat) : Int) ≤ (syncs.length : Int)) = false := by rw [decide_eq_false_iff_not]; omega
        simp only [Pu_some, extV_0, extV_1, extV_2, extV_3, nilV_ptr, nilV_fn, faV_ptr, lenV_sl, lenS_s, capV_sl, pickV_t, pickV_f, unV_not, unV_neg, isB_t, isB_f, isB_u, binV_add, binV_sub, binV_mul, binV_eql, binV_neq, binV_lss, binV_leq, binV_gtr, binV_geq, binV_seql, binV_sneq, binV_slss, binV_beql, binV_bneq, binV_peql, binV_pneq, add_add, add_none, Go.Al.add_zero, Nat.zero_add, Nat.add_zero, IfB_t, IfB_f, Gd_t, Gd_f, Ld_ptr, LdN_ptr, Option.isNone_some, Option.isNone_none, Option.isSome_some, Option.isSome_none, Bool.not_true, Bool.not_false, drew_cell, drew_heap, e3]
        exact write
  · have hke : k = n := by omega
    subst hke
    have e2 : decide (((k + 1 : Nat) : Int) ≤ (k : Int)) = false := by rw [decide_eq_false_iff_not]; omega
    have hgo : d.gone = true := by rw [hA.gone]; simp
    simp only [Pu_some, extV_0, extV_1, extV_2, extV_3, nilV_ptr, nilV_fn, faV_ptr, lenV_sl, lenS_s, capV_sl, pickV_t, pickV_f, unV_not, unV_neg, isB_t, isB_f, isB_u, binV_add, binV_sub, binV_mul, binV_eql, binV_neq, binV_lss, binV_leq, binV_gtr, binV_geq, binV_seql, binV_sneq, binV_slss, binV_beql, binV_bneq, binV_peql, binV_pneq, add_add, add_none, Go.Al.add_zero, Nat.zero_add, Nat.add_zero, IfB_t, IfB_f, Gd_t, Gd_f, Ld_ptr, LdN_ptr, Option.isNone_some, Option.isNone_none, Option.isSome_some, Option.isSome_none, Bool.not_true, Bool.not_false, drew_cell, drew_heap, e2]
    refine (read_spec hD3 0 1).mono ?_
    rintro _ w3 ⟨rfl, rfl⟩
    have er : d.read 0 1 = ([], 5) := by unfold Dk.read; rw [hgo]; rfl
    rw [er]
    simp only [Pu_some, extV_0, extV_1, extV_2, extV_3, nilV_ptr, nilV_fn, faV_ptr, lenV_sl, lenS_s, capV_sl, pickV_t, pickV_f, unV_not, unV_neg, isB_t, isB_f, isB_u, binV_add, binV_sub, binV_mul, binV_eql, binV_neq, binV_lss, binV_leq, binV_gtr, binV_geq, binV_seql, binV_sneq, binV_slss, binV_beql, binV_bneq, binV_peql, binV_pneq, add_add, add_none, Go.Al.add_zero, Nat.zero_add, Nat.add_zero, IfB_t, IfB_f, Gd_t, Gd_f, Ld_ptr, LdN_ptr, Option.isNone_some, Option.isNone_none, Option.isSome_some, Option.isSome_none, Bool.not_true, Bool.not_false, drew_cell, drew_heap]
    refine (fill_spec w3 1).mono ?_
    rintro _ w4 ⟨rfl, hf4⟩
    have hD4 := hD3.keep0 hf4
    have hF4 := Fmf hF3 hf4
    have ew : ∀ a s, d.write a s = (d, 5) := fun a s => by unfold Dk.write; rw [hgo]; rfl
    have es : d.sync = (d, 5) := by unfold Dk.sync; rw [hgo]; rfl
    have ea : ∀ a, d.arm a = (d, 5) := fun a => by unfold Dk.arm; rw [hgo]; rfl
    refine (write_spec hD4 0 (fillB 1) (by rw [fillB_len]; omega)).mono ?_
    rintro _ w5 ⟨rfl, hD5, hf5⟩
    rw [ew] at *
    simp only [Pu_some, extV_0, extV_1, extV_2, extV_3, nilV_ptr, nilV_fn, faV_ptr, lenV_sl, lenS_s, capV_sl, pickV_t, pickV_f, unV_not, unV_neg, isB_t, isB_f, isB_u, binV_add, binV_sub, binV_mul, binV_eql, binV_neq, binV_lss, binV_leq, binV_gtr, binV_geq, binV_seql, binV_sneq, binV_slss, binV_beql, binV_bneq, binV_peql, binV_pneq, add_add, add_none, Go.Al.add_zero, Nat.zero_add, Nat.add_zero, IfB_t, IfB_f, Gd_t, Gd_f, Ld_ptr, LdN_ptr, Option.isNone_some, Option.isNone_none, Option.isSome_some, Option.isSome_none, Bool.not_true, Bool.not_false, drew_cell, drew_heap, beq_self_eq_true]
    refine (sync_spec hD5).mono ?_
    rintro _ w6 ⟨rfl, hD6, hf6⟩
    rw [es] at *
    simp only [Pu_some, extV_0, extV_1, extV_2, extV_3, nilV_ptr, nilV_fn, faV_ptr, lenV_sl, lenS_s, capV_sl, pickV_t, pickV_f, unV_not, unV_neg, isB_t, isB_f, isB_u, binV_add, binV_sub, binV_mul, binV_eql, binV_neq, binV_lss, binV_leq, binV_gtr, binV_geq, binV_seql, binV_sneq, binV_slss, binV_beql, binV_bneq, binV_peql, binV_pneq, add_add, add_none, Go.Al.add_zero, Nat.zero_add, Nat.add_zero, IfB_t, IfB_f, Gd_t, Gd_f, Ld_ptr, LdN_ptr, Option.isNone_some, Option.isNone_none, Option.isSome_some, Option.isSome_none, Bool.not_true, Bool.not_false, drew_cell, drew_heap, beq_self_eq_true]
    refine (arm_spec hD6 (a := 0) (by decide)).mono ?_
    rintro _ w7 ⟨rfl, hD7, hf7⟩
    rw [ea] at *
    simp only [Pu_some, extV_0, extV_1, extV_2, extV_3, nilV_ptr, nilV_fn, faV_ptr, lenV_sl, lenS_s, capV_sl, pickV_t, pickV_f, unV_not, unV_neg, isB_t, isB_f, isB_u, binV_add, binV_sub, binV_mul, binV_eql, binV_neq, binV_lss, binV_leq, binV_gtr, binV_geq, binV_seql, binV_sneq, binV_slss, binV_beql, binV_bneq, binV_peql, binV_pneq, add_add, add_none, Go.Al.add_zero, Nat.zero_add, Nat.add_zero, IfB_t, IfB_f, Gd_t, Gd_f, Ld_ptr, LdN_ptr, Option.isNone_some, Option.isNone_none, Option.isSome_some, Option.isSome_none, Bool.not_true, Bool.not_false, drew_cell, drew_heap, beq_self_eq_true]
    refine (acts_spec hD7).mono ?_
    rintro _ w7 ⟨rfl, rfl⟩
    rw [hA.done]
    simp only [Pu_some, extV_0, extV_1, extV_2, extV_3, nilV_ptr, nilV_fn, faV_ptr, lenV_sl, lenS_s, capV_sl, pickV_t, pickV_f, unV_not, unV_neg, isB_t, isB_f, isB_u, binV_add, binV_sub, binV_mul, binV_eql, binV_neq, binV_lss, binV_leq, binV_gtr, binV_geq, binV_seql, binV_sneq, binV_slss, binV_beql, binV_bneq, binV_peql, binV_pneq, add_add, add_none, Go.Al.add_zero, Nat.zero_add, Nat.add_zero, IfB_t, IfB_f, Gd_t, Gd_f, Ld_ptr, LdN_ptr, Option.isNone_some, Option.isNone_none, Option.isSome_some, Option.isSome_none, Bool.not_true, Bool.not_false, drew_cell, drew_heap, beq_self_eq_true]
    refine (crash_spec hD7 (L := []) (cells_nil w7 1) (fun _ q hq => by cases hq) (by intro f hf; cases hf)).mono ?_
    rintro _ w8 ⟨rfl, hD8, hf8⟩
    have hF8 := Fm.own (Fm.own (Fm.own (Fm.own hF4 hf5 hbgm) hf6 hbgm) hf7 hbb) hf8 hbgm
    refine (awake_spec w8).mono ?_
    rintro _ w9 ⟨rfl, hf9⟩
    have hD9 := hD8.keep0 hf9
    simp only [Pu_some, extV_0, extV_1, extV_2, extV_3, nilV_ptr, nilV_fn, faV_ptr, lenV_sl, lenS_s, capV_sl, pickV_t, pickV_f, unV_not, unV_neg, isB_t, isB_f, isB_u, binV_add, binV_sub, binV_mul, binV_eql, binV_neq, binV_lss, binV_leq, binV_gtr, binV_geq, binV_seql, binV_sneq, binV_slss, binV_beql, binV_bneq, binV_peql, binV_pneq, add_add, add_none, Go.Al.add_zero, Nat.zero_add, Nat.add_zero, IfB_t, IfB_f, Gd_t, Gd_f, Ld_ptr, LdN_ptr, Option.isNone_some, Option.isNone_none, Option.isSome_some, Option.isSome_none, Bool.not_true, Bool.not_false, drew_cell, drew_heap]
    refine (dead_spec hD9).mono ?_
    rintro _ w9 ⟨rfl, rfl⟩
    have eg : (d.crash []).gone = false := rfl
    rw [eg]
    simp only [Pu_some, extV_0, extV_1, extV_2, extV_3, nilV_ptr, nilV_fn, faV_ptr, lenV_sl, lenS_s, capV_sl, pickV_t, pickV_f, unV_not, unV_neg, isB_t, isB_f, isB_u, binV_add, binV_sub, binV_mul, binV_eql, binV_neq, binV_lss, binV_leq, binV_gtr, binV_geq, binV_seql, binV_sneq, binV_slss, binV_beql, binV_bneq, binV_peql, binV_pneq, add_add, add_none, Go.Al.add_zero, Nat.zero_add, Nat.add_zero, IfB_t, IfB_f, Gd_t, Gd_f, Ld_ptr, LdN_ptr, Option.isNone_some, Option.isNone_none, Option.isSome_some, Option.isSome_none, Bool.not_true, Bool.not_false, drew_cell, drew_heap]
    refine (fill_spec w9 1).mono ?_
    rintro _ w10 ⟨rfl, hf10⟩
    have hD10 := hD9.keep0 hf10
    refine (write_spec hD10 0 (fillB 1) (by rw [fillB_len]; omega)).mono ?_
    rintro _ w11 ⟨rfl, hD11, hf11⟩
    have hl8 : (d.crash []).cur.length = 8 := by show (Dk.mended [] d).length = 8; rw [Dk.mended_len, hA.len]
    have hv : ((d.crash []).write 0 (fillB 1)).2 = 0 := by
      have hh : (d.crash []).has 0 1 = true := by unfold Dk.has; rw [hl8]; rfl
      have h64 := fillB_len 1
      generalize fillB 1 = s at h64
      unfold Dk.write
      rw [eg, h64]
      simp only [cond_false, show ((64 / 64 : Nat) : Int) = 1 from rfl, hh, show 64 / 64 = 1 from rfl, Dk.chunks, Dk.wr]
      have : ((d.crash []).put (0 : Int).toNat (s.take 64)).tick.gone = false := rfl
      rw [this]; rfl
    rw [hv]
    simp only [Pu_some, extV_0, extV_1, extV_2, extV_3, nilV_ptr, nilV_fn, faV_ptr, lenV_sl, lenS_s, capV_sl, pickV_t, pickV_f, unV_not, unV_neg, isB_t, isB_f, isB_u, binV_add, binV_sub, binV_mul, binV_eql, binV_neq, binV_lss, binV_leq, binV_gtr, binV_geq, binV_seql, binV_sneq, binV_slss, binV_beql, binV_bneq, binV_peql, binV_pneq, add_add, add_none, Go.Al.add_zero, Nat.zero_add, Nat.add_zero, IfB_t, IfB_f, Gd_t, Gd_f, Ld_ptr, LdN_ptr, Option.isNone_some, Option.isNone_none, Option.isSome_some, Option.isSome_none, Bool.not_true, Bool.not_false, drew_cell, drew_heap, beq_self_eq_true]
    exact ⟨(by trivial), Fm.own (Fmf (Fmf hF8 hf9) hf10) hf11 hbgm⟩

end Go.Proofs.Ythgdinjgdjiknaa
