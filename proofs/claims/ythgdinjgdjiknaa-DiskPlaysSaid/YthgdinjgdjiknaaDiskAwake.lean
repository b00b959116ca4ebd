/- The statements' own helpers of layer 2: Fill, pick, awake. -/
import Derived.Test.YthgdinjgdjiknaaDisk3
namespace Go.Proofs.Ythgdinjgdjiknaa
open Go.Al Go.Proofs
set_option linter.unusedVariables false
set_option linter.unusedSimpArgs false
set_option linter.unusedSectionVars false

def fillI (n : Int) (i : Nat) : Int := IntKind.u8.wrap (IntKind.i64.wrap (n + IntKind.i64.wrap ((i : Int) * andI .i64 n 7)))
def fillB (n : Int) : Bs := (List.range 64).map fun i => UInt8.ofNat (fillI n i).toNat
theorem fillB_len (n : Int) : (fillB n).length = 64 := by simp [fillB]
def sofar (n : Int) (k : Nat) : Bs := (List.range 64).map fun i => if i < k then UInt8.ofNat (fillI n i).toNat else 0
theorem sofar_set (n : Int) (k : Nat) : (sofar n k).set k (UInt8.ofNat (fillI n k).toNat) = sofar n (k + 1) := by
  unfold sofar
  apply List.ext_getElem?
  intro i
  rw [List.getElem?_set]
  by_cases hi : i < 64
  · by_cases e : k = i
    · subst e; simp [hi]
    · rw [if_neg e]
      simp only [List.getElem?_map, List.getElem?_range hi, Option.map_some]
      congr 1
      have : (i < k + 1) ↔ i < k := by omega
      simp [this]
  · rw [List.getElem?_eq_none (l := List.map _ _) (by simpa using hi), List.getElem?_eq_none (l := List.map _ _) (by simpa using hi)]
    split
    · rename_i e; subst e; simp [hi]
    · rfl

theorem fill_spec (w : World) (n : Int) : Cl Try.prog 23 [iv n] w fun v w' => v = stv (fillB n) ∧ Fm (fun _ => False) w w' := by
  refine c23 ?_; unfold T23
  refine RunS_ok (BRow.make B44 w 64 (by omega)) ?_
  have hf0 := Fm.alloc (fun _ => False) w (.cells (bc (List.replicate 64 0)).toArray 5)
  have hb0 : BRow (w.alloc (.cells (bc (List.replicate 64 0)).toArray 5)) w.heap.size 5 (List.replicate 64 0) := alloc_new _ _
  generalize w.alloc (.cells (bc (List.replicate 64 0)).toArray 5) = w1 at hf0 hb0
  refine ⟨fun vs w2 => ∃ k : Nat, vs = [iv k] ∧ k ≤ 64 ∧ BRow w2 w.heap.size 5 (sofar n k) ∧ Fm (fun _ => False) w w2, fun vs _ => (64 - nth vs 0).toNat, ⟨0, rfl, by omega, hb0, hf0⟩, ?_⟩
  rintro _ w2 ik ⟨k, hvs, hk, hB, hf⟩
  cases hvs
  by_cases hlt : k < 64
  · have e1 : decide ((k : Int) < 64) = true := by simpa using (by omega : (k : Int) < 64)
    have e2 : cvI .u8 (.int .i64 (IntKind.i64.wrap (n + IntKind.i64.wrap ((k : Int) * andI .i64 n 7)))) = some (.int .u8 (fillI n k)) := rfl
    have e3 : IntKind.i64.wrap ((k : Int) + 1) = ((k + 1 : Nat) : Int) := by rw [wrap_id] <;> omega
    have e4 : Value.int .u8 (fillI n k) = .int .u8 ((UInt8.ofNat (fillI n k).toNat).toNat : Int) := by rw [fillI, u8_wrap]
    simp only [Pu_some, extV_0, extV_1, extV_2, extV_3, nilV_ptr, nilV_fn, faV_ptr, lenV_sl, lenS_s, capV_sl, pickV_t, pickV_f, unV_not, unV_neg, isB_t, isB_f, isB_u, binV_add, binV_sub, binV_mul, binV_eql, binV_neq, binV_lss, binV_leq, binV_gtr, binV_geq, binV_seql, binV_sneq, binV_slss, binV_beql, binV_bneq, binV_peql, binV_pneq, add_add, add_none, Go.Al.add_zero, Nat.zero_add, Nat.add_zero, IfB_t, IfB_f, Gd_t, Gd_f, Ld_ptr, LdN_ptr, Option.isNone_some, Option.isNone_none, Option.isSome_some, Option.isSome_none, Bool.not_true, Bool.not_false, drew_cell, drew_heap, e1, binV_and, e2, ixV_at hlt, Nat.mul_one, e3, e4]
    refine hB.put (by simp [sofar]; omega) ?_
    intro w3 h3 hs3 hf3
    rw [sofar_set] at h3
    exact ⟨⟨k + 1, rfl, by omega, h3, hf.trans hf3 (fun _ _ e => e) (fun x hx e => by omega)⟩, by simp only [nth_0]; omega⟩
  · have hke : k = 64 := by omega
    subst hke
    have e1 : decide (((64 : Nat) : Int) < 64) = false := rfl
    simp only [Pu_some, extV_0, extV_1, extV_2, extV_3, nilV_ptr, nilV_fn, faV_ptr, lenV_sl, lenS_s, capV_sl, pickV_t, pickV_f, unV_not, unV_neg, isB_t, isB_f, isB_u, binV_add, binV_sub, binV_mul, binV_eql, binV_neq, binV_lss, binV_leq, binV_gtr, binV_geq, binV_seql, binV_sneq, binV_slss, binV_beql, binV_bneq, binV_peql, binV_pneq, add_add, add_none, Go.Al.add_zero, Nat.zero_add, Nat.add_zero, IfB_t, IfB_f, Gd_t, Gd_f, Ld_ptr, LdN_ptr, Option.isNone_some, Option.isNone_none, Option.isSome_some, Option.isSome_none, Bool.not_true, Bool.not_false, drew_cell, drew_heap, e1]
    refine RunS_ok (hB.conv B44 (o := 0) (n := 64) (by simp [sofar]) _) ⟨?_, hf⟩
    have : ((sofar n 64).drop 0).take 64 = fillB n := by
      rw [List.drop_zero, List.take_of_length_le (by simp [sofar])]
      unfold sofar fillB
      refine List.map_congr_left fun i hi => ?_
      rw [if_pos (by simpa using hi)]
    rw [this]

/-- Which of n things a number speaks of. -/
def pickI (c n : Int) : Int := Dk.fold1 c % n
theorem pick_spec (w : World) {c n : Int} (hc : -9223372036854775808 ≤ c ∧ c ≤ 9223372036854775807) (hn : 0 < n) : Cl Try.prog 22 [iv c, iv n] w fun v w' => v = iv (pickI c n) ∧ w' = w := by
  refine c22 ?_; unfold T22
  have hp := Dk.fold1_pos hc
  refine Jn_at (fun vs w2 => vs = [iv (Dk.fold1 c)] ∧ w2 = w) ?_ ?_
  · rintro _ _ ⟨rfl, rfl⟩ _
    refine ⟨_, rfl, ?_⟩
    have e1 := rem_pos (TypeDesc.int IntKind.i64) hp.1 hn hp.2
    simp only [Pu_some, extV_0, extV_1, extV_2, extV_3, nilV_ptr, nilV_fn, faV_ptr, lenV_sl, lenS_s, capV_sl, pickV_t, pickV_f, unV_not, unV_neg, isB_t, isB_f, isB_u, binV_add, binV_sub, binV_mul, binV_eql, binV_neq, binV_lss, binV_leq, binV_gtr, binV_geq, binV_seql, binV_sneq, binV_slss, binV_beql, binV_bneq, binV_peql, binV_pneq, add_add, add_none, Go.Al.add_zero, Nat.zero_add, Nat.add_zero, IfB_t, IfB_f, Gd_t, Gd_f, Ld_ptr, LdN_ptr, Option.isNone_some, Option.isNone_none, Option.isSome_some, Option.isSome_none, Bool.not_true, Bool.not_false, drew_cell, drew_heap, e1]
    exact ⟨(by trivial), (by trivial)⟩
  · intro kk hkk
    unfold Dk.fold1 at hkk
    by_cases h : c < 0
    · have e1 : decide (c < 0) = true := by simpa using h
      have e2 : IntKind.i64.wrap (c + 1) = c + 1 := wrap_id (by omega)
      have e3 : IntKind.i64.wrap (0 - (c + 1)) = -(c + 1) := by rw [wrap_id] <;> omega
      simp only [Pu_some, extV_0, extV_1, extV_2, extV_3, nilV_ptr, nilV_fn, faV_ptr, lenV_sl, lenS_s, capV_sl, pickV_t, pickV_f, unV_not, unV_neg, isB_t, isB_f, isB_u, binV_add, binV_sub, binV_mul, binV_eql, binV_neq, binV_lss, binV_leq, binV_gtr, binV_geq, binV_seql, binV_sneq, binV_slss, binV_beql, binV_bneq, binV_peql, binV_pneq, add_add, add_none, Go.Al.add_zero, Nat.zero_add, Nat.add_zero, IfB_t, IfB_f, Gd_t, Gd_f, Ld_ptr, LdN_ptr, Option.isNone_some, Option.isNone_none, Option.isSome_some, Option.isSome_none, Bool.not_true, Bool.not_false, drew_cell, drew_heap, e1, e2, e3]
      rw [if_pos h] at hkk
      exact hkk _ _ ⟨rfl, rfl⟩
    · have e1 : decide (c < 0) = false := by simpa using h
      simp only [Pu_some, extV_0, extV_1, extV_2, extV_3, nilV_ptr, nilV_fn, faV_ptr, lenV_sl, lenS_s, capV_sl, pickV_t, pickV_f, unV_not, unV_neg, isB_t, isB_f, isB_u, binV_add, binV_sub, binV_mul, binV_eql, binV_neq, binV_lss, binV_leq, binV_gtr, binV_geq, binV_seql, binV_sneq, binV_slss, binV_beql, binV_bneq, binV_peql, binV_pneq, add_add, add_none, Go.Al.add_zero, Nat.zero_add, Nat.add_zero, IfB_t, IfB_f, Gd_t, Gd_f, Ld_ptr, LdN_ptr, Option.isNone_some, Option.isNone_none, Option.isSome_some, Option.isSome_none, Bool.not_true, Bool.not_false, drew_cell, drew_heap, e1]
      rw [if_neg h] at hkk
      exact hkk _ _ ⟨rfl, rfl⟩
theorem pick_lt {c n : Int} (hn : 0 < n) : 0 ≤ pickI c n ∧ pickI c n < n := ⟨Int.emod_nonneg _ (by omega), Int.emod_lt_of_pos _ hn⟩

theorem aw1 {a : Bs} (ha : a.length = 64) : (Dk.mk0 4).write 1 a = (⟨[Dk.zsec, a, Dk.zsec, Dk.zsec], [Dk.zsec, Dk.zsec, Dk.zsec, Dk.zsec], [false, true, false, false], 0, false, 1⟩, 0) := by
  simp [Dk.write, Dk.mk0, Dk.has, ha, Dk.chunks, Dk.wr, Dk.put, Dk.tick, List.take_of_length_le, List.replicate]
  decide
theorem aw2 {a : Bs} : Dk.sync ⟨[Dk.zsec, a, Dk.zsec, Dk.zsec], [Dk.zsec, Dk.zsec, Dk.zsec, Dk.zsec], [false, true, false, false], 0, false, 1⟩ = (⟨[Dk.zsec, a, Dk.zsec, Dk.zsec], [Dk.zsec, a, Dk.zsec, Dk.zsec], [false, false, false, false], 0, false, 2⟩, 0) := by
  simp [Dk.sync, Dk.tick, List.replicate]
  decide
theorem aw3 {a b : Bs} (hb : b.length = 64) : Dk.write ⟨[Dk.zsec, a, Dk.zsec, Dk.zsec], [Dk.zsec, a, Dk.zsec, Dk.zsec], [false, false, false, false], 0, false, 2⟩ 1 (b ++ b) = (⟨[Dk.zsec, b, b, Dk.zsec], [Dk.zsec, a, Dk.zsec, Dk.zsec], [false, true, true, false], 0, false, 4⟩, 0) := by
  have h1 : (b ++ b).take 64 = b := by rw [← hb, List.take_left]
  have h2 : (b ++ b).drop 64 = b := by rw [← hb, List.drop_left]
  have h3 : b.take 64 = b := List.take_of_length_le (by omega)
  have h4 : IntKind.i64.wrap (IntKind.i64.wrap 3 + 1) = 4 := by decide
  simp [Dk.write, Dk.has, hb, Dk.chunks, Dk.wr, Dk.put, Dk.tick, h1, h2, h3, h4]
theorem aw4 {a b : Bs} : Dk.crash ⟨[Dk.zsec, b, b, Dk.zsec], [Dk.zsec, a, Dk.zsec, Dk.zsec], [false, true, true, false], 0, false, 4⟩ [14] = ⟨[Dk.zsec, b.take 4 ++ a.drop 4, Dk.zsec, Dk.zsec], [Dk.zsec, b.take 4 ++ a.drop 4, Dk.zsec, Dk.zsec], [false, false, false, false], 0, false, 4⟩ := by
  have h : Dk.mended [14] ⟨[Dk.zsec, b, b, Dk.zsec], [Dk.zsec, a, Dk.zsec, Dk.zsec], [false, true, true, false], 0, false, 4⟩ = [Dk.zsec, b.take 4 ++ a.drop 4, Dk.zsec, Dk.zsec] := by
    rw [Dk.mended]
    show (List.range 4).map _ = _
    rw [show List.range 4 = [0, 1, 2, 3] from rfl]
    have r1 : Dk.torn (Dk.fate [14] (Dk.rank [false, true, true, false] 1)) b a = b.take 4 ++ a.drop 4 := rfl
    have r2 : Dk.torn (Dk.fate [14] (Dk.rank [false, true, true, false] 2)) b Dk.zsec = Dk.zsec := rfl
    simp [Dk.mend, Dk.isC, r1, r2]
  rw [Dk.crash, h]
  rfl
theorem aw5 {c : Bs} : Dk.read ⟨[Dk.zsec, c, Dk.zsec, Dk.zsec], [Dk.zsec, c, Dk.zsec, Dk.zsec], [false, false, false, false], 0, false, 4⟩ 1 2 = (c ++ Dk.zsec, 0) := by
  simp [Dk.read, Dk.has]
theorem aw6 {a c : Bs} (ha : a.length = 64) : (Dk.write ⟨[Dk.zsec, c, Dk.zsec, Dk.zsec], [Dk.zsec, c, Dk.zsec, Dk.zsec], [false, false, false, false], 0, false, 4⟩ 3 (a ++ a)).2 = 20 := by
  simp [Dk.write, Dk.has, ha]

theorem bs34 (p : Int) (w : World) : (Instr.buildSlice 34 1 #[(0, iv p)]).run Try.prog w = .ok (.slice (some ⟨w.heap.size, 0, none⟩) 1 1) (w.alloc (.cells #[iv p] 3)) := by kernel_rfl
/-- A list of one number, new. -/
theorem one_cells (p : Int) (w : World) : CellsAt (w.alloc (.cells #[iv p] 3)) (.slice (some ⟨w.heap.size, 0, none⟩) 1 1) 1 1 [iv p] := by
  refine ⟨⟨_, 1, rfl, by omega, by decide, fun e => (by cases e), fun j u hj => ⟨_, rfl, ?_⟩⟩, rfl⟩
  rw [add_none, cell_at (alloc_new w _)]
  cases j with
  | zero => simpa using hj
  | succ j => simp at hj
theorem Fmf {a b c : World} (h : Fm (fun _ => False) a b) (k : Fm (fun _ => False) b c) : Fm (fun _ => False) a c := h.trans k (fun _ _ e => e) (fun _ _ e => e)
/-- Blocks of the call's own do not count. -/
theorem Fm.own {S : Nat → Prop} {a b c : World} (h : Fm (fun _ => False) a b) (k : Fm S b c) (hS : ∀ x, S x → a.heap.size ≤ x) : Fm (fun _ => False) a c := h.trans k (fun _ _ e => e) (fun x hx e => by have := hS x e; omega)

theorem awake_spec (w : World) : Cl Try.prog 17 [] w fun v w' => v = .bool true ∧ Fm (fun _ => False) w w' := by
  refine c17 ?_; unfold T17
  refine (dnew_spec w 4).mono ?_
  rintro _ w1 ⟨-, hok⟩
  obtain ⟨b, g, m, rfl, hb, hg, hm, hD, hf1⟩ := hok (by decide)
  have hbgm : ∀ x, x = b ∨ x = g ∨ x = m → w.heap.size ≤ x := by rintro x (rfl | rfl | rfl) <;> assumption
  simp only [Pu_some, extV_0, extV_1, extV_2, extV_3, nilV_ptr, nilV_fn, faV_ptr, lenV_sl, lenS_s, capV_sl, pickV_t, pickV_f, unV_not, unV_neg, isB_t, isB_f, isB_u, binV_add, binV_sub, binV_mul, binV_eql, binV_neq, binV_lss, binV_leq, binV_gtr, binV_geq, binV_seql, binV_sneq, binV_slss, binV_beql, binV_bneq, binV_peql, binV_pneq, add_add, add_none, Go.Al.add_zero, Nat.zero_add, Nat.add_zero, IfB_t, IfB_f, Gd_t, Gd_f, Ld_ptr, LdN_ptr, Option.isNone_some, Option.isNone_none, Option.isSome_some, Option.isSome_none, Bool.not_true, Bool.not_false, drew_cell, drew_heap, bne_self_eq_false]
  refine (fill_spec w1 8).mono ?_
  rintro _ w2 ⟨rfl, hf2⟩
  refine (fill_spec w2 16).mono ?_
  rintro _ w3 ⟨rfl, hf3⟩
  have ha := fillB_len 8
  have hbl := fillB_len 16
  generalize fillB 8 = x at ha
  generalize fillB 16 = y at hbl
  have hD3 := (hD.keep0 hf2).keep0 hf3
  refine (write_spec hD3 1 x (by omega)).mono ?_
  rintro _ w4 ⟨rfl, hD4, hf4⟩
  rw [show (Dk.mk0 (4 : Int).toNat) = Dk.mk0 4 from rfl, aw1 ha] at *
  refine (sync_spec hD4).mono ?_
  rintro _ w5 ⟨rfl, hD5, hf5⟩
  rw [aw2] at *
  have hadd := binV_sadd TypeDesc.string y y (by omega)
  simp only [Pu_some, extV_0, extV_1, extV_2, extV_3, nilV_ptr, nilV_fn, faV_ptr, lenV_sl, lenS_s, capV_sl, pickV_t, pickV_f, unV_not, unV_neg, isB_t, isB_f, isB_u, binV_add, binV_sub, binV_mul, binV_eql, binV_neq, binV_lss, binV_leq, binV_gtr, binV_geq, binV_seql, binV_sneq, binV_slss, binV_beql, binV_bneq, binV_peql, binV_pneq, add_add, add_none, Go.Al.add_zero, Nat.zero_add, Nat.add_zero, IfB_t, IfB_f, Gd_t, Gd_f, Ld_ptr, LdN_ptr, Option.isNone_some, Option.isNone_none, Option.isSome_some, Option.isSome_none, Bool.not_true, Bool.not_false, drew_cell, drew_heap, str_size, str_nil, str_inj, hadd]
  refine (write_spec hD5 1 (y ++ y) (by rw [List.length_append]; omega)).mono ?_
  rintro _ w6 ⟨rfl, hD6, hf6⟩
  rw [aw3 hbl] at *
  refine (acts_spec hD6).mono ?_
  rintro _ w6 ⟨rfl, rfl⟩
  refine RunS_ok (bs34 14 w6) ?_
  have hfa := Fm.alloc (fun _ => False) w6 (.cells #[iv 14] 3)
  have hD6a := hD6.keep0 hfa
  have hlt := hD6.lt
  refine (crash_spec hD6a (L := [14]) (one_cells 14 w6) (fun _ q hq => by cases hq; show w6.heap.size ≠ b ∧ w6.heap.size ≠ g ∧ w6.heap.size ≠ m; omega) (by intro f hf; simp at hf; subst hf; omega)).mono ?_
  rintro _ w7 ⟨rfl, hD7, hf7⟩
  rw [aw4] at *
  refine (read_spec hD7 1 2).mono ?_
  rintro _ w7 ⟨rfl, rfl⟩
  rw [aw5]
  have hadd2 := binV_sadd TypeDesc.string x x (by omega)
  simp only [Pu_some, extV_0, extV_1, extV_2, extV_3, nilV_ptr, nilV_fn, faV_ptr, lenV_sl, lenS_s, capV_sl, pickV_t, pickV_f, unV_not, unV_neg, isB_t, isB_f, isB_u, binV_add, binV_sub, binV_mul, binV_eql, binV_neq, binV_lss, binV_leq, binV_gtr, binV_geq, binV_seql, binV_sneq, binV_slss, binV_beql, binV_bneq, binV_peql, binV_pneq, add_add, add_none, Go.Al.add_zero, Nat.zero_add, Nat.add_zero, IfB_t, IfB_f, Gd_t, Gd_f, Ld_ptr, LdN_ptr, Option.isNone_some, Option.isNone_none, Option.isSome_some, Option.isSome_none, Bool.not_true, Bool.not_false, drew_cell, drew_heap, str_size, str_nil, str_inj, hadd2]
  refine (write_spec hD7 3 (x ++ x) (by rw [List.length_append]; omega)).mono ?_
  rintro _ w8 ⟨rfl, hD8, hf8⟩
  rw [aw6 ha]
  have s1 : slS (stv y) none (some (.int .i64 4)) = some (stv (y.take 4)) := slS_hi (i := 4) (by omega) .i64
  have s2 : slS (stv x) (some (.int .i64 4)) none = some (stv (x.drop 4)) := slS_lo (i := 4) (by omega) .i64
  have s3 := binV_sadd TypeDesc.string (y.take 4) (x.drop 4) (by simp; omega)
  simp only [Pu_some, extV_0, extV_1, extV_2, extV_3, nilV_ptr, nilV_fn, faV_ptr, lenV_sl, lenS_s, capV_sl, pickV_t, pickV_f, unV_not, unV_neg, isB_t, isB_f, isB_u, binV_add, binV_sub, binV_mul, binV_eql, binV_neq, binV_lss, binV_leq, binV_gtr, binV_geq, binV_seql, binV_sneq, binV_slss, binV_beql, binV_bneq, binV_peql, binV_pneq, add_add, add_none, Go.Al.add_zero, Nat.zero_add, Nat.add_zero, IfB_t, IfB_f, Gd_t, Gd_f, Ld_ptr, LdN_ptr, Option.isNone_some, Option.isNone_none, Option.isSome_some, Option.isSome_none, Bool.not_true, Bool.not_false, drew_cell, drew_heap, str_size, str_nil, str_inj, beq_self_eq_true, s1, s2, s3]
  refine RunS_ok (BRow.make B44 _ 64 (by omega)) ?_
  have hfm := Fm.alloc (fun _ => False) w8.drew (.cells (bc (List.replicate 64 0)).toArray 5)
  have hbm : BRow (w8.drew.alloc (.cells (bc (List.replicate 64 0)).toArray 5)) w8.drew.heap.size 5 (List.replicate 64 0) := alloc_new _ _
  generalize w8.drew.alloc (.cells (bc (List.replicate 64 0)).toArray 5) = w9 at hfm hbm
  simp only [Pu_some, extV_0, extV_1, extV_2, extV_3, nilV_ptr, nilV_fn, faV_ptr, lenV_sl, lenS_s, capV_sl, pickV_t, pickV_f, unV_not, unV_neg, isB_t, isB_f, isB_u, binV_add, binV_sub, binV_mul, binV_eql, binV_neq, binV_lss, binV_leq, binV_gtr, binV_geq, binV_seql, binV_sneq, binV_slss, binV_beql, binV_bneq, binV_peql, binV_pneq, add_add, add_none, Go.Al.add_zero, Nat.zero_add, Nat.add_zero, IfB_t, IfB_f, Gd_t, Gd_f, Ld_ptr, LdN_ptr, Option.isNone_some, Option.isNone_none, Option.isSome_some, Option.isSome_none, Bool.not_true, Bool.not_false, drew_cell, drew_heap]
  refine RunS_ok (hbm.conv B44 (o := 0) (n := 64) (by simp) _) ⟨rfl, ?_⟩
  have s4 := binV_sadd TypeDesc.string (y.take 4 ++ x.drop 4) (((List.replicate 64 0).drop 0).take 64) (by simp; omega)
  have s5 : (((List.replicate 64 0).drop 0).take 64 : Bs) = Dk.zsec := rfl
  rw [s5] at s4 ⊢
  simp only [Pu_some, extV_0, extV_1, extV_2, extV_3, nilV_ptr, nilV_fn, faV_ptr, lenV_sl, lenS_s, capV_sl, pickV_t, pickV_f, unV_not, unV_neg, isB_t, isB_f, isB_u, binV_add, binV_sub, binV_mul, binV_eql, binV_neq, binV_lss, binV_leq, binV_gtr, binV_geq, binV_seql, binV_sneq, binV_slss, binV_beql, binV_bneq, binV_peql, binV_pneq, add_add, add_none, Go.Al.add_zero, Nat.zero_add, Nat.add_zero, IfB_t, IfB_f, Gd_t, Gd_f, Ld_ptr, LdN_ptr, Option.isNone_some, Option.isNone_none, Option.isSome_some, Option.isSome_none, Bool.not_true, Bool.not_false, drew_cell, drew_heap, str_size, str_nil, str_inj, s4, decide_true, beq_self_eq_true]
  refine ⟨(by trivial), ?_⟩
  have F3 := Fmf (Fmf hf1 hf2) hf3
  exact Fmf (Fmf (Fm.own (Fm.own (Fmf (Fm.own (Fm.own (Fm.own F3 hf4 hbgm) hf5 hbgm) hf6 hbgm) hfa) hf7 hbgm) hf8 hbgm) (Fm.drew _ w8)) hfm

end Go.Proofs.Ythgdinjgdjiknaa
