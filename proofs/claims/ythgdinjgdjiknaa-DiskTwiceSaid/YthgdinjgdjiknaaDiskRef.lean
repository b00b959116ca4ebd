/- What the document's answer for layer 2 does. -/
import Derived.Test.YthgdinjgdjiknaaDiskAwake
namespace Go.Proofs.Ythgdinjgdjiknaa
open Go.Al Go.Proofs
set_option linter.unusedVariables false
set_option linter.unusedSimpArgs false
set_option linter.unusedSectionVars false

theorem E45 : ElemT Try.prog 45 9 1 16 := elemT_of Try.underlying45 (by kernel_rfl)
theorem E57 : ElemT Try.prog 57 4 1 1 := elemT_of Try.underlying57 (by kernel_rfl)
theorem E34 : ElemT Try.prog 34 3 1 8 := elemT_of Try.underlying34 (by kernel_rfl)
theorem bs45 (p : Bs) (w : World) : (Instr.buildSlice 45 1 #[(0, stv p)]).run Try.prog w = .ok (.slice (some ⟨w.heap.size, 0, none⟩) 1 1) (w.alloc (.cells #[stv p] 9)) := by kernel_rfl
theorem bs57 (p : Bool) (w : World) : (Instr.buildSlice 57 1 #[(0, .bool p)]).run Try.prog w = .ok (.slice (some ⟨w.heap.size, 0, none⟩) 1 1) (w.alloc (.cells #[.bool p] 4)) := by kernel_rfl
theorem bld122 (w : World) : (Instr.build 122 #[]).run Try.prog w = .ok (.agg #[.slice none 0 0, .slice none 0 0, .slice none 0 0, iv 0, .bool false, iv 0]) w := by kernel_rfl

/-- Where a reference disk's lists lie, and their room. -/
structure RB where
  o : Nat
  n : Nat
  c : Nat
  co : Nat
  cn : Nat
  cc : Nat
/-- A disk of the reference. -/
structure RAt (w : World) (b : Nat) (q : RB) (d : Dk) : Prop where
  st : w.heap[b]? = some (.cells #[.slice (some ⟨q.o, 0, none⟩) d.old.length q.co, .slice (some ⟨q.n, 0, none⟩) d.cur.length q.cn, .slice (some ⟨q.c, 0, none⟩) d.chg.length q.cc, iv d.armed, .bool d.gone, iv d.done] 122)
  ro : PRow w q.o 9 (d.old.map stv)
  rn : PRow w q.n 9 (d.cur.map stv)
  rc : PRow w q.c 4 (d.chg.map Value.bool)
  ne : b ≠ q.o ∧ b ≠ q.n ∧ b ≠ q.c ∧ q.o ≠ q.n ∧ q.o ≠ q.c ∧ q.n ≠ q.c
def RB.mine (b : Nat) (q : RB) (x : Nat) : Prop := x = b ∨ x = q.o ∨ x = q.n ∨ x = q.c
theorem RAt.keep {S : Nat → Prop} {w w' : World} {b : Nat} {q : RB} {d : Dk} (h : RAt w b q d) (hf : Fm S w w') (h1 : ∀ x, q.mine b x → ¬ S x) : RAt w' b q d :=
  ⟨hf.heap h.st (h1 _ (.inl rfl)), h.ro.keep hf (h1 _ (.inr (.inl rfl))), h.rn.keep hf (h1 _ (.inr (.inr (.inl rfl)))), h.rc.keep hf (h1 _ (.inr (.inr (.inr rfl)))), h.ne⟩
theorem RAt.keep0 {w w' : World} {b : Nat} {q : RB} {d : Dk} (h : RAt w b q d) (hf : Fm (fun _ => False) w w') : RAt w' b q d := h.keep hf fun _ _ e => e
theorem RAt.lt {w : World} {b : Nat} {q : RB} {d : Dk} (h : RAt w b q d) : ∀ x, q.mine b x → x < w.heap.size := by
  rintro x (rfl | rfl | rfl | rfl)
  · exact lt_of_heap h.st
  · exact h.ro.lt
  · exact h.rn.lt
  · exact h.rc.lt
section
variable {w : World} {b : Nat} {q : RB} {d : Dk} (h : RAt w b q d)
include h
theorem RAt.c0 : w.cell? ⟨b, 0, none⟩ = some (.slice (some ⟨q.o, 0, none⟩) d.old.length q.co) := by rw [cell_at h.st]; rfl
theorem RAt.c1 : w.cell? ⟨b, 1, none⟩ = some (.slice (some ⟨q.n, 0, none⟩) d.cur.length q.cn) := by rw [cell_at h.st]; rfl
theorem RAt.c2 : w.cell? ⟨b, 2, none⟩ = some (.slice (some ⟨q.c, 0, none⟩) d.chg.length q.cc) := by rw [cell_at h.st]; rfl
theorem RAt.c3 : w.cell? ⟨b, 3, none⟩ = some (iv d.armed) := by rw [cell_at h.st]; rfl
theorem RAt.c4 : w.cell? ⟨b, 4, none⟩ = some (.bool d.gone) := by rw [cell_at h.st]; rfl
theorem RAt.c5 : w.cell? ⟨b, 5, none⟩ = some (iv d.done) := by rw [cell_at h.st]; rfl
theorem RAt.drew : RAt w.drew b q d := h.keep0 (Fm.drew _ w)
/-- Old[i] = x. -/
theorem RAt.putO {i : Nat} (hi : i < d.old.length) (x : Bs) {k : KV} (hk : ∀ w', RAt w' b q { d with old := d.old.set i x } → Fm (q.mine b) w w' → k undef w') : St 1 w (.pointer (some ⟨q.o, i, none⟩)) (stv x) k := by
  refine h.ro.put (by simpa using hi) rfl fun w' h1 _ h3 => hk w' ?_ (h3.mono fun _ _ e => .inr (.inl e))
  rw [← List.map_set] at h1
  obtain ⟨n1, n2, n3, n4, n5, n6⟩ := h.ne
  exact ⟨by simpa using h3.heap h.st n1, h1, h.rn.keep h3 (fun e => n4 e.symm), h.rc.keep h3 (fun e => n5 e.symm), h.ne⟩
theorem RAt.putN {i : Nat} (hi : i < d.cur.length) (x : Bs) {k : KV} (hk : ∀ w', RAt w' b q { d with cur := d.cur.set i x } → Fm (q.mine b) w w' → k undef w') : St 1 w (.pointer (some ⟨q.n, i, none⟩)) (stv x) k := by
  refine h.rn.put (by simpa using hi) rfl fun w' h1 _ h3 => hk w' ?_ (h3.mono fun _ _ e => .inr (.inr (.inl e)))
  rw [← List.map_set] at h1
  obtain ⟨n1, n2, n3, n4, n5, n6⟩ := h.ne
  exact ⟨by simpa using h3.heap h.st n2, h.ro.keep h3 n4, h1, h.rc.keep h3 (fun e => n6 e.symm), h.ne⟩
theorem RAt.putC {i : Nat} (hi : i < d.chg.length) (x : Bool) {k : KV} (hk : ∀ w', RAt w' b q { d with chg := d.chg.set i x } → Fm (q.mine b) w w' → k undef w') : St 1 w (.pointer (some ⟨q.c, i, none⟩)) (.bool x) k := by
  refine h.rc.put (by simpa using hi) rfl fun w' h1 _ h3 => hk w' ?_ (h3.mono fun _ _ e => .inr (.inr (.inr e)))
  rw [← List.map_set] at h1
  obtain ⟨n1, n2, n3, n4, n5, n6⟩ := h.ne
  exact ⟨by simpa using h3.heap h.st n3, h.ro.keep h3 n5, h.rn.keep h3 n6, h1, h.ne⟩
theorem RAt.putA (x : Int) {k : KV} (hk : ∀ w', RAt w' b q { d with armed := x } → Fm (q.mine b) w w' → k undef w') : St 1 w (.pointer (some ⟨b, 3, none⟩)) (iv x) k := by
  refine St_blk h.st (by simp) rfl fun w' h1 _ h3 => hk w' ?_ (h3.mono fun _ _ e => .inl e)
  obtain ⟨n1, n2, n3, n4, n5, n6⟩ := h.ne
  exact ⟨h1, h.ro.keep h3 (fun e => n1 e.symm), h.rn.keep h3 (fun e => n2 e.symm), h.rc.keep h3 (fun e => n3 e.symm), h.ne⟩
theorem RAt.putG (x : Bool) {k : KV} (hk : ∀ w', RAt w' b q { d with gone := x } → Fm (q.mine b) w w' → k undef w') : St 1 w (.pointer (some ⟨b, 4, none⟩)) (.bool x) k := by
  refine St_blk h.st (by simp) rfl fun w' h1 _ h3 => hk w' ?_ (h3.mono fun _ _ e => .inl e)
  obtain ⟨n1, n2, n3, n4, n5, n6⟩ := h.ne
  exact ⟨h1, h.ro.keep h3 (fun e => n1 e.symm), h.rn.keep h3 (fun e => n2 e.symm), h.rc.keep h3 (fun e => n3 e.symm), h.ne⟩
theorem RAt.putD (x : Int) {k : KV} (hk : ∀ w', RAt w' b q { d with done := x } → Fm (q.mine b) w w' → k undef w') : St 1 w (.pointer (some ⟨b, 5, none⟩)) (iv x) k := by
  refine St_blk h.st (by simp) rfl fun w' h1 _ h3 => hk w' ?_ (h3.mono fun _ _ e => .inl e)
  obtain ⟨n1, n2, n3, n4, n5, n6⟩ := h.ne
  exact ⟨h1, h.ro.keep h3 (fun e => n1 e.symm), h.rn.keep h3 (fun e => n2 e.symm), h.rc.keep h3 (fun e => n3 e.symm), h.ne⟩
theorem RAt.cellO {i : Nat} {x : Bs} (hi : d.old[i]? = some x) : w.cell? ⟨q.o, i, none⟩ = some (stv x) := h.ro.cell (by rw [List.getElem?_map, hi]; rfl)
theorem RAt.cellN {i : Nat} {x : Bs} (hi : d.cur[i]? = some x) : w.cell? ⟨q.n, i, none⟩ = some (stv x) := h.rn.cell (by rw [List.getElem?_map, hi]; rfl)
theorem RAt.cellC {i : Nat} {x : Bool} (hi : d.chg[i]? = some x) : w.cell? ⟨q.c, i, none⟩ = some (.bool x) := h.rc.cell (by rw [List.getElem?_map, hi]; rfl)

theorem rhas_spec (hw : d.Wf) (a k : Int) : Cl Try.prog 102 [pv b, iv a, iv k] w fun v w' => v = .bool (d.has a k) ∧ w' = w := by
  have hn := hw.n1
  have hlo := hw.lo
  refine c102 ?_; unfold T102
  unfold Dk.has
  by_cases h1 : 0 ≤ a
  · have e1 : decide (0 ≤ a) = true := by simpa using h1
    by_cases h2 : 0 ≤ k
    · have e2 : decide (0 ≤ k) = true := by simpa using h2
      by_cases h3 : a ≤ d.cur.length
      · have e3 : decide (a ≤ (d.old.length : Int)) = true := by simp; omega
        have e4 : IntKind.i64.wrap ((d.old.length : Int) - a) = d.old.length - a := wrap_id (by omega)
        simp only [Pu_some, extV_0, extV_1, extV_2, extV_3, nilV_ptr, nilV_fn, faV_ptr, lenV_sl, lenS_s, capV_sl, pickV_t, pickV_f, unV_not, unV_neg, isB_t, isB_f, isB_u, binV_add, binV_sub, binV_mul, binV_eql, binV_neq, binV_lss, binV_leq, binV_gtr, binV_geq, binV_seql, binV_sneq, binV_slss, binV_beql, binV_bneq, binV_peql, binV_pneq, add_add, add_none, Go.Al.add_zero, Nat.zero_add, Nat.add_zero, IfB_t, IfB_f, Gd_t, Gd_f, Ld_ptr, LdN_ptr, Option.isNone_some, Option.isNone_none, Option.isSome_some, Option.isSome_none, Bool.not_true, Bool.not_false, drew_cell, drew_heap, e1, e2, h.c0, e3, e4]
        refine ⟨?_, (by trivial)⟩
        congr 1
        rw [hlo]
        simp [h1, h2, h3]
      · have e3 : decide (a ≤ (d.old.length : Int)) = false := by simp; omega
        simp only [Pu_some, extV_0, extV_1, extV_2, extV_3, nilV_ptr, nilV_fn, faV_ptr, lenV_sl, lenS_s, capV_sl, pickV_t, pickV_f, unV_not, unV_neg, isB_t, isB_f, isB_u, binV_add, binV_sub, binV_mul, binV_eql, binV_neq, binV_lss, binV_leq, binV_gtr, binV_geq, binV_seql, binV_sneq, binV_slss, binV_beql, binV_bneq, binV_peql, binV_pneq, add_add, add_none, Go.Al.add_zero, Nat.zero_add, Nat.add_zero, IfB_t, IfB_f, Gd_t, Gd_f, Ld_ptr, LdN_ptr, Option.isNone_some, Option.isNone_none, Option.isSome_some, Option.isSome_none, Bool.not_true, Bool.not_false, drew_cell, drew_heap, e1, e2, h.c0, e3]
        refine ⟨?_, (by trivial)⟩
        congr 1
        symm
        rw [decide_eq_false_iff_not]; omega
    · have e2 : decide (0 ≤ k) = false := by simpa using h2
      simp only [Pu_some, extV_0, extV_1, extV_2, extV_3, nilV_ptr, nilV_fn, faV_ptr, lenV_sl, lenS_s, capV_sl, pickV_t, pickV_f, unV_not, unV_neg, isB_t, isB_f, isB_u, binV_add, binV_sub, binV_mul, binV_eql, binV_neq, binV_lss, binV_leq, binV_gtr, binV_geq, binV_seql, binV_sneq, binV_slss, binV_beql, binV_bneq, binV_peql, binV_pneq, add_add, add_none, Go.Al.add_zero, Nat.zero_add, Nat.add_zero, IfB_t, IfB_f, Gd_t, Gd_f, Ld_ptr, LdN_ptr, Option.isNone_some, Option.isNone_none, Option.isSome_some, Option.isSome_none, Bool.not_true, Bool.not_false, drew_cell, drew_heap, e1, e2]
      refine ⟨?_, (by trivial)⟩
      congr 1
      symm
      rw [decide_eq_false_iff_not]; omega
  · have e1 : decide (0 ≤ a) = false := by simpa using h1
    simp only [Pu_some, extV_0, extV_1, extV_2, extV_3, nilV_ptr, nilV_fn, faV_ptr, lenV_sl, lenS_s, capV_sl, pickV_t, pickV_f, unV_not, unV_neg, isB_t, isB_f, isB_u, binV_add, binV_sub, binV_mul, binV_eql, binV_neq, binV_lss, binV_leq, binV_gtr, binV_geq, binV_seql, binV_sneq, binV_slss, binV_beql, binV_bneq, binV_peql, binV_pneq, add_add, add_none, Go.Al.add_zero, Nat.zero_add, Nat.add_zero, IfB_t, IfB_f, Gd_t, Gd_f, Ld_ptr, LdN_ptr, Option.isNone_some, Option.isNone_none, Option.isSome_some, Option.isSome_none, Bool.not_true, Bool.not_false, drew_cell, drew_heap, e1]
    refine ⟨?_, (by trivial)⟩
    congr 1
    symm
    rw [decide_eq_false_iff_not]; omega

theorem ract_spec (hw : d.Wf) : Cl Try.prog 103 [pv b] w fun v w' => v = .bool d.tick.gone ∧ RAt w' b q d.tick ∧ Fm (q.mine b) w w' := by
  have har := hw.ar
  refine c103 ?_; unfold T103
  simp only [Pu_some, extV_0, extV_1, extV_2, extV_3, nilV_ptr, nilV_fn, faV_ptr, lenV_sl, lenS_s, capV_sl, pickV_t, pickV_f, unV_not, unV_neg, isB_t, isB_f, isB_u, binV_add, binV_sub, binV_mul, binV_eql, binV_neq, binV_lss, binV_leq, binV_gtr, binV_geq, binV_seql, binV_sneq, binV_slss, binV_beql, binV_bneq, binV_peql, binV_pneq, add_add, add_none, Go.Al.add_zero, Nat.zero_add, Nat.add_zero, IfB_t, IfB_f, Gd_t, Gd_f, Ld_ptr, LdN_ptr, Option.isNone_some, Option.isNone_none, Option.isSome_some, Option.isSome_none, Bool.not_true, Bool.not_false, drew_cell, drew_heap, h.c5]
  refine h.putD _ ?_
  intro w1 h1 hf1
  refine Jn_at (fun vs w2 => vs = [] ∧ RAt w2 b q d.tick ∧ Fm (q.mine b) w w2) ?_ ?_
  · rintro _ w2 ⟨rfl, hD, hf⟩ _
    refine ⟨rfl, ?_⟩
    simp only [Pu_some, extV_0, extV_1, extV_2, extV_3, nilV_ptr, nilV_fn, faV_ptr, lenV_sl, lenS_s, capV_sl, pickV_t, pickV_f, unV_not, unV_neg, isB_t, isB_f, isB_u, binV_add, binV_sub, binV_mul, binV_eql, binV_neq, binV_lss, binV_leq, binV_gtr, binV_geq, binV_seql, binV_sneq, binV_slss, binV_beql, binV_bneq, binV_peql, binV_pneq, add_add, add_none, Go.Al.add_zero, Nat.zero_add, Nat.add_zero, IfB_t, IfB_f, Gd_t, Gd_f, Ld_ptr, LdN_ptr, Option.isNone_some, Option.isNone_none, Option.isSome_some, Option.isSome_none, Bool.not_true, Bool.not_false, drew_cell, drew_heap, hD.c4]
    exact ⟨(by trivial), hD, hf⟩
  · intro kk hkk
    simp only [Pu_some, extV_0, extV_1, extV_2, extV_3, nilV_ptr, nilV_fn, faV_ptr, lenV_sl, lenS_s, capV_sl, pickV_t, pickV_f, unV_not, unV_neg, isB_t, isB_f, isB_u, binV_add, binV_sub, binV_mul, binV_eql, binV_neq, binV_lss, binV_leq, binV_gtr, binV_geq, binV_seql, binV_sneq, binV_slss, binV_beql, binV_bneq, binV_peql, binV_pneq, add_add, add_none, Go.Al.add_zero, Nat.zero_add, Nat.add_zero, IfB_t, IfB_f, Gd_t, Gd_f, Ld_ptr, LdN_ptr, Option.isNone_some, Option.isNone_none, Option.isSome_some, Option.isSome_none, Bool.not_true, Bool.not_false, drew_cell, drew_heap, h1.c3]
    by_cases ha : 0 < d.armed
    · have e1 : decide (0 < d.armed) = true := by simpa using ha
      have e2 : IntKind.i64.wrap (d.armed - 1) = d.armed - 1 := wrap_id (by omega)
      simp only [Pu_some, extV_0, extV_1, extV_2, extV_3, nilV_ptr, nilV_fn, faV_ptr, lenV_sl, lenS_s, capV_sl, pickV_t, pickV_f, unV_not, unV_neg, isB_t, isB_f, isB_u, binV_add, binV_sub, binV_mul, binV_eql, binV_neq, binV_lss, binV_leq, binV_gtr, binV_geq, binV_seql, binV_sneq, binV_slss, binV_beql, binV_bneq, binV_peql, binV_pneq, add_add, add_none, Go.Al.add_zero, Nat.zero_add, Nat.add_zero, IfB_t, IfB_f, Gd_t, Gd_f, Ld_ptr, LdN_ptr, Option.isNone_some, Option.isNone_none, Option.isSome_some, Option.isSome_none, Bool.not_true, Bool.not_false, drew_cell, drew_heap, e1, e2]
      refine h1.putA _ ?_
      intro w2 h2 hf2
      simp only [Pu_some, extV_0, extV_1, extV_2, extV_3, nilV_ptr, nilV_fn, faV_ptr, lenV_sl, lenS_s, capV_sl, pickV_t, pickV_f, unV_not, unV_neg, isB_t, isB_f, isB_u, binV_add, binV_sub, binV_mul, binV_eql, binV_neq, binV_lss, binV_leq, binV_gtr, binV_geq, binV_seql, binV_sneq, binV_slss, binV_beql, binV_bneq, binV_peql, binV_pneq, add_add, add_none, Go.Al.add_zero, Nat.zero_add, Nat.add_zero, IfB_t, IfB_f, Gd_t, Gd_f, Ld_ptr, LdN_ptr, Option.isNone_some, Option.isNone_none, Option.isSome_some, Option.isSome_none, Bool.not_true, Bool.not_false, drew_cell, drew_heap, h2.c3]
      refine h2.putG _ ?_
      intro w3 h3 hf3
      refine hkk _ _ ⟨rfl, ?_, (hf1.trans hf2 (fun _ _ e => e) (fun _ _ e => e)).trans hf3 (fun _ _ e => e) (fun _ _ e => e)⟩
      unfold Dk.tick
      rw [if_pos ha]
      rw [beq_dec] at h3
      exact h3
    · have e1 : decide (0 < d.armed) = false := by simpa using ha
      simp only [Pu_some, extV_0, extV_1, extV_2, extV_3, nilV_ptr, nilV_fn, faV_ptr, lenV_sl, lenS_s, capV_sl, pickV_t, pickV_f, unV_not, unV_neg, isB_t, isB_f, isB_u, binV_add, binV_sub, binV_mul, binV_eql, binV_neq, binV_lss, binV_leq, binV_gtr, binV_geq, binV_seql, binV_sneq, binV_slss, binV_beql, binV_bneq, binV_peql, binV_pneq, add_add, add_none, Go.Al.add_zero, Nat.zero_add, Nat.add_zero, IfB_t, IfB_f, Gd_t, Gd_f, Ld_ptr, LdN_ptr, Option.isNone_some, Option.isNone_none, Option.isSome_some, Option.isSome_none, Bool.not_true, Bool.not_false, drew_cell, drew_heap, e1]
      refine hkk _ _ ⟨rfl, ?_, hf1⟩
      unfold Dk.tick
      rw [if_neg ha]
      exact h1

theorem rarm_spec {a : Int} : Cl Try.prog 62 [pv b, iv a] w fun v w' => v = iv (d.arm a).2 ∧ RAt w' b q (d.arm a).1 ∧ Fm (q.mine b) w w' := by
  refine c62 ?_; unfold T62
  unfold Dk.arm
  simp only [Pu_some, extV_0, extV_1, extV_2, extV_3, nilV_ptr, nilV_fn, faV_ptr, lenV_sl, lenS_s, capV_sl, pickV_t, pickV_f, unV_not, unV_neg, isB_t, isB_f, isB_u, binV_add, binV_sub, binV_mul, binV_eql, binV_neq, binV_lss, binV_leq, binV_gtr, binV_geq, binV_seql, binV_sneq, binV_slss, binV_beql, binV_bneq, binV_peql, binV_pneq, add_add, add_none, Go.Al.add_zero, Nat.zero_add, Nat.add_zero, IfB_t, IfB_f, Gd_t, Gd_f, Ld_ptr, LdN_ptr, Option.isNone_some, Option.isNone_none, Option.isSome_some, Option.isSome_none, Bool.not_true, Bool.not_false, drew_cell, drew_heap, h.c4]
  cases hg : d.gone with
  | true =>
    simp only [Pu_some, extV_0, extV_1, extV_2, extV_3, nilV_ptr, nilV_fn, faV_ptr, lenV_sl, lenS_s, capV_sl, pickV_t, pickV_f, unV_not, unV_neg, isB_t, isB_f, isB_u, binV_add, binV_sub, binV_mul, binV_eql, binV_neq, binV_lss, binV_leq, binV_gtr, binV_geq, binV_seql, binV_sneq, binV_slss, binV_beql, binV_bneq, binV_peql, binV_pneq, add_add, add_none, Go.Al.add_zero, Nat.zero_add, Nat.add_zero, IfB_t, IfB_f, Gd_t, Gd_f, Ld_ptr, LdN_ptr, Option.isNone_some, Option.isNone_none, Option.isSome_some, Option.isSome_none, Bool.not_true, Bool.not_false, drew_cell, drew_heap, cond_true]
    exact ⟨(by trivial), h, Fm.refl _ _⟩
  | false =>
    simp only [Pu_some, extV_0, extV_1, extV_2, extV_3, nilV_ptr, nilV_fn, faV_ptr, lenV_sl, lenS_s, capV_sl, pickV_t, pickV_f, unV_not, unV_neg, isB_t, isB_f, isB_u, binV_add, binV_sub, binV_mul, binV_eql, binV_neq, binV_lss, binV_leq, binV_gtr, binV_geq, binV_seql, binV_sneq, binV_slss, binV_beql, binV_bneq, binV_peql, binV_pneq, add_add, add_none, Go.Al.add_zero, Nat.zero_add, Nat.add_zero, IfB_t, IfB_f, Gd_t, Gd_f, Ld_ptr, LdN_ptr, Option.isNone_some, Option.isNone_none, Option.isSome_some, Option.isSome_none, Bool.not_true, Bool.not_false, drew_cell, drew_heap, cond_false]
    by_cases hn : a < 0
    · have e1 : decide (a < 0) = true := by simpa using hn
      simp only [Pu_some, extV_0, extV_1, extV_2, extV_3, nilV_ptr, nilV_fn, faV_ptr, lenV_sl, lenS_s, capV_sl, pickV_t, pickV_f, unV_not, unV_neg, isB_t, isB_f, isB_u, binV_add, binV_sub, binV_mul, binV_eql, binV_neq, binV_lss, binV_leq, binV_gtr, binV_geq, binV_seql, binV_sneq, binV_slss, binV_beql, binV_bneq, binV_peql, binV_pneq, add_add, add_none, Go.Al.add_zero, Nat.zero_add, Nat.add_zero, IfB_t, IfB_f, Gd_t, Gd_f, Ld_ptr, LdN_ptr, Option.isNone_some, Option.isNone_none, Option.isSome_some, Option.isSome_none, Bool.not_true, Bool.not_false, drew_cell, drew_heap, e1, cond_true]
      exact ⟨(by trivial), h, Fm.refl _ _⟩
    · have e1 : decide (a < 0) = false := by simpa using hn
      simp only [Pu_some, extV_0, extV_1, extV_2, extV_3, nilV_ptr, nilV_fn, faV_ptr, lenV_sl, lenS_s, capV_sl, pickV_t, pickV_f, unV_not, unV_neg, isB_t, isB_f, isB_u, binV_add, binV_sub, binV_mul, binV_eql, binV_neq, binV_lss, binV_leq, binV_gtr, binV_geq, binV_seql, binV_sneq, binV_slss, binV_beql, binV_bneq, binV_peql, binV_pneq, add_add, add_none, Go.Al.add_zero, Nat.zero_add, Nat.add_zero, IfB_t, IfB_f, Gd_t, Gd_f, Ld_ptr, LdN_ptr, Option.isNone_some, Option.isNone_none, Option.isSome_some, Option.isSome_none, Bool.not_true, Bool.not_false, drew_cell, drew_heap, e1, cond_false]
      refine h.putA _ ?_
      intro w1 h1 hf1
      exact ⟨(by trivial), by rw [← hg]; exact h1, hf1⟩

theorem rread_spec (hw : d.Wf) (a k : Int) : Cl Try.prog 61 [pv b, iv a, iv k] w fun v w' => v = .tuple #[stv (d.read a k).1, iv (d.read a k).2] ∧ Fm (fun _ => False) w w' := by
  have hn := hw.n1
  refine c61 ?_; unfold T61
  unfold Dk.read
  simp only [Pu_some, extV_0, extV_1, extV_2, extV_3, nilV_ptr, nilV_fn, faV_ptr, lenV_sl, lenS_s, capV_sl, pickV_t, pickV_f, unV_not, unV_neg, isB_t, isB_f, isB_u, binV_add, binV_sub, binV_mul, binV_eql, binV_neq, binV_lss, binV_leq, binV_gtr, binV_geq, binV_seql, binV_sneq, binV_slss, binV_beql, binV_bneq, binV_peql, binV_pneq, add_add, add_none, Go.Al.add_zero, Nat.zero_add, Nat.add_zero, IfB_t, IfB_f, Gd_t, Gd_f, Ld_ptr, LdN_ptr, Option.isNone_some, Option.isNone_none, Option.isSome_some, Option.isSome_none, Bool.not_true, Bool.not_false, drew_cell, drew_heap, h.c4]
  cases hg : d.gone with
  | true =>
    simp only [Pu_some, extV_0, extV_1, extV_2, extV_3, nilV_ptr, nilV_fn, faV_ptr, lenV_sl, lenS_s, capV_sl, pickV_t, pickV_f, unV_not, unV_neg, isB_t, isB_f, isB_u, binV_add, binV_sub, binV_mul, binV_eql, binV_neq, binV_lss, binV_leq, binV_gtr, binV_geq, binV_seql, binV_sneq, binV_slss, binV_beql, binV_bneq, binV_peql, binV_pneq, add_add, add_none, Go.Al.add_zero, Nat.zero_add, Nat.add_zero, IfB_t, IfB_f, Gd_t, Gd_f, Ld_ptr, LdN_ptr, Option.isNone_some, Option.isNone_none, Option.isSome_some, Option.isSome_none, Bool.not_true, Bool.not_false, drew_cell, drew_heap, cond_true]
    exact ⟨(by trivial), Fm.refl _ _⟩
  | false =>
    simp only [Pu_some, extV_0, extV_1, extV_2, extV_3, nilV_ptr, nilV_fn, faV_ptr, lenV_sl, lenS_s, capV_sl, pickV_t, pickV_f, unV_not, unV_neg, isB_t, isB_f, isB_u, binV_add, binV_sub, binV_mul, binV_eql, binV_neq, binV_lss, binV_leq, binV_gtr, binV_geq, binV_seql, binV_sneq, binV_slss, binV_beql, binV_bneq, binV_peql, binV_pneq, add_add, add_none, Go.Al.add_zero, Nat.zero_add, Nat.add_zero, IfB_t, IfB_f, Gd_t, Gd_f, Ld_ptr, LdN_ptr, Option.isNone_some, Option.isNone_none, Option.isSome_some, Option.isSome_none, Bool.not_true, Bool.not_false, drew_cell, drew_heap, cond_false]
    refine (rhas_spec h hw a k).mono ?_
    rintro _ w ⟨rfl, rfl⟩
    cases hh : d.has a k with
    | false =>
      simp only [Pu_some, extV_0, extV_1, extV_2, extV_3, nilV_ptr, nilV_fn, faV_ptr, lenV_sl, lenS_s, capV_sl, pickV_t, pickV_f, unV_not, unV_neg, isB_t, isB_f, isB_u, binV_add, binV_sub, binV_mul, binV_eql, binV_neq, binV_lss, binV_leq, binV_gtr, binV_geq, binV_seql, binV_sneq, binV_slss, binV_beql, binV_bneq, binV_peql, binV_pneq, add_add, add_none, Go.Al.add_zero, Nat.zero_add, Nat.add_zero, IfB_t, IfB_f, Gd_t, Gd_f, Ld_ptr, LdN_ptr, Option.isNone_some, Option.isNone_none, Option.isSome_some, Option.isSome_none, Bool.not_true, Bool.not_false, drew_cell, drew_heap, cond_true]
      exact ⟨(by trivial), Fm.refl _ _⟩
    | true =>
      unfold Dk.has at hh
      simp only [decide_eq_true_eq] at hh
      obtain ⟨i, rfl⟩ := Int.eq_ofNat_of_zero_le hh.1
      obtain ⟨j, rfl⟩ := Int.eq_ofNat_of_zero_le hh.2.1
      have hij : i + j ≤ d.cur.length := by omega
      have e1 : IntKind.i64.wrap ((i : Int) + j) = ((i + j : Nat) : Int) := by rw [wrap_id] <;> omega
      simp only [Pu_some, extV_0, extV_1, extV_2, extV_3, nilV_ptr, nilV_fn, faV_ptr, lenV_sl, lenS_s, capV_sl, pickV_t, pickV_f, unV_not, unV_neg, isB_t, isB_f, isB_u, binV_add, binV_sub, binV_mul, binV_eql, binV_neq, binV_lss, binV_leq, binV_gtr, binV_geq, binV_seql, binV_sneq, binV_slss, binV_beql, binV_bneq, binV_peql, binV_pneq, add_add, add_none, Go.Al.add_zero, Nat.zero_add, Nat.add_zero, IfB_t, IfB_f, Gd_t, Gd_f, Ld_ptr, LdN_ptr, Option.isNone_some, Option.isNone_none, Option.isSome_some, Option.isSome_none, Bool.not_true, Bool.not_false, drew_cell, drew_heap, cond_false]
      refine ⟨fun vs w2 => ∃ (p : Nat) (u : Value), vs = [u, iv ((i + p : Nat) : Int)] ∧ p ≤ j ∧ w2.ownsRow w.heap.size 5 1 u (((d.cur.drop i).take p).flatten).length (bc ((d.cur.drop i).take p).flatten) ∧ RAt w2 b q d ∧ Fm (fun _ => False) w w2, fun vs _ => (i + j - nth vs 1).toNat, ⟨0, _, rfl, by omega, by simpa [bc] using World.ownsRow_nil w _ _ _, h, Fm.refl _ _⟩, ?_⟩
      rintro _ w2 u ip ⟨p, _, hvs, hp, hu, h2, hf⟩
      cases hvs
      have hd64 : ∀ x ∈ (d.cur.drop i).take p, x.length = 64 := fun x hx => hw.s1 x (List.mem_of_mem_drop (List.mem_of_mem_take hx))
      have hl : (((d.cur.drop i).take p).flatten).length = 64 * p := by
        rw [Dk.flat_len hd64, List.length_take, List.length_drop]; congr 1; omega
      by_cases hlt : p < j
      · have e2 : decide (((i + p : Nat) : Int) < ((i + j : Nat) : Int)) = true := by rw [decide_eq_true_eq]; omega
        have e3 : IntKind.i64.wrap (((i + p : Nat) : Int) + 1) = ((i + (p + 1) : Nat) : Int) := by rw [wrap_id] <;> omega
        have hip : i + p < d.cur.length := by omega
        have hx : d.cur[i + p]? = some (d.cur.getD (i + p) []) := Dk.getD_eq hip
        have h64 := hw.cur64 hip
        generalize d.cur.getD (i + p) [] = x at hx h64
        have hst : (d.cur.drop i).take (p + 1) = (d.cur.drop i).take p ++ [x] := Dk.take_mid (by rw [List.getElem?_drop]; exact hx)
        simp only [Pu_some, extV_0, extV_1, extV_2, extV_3, nilV_ptr, nilV_fn, faV_ptr, lenV_sl, lenS_s, capV_sl, pickV_t, pickV_f, unV_not, unV_neg, isB_t, isB_f, isB_u, binV_add, binV_sub, binV_mul, binV_eql, binV_neq, binV_lss, binV_leq, binV_gtr, binV_geq, binV_seql, binV_sneq, binV_slss, binV_beql, binV_bneq, binV_peql, binV_pneq, add_add, add_none, Go.Al.add_zero, Nat.zero_add, Nat.add_zero, IfB_t, IfB_f, Gd_t, Gd_f, Ld_ptr, LdN_ptr, Option.isNone_some, Option.isNone_none, Option.isSome_some, Option.isSome_none, Bool.not_true, Bool.not_false, drew_cell, drew_heap, e1, e2, h2.c1, ixV_at hip, Nat.mul_one, h2.cellN hx]
        obtain ⟨v', w3, hr, ho, hf3, _⟩ := append_text B44 hu x 44 (by rw [hl]; omega) hf.size
        refine RunS_ok hr ?_
        have hlt3 := hu.lt
        have hf3' : Fm (fun _ => False) w w3 := Fm.own hf hf3 (fun x hx => (hlt3 x hx).1)
        have h3 := h.keep0 hf3'
        simp only [Pu_some, extV_0, extV_1, extV_2, extV_3, nilV_ptr, nilV_fn, faV_ptr, lenV_sl, lenS_s, capV_sl, pickV_t, pickV_f, unV_not, unV_neg, isB_t, isB_f, isB_u, binV_add, binV_sub, binV_mul, binV_eql, binV_neq, binV_lss, binV_leq, binV_gtr, binV_geq, binV_seql, binV_sneq, binV_slss, binV_beql, binV_bneq, binV_peql, binV_pneq, add_add, add_none, Go.Al.add_zero, Nat.zero_add, Nat.add_zero, IfB_t, IfB_f, Gd_t, Gd_f, Ld_ptr, LdN_ptr, Option.isNone_some, Option.isNone_none, Option.isSome_some, Option.isSome_none, Bool.not_true, Bool.not_false, drew_cell, drew_heap, e3]
        refine ⟨⟨p + 1, _, rfl, by omega, ?_, h3, hf3'⟩, by simp only [nth_1]; omega⟩
        rw [hst, List.flatten_append, List.length_append]
        simpa using ho
      · have hpe : p = j := by omega
        subst hpe
        have e2 : decide (((i + p : Nat) : Int) < ((i + p : Nat) : Int)) = false := by simp
        simp only [Pu_some, extV_0, extV_1, extV_2, extV_3, nilV_ptr, nilV_fn, faV_ptr, lenV_sl, lenS_s, capV_sl, pickV_t, pickV_f, unV_not, unV_neg, isB_t, isB_f, isB_u, binV_add, binV_sub, binV_mul, binV_eql, binV_neq, binV_lss, binV_leq, binV_gtr, binV_geq, binV_seql, binV_sneq, binV_slss, binV_beql, binV_bneq, binV_peql, binV_pneq, add_add, add_none, Go.Al.add_zero, Nat.zero_add, Nat.add_zero, IfB_t, IfB_f, Gd_t, Gd_f, Ld_ptr, LdN_ptr, Option.isNone_some, Option.isNone_none, Option.isSome_some, Option.isSome_none, Bool.not_true, Bool.not_false, drew_cell, drew_heap, e1, e2]
        exact RunS_ok (conv_own B44 hu) ⟨rfl, hf⟩

theorem rwrite_spec (hw : d.Wf) (a : Int) (s : Bs) (hs : s.length ≤ 9223372036854775807) : Cl Try.prog 59 [pv b, iv a, stv s] w fun v w' => v = iv (d.write a s).2 ∧ RAt w' b q (d.write a s).1 ∧ Fm (q.mine b) w w' := by
  have hn := hw.n1
  refine c59 ?_; unfold T59
  unfold Dk.write
  simp only [Pu_some, extV_0, extV_1, extV_2, extV_3, nilV_ptr, nilV_fn, faV_ptr, lenV_sl, lenS_s, capV_sl, pickV_t, pickV_f, unV_not, unV_neg, isB_t, isB_f, isB_u, binV_add, binV_sub, binV_mul, binV_eql, binV_neq, binV_lss, binV_leq, binV_gtr, binV_geq, binV_seql, binV_sneq, binV_slss, binV_beql, binV_bneq, binV_peql, binV_pneq, add_add, add_none, Go.Al.add_zero, Nat.zero_add, Nat.add_zero, IfB_t, IfB_f, Gd_t, Gd_f, Ld_ptr, LdN_ptr, Option.isNone_some, Option.isNone_none, Option.isSome_some, Option.isSome_none, Bool.not_true, Bool.not_false, drew_cell, drew_heap, h.c4]
  cases hg : d.gone with
  | true =>
    simp only [Pu_some, extV_0, extV_1, extV_2, extV_3, nilV_ptr, nilV_fn, faV_ptr, lenV_sl, lenS_s, capV_sl, pickV_t, pickV_f, unV_not, unV_neg, isB_t, isB_f, isB_u, binV_add, binV_sub, binV_mul, binV_eql, binV_neq, binV_lss, binV_leq, binV_gtr, binV_geq, binV_seql, binV_sneq, binV_slss, binV_beql, binV_bneq, binV_peql, binV_pneq, add_add, add_none, Go.Al.add_zero, Nat.zero_add, Nat.add_zero, IfB_t, IfB_f, Gd_t, Gd_f, Ld_ptr, LdN_ptr, Option.isNone_some, Option.isNone_none, Option.isSome_some, Option.isSome_none, Bool.not_true, Bool.not_false, drew_cell, drew_heap, cond_true]
    exact ⟨(by trivial), h, Fm.refl _ _⟩
  | false =>
    have er := rem_nat (TypeDesc.int IntKind.i64) (n := s.length) (m := 64) (b := 64) (by omega) hs rfl
    have eq := quo_nat (TypeDesc.int IntKind.i64) (n := s.length) (m := 64) (b := 64) (by omega) hs rfl
    simp only [Pu_some, extV_0, extV_1, extV_2, extV_3, nilV_ptr, nilV_fn, faV_ptr, lenV_sl, lenS_s, capV_sl, pickV_t, pickV_f, unV_not, unV_neg, isB_t, isB_f, isB_u, binV_add, binV_sub, binV_mul, binV_eql, binV_neq, binV_lss, binV_leq, binV_gtr, binV_geq, binV_seql, binV_sneq, binV_slss, binV_beql, binV_bneq, binV_peql, binV_pneq, add_add, add_none, Go.Al.add_zero, Nat.zero_add, Nat.add_zero, IfB_t, IfB_f, Gd_t, Gd_f, Ld_ptr, LdN_ptr, Option.isNone_some, Option.isNone_none, Option.isSome_some, Option.isSome_none, Bool.not_true, Bool.not_false, drew_cell, drew_heap, str_size, str_nil, str_inj, cond_false, bne_self_eq_false, er]
    by_cases hr : s.length % 64 = 0
    · have e1 : (((s.length % 64 : Nat) : Int) != 0) = false := by rw [hr]; rfl
      have e1' : decide (s.length % 64 ≠ 0) = false := by simp [hr]
      simp only [Pu_some, extV_0, extV_1, extV_2, extV_3, nilV_ptr, nilV_fn, faV_ptr, lenV_sl, lenS_s, capV_sl, pickV_t, pickV_f, unV_not, unV_neg, isB_t, isB_f, isB_u, binV_add, binV_sub, binV_mul, binV_eql, binV_neq, binV_lss, binV_leq, binV_gtr, binV_geq, binV_seql, binV_sneq, binV_slss, binV_beql, binV_bneq, binV_peql, binV_pneq, add_add, add_none, Go.Al.add_zero, Nat.zero_add, Nat.add_zero, IfB_t, IfB_f, Gd_t, Gd_f, Ld_ptr, LdN_ptr, Option.isNone_some, Option.isNone_none, Option.isSome_some, Option.isSome_none, Bool.not_true, Bool.not_false, drew_cell, drew_heap, str_size, str_nil, str_inj, e1, e1', eq, Bool.false_or]
      refine (rhas_spec h hw a _).mono ?_
      rintro _ w ⟨rfl, rfl⟩
      cases hh : d.has a (s.length / 64 : Nat) with
      | false =>
        simp only [Pu_some, extV_0, extV_1, extV_2, extV_3, nilV_ptr, nilV_fn, faV_ptr, lenV_sl, lenS_s, capV_sl, pickV_t, pickV_f, unV_not, unV_neg, isB_t, isB_f, isB_u, binV_add, binV_sub, binV_mul, binV_eql, binV_neq, binV_lss, binV_leq, binV_gtr, binV_geq, binV_seql, binV_sneq, binV_slss, binV_beql, binV_bneq, binV_peql, binV_pneq, add_add, add_none, Go.Al.add_zero, Nat.zero_add, Nat.add_zero, IfB_t, IfB_f, Gd_t, Gd_f, Ld_ptr, LdN_ptr, Option.isNone_some, Option.isNone_none, Option.isSome_some, Option.isSome_none, Bool.not_true, Bool.not_false, drew_cell, drew_heap, cond_true]
        exact ⟨(by trivial), h, Fm.refl _ _⟩
      | true =>
        simp only [Pu_some, extV_0, extV_1, extV_2, extV_3, nilV_ptr, nilV_fn, faV_ptr, lenV_sl, lenS_s, capV_sl, pickV_t, pickV_f, unV_not, unV_neg, isB_t, isB_f, isB_u, binV_add, binV_sub, binV_mul, binV_eql, binV_neq, binV_lss, binV_leq, binV_gtr, binV_geq, binV_seql, binV_sneq, binV_slss, binV_beql, binV_bneq, binV_peql, binV_pneq, add_add, add_none, Go.Al.add_zero, Nat.zero_add, Nat.add_zero, IfB_t, IfB_f, Gd_t, Gd_f, Ld_ptr, LdN_ptr, Option.isNone_some, Option.isNone_none, Option.isSome_some, Option.isSome_none, Bool.not_true, Bool.not_false, drew_cell, drew_heap, cond_false]
        unfold Dk.has at hh
        simp only [decide_eq_true_eq] at hh
        obtain ⟨p, rfl⟩ := Int.eq_ofNat_of_zero_le hh.1
        rw [Int.toNat_natCast]
        have hlen : s.length = 64 * (s.length / 64) := by omega
        generalize hK : s.length / 64 = K at hh hlen eq ⊢
        refine ⟨fun vs w2 => ∃ (i : Nat) (e : Dk), vs = [iv (i : Nat)] ∧ i ≤ K ∧ e.cur.length = d.cur.length ∧ e.Wf ∧ d.wr p (Dk.chunks K s) = e.wr (p + i) (Dk.chunks (K - i) (s.drop (64 * i))) ∧ RAt w2 b q e ∧ Fm (q.mine b) w w2,
          fun vs _ => (K - nth vs 0).toNat, ⟨0, d, rfl, by omega, rfl, hw, rfl, h, Fm.refl _ _⟩, ?_⟩
        rintro _ w2 ii ⟨i, e, hvs, hi, hel, hew, heq, hE, hf⟩
        cases hvs
        simp only [Pu_some, extV_0, extV_1, extV_2, extV_3, nilV_ptr, nilV_fn, faV_ptr, lenV_sl, lenS_s, capV_sl, pickV_t, pickV_f, unV_not, unV_neg, isB_t, isB_f, isB_u, binV_add, binV_sub, binV_mul, binV_eql, binV_neq, binV_lss, binV_leq, binV_gtr, binV_geq, binV_seql, binV_sneq, binV_slss, binV_beql, binV_bneq, binV_peql, binV_pneq, add_add, add_none, Go.Al.add_zero, Nat.zero_add, Nat.add_zero, IfB_t, IfB_f, Gd_t, Gd_f, Ld_ptr, LdN_ptr, Option.isNone_some, Option.isNone_none, Option.isSome_some, Option.isSome_none, Bool.not_true, Bool.not_false, drew_cell, drew_heap, str_size, str_nil, str_inj, eq]
        by_cases hlt : i < K
        · have e2 : decide ((i : Int) < (K : Int)) = true := by rw [decide_eq_true_eq]; omega
          have e3 : IntKind.i64.wrap ((p : Int) + i) = ((p + i : Nat) : Int) := by rw [wrap_id] <;> omega
          have e4 : IntKind.i64.wrap (64 * (i : Int)) = ((64 * i : Nat) : Int) := by rw [wrap_id] <;> omega
          have e5 : IntKind.i64.wrap (((64 * i : Nat) : Int) + 64) = ((64 * i + 64 : Nat) : Int) := by rw [wrap_id] <;> omega
          have e6 := slS_lh (l := s) (i := 64 * i) (j := 64 * i + 64) (by omega) (by omega) .i64 .i64
          rw [show 64 * i + 64 - 64 * i = 64 by omega] at e6
          have hpi : p + i < e.cur.length := by omega
          have hpc : p + i < e.chg.length := by rw [hew.lc]; exact hpi
          obtain ⟨r, hr2⟩ : ∃ r, K - i = r + 1 := ⟨K - i - 1, by omega⟩
          have ht64 : ((s.drop (64 * i)).take 64).length = 64 := by rw [List.length_take, List.length_drop]; omega
          have heq2 : d.wr p (Dk.chunks K s) = (let d' := (e.put (p + i) ((s.drop (64 * i)).take 64)).tick; bif d'.gone then (d', 5) else d'.wr (p + i + 1) (Dk.chunks r (s.drop (64 * (i + 1))))) := by
            rw [heq, hr2]
            show (let d' := (e.put (p + i) ((s.drop (64 * i)).take 64)).tick; bif d'.gone then (d', 5) else d'.wr (p + i + 1) (Dk.chunks r ((s.drop (64 * i)).drop 64))) = _
            rw [List.drop_drop, show 64 * i + 64 = 64 * (i + 1) by omega]
          have hEd := hE.drew
          simp only [Pu_some, extV_0, extV_1, extV_2, extV_3, nilV_ptr, nilV_fn, faV_ptr, lenV_sl, lenS_s, capV_sl, pickV_t, pickV_f, unV_not, unV_neg, isB_t, isB_f, isB_u, binV_add, binV_sub, binV_mul, binV_eql, binV_neq, binV_lss, binV_leq, binV_gtr, binV_geq, binV_seql, binV_sneq, binV_slss, binV_beql, binV_bneq, binV_peql, binV_pneq, add_add, add_none, Go.Al.add_zero, Nat.zero_add, Nat.add_zero, IfB_t, IfB_f, Gd_t, Gd_f, Ld_ptr, LdN_ptr, Option.isNone_some, Option.isNone_none, Option.isSome_some, Option.isSome_none, Bool.not_true, Bool.not_false, drew_cell, drew_heap, str_size, str_nil, str_inj, e2, hE.c1, e3, e4, e5, e6, ixV_at hpi, Nat.mul_one, true_and]
          refine hEd.putN hpi _ ?_
          intro w3 h3 hf3
          have hpc3 : p + i < ({ e with cur := e.cur.set (p + i) ((s.drop (64 * i)).take 64) } : Dk).chg.length := hpc
          simp only [Pu_some, extV_0, extV_1, extV_2, extV_3, nilV_ptr, nilV_fn, faV_ptr, lenV_sl, lenS_s, capV_sl, pickV_t, pickV_f, unV_not, unV_neg, isB_t, isB_f, isB_u, binV_add, binV_sub, binV_mul, binV_eql, binV_neq, binV_lss, binV_leq, binV_gtr, binV_geq, binV_seql, binV_sneq, binV_slss, binV_beql, binV_bneq, binV_peql, binV_pneq, add_add, add_none, Go.Al.add_zero, Nat.zero_add, Nat.add_zero, IfB_t, IfB_f, Gd_t, Gd_f, Ld_ptr, LdN_ptr, Option.isNone_some, Option.isNone_none, Option.isSome_some, Option.isSome_none, Bool.not_true, Bool.not_false, drew_cell, drew_heap, h3.c2, e3, ixV_at hpc3, Nat.mul_one]
          refine h3.putC hpc _ ?_
          intro w4 h4 hf4
          have hput := hew.put (p + i) ht64
          refine (ract_spec (d := e.put (p + i) ((s.drop (64 * i)).take 64)) h4 hput).mono ?_
          rintro _ w5 ⟨rfl, h5, hf5⟩
          have hF : Fm (q.mine b) w w5 := (((hf.trans (Fm.drew (fun _ => False) w2) (U := q.mine b) (fun _ _ e => e) (fun _ _ e => e.elim)).trans hf3 (U := q.mine b) (fun _ _ e => e) (fun _ _ e => e)).trans hf4 (U := q.mine b) (fun _ _ e => e) (fun _ _ e => e)).trans hf5 (fun _ _ e => e) (fun _ _ e => e)
          rw [heq2]
          cases hg5 : (e.put (p + i) ((s.drop (64 * i)).take 64)).tick.gone with
          | true =>
            simp only [Pu_some, extV_0, extV_1, extV_2, extV_3, nilV_ptr, nilV_fn, faV_ptr, lenV_sl, lenS_s, capV_sl, pickV_t, pickV_f, unV_not, unV_neg, isB_t, isB_f, isB_u, binV_add, binV_sub, binV_mul, binV_eql, binV_neq, binV_lss, binV_leq, binV_gtr, binV_geq, binV_seql, binV_sneq, binV_slss, binV_beql, binV_bneq, binV_peql, binV_pneq, add_add, add_none, Go.Al.add_zero, Nat.zero_add, Nat.add_zero, IfB_t, IfB_f, Gd_t, Gd_f, Ld_ptr, LdN_ptr, Option.isNone_some, Option.isNone_none, Option.isSome_some, Option.isSome_none, Bool.not_true, Bool.not_false, drew_cell, drew_heap, hg5, cond_true]
            exact ⟨(by trivial), h5, hF⟩
          | false =>
            have g4 : IntKind.i64.wrap ((i : Int) + 1) = ((i + 1 : Nat) : Int) := by rw [wrap_id] <;> omega
            simp only [Pu_some, extV_0, extV_1, extV_2, extV_3, nilV_ptr, nilV_fn, faV_ptr, lenV_sl, lenS_s, capV_sl, pickV_t, pickV_f, unV_not, unV_neg, isB_t, isB_f, isB_u, binV_add, binV_sub, binV_mul, binV_eql, binV_neq, binV_lss, binV_leq, binV_gtr, binV_geq, binV_seql, binV_sneq, binV_slss, binV_beql, binV_bneq, binV_peql, binV_pneq, add_add, add_none, Go.Al.add_zero, Nat.zero_add, Nat.add_zero, IfB_t, IfB_f, Gd_t, Gd_f, Ld_ptr, LdN_ptr, Option.isNone_some, Option.isNone_none, Option.isSome_some, Option.isSome_none, Bool.not_true, Bool.not_false, drew_cell, drew_heap, cond_false, g4]
            have hl5 : (e.put (p + i) ((s.drop (64 * i)).take 64)).tick.cur.length = e.cur.length := by rw [(Dk.tick_cur _).1]; simp [Dk.put]
            refine ⟨⟨i + 1, _, rfl, by omega, by rw [hl5, hel], hput.tick, ?_, h5, hF⟩, by simp only [nth_0]; omega⟩
            simp only [hg5, cond_false]
            rw [show K - (i + 1) = r by omega]; rfl
        · have hie : i = K := by omega
          subst hie
          have e2 : decide ((i : Int) < (i : Int)) = false := by simp
          simp only [Pu_some, extV_0, extV_1, extV_2, extV_3, nilV_ptr, nilV_fn, faV_ptr, lenV_sl, lenS_s, capV_sl, pickV_t, pickV_f, unV_not, unV_neg, isB_t, isB_f, isB_u, binV_add, binV_sub, binV_mul, binV_eql, binV_neq, binV_lss, binV_leq, binV_gtr, binV_geq, binV_seql, binV_sneq, binV_slss, binV_beql, binV_bneq, binV_peql, binV_pneq, add_add, add_none, Go.Al.add_zero, Nat.zero_add, Nat.add_zero, IfB_t, IfB_f, Gd_t, Gd_f, Ld_ptr, LdN_ptr, Option.isNone_some, Option.isNone_none, Option.isSome_some, Option.isSome_none, Bool.not_true, Bool.not_false, drew_cell, drew_heap, e2]
          rw [heq, Nat.sub_self]
          exact ⟨(by trivial), hE, hf⟩
    · have e1 : (((s.length % 64 : Nat) : Int) != 0) = true := by
        rw [bne_dec]; simp; omega
      have e1' : decide (s.length % 64 ≠ 0) = true := by simp [hr]
      simp only [Pu_some, extV_0, extV_1, extV_2, extV_3, nilV_ptr, nilV_fn, faV_ptr, lenV_sl, lenS_s, capV_sl, pickV_t, pickV_f, unV_not, unV_neg, isB_t, isB_f, isB_u, binV_add, binV_sub, binV_mul, binV_eql, binV_neq, binV_lss, binV_leq, binV_gtr, binV_geq, binV_seql, binV_sneq, binV_slss, binV_beql, binV_bneq, binV_peql, binV_pneq, add_add, add_none, Go.Al.add_zero, Nat.zero_add, Nat.add_zero, IfB_t, IfB_f, Gd_t, Gd_f, Ld_ptr, LdN_ptr, Option.isNone_some, Option.isNone_none, Option.isSome_some, Option.isSome_none, Bool.not_true, Bool.not_false, drew_cell, drew_heap, str_size, str_nil, str_inj, e1, e1', Bool.true_or, cond_true]
      exact ⟨(by trivial), h, Fm.refl _ _⟩
end

end Go.Proofs.Ythgdinjgdjiknaa
