/- Records, and what package restart does with them. -/
import Derived.Test.YthgdinjgdjiknaaXidR
import Derived.Test.YthgdinjgdjiknaaAlBytes
import Derived.Test.YthgdinjgdjiknaaAlView2
import Derived.Test.YthgdinjgdjiknaaSortR
namespace Go.Proofs.Ythgdinjgdjiknaa
open Go.Al Go.Proofs
set_option linter.unusedVariables false
set_option linter.unusedSimpArgs false
set_option linter.unusedSectionVars false
set_option maxRecDepth 100000

abbrev pv (b : Nat) : Value := .pointer (some ⟨b, 0, none⟩)
theorem Fmf {a b c : World} (h : Fm (fun _ => False) a b) (k : Fm (fun _ => False) b c) : Fm (fun _ => False) a c := h.trans k (fun _ _ e => e) (fun _ _ e => e)
theorem Fm.own {S : Nat → Prop} {a b c : World} (h : Fm (fun _ => False) a b) (k : Fm S b c) (hS : ∀ x, S x → a.heap.size ≤ x) : Fm (fun _ => False) a c := h.trans k (fun _ _ e => e) (fun x hx e => by have := hS x e; omega)

/-! ### Views -/
def vI : Vw Try.prog 3 Int := vInt .i64 Try.underlying3 (by kernel_rfl)
def vS : Vw Try.prog 9 Bs := vStr Try.underlying9 (by kernel_rfl)
def vKind : Vw Try.prog 71 Int := vInt .u8 Try.underlying71 (by kernel_rfl)
def vPg0 : Vw Try.prog 95 (Int × Int × Int × Int × Bs × Unit × Unit) := vStruct Try.underlying95 (fvCons rfl 1 (by kernel_rfl) vI (fvCons rfl 1 (by kernel_rfl) vI (fvCons rfl 1 (by kernel_rfl) vI (fvCons rfl 1 (by kernel_rfl) vI (fvCons rfl 1 (by kernel_rfl) vS (fvCons rfl 1 (by kernel_rfl) (vOp Try.underlying45 (by kernel_rfl)) fvNil)))))) (by kernel_rfl)
abbrev ImgT := Int × (Int × Int × Int × Int × Bs × Unit × Unit) × Unit
def vImg : Vw Try.prog 138 ImgT := vStruct Try.underlying138 (fvCons rfl 1 (by kernel_rfl) vI (fvCons rfl 6 (by kernel_rfl) vPg0 fvNil)) (by kernel_rfl)
def vImgs : Vw Try.prog 72 (List ImgT) := vSlice Try.underlying72 (by kernel_rfl) vImg
abbrev RecT := Int × Int × Int × Int × Int × Int × Int × Int × Int × Int × Bs × Unit × Unit × List ImgT × Unit × Unit × Unit
def vRec : Vw Try.prog 75 RecT := vStruct Try.underlying75 (fvCons rfl 1 (by kernel_rfl) vI (fvCons rfl 1 (by kernel_rfl) vI (fvCons rfl 1 (by kernel_rfl) vI (fvCons rfl 1 (by kernel_rfl) vKind (fvCons rfl 1 (by kernel_rfl) vI (fvCons rfl 1 (by kernel_rfl) vI (fvCons rfl 1 (by kernel_rfl) vI (fvCons rfl 1 (by kernel_rfl) vI (fvCons rfl 1 (by kernel_rfl) vI (fvCons rfl 1 (by kernel_rfl) vI (fvCons rfl 1 (by kernel_rfl) vS (fvCons rfl 1 (by kernel_rfl) (vOp Try.underlying34 (by kernel_rfl)) (fvCons rfl 1 (by kernel_rfl) (vOp Try.underlying34 (by kernel_rfl)) (fvCons rfl 1 (by kernel_rfl) vImgs (fvCons rfl 1 (by kernel_rfl) (vOp Try.underlying73 (by kernel_rfl)) (fvCons rfl 1 (by kernel_rfl) (vOp Try.underlying67 (by kernel_rfl)) fvNil)))))))))))))))) (by kernel_rfl)

/-- A record. -/
structure Rc where
  lsn : Int
  prev : Int
  next : Int
  kind : Int
  xid : Int
  page : Int
  slot : Int
  old : Int
  new : Int
  redo : Int
  data : Bs
  imgs : List ImgT
def rcc (r : Rc) (s1 s2 im s4 s5 : Value) : Array Value := #[iv r.lsn, iv r.prev, iv r.next, .int .u8 r.kind, iv r.xid, iv r.page, iv r.slot, iv r.old, iv r.new, iv r.redo, stv r.data, s1, s2, im, s4, s5]
structure RcAs (w : World) (cs : Array Value) (r : Rc) : Prop where
  ex : ∃ s1 s2 im s4 s5, cs = rcc r s1 s2 im s4 s5 ∧ (s1.oneCell' = true ∧ s2.oneCell' = true ∧ im.oneCell' = true ∧ s4.oneCell' = true ∧ s5.oneCell' = true) ∧ SliceAs vImg w im r.imgs
  ins : In r.lsn ∧ In r.prev ∧ In r.next ∧ In r.xid
theorem RcAs.keep {w w' : World} {cs : Array Value} {r : Rc} (h : RcAs w cs r) (hf : Fm (fun _ => False) w w') : RcAs w' cs r := by
  obtain ⟨s1, s2, im, s4, s5, h1, h2, h3⟩ := h.ex
  exact ⟨⟨s1, s2, im, s4, s5, h1, h2, h3.keep hf⟩, h.ins⟩
theorem RcAs.size {w : World} {cs : Array Value} {r : Rc} (h : RcAs w cs r) : cs.size = 16 := by
  obtain ⟨s1, s2, im, s4, s5, rfl, h2, h3⟩ := h.ex; rfl
theorem RcAs.one {w : World} {cs : Array Value} {r : Rc} (h : RcAs w cs r) : ∀ u ∈ cs.toList, u.oneCell' = true := by
  obtain ⟨s1, s2, im, s4, s5, rfl, ⟨a, b, c, d, e⟩, h3⟩ := h.ex
  intro u hu; simp [rcc] at hu
  rcases hu with rfl | rfl | rfl | rfl | rfl | rfl | rfl | rfl | rfl | rfl | rfl | rfl | rfl | rfl | rfl | rfl <;> first | rfl | assumption
theorem rec_in {w : World} {cs : List Value} {x : RecT} (h : vRec.rel w cs x) : ∃ r, RcAs w cs.toArray r := by
  obtain ⟨lsn, prev, next, kind, xid, page, slot, old, new, redo, data, u1, u2, imgs, u4, u5, u6⟩ := x
  obtain ⟨c0, r0, rfl, ⟨rfl, h0⟩, c1, r1, rfl, ⟨rfl, h1⟩, c2, r2, rfl, ⟨rfl, h2⟩, c3, r3, rfl, ⟨rfl, h3⟩, c4, r4, rfl, ⟨rfl, h4⟩, c5, r5, rfl, ⟨rfl, h5⟩, c6, r6, rfl, ⟨rfl, h6⟩, c7, r7, rfl, ⟨rfl, h7⟩, c8, r8, rfl, ⟨rfl, h8⟩, c9, r9, rfl, ⟨rfl, h9⟩, c10, r10, rfl, ⟨rfl, h10⟩, c11, r11, rfl, ⟨a1, n1, k1, rfl⟩, c12, r12, rfl, ⟨a2, n2, k2, rfl⟩, c13, r13, rfl, ⟨im, rfl, him⟩, c14, r14, rfl, ⟨a4, n4, k4, rfl⟩, c15, r15, rfl, ⟨a5, n5, k5, rfl⟩, h16⟩ := h
  cases h16
  have ho : im.oneCell' = true := by obtain ⟨⟨a, cap, rfl, _⟩, _⟩ := him; rfl
  exact ⟨⟨lsn, prev, next, kind, xid, page, slot, old, new, redo, data, imgs⟩, ⟨_, _, im, _, _, rfl, ⟨rfl, rfl, ho, rfl, rfl⟩, him⟩, i64_of_wf h0, i64_of_wf h1, i64_of_wf h2, i64_of_wf h4⟩
/-- A record's cells viewed. -/
def vRc : Vw Try.prog 75 Rc where
  rel := fun w cs r => RcAs w cs.toArray r
  keep := fun h hf => h.keep hf
  len := fun h => by
    have := h.size
    have hc : Try.prog.cellsOf 75 = 16 := by kernel_rfl
    rw [List.size_toArray] at this
    rw [hc]; exact this
  opens := fun h hw => by
    obtain ⟨x, hx⟩ := vRec.opens h hw
    exact rec_in hx
def vRcs : Vw Try.prog 66 (List Rc) := vSlice Try.underlying66 (by kernel_rfl) vRc
theorem cells75 : Try.prog.cellsOf 75 = 16 := by kernel_rfl
theorem rec_ld {w : World} {v : Value} {rs : List Rc} (h : SliceAs vRc w v rs) {i : Nat} {r : Rc} (hi : rs[i]? = some r) : ∃ ad cs, ixV 16 v (iv i) = some (.pointer (some ad)) ∧ RcAs w cs r ∧ cellsV w ad 16 = some (.agg cs) := by
  obtain ⟨ad, cs', h1, h2, h3, _⟩ := h.ld hi cells75 .i64
  exact ⟨ad, cs'.toArray, h1, h2, h3⟩

/-- A record in block g. -/
def RcAt (w : World) (g : Nat) (r : Rc) : Prop := ∃ cs, w.heap[g]? = some (.cells cs 75) ∧ RcAs w cs r
section
variable {S : Nat → Prop} {w w' : World} {g : Nat} {r : Rc}
theorem RcAt.keep (h : RcAt w g r) (hf : Fm (fun _ => False) w w') : RcAt w' g r := by
  obtain ⟨cs, h1, h2⟩ := h
  exact ⟨cs, hf.heap h1 (fun e => e), h2.keep hf⟩
theorem RcAt.c0 (h : RcAt w g r) : w.cell? ⟨g, 0, none⟩ = some (iv r.lsn) := by obtain ⟨cs, h1, h2⟩ := h; obtain ⟨s1, s2, im, s4, s5, rfl, _⟩ := h2.ex; rw [cell_at h1]; rfl
theorem RcAt.c1 (h : RcAt w g r) : w.cell? ⟨g, 1, none⟩ = some (iv r.prev) := by obtain ⟨cs, h1, h2⟩ := h; obtain ⟨s1, s2, im, s4, s5, rfl, _⟩ := h2.ex; rw [cell_at h1]; rfl
theorem RcAt.c2 (h : RcAt w g r) : w.cell? ⟨g, 2, none⟩ = some (iv r.next) := by obtain ⟨cs, h1, h2⟩ := h; obtain ⟨s1, s2, im, s4, s5, rfl, _⟩ := h2.ex; rw [cell_at h1]; rfl
theorem RcAt.c3 (h : RcAt w g r) : w.cell? ⟨g, 3, none⟩ = some (.int .u8 r.kind) := by obtain ⟨cs, h1, h2⟩ := h; obtain ⟨s1, s2, im, s4, s5, rfl, _⟩ := h2.ex; rw [cell_at h1]; rfl
theorem RcAt.c4 (h : RcAt w g r) : w.cell? ⟨g, 4, none⟩ = some (iv r.xid) := by obtain ⟨cs, h1, h2⟩ := h; obtain ⟨s1, s2, im, s4, s5, rfl, _⟩ := h2.ex; rw [cell_at h1]; rfl
theorem RcAt.c7 (h : RcAt w g r) : w.cell? ⟨g, 7, none⟩ = some (iv r.old) := by obtain ⟨cs, h1, h2⟩ := h; obtain ⟨s1, s2, im, s4, s5, rfl, _⟩ := h2.ex; rw [cell_at h1]; rfl
theorem RcAt.c8 (h : RcAt w g r) : w.cell? ⟨g, 8, none⟩ = some (iv r.new) := by obtain ⟨cs, h1, h2⟩ := h; obtain ⟨s1, s2, im, s4, s5, rfl, _⟩ := h2.ex; rw [cell_at h1]; rfl
theorem RcAt.c9 (h : RcAt w g r) : w.cell? ⟨g, 9, none⟩ = some (iv r.redo) := by obtain ⟨cs, h1, h2⟩ := h; obtain ⟨s1, s2, im, s4, s5, rfl, _⟩ := h2.ex; rw [cell_at h1]; rfl
theorem RcAt.c13 (h : RcAt w g r) : ∃ im, w.cell? ⟨g, 13, none⟩ = some im ∧ SliceAs vImg w im r.imgs := by obtain ⟨cs, h1, h2⟩ := h; obtain ⟨s1, s2, im, s4, s5, rfl, _, h3⟩ := h2.ex; exact ⟨im, by rw [cell_at h1]; rfl, h3⟩
theorem RcAt.all (h : RcAt w g r) : ∃ cs, cellsV w ⟨g, 0, none⟩ 16 = some (.agg cs) ∧ RcAs w cs r := by obtain ⟨cs, h1, h2⟩ := h; exact ⟨cs, cellsV_blk h1 h2.size, h2⟩
theorem RcAt.lt (h : RcAt w g r) : g < w.heap.size := by obtain ⟨cs, h1, h2⟩ := h; exact lt_of_heap h1
end

/-! ### The calls -/
def isM (k : Int) : Bool := decide (k = 1) || decide (k = 2) || decide (k = 6) || decide (k = 7) || decide (k = 8)
def mine (r : Rc) : Bool := isM r.kind && decide (0 < r.xid)
theorem mine_spec {w : World} {cs : Array Value} {r : Rc} (h : RcAs w cs r) : Cl Try.prog 76 [.agg cs] w fun v w' => v = .bool (mine r) ∧ Fm (fun _ => False) w w' := by
  refine c76 ?_; unfold T76
  refine New_any ?_
  intro g w1 hg hs1 hw1 hf1
  have h1 : RcAt w1 g r := ⟨cs, hw1, h.keep hf1⟩
  simp only [Pu_some, extV_0, extV_1, extV_2, extV_3, nilV_ptr, nilV_fn, faV_ptr, lenV_sl, lenS_s, capV_sl, pickV_t, pickV_f, unV_not, unV_neg, isB_t, isB_f, isB_u, binV_add, binV_sub, binV_mul, binV_eql, binV_neq, binV_lss, binV_leq, binV_gtr, binV_geq, binV_seql, binV_sneq, binV_slss, binV_beql, binV_bneq, binV_peql, binV_pneq, add_add, add_none, Go.Al.add_zero, Nat.zero_add, Nat.add_zero, IfB_t, IfB_f, Gd_t, Gd_f, Ld_ptr, LdN_ptr, Option.isNone_some, Option.isNone_none, Option.isSome_some, Option.isSome_none, Bool.not_true, Bool.not_false, drew_cell, drew_heap, h1.c3]
  refine Jn_at (fun vs w2 => vs = [.bool (isM r.kind)] ∧ w2 = w1) ?_ ?_
  · rintro _ w2 ⟨rfl, rfl⟩ _
    refine ⟨_, rfl, ?_⟩
    unfold mine
    cases isM r.kind with
    | true =>
      simp only [Pu_some, extV_0, extV_1, extV_2, extV_3, nilV_ptr, nilV_fn, faV_ptr, lenV_sl, lenS_s, capV_sl, pickV_t, pickV_f, unV_not, unV_neg, isB_t, isB_f, isB_u, binV_add, binV_sub, binV_mul, binV_eql, binV_neq, binV_lss, binV_leq, binV_gtr, binV_geq, binV_seql, binV_sneq, binV_slss, binV_beql, binV_bneq, binV_peql, binV_pneq, add_add, add_none, Go.Al.add_zero, Nat.zero_add, Nat.add_zero, IfB_t, IfB_f, Gd_t, Gd_f, Ld_ptr, LdN_ptr, Option.isNone_some, Option.isNone_none, Option.isSome_some, Option.isSome_none, Bool.not_true, Bool.not_false, drew_cell, drew_heap, h1.c4, Bool.true_and]
      exact ⟨(by trivial), hf1⟩
    | false =>
      simp only [Pu_some, extV_0, extV_1, extV_2, extV_3, nilV_ptr, nilV_fn, faV_ptr, lenV_sl, lenS_s, capV_sl, pickV_t, pickV_f, unV_not, unV_neg, isB_t, isB_f, isB_u, binV_add, binV_sub, binV_mul, binV_eql, binV_neq, binV_lss, binV_leq, binV_gtr, binV_geq, binV_seql, binV_sneq, binV_slss, binV_beql, binV_bneq, binV_peql, binV_pneq, add_add, add_none, Go.Al.add_zero, Nat.zero_add, Nat.add_zero, IfB_t, IfB_f, Gd_t, Gd_f, Ld_ptr, LdN_ptr, Option.isNone_some, Option.isNone_none, Option.isSome_some, Option.isSome_none, Bool.not_true, Bool.not_false, drew_cell, drew_heap, Bool.false_and]
      exact ⟨(by trivial), hf1⟩
  · intro kk hkk
    unfold isM at hkk
    simp only [Pu_some, extV_0, extV_1, extV_2, extV_3, nilV_ptr, nilV_fn, faV_ptr, lenV_sl, lenS_s, capV_sl, pickV_t, pickV_f, unV_not, unV_neg, isB_t, isB_f, isB_u, binV_add, binV_sub, binV_mul, binV_eql, binV_neq, binV_lss, binV_leq, binV_gtr, binV_geq, binV_seql, binV_sneq, binV_slss, binV_beql, binV_bneq, binV_peql, binV_pneq, add_add, add_none, Go.Al.add_zero, Nat.zero_add, Nat.add_zero, IfB_t, IfB_f, Gd_t, Gd_f, Ld_ptr, LdN_ptr, Option.isNone_some, Option.isNone_none, Option.isSome_some, Option.isSome_none, Bool.not_true, Bool.not_false, drew_cell, drew_heap, beq_dec]
    cases d1 : decide (r.kind = 1) with
    | true => simp only [Pu_some, extV_0, extV_1, extV_2, extV_3, nilV_ptr, nilV_fn, faV_ptr, lenV_sl, lenS_s, capV_sl, pickV_t, pickV_f, unV_not, unV_neg, isB_t, isB_f, isB_u, binV_add, binV_sub, binV_mul, binV_eql, binV_neq, binV_lss, binV_leq, binV_gtr, binV_geq, binV_seql, binV_sneq, binV_slss, binV_beql, binV_bneq, binV_peql, binV_pneq, add_add, add_none, Go.Al.add_zero, Nat.zero_add, Nat.add_zero, IfB_t, IfB_f, Gd_t, Gd_f, Ld_ptr, LdN_ptr, Option.isNone_some, Option.isNone_none, Option.isSome_some, Option.isSome_none, Bool.not_true, Bool.not_false, drew_cell, drew_heap]; exact hkk _ _ ⟨by rw [d1]; simp, rfl⟩
    | false =>
    cases d2 : decide (r.kind = 2) with
    | true => simp only [Pu_some, extV_0, extV_1, extV_2, extV_3, nilV_ptr, nilV_fn, faV_ptr, lenV_sl, lenS_s, capV_sl, pickV_t, pickV_f, unV_not, unV_neg, isB_t, isB_f, isB_u, binV_add, binV_sub, binV_mul, binV_eql, binV_neq, binV_lss, binV_leq, binV_gtr, binV_geq, binV_seql, binV_sneq, binV_slss, binV_beql, binV_bneq, binV_peql, binV_pneq, add_add, add_none, Go.Al.add_zero, Nat.zero_add, Nat.add_zero, IfB_t, IfB_f, Gd_t, Gd_f, Ld_ptr, LdN_ptr, Option.isNone_some, Option.isNone_none, Option.isSome_some, Option.isSome_none, Bool.not_true, Bool.not_false, drew_cell, drew_heap]; exact hkk _ _ ⟨by rw [d2]; simp, rfl⟩
    | false =>
    cases d3 : decide (r.kind = 6) with
    | true => simp only [Pu_some, extV_0, extV_1, extV_2, extV_3, nilV_ptr, nilV_fn, faV_ptr, lenV_sl, lenS_s, capV_sl, pickV_t, pickV_f, unV_not, unV_neg, isB_t, isB_f, isB_u, binV_add, binV_sub, binV_mul, binV_eql, binV_neq, binV_lss, binV_leq, binV_gtr, binV_geq, binV_seql, binV_sneq, binV_slss, binV_beql, binV_bneq, binV_peql, binV_pneq, add_add, add_none, Go.Al.add_zero, Nat.zero_add, Nat.add_zero, IfB_t, IfB_f, Gd_t, Gd_f, Ld_ptr, LdN_ptr, Option.isNone_some, Option.isNone_none, Option.isSome_some, Option.isSome_none, Bool.not_true, Bool.not_false, drew_cell, drew_heap]; exact hkk _ _ ⟨by rw [d3]; simp, rfl⟩
    | false =>
    cases d4 : decide (r.kind = 7) with
    | true => simp only [Pu_some, extV_0, extV_1, extV_2, extV_3, nilV_ptr, nilV_fn, faV_ptr, lenV_sl, lenS_s, capV_sl, pickV_t, pickV_f, unV_not, unV_neg, isB_t, isB_f, isB_u, binV_add, binV_sub, binV_mul, binV_eql, binV_neq, binV_lss, binV_leq, binV_gtr, binV_geq, binV_seql, binV_sneq, binV_slss, binV_beql, binV_bneq, binV_peql, binV_pneq, add_add, add_none, Go.Al.add_zero, Nat.zero_add, Nat.add_zero, IfB_t, IfB_f, Gd_t, Gd_f, Ld_ptr, LdN_ptr, Option.isNone_some, Option.isNone_none, Option.isSome_some, Option.isSome_none, Bool.not_true, Bool.not_false, drew_cell, drew_heap]; exact hkk _ _ ⟨by rw [d4]; simp, rfl⟩
    | false =>
      simp only [Pu_some, extV_0, extV_1, extV_2, extV_3, nilV_ptr, nilV_fn, faV_ptr, lenV_sl, lenS_s, capV_sl, pickV_t, pickV_f, unV_not, unV_neg, isB_t, isB_f, isB_u, binV_add, binV_sub, binV_mul, binV_eql, binV_neq, binV_lss, binV_leq, binV_gtr, binV_geq, binV_seql, binV_sneq, binV_slss, binV_beql, binV_bneq, binV_peql, binV_pneq, add_add, add_none, Go.Al.add_zero, Nat.zero_add, Nat.add_zero, IfB_t, IfB_f, Gd_t, Gd_f, Ld_ptr, LdN_ptr, Option.isNone_some, Option.isNone_none, Option.isSome_some, Option.isSome_none, Bool.not_true, Bool.not_false, drew_cell, drew_heap]
      exact hkk _ _ ⟨by rw [d1, d2, d3, d4]; simp, rfl⟩
theorem sel_spec {w : World} {cs : Array Value} {r : Rc} (h : RcAs w cs r) {g4 : Nat} {chk : Int} (hg4 : ∃ ts, w.heap[g4]? = some (.cells ts 65) ∧ ts[6]? = some (iv chk)) : Cl Try.prog 75 [.agg cs, pv g4] w fun v w' => v = .bool (decide (0 < chk) && decide (r.lsn = chk) && decide (r.kind = 12)) ∧ Fm (fun _ => False) w w' := by
  obtain ⟨ts, hts, ht6⟩ := hg4
  refine c75 ?_; unfold T75
  refine New_any ?_
  intro g w1 hg hs1 hw1 hf1
  have h1 : RcAt w1 g r := ⟨cs, hw1, h.keep hf1⟩
  have e6 : w1.cell? ⟨g4, 6, none⟩ = some (iv chk) := by rw [cell_at (hf1.heap hts (fun e => e))]; exact ht6
  simp only [Pu_some, extV_0, extV_1, extV_2, extV_3, nilV_ptr, nilV_fn, faV_ptr, lenV_sl, lenS_s, capV_sl, pickV_t, pickV_f, unV_not, unV_neg, isB_t, isB_f, isB_u, binV_add, binV_sub, binV_mul, binV_eql, binV_neq, binV_lss, binV_leq, binV_gtr, binV_geq, binV_seql, binV_sneq, binV_slss, binV_beql, binV_bneq, binV_peql, binV_pneq, add_add, add_none, Go.Al.add_zero, Nat.zero_add, Nat.add_zero, IfB_t, IfB_f, Gd_t, Gd_f, Ld_ptr, LdN_ptr, Option.isNone_some, Option.isNone_none, Option.isSome_some, Option.isSome_none, Bool.not_true, Bool.not_false, drew_cell, drew_heap, e6]
  cases decide (0 < chk) with
  | false =>
    simp only [Pu_some, extV_0, extV_1, extV_2, extV_3, nilV_ptr, nilV_fn, faV_ptr, lenV_sl, lenS_s, capV_sl, pickV_t, pickV_f, unV_not, unV_neg, isB_t, isB_f, isB_u, binV_add, binV_sub, binV_mul, binV_eql, binV_neq, binV_lss, binV_leq, binV_gtr, binV_geq, binV_seql, binV_sneq, binV_slss, binV_beql, binV_bneq, binV_peql, binV_pneq, add_add, add_none, Go.Al.add_zero, Nat.zero_add, Nat.add_zero, IfB_t, IfB_f, Gd_t, Gd_f, Ld_ptr, LdN_ptr, Option.isNone_some, Option.isNone_none, Option.isSome_some, Option.isSome_none, Bool.not_true, Bool.not_false, drew_cell, drew_heap, Bool.false_and]
    exact ⟨(by trivial), hf1⟩
  | true =>
    simp only [Pu_some, extV_0, extV_1, extV_2, extV_3, nilV_ptr, nilV_fn, faV_ptr, lenV_sl, lenS_s, capV_sl, pickV_t, pickV_f, unV_not, unV_neg, isB_t, isB_f, isB_u, binV_add, binV_sub, binV_mul, binV_eql, binV_neq, binV_lss, binV_leq, binV_gtr, binV_geq, binV_seql, binV_sneq, binV_slss, binV_beql, binV_bneq, binV_peql, binV_pneq, add_add, add_none, Go.Al.add_zero, Nat.zero_add, Nat.add_zero, IfB_t, IfB_f, Gd_t, Gd_f, Ld_ptr, LdN_ptr, Option.isNone_some, Option.isNone_none, Option.isSome_some, Option.isSome_none, Bool.not_true, Bool.not_false, drew_cell, drew_heap, h1.c0, e6, beq_dec, Bool.true_and]
    cases decide (r.lsn = chk) with
    | false =>
      simp only [Pu_some, extV_0, extV_1, extV_2, extV_3, nilV_ptr, nilV_fn, faV_ptr, lenV_sl, lenS_s, capV_sl, pickV_t, pickV_f, unV_not, unV_neg, isB_t, isB_f, isB_u, binV_add, binV_sub, binV_mul, binV_eql, binV_neq, binV_lss, binV_leq, binV_gtr, binV_geq, binV_seql, binV_sneq, binV_slss, binV_beql, binV_bneq, binV_peql, binV_pneq, add_add, add_none, Go.Al.add_zero, Nat.zero_add, Nat.add_zero, IfB_t, IfB_f, Gd_t, Gd_f, Ld_ptr, LdN_ptr, Option.isNone_some, Option.isNone_none, Option.isSome_some, Option.isSome_none, Bool.not_true, Bool.not_false, drew_cell, drew_heap, Bool.false_and]
      exact ⟨(by trivial), hf1⟩
    | true =>
      simp only [Pu_some, extV_0, extV_1, extV_2, extV_3, nilV_ptr, nilV_fn, faV_ptr, lenV_sl, lenS_s, capV_sl, pickV_t, pickV_f, unV_not, unV_neg, isB_t, isB_f, isB_u, binV_add, binV_sub, binV_mul, binV_eql, binV_neq, binV_lss, binV_leq, binV_gtr, binV_geq, binV_seql, binV_sneq, binV_slss, binV_beql, binV_bneq, binV_peql, binV_pneq, add_add, add_none, Go.Al.add_zero, Nat.zero_add, Nat.add_zero, IfB_t, IfB_f, Gd_t, Gd_f, Ld_ptr, LdN_ptr, Option.isNone_some, Option.isNone_none, Option.isSome_some, Option.isSome_none, Bool.not_true, Bool.not_false, drew_cell, drew_heap, h1.c3, beq_dec, Bool.true_and]
      exact ⟨(by trivial), hf1⟩

/-- slices.IndexFunc of records. -/
theorem indexr_spec {w : World} {v f : Value} {rs : List Rc} (hl : SliceAs vRc w v rs) (p : Rc → Bool)
    (hf : ∀ w', Fm (fun _ => False) w w' → ∀ r cs, RcAs w' cs r → ∀ k : KV, (∀ w'', Fm (fun _ => False) w' w'' → k (.bool (p r)) w'') → ClV Try.prog f [.agg cs] w' k) :
    Cl Try.prog 74 [v, f] w fun r w' => ∃ i : Int, r = iv i ∧ Fm (fun _ => False) w w' ∧ ((0 ≤ i ∧ ∃ x, rs[i.toNat]? = some x ∧ p x = true) ∨ (i = -1 ∧ ∀ x ∈ rs, p x = false)) := by
  have hlt := hl.len
  unfold maxLen at hlt
  refine c74 ?_; unfold T74
  simp only [Pu_some, extV_0, extV_1, extV_2, extV_3, nilV_ptr, nilV_fn, faV_ptr, lenV_sl, lenS_s, capV_sl, pickV_t, pickV_f, unV_not, unV_neg, isB_t, isB_f, isB_u, binV_add, binV_sub, binV_mul, binV_eql, binV_neq, binV_lss, binV_leq, binV_gtr, binV_geq, binV_seql, binV_sneq, binV_slss, binV_beql, binV_bneq, binV_peql, binV_pneq, add_add, add_none, Go.Al.add_zero, Nat.zero_add, Nat.add_zero, IfB_t, IfB_f, Gd_t, Gd_f, Ld_ptr, LdN_ptr, Option.isNone_some, Option.isNone_none, Option.isSome_some, Option.isSome_none, Bool.not_true, Bool.not_false, drew_cell, drew_heap, hl.lenV]
  refine ⟨fun vs w2 => ∃ k : Nat, vs = [iv k] ∧ k ≤ rs.length ∧ (∀ x ∈ rs.take k, p x = false) ∧ Fm (fun _ => False) w w2, fun vs _ => (rs.length - nth vs 0).toNat, ⟨0, rfl, by omega, by simp, Fm.refl _ _⟩, ?_⟩
  rintro _ w2 ik ⟨k, hvs, hk, hno, hF⟩
  cases hvs
  by_cases hlt2 : k < rs.length
  · have e1 : decide ((k : Int) < (rs.length : Int)) = true := by rw [decide_eq_true_eq]; omega
    have e2 : IntKind.i64.wrap ((k : Int) + 1) = ((k + 1 : Nat) : Int) := by rw [wrap_id] <;> omega
    have hx : rs[k]? = some rs[k] := List.getElem?_eq_getElem hlt2
    generalize rs[k] = y at hx
    obtain ⟨ad, cs, hix, hrc, hld⟩ := rec_ld (hl.keep hF) hx
    simp only [Pu_some, extV_0, extV_1, extV_2, extV_3, nilV_ptr, nilV_fn, faV_ptr, lenV_sl, lenS_s, capV_sl, pickV_t, pickV_f, unV_not, unV_neg, isB_t, isB_f, isB_u, binV_add, binV_sub, binV_mul, binV_eql, binV_neq, binV_lss, binV_leq, binV_gtr, binV_geq, binV_seql, binV_sneq, binV_slss, binV_beql, binV_bneq, binV_peql, binV_pneq, add_add, add_none, Go.Al.add_zero, Nat.zero_add, Nat.add_zero, IfB_t, IfB_f, Gd_t, Gd_f, Ld_ptr, LdN_ptr, Option.isNone_some, Option.isNone_none, Option.isSome_some, Option.isSome_none, Bool.not_true, Bool.not_false, drew_cell, drew_heap, e1, hix, hld]
    refine hf w2 hF y cs hrc _ ?_
    intro w3 hf3
    cases hpy : p y with
    | true =>
      simp only [Pu_some, extV_0, extV_1, extV_2, extV_3, nilV_ptr, nilV_fn, faV_ptr, lenV_sl, lenS_s, capV_sl, pickV_t, pickV_f, unV_not, unV_neg, isB_t, isB_f, isB_u, binV_add, binV_sub, binV_mul, binV_eql, binV_neq, binV_lss, binV_leq, binV_gtr, binV_geq, binV_seql, binV_sneq, binV_slss, binV_beql, binV_bneq, binV_peql, binV_pneq, add_add, add_none, Go.Al.add_zero, Nat.zero_add, Nat.add_zero, IfB_t, IfB_f, Gd_t, Gd_f, Ld_ptr, LdN_ptr, Option.isNone_some, Option.isNone_none, Option.isSome_some, Option.isSome_none, Bool.not_true, Bool.not_false, drew_cell, drew_heap]
      exact ⟨k, (by trivial), Fmf hF hf3, .inl ⟨by omega, y, by simpa using hx, hpy⟩⟩
    | false =>
      simp only [Pu_some, extV_0, extV_1, extV_2, extV_3, nilV_ptr, nilV_fn, faV_ptr, lenV_sl, lenS_s, capV_sl, pickV_t, pickV_f, unV_not, unV_neg, isB_t, isB_f, isB_u, binV_add, binV_sub, binV_mul, binV_eql, binV_neq, binV_lss, binV_leq, binV_gtr, binV_geq, binV_seql, binV_sneq, binV_slss, binV_beql, binV_bneq, binV_peql, binV_pneq, add_add, add_none, Go.Al.add_zero, Nat.zero_add, Nat.add_zero, IfB_t, IfB_f, Gd_t, Gd_f, Ld_ptr, LdN_ptr, Option.isNone_some, Option.isNone_none, Option.isSome_some, Option.isSome_none, Bool.not_true, Bool.not_false, drew_cell, drew_heap, e2]
      refine ⟨⟨k + 1, rfl, by omega, ?_, Fmf hF hf3⟩, by simp only [nth_0]; omega⟩
      rw [List.take_add_one, hx]
      simp only [Option.toList_some, List.mem_append, List.mem_singleton]
      rintro x (h | rfl)
      · exact hno x h
      · exact hpy
  · have hke : k = rs.length := by omega
    subst hke
    have e1 : decide (((rs.length : Nat) : Int) < (rs.length : Int)) = false := by simp
    rw [List.take_length] at hno
    simp only [Pu_some, extV_0, extV_1, extV_2, extV_3, nilV_ptr, nilV_fn, faV_ptr, lenV_sl, lenS_s, capV_sl, pickV_t, pickV_f, unV_not, unV_neg, isB_t, isB_f, isB_u, binV_add, binV_sub, binV_mul, binV_eql, binV_neq, binV_lss, binV_leq, binV_gtr, binV_geq, binV_seql, binV_sneq, binV_slss, binV_beql, binV_bneq, binV_peql, binV_pneq, add_add, add_none, Go.Al.add_zero, Nat.zero_add, Nat.add_zero, IfB_t, IfB_f, Gd_t, Gd_f, Ld_ptr, LdN_ptr, Option.isNone_some, Option.isNone_none, Option.isSome_some, Option.isSome_none, Bool.not_true, Bool.not_false, drew_cell, drew_heap, e1]
    exact ⟨-1, (by trivial), hF, .inr ⟨rfl, hno⟩⟩

/-! ### How much is left to undo -/
theorem K139 : KeyT Try.prog 139 3 75 (Value.int .i64) := keyT_int Try.underlying139 Try.underlying3
theorem K140 : KeyT Try.prog 140 3 3 (Value.int .i64) := keyT_int Try.underlying140 Try.underlying3
theorem z75 (w : World) : (zeroValue 75).run Try.prog w = .ok (.agg #[iv 0, iv 0, iv 0, .int .u8 0, iv 0, iv 0, iv 0, iv 0, iv 0, iv 0, stv [], .slice none 0 0, .slice none 0 0, .slice none 0 0, .slice none 0 0, .slice none 0 0]) w := by kernel_rfl
theorem z3 (w : World) : (zeroValue 3).run Try.prog w = .ok (iv 0) w := by kernel_rfl
def leftN (D : List (Int × Rc)) : Nat → Int → Nat → Nat
  | 0, _, n => n
  | f + 1, a, n => match getD D a with
    | none => n
    | some r => bif decide (a ≤ 0) then n else bif decide (r.kind = 1) || decide (r.kind = 2) then leftN D f r.prev (n + 1) else bif decide (r.kind = 6) then leftN D f r.next n else leftN D f r.prev n
theorem leftN_le (D : List (Int × Rc)) : ∀ (f : Nat) (a : Int) (n : Nat), leftN D f a n ≤ n + f
  | 0, a, n => by simp [leftN]
  | f + 1, a, n => by
    rw [leftN]
    cases getD D a with
    | none => simp
    | some r =>
      simp only
      cases decide (a ≤ 0) with
      | true => simp
      | false =>
        simp only [cond_false]
        cases decide (r.kind = 1) || decide (r.kind = 2) with
        | true => have := leftN_le D f r.prev (n + 1); simp only [cond_true]; omega
        | false =>
          simp only [cond_false]
          cases decide (r.kind = 6) with
          | true => have := leftN_le D f r.next n; simp only [cond_true]; omega
          | false => have := leftN_le D f r.prev n; simp only [cond_false]; omega
/-- The records by where they stand, in the heap. -/
abbrev RV := Rc × Array Value
def rvv (x : RV) : Value := .agg x.2
def plainD (D : List (Int × RV)) : List (Int × Rc) := D.map fun p => (p.1, p.2.1)
theorem getD_plain (D : List (Int × RV)) (a : Int) : getD (plainD D) a = (getD D a).map (·.1) := by
  unfold plainD
  induction D with
  | nil => rfl
  | cons p D ih =>
    rw [List.map_cons, getD_cons, getD_cons, ih]
    split <;> rfl
theorem getD_mem {β : Type} {D : List (Int × β)} {a : Int} {b : β} (h : getD D a = some b) : (a, b) ∈ D := by
  induction D with
  | nil => rw [getD_nil] at h; cases h
  | cons p D ih =>
    rw [getD_cons] at h
    split at h
    · rename_i hp
      cases h
      rw [← hp]; simp
    · exact List.mem_cons_of_mem _ (ih h)

set_option maxHeartbeats 1000000 in
theorem left_spec {w : World} {b : Nat} {D : List (Int × RV)} (hb : MapAt w b (Value.int .i64) rvv D) (hD : ∀ p ∈ D, RcAs w p.2.2 p.2.1) (a : Int) (n : Nat) (hn : n ≤ 1099511627776) :
    Cl Try.prog 80 [.map (some b), iv a, iv n] w fun v w' => v = iv (leftN (plainD D) (n + 1) a 0 : Nat) ∧ Fm (fun _ => False) w w' := by
  refine c80 ?_; unfold T80
  refine Jn_at (fun vs w2 => vs = [iv (leftN (plainD D) (n + 1) a 0 : Nat)] ∧ Fm (fun _ => False) w w2) ?_ ?_
  · rintro _ w2 ⟨rfl, hf⟩ _
    exact ⟨_, rfl, rfl, hf⟩
  intro jj hjj
  generalize hL0 : leftN (plainD D) (n + 1) a 0 = L0 at hjj
  have e0 : IntKind.i64.wrap ((n : Int) + 1) = ((n + 1 : Nat) : Int) := by rw [wrap_id] <;> omega
  simp only [Pu_some, extV_0, extV_1, extV_2, extV_3, nilV_ptr, nilV_fn, faV_ptr, lenV_sl, lenS_s, capV_sl, pickV_t, pickV_f, unV_not, unV_neg, isB_t, isB_f, isB_u, binV_add, binV_sub, binV_mul, binV_eql, binV_neq, binV_lss, binV_leq, binV_gtr, binV_geq, binV_seql, binV_sneq, binV_slss, binV_beql, binV_bneq, binV_peql, binV_pneq, add_add, add_none, Go.Al.add_zero, Nat.zero_add, Nat.add_zero, IfB_t, IfB_f, Gd_t, Gd_f, Ld_ptr, LdN_ptr, Option.isNone_some, Option.isNone_none, Option.isSome_some, Option.isSome_none, Bool.not_true, Bool.not_false, drew_cell, drew_heap, e0]
  refine ⟨fun vs w2 => ∃ (i : Nat) (at_ : Int) (m : Nat), vs = [iv at_, iv m, iv i] ∧ i ≤ n + 1 ∧ m ≤ i ∧ L0 = leftN (plainD D) (n + 1 - i) at_ m ∧ Fm (fun _ => False) w w2, fun vs _ => (n + 1 - nth vs 2).toNat, ⟨0, a, 0, rfl, by omega, by omega, hL0.symm, Fm.refl _ _⟩, ?_⟩
  rintro _ w2 av mv kv ⟨i, at_, m, hvs, hi, hm, heq, hF⟩
  cases hvs
  by_cases hlt : i < n + 1
  · have e1 : decide ((i : Int) < ((n + 1 : Nat) : Int)) = true := by rw [decide_eq_true_eq]; omega
    have e2 : IntKind.i64.wrap ((i : Int) + 1) = ((i + 1 : Nat) : Int) := by rw [wrap_id] <;> omega
    have e3 : IntKind.i64.wrap ((m : Int) + 1) = ((m + 1 : Nat) : Int) := by rw [wrap_id] <;> omega
    obtain ⟨f, hf⟩ : ∃ f, n + 1 - i = f + 1 := ⟨n - i, by omega⟩
    rw [hf, leftN, getD_plain] at heq
    have hlk := lookup_run K139 (hb.keep hF (fun e => e)) at_ true (z75 w2)
    simp only [Pu_some, extV_0, extV_1, extV_2, extV_3, nilV_ptr, nilV_fn, faV_ptr, lenV_sl, lenS_s, capV_sl, pickV_t, pickV_f, unV_not, unV_neg, isB_t, isB_f, isB_u, binV_add, binV_sub, binV_mul, binV_eql, binV_neq, binV_lss, binV_leq, binV_gtr, binV_geq, binV_seql, binV_sneq, binV_slss, binV_beql, binV_bneq, binV_peql, binV_pneq, add_add, add_none, Go.Al.add_zero, Nat.zero_add, Nat.add_zero, IfB_t, IfB_f, Gd_t, Gd_f, Ld_ptr, LdN_ptr, Option.isNone_some, Option.isNone_none, Option.isSome_some, Option.isSome_none, Bool.not_true, Bool.not_false, drew_cell, drew_heap, e1]
    refine Jn_at (fun vs w3 => ∃ (at2 : Int) (m2 : Nat), vs = [iv at2, iv m2] ∧ m2 ≤ m + 1 ∧ L0 = leftN (plainD D) f at2 m2 ∧ Fm (fun _ => False) w w3) ?_ ?_
    · rintro _ w3 ⟨at2, m2, rfl, hm2, heq2, hF3⟩ _
      refine ⟨_, _, rfl, ?_⟩
      simp only [Pu_some, extV_0, extV_1, extV_2, extV_3, nilV_ptr, nilV_fn, faV_ptr, lenV_sl, lenS_s, capV_sl, pickV_t, pickV_f, unV_not, unV_neg, isB_t, isB_f, isB_u, binV_add, binV_sub, binV_mul, binV_eql, binV_neq, binV_lss, binV_leq, binV_gtr, binV_geq, binV_seql, binV_sneq, binV_slss, binV_beql, binV_bneq, binV_peql, binV_pneq, add_add, add_none, Go.Al.add_zero, Nat.zero_add, Nat.add_zero, IfB_t, IfB_f, Gd_t, Gd_f, Ld_ptr, LdN_ptr, Option.isNone_some, Option.isNone_none, Option.isSome_some, Option.isSome_none, Bool.not_true, Bool.not_false, drew_cell, drew_heap, e2]
      refine ⟨⟨i + 1, at2, m2, rfl, by omega, by omega, ?_, hF3⟩, by simp only [nth_2]; omega⟩
      rw [heq2, show n + 1 - (i + 1) = f by omega]
    intro kk hkk
    cases hg : getD D at_ with
    | none =>
      rw [hg] at heq hlk
      refine RunS_ok hlk ?_
      simp only [okV, cond_true]
      simp only [Pu_some, extV_0, extV_1, extV_2, extV_3, nilV_ptr, nilV_fn, faV_ptr, lenV_sl, lenS_s, capV_sl, pickV_t, pickV_f, unV_not, unV_neg, isB_t, isB_f, isB_u, binV_add, binV_sub, binV_mul, binV_eql, binV_neq, binV_lss, binV_leq, binV_gtr, binV_geq, binV_seql, binV_sneq, binV_slss, binV_beql, binV_bneq, binV_peql, binV_pneq, add_add, add_none, Go.Al.add_zero, Nat.zero_add, Nat.add_zero, IfB_t, IfB_f, Gd_t, Gd_f, Ld_ptr, LdN_ptr, Option.isNone_some, Option.isNone_none, Option.isSome_some, Option.isSome_none, Bool.not_true, Bool.not_false, drew_cell, drew_heap]
      refine New_any ?_
      intro x w3 hx hs3 hw3 hf3
      refine St_all hw3 rfl rfl (by intro u hu; simp at hu; rcases hu with rfl | rfl | rfl | rfl | rfl <;> rfl) ?_
      intro w4 hw4 hs4 hf4
      have hF4 : Fm (fun _ => False) w w4 := Fm.own (Fmf hF hf3) hf4 (by rintro y rfl; have := hF.size; omega)
      have hres : L0 = m := heq
      rw [hres] at hjj
      cases hle : decide (at_ ≤ 0) with
      | true =>
        simp only [Pu_some, extV_0, extV_1, extV_2, extV_3, nilV_ptr, nilV_fn, faV_ptr, lenV_sl, lenS_s, capV_sl, pickV_t, pickV_f, unV_not, unV_neg, isB_t, isB_f, isB_u, binV_add, binV_sub, binV_mul, binV_eql, binV_neq, binV_lss, binV_leq, binV_gtr, binV_geq, binV_seql, binV_sneq, binV_slss, binV_beql, binV_bneq, binV_peql, binV_pneq, add_add, add_none, Go.Al.add_zero, Nat.zero_add, Nat.add_zero, IfB_t, IfB_f, Gd_t, Gd_f, Ld_ptr, LdN_ptr, Option.isNone_some, Option.isNone_none, Option.isSome_some, Option.isSome_none, Bool.not_true, Bool.not_false, drew_cell, drew_heap]
        exact hjj _ _ ⟨rfl, hF4⟩
      | false =>
        simp only [Pu_some, extV_0, extV_1, extV_2, extV_3, nilV_ptr, nilV_fn, faV_ptr, lenV_sl, lenS_s, capV_sl, pickV_t, pickV_f, unV_not, unV_neg, isB_t, isB_f, isB_u, binV_add, binV_sub, binV_mul, binV_eql, binV_neq, binV_lss, binV_leq, binV_gtr, binV_geq, binV_seql, binV_sneq, binV_slss, binV_beql, binV_bneq, binV_peql, binV_pneq, add_add, add_none, Go.Al.add_zero, Nat.zero_add, Nat.add_zero, IfB_t, IfB_f, Gd_t, Gd_f, Ld_ptr, LdN_ptr, Option.isNone_some, Option.isNone_none, Option.isSome_some, Option.isSome_none, Bool.not_true, Bool.not_false, drew_cell, drew_heap]
        exact hjj _ _ ⟨rfl, hF4⟩
    | some rv =>
      rw [hg] at heq hlk
      have hrc := hD _ (getD_mem hg)
      obtain ⟨r, cs⟩ := rv
      refine RunS_ok hlk ?_
      simp only [okV, cond_true]
      simp only [Pu_some, extV_0, extV_1, extV_2, extV_3, nilV_ptr, nilV_fn, faV_ptr, lenV_sl, lenS_s, capV_sl, pickV_t, pickV_f, unV_not, unV_neg, isB_t, isB_f, isB_u, binV_add, binV_sub, binV_mul, binV_eql, binV_neq, binV_lss, binV_leq, binV_gtr, binV_geq, binV_seql, binV_sneq, binV_slss, binV_beql, binV_bneq, binV_peql, binV_pneq, add_add, add_none, Go.Al.add_zero, Nat.zero_add, Nat.add_zero, IfB_t, IfB_f, Gd_t, Gd_f, Ld_ptr, LdN_ptr, Option.isNone_some, Option.isNone_none, Option.isSome_some, Option.isSome_none, Bool.not_true, Bool.not_false, drew_cell, drew_heap, rvv]
      refine New_any ?_
      intro x w3 hx hs3 hw3 hf3
      have hrc3 := hrc.keep (Fmf hF hf3)
      refine St_all hw3 rfl hrc3.size hrc3.one ?_
      intro w4 hw4 hs4 hf4
      have hf2_4 : Fm (fun _ => False) w2 w4 := Fm.own hf3 hf4 (by rintro y rfl; omega)
      have hF4 := Fmf hF hf2_4
      have hr4 : RcAt w4 x r := ⟨cs, hw4, hrc.keep hF4⟩
      simp only [Option.map_some] at heq
      cases hle : decide (at_ ≤ 0) with
      | true =>
        rw [hle, cond_true] at heq
        rw [heq] at hjj
        simp only [Pu_some, extV_0, extV_1, extV_2, extV_3, nilV_ptr, nilV_fn, faV_ptr, lenV_sl, lenS_s, capV_sl, pickV_t, pickV_f, unV_not, unV_neg, isB_t, isB_f, isB_u, binV_add, binV_sub, binV_mul, binV_eql, binV_neq, binV_lss, binV_leq, binV_gtr, binV_geq, binV_seql, binV_sneq, binV_slss, binV_beql, binV_bneq, binV_peql, binV_pneq, add_add, add_none, Go.Al.add_zero, Nat.zero_add, Nat.add_zero, IfB_t, IfB_f, Gd_t, Gd_f, Ld_ptr, LdN_ptr, Option.isNone_some, Option.isNone_none, Option.isSome_some, Option.isSome_none, Bool.not_true, Bool.not_false, drew_cell, drew_heap]
        exact hjj _ _ ⟨rfl, hF4⟩
      | false =>
        rw [hle, cond_false] at heq
        simp only [Pu_some, extV_0, extV_1, extV_2, extV_3, nilV_ptr, nilV_fn, faV_ptr, lenV_sl, lenS_s, capV_sl, pickV_t, pickV_f, unV_not, unV_neg, isB_t, isB_f, isB_u, binV_add, binV_sub, binV_mul, binV_eql, binV_neq, binV_lss, binV_leq, binV_gtr, binV_geq, binV_seql, binV_sneq, binV_slss, binV_beql, binV_bneq, binV_peql, binV_pneq, add_add, add_none, Go.Al.add_zero, Nat.zero_add, Nat.add_zero, IfB_t, IfB_f, Gd_t, Gd_f, Ld_ptr, LdN_ptr, Option.isNone_some, Option.isNone_none, Option.isSome_some, Option.isSome_none, Bool.not_true, Bool.not_false, drew_cell, drew_heap, hr4.c1, hr4.c3]
        refine Jn_at (fun vs w5 => vs = [.bool (decide (r.kind = 1) || decide (r.kind = 2))] ∧ w5 = w4) ?_ ?_
        · rintro _ w5 ⟨rfl, rfl⟩ _
          refine ⟨_, rfl, ?_⟩
          cases hk : decide (r.kind = 1) || decide (r.kind = 2) with
          | true =>
            rw [hk, cond_true] at heq
            simp only [Pu_some, extV_0, extV_1, extV_2, extV_3, nilV_ptr, nilV_fn, faV_ptr, lenV_sl, lenS_s, capV_sl, pickV_t, pickV_f, unV_not, unV_neg, isB_t, isB_f, isB_u, binV_add, binV_sub, binV_mul, binV_eql, binV_neq, binV_lss, binV_leq, binV_gtr, binV_geq, binV_seql, binV_sneq, binV_slss, binV_beql, binV_bneq, binV_peql, binV_pneq, add_add, add_none, Go.Al.add_zero, Nat.zero_add, Nat.add_zero, IfB_t, IfB_f, Gd_t, Gd_f, Ld_ptr, LdN_ptr, Option.isNone_some, Option.isNone_none, Option.isSome_some, Option.isSome_none, Bool.not_true, Bool.not_false, drew_cell, drew_heap, e3]
            exact hkk _ _ ⟨r.prev, m + 1, rfl, by omega, heq, hF4⟩
          | false =>
            rw [hk, cond_false] at heq
            simp only [Pu_some, extV_0, extV_1, extV_2, extV_3, nilV_ptr, nilV_fn, faV_ptr, lenV_sl, lenS_s, capV_sl, pickV_t, pickV_f, unV_not, unV_neg, isB_t, isB_f, isB_u, binV_add, binV_sub, binV_mul, binV_eql, binV_neq, binV_lss, binV_leq, binV_gtr, binV_geq, binV_seql, binV_sneq, binV_slss, binV_beql, binV_bneq, binV_peql, binV_pneq, add_add, add_none, Go.Al.add_zero, Nat.zero_add, Nat.add_zero, IfB_t, IfB_f, Gd_t, Gd_f, Ld_ptr, LdN_ptr, Option.isNone_some, Option.isNone_none, Option.isSome_some, Option.isSome_none, Bool.not_true, Bool.not_false, drew_cell, drew_heap, beq_dec]
            cases hk6 : decide (r.kind = 6) with
            | true =>
              rw [hk6, cond_true] at heq
              simp only [Pu_some, extV_0, extV_1, extV_2, extV_3, nilV_ptr, nilV_fn, faV_ptr, lenV_sl, lenS_s, capV_sl, pickV_t, pickV_f, unV_not, unV_neg, isB_t, isB_f, isB_u, binV_add, binV_sub, binV_mul, binV_eql, binV_neq, binV_lss, binV_leq, binV_gtr, binV_geq, binV_seql, binV_sneq, binV_slss, binV_beql, binV_bneq, binV_peql, binV_pneq, add_add, add_none, Go.Al.add_zero, Nat.zero_add, Nat.add_zero, IfB_t, IfB_f, Gd_t, Gd_f, Ld_ptr, LdN_ptr, Option.isNone_some, Option.isNone_none, Option.isSome_some, Option.isSome_none, Bool.not_true, Bool.not_false, drew_cell, drew_heap, hr4.c2]
              exact hkk _ _ ⟨r.next, m, rfl, by omega, heq, hF4⟩
            | false =>
              rw [hk6, cond_false] at heq
              simp only [Pu_some, extV_0, extV_1, extV_2, extV_3, nilV_ptr, nilV_fn, faV_ptr, lenV_sl, lenS_s, capV_sl, pickV_t, pickV_f, unV_not, unV_neg, isB_t, isB_f, isB_u, binV_add, binV_sub, binV_mul, binV_eql, binV_neq, binV_lss, binV_leq, binV_gtr, binV_geq, binV_seql, binV_sneq, binV_slss, binV_beql, binV_bneq, binV_peql, binV_pneq, add_add, add_none, Go.Al.add_zero, Nat.zero_add, Nat.add_zero, IfB_t, IfB_f, Gd_t, Gd_f, Ld_ptr, LdN_ptr, Option.isNone_some, Option.isNone_none, Option.isSome_some, Option.isSome_none, Bool.not_true, Bool.not_false, drew_cell, drew_heap]
              exact hkk _ _ ⟨r.prev, m, rfl, by omega, heq, hF4⟩
        · intro jj2 hjj2
          simp only [Pu_some, extV_0, extV_1, extV_2, extV_3, nilV_ptr, nilV_fn, faV_ptr, lenV_sl, lenS_s, capV_sl, pickV_t, pickV_f, unV_not, unV_neg, isB_t, isB_f, isB_u, binV_add, binV_sub, binV_mul, binV_eql, binV_neq, binV_lss, binV_leq, binV_gtr, binV_geq, binV_seql, binV_sneq, binV_slss, binV_beql, binV_bneq, binV_peql, binV_pneq, add_add, add_none, Go.Al.add_zero, Nat.zero_add, Nat.add_zero, IfB_t, IfB_f, Gd_t, Gd_f, Ld_ptr, LdN_ptr, Option.isNone_some, Option.isNone_none, Option.isSome_some, Option.isSome_none, Bool.not_true, Bool.not_false, drew_cell, drew_heap, beq_dec]
          cases h1 : decide (r.kind = 1) with
          | true => simp only [Pu_some, extV_0, extV_1, extV_2, extV_3, nilV_ptr, nilV_fn, faV_ptr, lenV_sl, lenS_s, capV_sl, pickV_t, pickV_f, unV_not, unV_neg, isB_t, isB_f, isB_u, binV_add, binV_sub, binV_mul, binV_eql, binV_neq, binV_lss, binV_leq, binV_gtr, binV_geq, binV_seql, binV_sneq, binV_slss, binV_beql, binV_bneq, binV_peql, binV_pneq, add_add, add_none, Go.Al.add_zero, Nat.zero_add, Nat.add_zero, IfB_t, IfB_f, Gd_t, Gd_f, Ld_ptr, LdN_ptr, Option.isNone_some, Option.isNone_none, Option.isSome_some, Option.isSome_none, Bool.not_true, Bool.not_false, drew_cell, drew_heap]; exact hjj2 _ _ ⟨by rw [h1]; rfl, rfl⟩
          | false => simp only [Pu_some, extV_0, extV_1, extV_2, extV_3, nilV_ptr, nilV_fn, faV_ptr, lenV_sl, lenS_s, capV_sl, pickV_t, pickV_f, unV_not, unV_neg, isB_t, isB_f, isB_u, binV_add, binV_sub, binV_mul, binV_eql, binV_neq, binV_lss, binV_leq, binV_gtr, binV_geq, binV_seql, binV_sneq, binV_slss, binV_beql, binV_bneq, binV_peql, binV_pneq, add_add, add_none, Go.Al.add_zero, Nat.zero_add, Nat.add_zero, IfB_t, IfB_f, Gd_t, Gd_f, Ld_ptr, LdN_ptr, Option.isNone_some, Option.isNone_none, Option.isSome_some, Option.isSome_none, Bool.not_true, Bool.not_false, drew_cell, drew_heap]; exact hjj2 _ _ ⟨by rw [h1]; rfl, rfl⟩
  · have hie : i = n + 1 := by omega
    subst hie
    have e1 : decide (((n + 1 : Nat) : Int) < ((n + 1 : Nat) : Int)) = false := by simp
    rw [Nat.sub_self, leftN] at heq
    rw [heq] at hjj
    simp only [Pu_some, extV_0, extV_1, extV_2, extV_3, nilV_ptr, nilV_fn, faV_ptr, lenV_sl, lenS_s, capV_sl, pickV_t, pickV_f, unV_not, unV_neg, isB_t, isB_f, isB_u, binV_add, binV_sub, binV_mul, binV_eql, binV_neq, binV_lss, binV_leq, binV_gtr, binV_geq, binV_seql, binV_sneq, binV_slss, binV_beql, binV_bneq, binV_peql, binV_pneq, add_add, add_none, Go.Al.add_zero, Nat.zero_add, Nat.add_zero, IfB_t, IfB_f, Gd_t, Gd_f, Ld_ptr, LdN_ptr, Option.isNone_some, Option.isNone_none, Option.isSome_some, Option.isSome_none, Bool.not_true, Bool.not_false, drew_cell, drew_heap, e1]
    exact hjj _ _ ⟨rfl, hF⟩

end Go.Proofs.Ythgdinjgdjiknaa
