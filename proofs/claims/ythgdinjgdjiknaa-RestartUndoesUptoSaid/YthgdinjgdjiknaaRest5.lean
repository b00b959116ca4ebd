/- The chapter's example of a restart, and RestartWins. -/
import Derived.Test.YthgdinjgdjiknaaRest4
namespace Go.Proofs.Ythgdinjgdjiknaa
open Go.Al Go.Proofs
set_option linter.unusedVariables false
set_option linter.unusedSimpArgs false
set_option linter.unusedSectionVars false
set_option maxRecDepth 100000

/-! ### Records laid in a row -/
abbrev nl : Value := .slice none 0 0
def rc5 (r : Rc) : List Value := (rcc r nl nl nl nl nl).toList
theorem rc5_len (r : Rc) : (rc5 r).length = 16 := rfl
def rcz (l p n k x : Int) : Rc := ⟨l, p, n, k, x, 0, 0, 0, 0, 0, [], []⟩
theorem flat_get {α : Type} {f : α → List Value} {n : Nat} (hf : ∀ x, (f x).length = n) {L : List α} {i : Nat} {x : α} (h : L[i]? = some x) {j : Nat} (hj : j < n) : (L.flatMap f)[i * n + j]? = (f x)[j]? := by
  induction L generalizing i with
  | nil => simp at h
  | cons y L ih =>
    rw [List.flatMap_cons]
    cases i with
    | zero =>
      simp at h; subst h
      rw [Nat.zero_mul, Nat.zero_add, List.getElem?_append_left (by rw [hf]; exact hj)]
    | succ i =>
      rw [List.getElem?_append_right (by rw [hf, Nat.succ_mul]; omega), hf, Nat.succ_mul]
      rw [show i * n + n + j - n = i * n + j by omega]
      exact ih (by simpa using h)
theorem flat_len {α : Type} {f : α → List Value} {n : Nat} (hf : ∀ x, (f x).length = n) (L : List α) : (L.flatMap f).length = L.length * n := by
  induction L with
  | nil => simp
  | cons y L ih => rw [List.flatMap_cons, List.length_append, hf, ih, List.length_cons, Nat.succ_mul]; omega
theorem imgs_nil (w : World) : SliceAs vImg w nl [] := ⟨⟨none, 0, rfl, by simp, by simp [maxLen], fun _ => ⟨rfl, rfl⟩, fun i x hi => by simp at hi⟩, by simp⟩
theorem rows_as {w : World} {v : Value} {rs : List Rc} (h : CellsAt w v rs.length 16 (rs.flatMap rc5)) (hin : ∀ r ∈ rs, (In r.lsn ∧ In r.prev ∧ In r.next ∧ In r.xid) ∧ r.imgs = []) (hsz : rs.length ≤ 651500000000) : SliceAs vRc w v rs := by
  obtain ⟨⟨a, c, rfl, h1, h2, h3, h4⟩, hl⟩ := h
  refine ⟨⟨a, c, rfl, h1, h2, h3, fun i r hi => ?_⟩, by rw [bytes75]; unfold reachBytes; omega⟩
  have key : ∀ j, j < 16 → ∃ ad u, a = some ad ∧ (rc5 r)[j]? = some u ∧ w.cell? (ad.add (i * 16 + j)) = some u := by
    intro j hj
    have hg := flat_get rc5_len hi hj
    have hu : (rc5 r)[j]? = some (rc5 r)[j] := List.getElem?_eq_getElem (by rw [rc5_len]; exact hj)
    rw [hu] at hg
    obtain ⟨ad, e, hc⟩ := h4 _ _ hg
    exact ⟨ad, _, e, hu, hc⟩
  obtain ⟨ad, _, rfl, _⟩ := key 0 (by omega)
  refine ⟨ad, rc5 r, rfl, ?_, fun j hj => ?_⟩
  · have hr := hin r (List.mem_of_getElem? hi)
    exact ⟨⟨nl, nl, nl, nl, nl, rfl, ⟨rfl, rfl, rfl, rfl, rfl⟩, by rw [hr.2]; exact imgs_nil w⟩, hr.1⟩
  · rw [cells75] at hj ⊢
    obtain ⟨ad', u, e, h5, h6⟩ := key j hj
    cases e
    rw [h6, h5]
theorem new_rows {w : World} {t : TypeId} {n : Nat} {l : List Value} {k : Nat} (hl : l.length = n * k) (hn : n ≤ maxLen) : CellsAt (w.alloc (.cells l.toArray t)) (.slice (some ⟨w.heap.size, 0, none⟩) n n) n k l :=
  ⟨⟨_, n, rfl, Nat.le_refl _, hn, (fun e => by cases e), fun j u hj => ⟨_, rfl, by rw [add_none, Nat.zero_add, cell_at (alloc_new _ _)]; simpa using hj⟩⟩, hl⟩

/-! ### awake -/
theorem bld75a (l k x : Int) (w : World) : (Instr.build 75 #[(0, iv l), (3, .int .u8 k), (4, iv x)]).run Try.prog w = .ok (.agg (rcc (rcz l 0 0 k x) nl nl nl nl nl)) w := by kernel_rfl
theorem bld75b (l p k x : Int) (w : World) : (Instr.build 75 #[(0, iv l), (3, .int .u8 k), (4, iv x), (1, iv p)]).run Try.prog w = .ok (.agg (rcc (rcz l p 0 k x) nl nl nl nl nl)) w := by kernel_rfl
theorem bld75c (l p n k x : Int) (w : World) : (Instr.build 75 #[(0, iv l), (3, .int .u8 k), (4, iv x), (1, iv p), (2, iv n)]).run Try.prog w = .ok (.agg (rcc (rcz l p n k x) nl nl nl nl nl)) w := by kernel_rfl
theorem bs66 (r1 r2 r3 r4 r5 : Rc) (w : World) : (Instr.buildSlice 66 5 #[(0, .agg (rcc r1 nl nl nl nl nl)), (1, .agg (rcc r2 nl nl nl nl nl)), (2, .agg (rcc r3 nl nl nl nl nl)), (3, .agg (rcc r4 nl nl nl nl nl)), (4, .agg (rcc r5 nl nl nl nl nl))]).run Try.prog w = .ok (.slice (some ⟨w.heap.size, 0, none⟩) 5 5) (w.alloc (.cells ([r1, r2, r3, r4, r5].flatMap rc5).toArray 75)) := by kernel_rfl
theorem bld65 (s : Int) (w : World) : (Instr.build 65 #[(2, iv s)]).run Try.prog w = .ok (.agg (ctl 0 0 0 0 0 s 0)) w := by kernel_rfl
theorem eq77 (w : World) : (do eqGuard .eql 77 (Operand.tmp 48) (Operand.tmp 49) (.agg #[iv 3, iv 1]) (.agg #[iv 3, iv 1]); binOp .eql 77 (.agg #[iv 3, iv 1]) (.agg #[iv 3, iv 1]) : Sem Value).run Try.prog w = .ok (.bool true) w := by kernel_rfl
def rsA : List Rc := [rcz 1 0 0 1 3, rcz 50 0 0 1 4, rcz 90 1 0 2 3, rcz 120 50 0 7 4, rcz 150 90 1 6 3]
theorem lastA : lastM rsA = [(3, 1)] := by decide +kernel
theorem losersA : losers rsA = [(3, 1)] := by
  unfold losers sortK
  rw [lastA]
  simp only [List.map_cons, List.map_nil, List.mergeSort_singleton]
  rw [lastOf, lastA]; rfl
theorem undoesA : undoes rsA = 1 := by
  unfold undoes sortK
  rw [lastA]
  simp only [List.map_cons, List.map_nil, List.mergeSort_singleton, List.foldl_cons, List.foldl_nil]
  unfold ustep
  rw [lastOf, lastA]
  decide +kernel
theorem headA : (rsA.foldl (hstep 16) ⟨1, 2, 1⟩).xid = 5 ∧ (rsA.foldl (hstep 16) ⟨1, 2, 1⟩).page = 2 := by decide +kernel

set_option maxHeartbeats 1000000 in
theorem awake_spec (w : World) : Cl Try.prog 33 [] w fun r w' => r = .bool true ∧ Fm (fun _ => False) w w' := by
  refine c33 ?_; unfold T33
  refine RunS_ok (bld75a _ _ _ w) (RunS_ok (bld75a _ _ _ w) (RunS_ok (bld75b _ _ _ _ w) (RunS_ok (bld75b _ _ _ _ w) (RunS_ok (bld75c _ _ _ _ _ w) (RunS_ok (bs66 _ _ _ _ _ w) (RunS_ok (bld65 _ _) ?_))))))
  have hr := new_rows (w := w) (t := 75) (n := 5) (k := 16) (l := rsA.flatMap rc5) (by rw [flat_len rc5_len]; rfl) (by simp [maxLen])
  have hf1 := Fm.alloc (fun _ => False) w (.cells (rsA.flatMap rc5).toArray 75)
  have hsl := rows_as (rs := rsA) hr (by unfold In; intro r hr; simp [rsA] at hr; rcases hr with rfl | rfl | rfl | rfl | rfl <;> exact ⟨by simp [rcz], rfl⟩) (by decide)
  show Cl Try.prog 32 [iv 16, .agg (ctl 0 0 0 0 0 1 0), .slice (some ⟨w.heap.size, 0, none⟩) 5 5] (w.alloc (.cells (rsA.flatMap rc5).toArray 75)) _
  generalize w.alloc (.cells (rsA.flatMap rc5).toArray 75) = w1 at hsl hf1
  refine (find_spec (by unfold In; omega) 0 0 0 0 0 1 0 hsl).mono ?_
  rintro _ w2 ⟨redo, h, lv, rfl, ho2, hc, hf2⟩
  obtain ⟨rfl, rfl⟩ := hc (by omega)
  rw [losersA] at ho2
  rw [undoesA]
  obtain ⟨hx, hp⟩ := headA
  refine New_any ?_
  intro g w3 hg hs3 hw3 hf3
  refine St_all hw3 rfl rfl (by intro u hu; simp [fcs] at hu; rcases hu with rfl | rfl | rfl | rfl | rfl | rfl <;> first | rfl | exact own_one ho2) ?_
  intro w4 hw4 hs4 hf4
  have hg4 : FdAt w4 g 1 (rsA.foldl (hstep 16) ⟨1, 2, 1⟩) lv 1 := hw4
  have hf24 : Fm (fun _ => False) w2 w4 := Fm.own hf3 hf4 (by rintro y rfl; omega)
  have ho4 := own_keep ho2 hf24 (fun _ _ _ _ e => e)
  have hc4 := CellsAt.of_own ho4
  simp only [Pu_some, extV_0, extV_1, extV_2, extV_3, nilV_ptr, nilV_fn, faV_ptr, lenV_sl, lenS_s, capV_sl, pickV_t, pickV_f, unV_not, unV_neg, isB_t, isB_f, isB_u, binV_add, binV_sub, binV_mul, binV_eql, binV_neq, binV_lss, binV_leq, binV_gtr, binV_geq, binV_seql, binV_sneq, binV_slss, binV_beql, binV_bneq, binV_peql, binV_pneq, add_add, add_none, Go.Al.add_zero, Nat.zero_add, Nat.add_zero, IfB_t, IfB_f, Gd_t, Gd_f, Ld_ptr, LdN_ptr, Option.isNone_some, Option.isNone_none, Option.isSome_some, Option.isSome_none, Bool.not_true, Bool.not_false, drew_cell, drew_heap, hg4.c4]
  refine (next_spec hc4).mono ?_
  rintro _ w5 ⟨rfl, hf5⟩
  have hg5 := hg4.keep hf5 (fun e => e)
  have hc5 := hc4.keep hf5 (fun _ _ e => e)
  have e0 : nextN [(3, 1)] = 1 := rfl
  obtain ⟨ad, hix, _, hcell⟩ := hc5.at (by omega) (i := 0) (by decide) .i64
  have q0 : w5.cell? ad = some (iv 3) := hcell 0 (by omega)
  have q1 : w5.cell? (ad.add 1) = some (iv 1) := hcell 1 (by omega)
  have hix' : ixV 2 lv (Value.int .i64 0) = some (.pointer (some ad)) := hix
  have hF5 : Fm (fun _ => False) w w5 := Fmf hf1 (Fmf hf2 (Fmf hf24 hf5))
  have hlv : lenV lv = some (iv 1) := hc4.lenV
  rw [e0]
  have d1 : decide ((0 : Int) < 1) = true := by decide
  have c1 := hg5.c1
  have c2 := hg5.c2
  rw [hx] at c1
  rw [hp] at c2
  simp only [Pu_some, extV_0, extV_1, extV_2, extV_3, nilV_ptr, nilV_fn, faV_ptr, lenV_sl, lenS_s, capV_sl, pickV_t, pickV_f, unV_not, unV_neg, isB_t, isB_f, isB_u, binV_add, binV_sub, binV_mul, binV_eql, binV_neq, binV_lss, binV_leq, binV_gtr, binV_geq, binV_seql, binV_sneq, binV_slss, binV_beql, binV_bneq, binV_peql, binV_pneq, add_add, add_none, Go.Al.add_zero, Nat.zero_add, Nat.add_zero, IfB_t, IfB_f, Gd_t, Gd_f, Ld_ptr, LdN_ptr, Option.isNone_some, Option.isNone_none, Option.isSome_some, Option.isSome_none, Bool.not_true, Bool.not_false, drew_cell, drew_heap, hg5.c0, c1, c2, hg5.c5, hg5.c4, hix', hlv, cellsV_2 q0 q1, beq_dec, decide_true, d1]
  refine RunS_ok (bld77 _ _ _) ?_
  refine RunS_ok (eq77 _) ?_
  simp only [Pu_some, extV_0, extV_1, extV_2, extV_3, nilV_ptr, nilV_fn, faV_ptr, lenV_sl, lenS_s, capV_sl, pickV_t, pickV_f, unV_not, unV_neg, isB_t, isB_f, isB_u, binV_add, binV_sub, binV_mul, binV_eql, binV_neq, binV_lss, binV_leq, binV_gtr, binV_geq, binV_seql, binV_sneq, binV_slss, binV_beql, binV_bneq, binV_peql, binV_pneq, add_add, add_none, Go.Al.add_zero, Nat.zero_add, Nat.add_zero, IfB_t, IfB_f, Gd_t, Gd_f, Ld_ptr, LdN_ptr, Option.isNone_some, Option.isNone_none, Option.isSome_some, Option.isSome_none, Bool.not_true, Bool.not_false, drew_cell, drew_heap, beq_dec, decide_true, d1]
  exact ⟨(by trivial), hF5⟩

/-! ### RestartWins -/
set_option maxHeartbeats 4000000 in
theorem wins_spec {w : World} (a0 a1 a2 a3 a4 start chk : Int) {v : Value} {rs : List Rc} (hv : SliceAs vRc w v rs) {who : Int} (hwho : In who) :
    Cl Try.prog 8 [.agg (ctl a0 a1 a2 a3 a4 start chk), v, iv who] w fun r w' => r = .bool true ∧ Fm (fun _ => False) w w' := by
  have hlen := hv.len
  unfold maxLen at hlen
  refine c8 ?_; unfold T8
  refine New_any ?_
  intro x3 w1 hx3 hs1 hw1 hf1
  have hall : cellsV w1 ⟨x3, 0, none⟩ 7 = some (.agg (ctl a0 a1 a2 a3 a4 start chk)) := cellsV_blk hw1 rfl
  simp only [Pu_some, extV_0, extV_1, extV_2, extV_3, nilV_ptr, nilV_fn, faV_ptr, lenV_sl, lenS_s, capV_sl, pickV_t, pickV_f, unV_not, unV_neg, isB_t, isB_f, isB_u, binV_add, binV_sub, binV_mul, binV_eql, binV_neq, binV_lss, binV_leq, binV_gtr, binV_geq, binV_seql, binV_sneq, binV_slss, binV_beql, binV_bneq, binV_peql, binV_pneq, add_add, add_none, Go.Al.add_zero, Nat.zero_add, Nat.add_zero, IfB_t, IfB_f, Gd_t, Gd_f, Ld_ptr, LdN_ptr, Option.isNone_some, Option.isNone_none, Option.isSome_some, Option.isSome_none, Bool.not_true, Bool.not_false, drew_cell, drew_heap, hall]
  refine (find_spec (by unfold In; omega) a0 a1 a2 a3 a4 start chk (hv.keep hf1)).mono ?_
  rintro _ w2 ⟨redo, h, lv, rfl, ho2, _, hf2⟩
  refine New_any ?_
  intro g w3 hg hs3 hw3 hf3
  refine St_all hw3 rfl rfl (by intro u hu; simp [fcs] at hu; rcases hu with rfl | rfl | rfl | rfl | rfl | rfl <;> first | rfl | exact own_one ho2) ?_
  intro w4 hw4 hs4 hf4
  have hg4 : FdAt w4 g redo h lv (undoes rs) := hw4
  have hf24 : Fm (fun _ => False) w2 w4 := Fm.own hf3 hf4 (by rintro y rfl; omega)
  have hc4 := CellsAt.of_own (own_keep ho2 hf24 (fun _ _ _ _ e => e))
  have hF4 : Fm (fun _ => False) w w4 := Fmf hf1 (Fmf hf2 hf24)
  generalize hLe : losers rs = L at hc4
  try simp only [Pu_some, extV_0, extV_1, extV_2, extV_3, nilV_ptr, nilV_fn, faV_ptr, lenV_sl, lenS_s, capV_sl, pickV_t, pickV_f, unV_not, unV_neg, isB_t, isB_f, isB_u, binV_add, binV_sub, binV_mul, binV_eql, binV_neq, binV_lss, binV_leq, binV_gtr, binV_geq, binV_seql, binV_sneq, binV_slss, binV_beql, binV_bneq, binV_peql, binV_pneq, add_add, add_none, Go.Al.add_zero, Nat.zero_add, Nat.add_zero, IfB_t, IfB_f, Gd_t, Gd_f, Ld_ptr, LdN_ptr, Option.isNone_some, Option.isNone_none, Option.isSome_some, Option.isSome_none, Bool.not_true, Bool.not_false, drew_cell, drew_heap]
  refine ⟨fun vs w5 => ∃ i : Nat, vs = [.bool ((rs.take i).foldl (openStep who) false), iv i] ∧ i ≤ rs.length ∧ Fm (fun _ => False) w4 w5, fun vs _ => (rs.length - nth vs 1).toNat, ⟨0, rfl, by omega, Fm.refl _ _⟩, ?_⟩
  rintro _ w5 ov ivv ⟨i, hvs, hi, hf5⟩
  cases hvs
  have hF5 := Fmf hF4 hf5
  by_cases hlt : i < rs.length
  · have e1 : decide ((i : Int) < (rs.length : Int)) = true := by rw [decide_eq_true_eq]; omega
    have e2 : IntKind.i64.wrap ((i : Int) + 1) = ((i + 1 : Nat) : Int) := by rw [wrap_id] <;> omega
    have hx : rs[i]? = some rs[i] := List.getElem?_eq_getElem hlt
    generalize rs[i] = r at hx
    have hst := foldl_take (openStep who) false hx
    generalize (rs.take i).foldl (openStep who) false = o at hst
    obtain ⟨ad, cs, hix, hrc0, hld0⟩ := rec_ld hv hx
    have hrc := hrc0.keep hF5
    have hld := cellsV_keep hld0 hF5 (fun e => e)
    simp only [Pu_some, extV_0, extV_1, extV_2, extV_3, nilV_ptr, nilV_fn, faV_ptr, lenV_sl, lenS_s, capV_sl, pickV_t, pickV_f, unV_not, unV_neg, isB_t, isB_f, isB_u, binV_add, binV_sub, binV_mul, binV_eql, binV_neq, binV_lss, binV_leq, binV_gtr, binV_geq, binV_seql, binV_sneq, binV_slss, binV_beql, binV_bneq, binV_peql, binV_pneq, add_add, add_none, Go.Al.add_zero, Nat.zero_add, Nat.add_zero, IfB_t, IfB_f, Gd_t, Gd_f, Ld_ptr, LdN_ptr, Option.isNone_some, Option.isNone_none, Option.isSome_some, Option.isSome_none, Bool.not_true, Bool.not_false, drew_cell, drew_heap, hv.lenV, e1]
    refine Jn_at (fun vs w6 => vs = [.bool (openStep who o r)] ∧ Fm (fun _ => False) w5 w6) ?_ ?_
    · rintro _ w6 ⟨rfl, hf6⟩ _
      refine ⟨_, rfl, ?_⟩
      simp only [Pu_some, extV_0, extV_1, extV_2, extV_3, nilV_ptr, nilV_fn, faV_ptr, lenV_sl, lenS_s, capV_sl, pickV_t, pickV_f, unV_not, unV_neg, isB_t, isB_f, isB_u, binV_add, binV_sub, binV_mul, binV_eql, binV_neq, binV_lss, binV_leq, binV_gtr, binV_geq, binV_seql, binV_sneq, binV_slss, binV_beql, binV_bneq, binV_peql, binV_pneq, add_add, add_none, Go.Al.add_zero, Nat.zero_add, Nat.add_zero, IfB_t, IfB_f, Gd_t, Gd_f, Ld_ptr, LdN_ptr, Option.isNone_some, Option.isNone_none, Option.isSome_some, Option.isSome_none, Bool.not_true, Bool.not_false, drew_cell, drew_heap, e2]
      exact ⟨⟨i + 1, by rw [hst], by omega, Fmf hf5 hf6⟩, by simp only [nth_1]; omega⟩
    intro kk hkk
    simp only [Pu_some, extV_0, extV_1, extV_2, extV_3, nilV_ptr, nilV_fn, faV_ptr, lenV_sl, lenS_s, capV_sl, pickV_t, pickV_f, unV_not, unV_neg, isB_t, isB_f, isB_u, binV_add, binV_sub, binV_mul, binV_eql, binV_neq, binV_lss, binV_leq, binV_gtr, binV_geq, binV_seql, binV_sneq, binV_slss, binV_beql, binV_bneq, binV_peql, binV_pneq, add_add, add_none, Go.Al.add_zero, Nat.zero_add, Nat.add_zero, IfB_t, IfB_f, Gd_t, Gd_f, Ld_ptr, LdN_ptr, Option.isNone_some, Option.isNone_none, Option.isSome_some, Option.isSome_none, Bool.not_true, Bool.not_false, drew_cell, drew_heap, hix, hld]
    refine New_any ?_
    intro x10 w6 hx10 hs6 hw6 hf6
    refine St_all hw6 rfl hrc.size hrc.one ?_
    intro w7 hw7 hs7 hf7
    have hf57 : Fm (fun _ => False) w5 w7 := Fm.own hf6 hf7 (by rintro y rfl; omega)
    have hr7 : RcAt w7 x10 r := ⟨cs, hw7, hrc.keep hf57⟩
    unfold openStep at hkk
    simp only [Pu_some, extV_0, extV_1, extV_2, extV_3, nilV_ptr, nilV_fn, faV_ptr, lenV_sl, lenS_s, capV_sl, pickV_t, pickV_f, unV_not, unV_neg, isB_t, isB_f, isB_u, binV_add, binV_sub, binV_mul, binV_eql, binV_neq, binV_lss, binV_leq, binV_gtr, binV_geq, binV_seql, binV_sneq, binV_slss, binV_beql, binV_bneq, binV_peql, binV_pneq, add_add, add_none, Go.Al.add_zero, Nat.zero_add, Nat.add_zero, IfB_t, IfB_f, Gd_t, Gd_f, Ld_ptr, LdN_ptr, Option.isNone_some, Option.isNone_none, Option.isSome_some, Option.isSome_none, Bool.not_true, Bool.not_false, drew_cell, drew_heap, hr7.c4, bne_dec]
    cases hq : decide (r.xid = who) with
    | false =>
      rw [hq, Bool.false_and, cond_false] at hkk
      simp only [Pu_some, extV_0, extV_1, extV_2, extV_3, nilV_ptr, nilV_fn, faV_ptr, lenV_sl, lenS_s, capV_sl, pickV_t, pickV_f, unV_not, unV_neg, isB_t, isB_f, isB_u, binV_add, binV_sub, binV_mul, binV_eql, binV_neq, binV_lss, binV_leq, binV_gtr, binV_geq, binV_seql, binV_sneq, binV_slss, binV_beql, binV_bneq, binV_peql, binV_pneq, add_add, add_none, Go.Al.add_zero, Nat.zero_add, Nat.add_zero, IfB_t, IfB_f, Gd_t, Gd_f, Ld_ptr, LdN_ptr, Option.isNone_some, Option.isNone_none, Option.isSome_some, Option.isSome_none, Bool.not_true, Bool.not_false, drew_cell, drew_heap]
      exact hkk _ _ ⟨rfl, hf57⟩
    | true =>
      rw [hq, Bool.true_and] at hkk
      simp only [Pu_some, extV_0, extV_1, extV_2, extV_3, nilV_ptr, nilV_fn, faV_ptr, lenV_sl, lenS_s, capV_sl, pickV_t, pickV_f, unV_not, unV_neg, isB_t, isB_f, isB_u, binV_add, binV_sub, binV_mul, binV_eql, binV_neq, binV_lss, binV_leq, binV_gtr, binV_geq, binV_seql, binV_sneq, binV_slss, binV_beql, binV_bneq, binV_peql, binV_pneq, add_add, add_none, Go.Al.add_zero, Nat.zero_add, Nat.add_zero, IfB_t, IfB_f, Gd_t, Gd_f, Ld_ptr, LdN_ptr, Option.isNone_some, Option.isNone_none, Option.isSome_some, Option.isSome_none, Bool.not_true, Bool.not_false, drew_cell, drew_heap]
      cases hq1 : decide (who < 1) with
      | true =>
        rw [hq1, Bool.not_true, cond_false] at hkk
        simp only [Pu_some, extV_0, extV_1, extV_2, extV_3, nilV_ptr, nilV_fn, faV_ptr, lenV_sl, lenS_s, capV_sl, pickV_t, pickV_f, unV_not, unV_neg, isB_t, isB_f, isB_u, binV_add, binV_sub, binV_mul, binV_eql, binV_neq, binV_lss, binV_leq, binV_gtr, binV_geq, binV_seql, binV_sneq, binV_slss, binV_beql, binV_bneq, binV_peql, binV_pneq, add_add, add_none, Go.Al.add_zero, Nat.zero_add, Nat.add_zero, IfB_t, IfB_f, Gd_t, Gd_f, Ld_ptr, LdN_ptr, Option.isNone_some, Option.isNone_none, Option.isSome_some, Option.isSome_none, Bool.not_true, Bool.not_false, drew_cell, drew_heap]
        exact hkk _ _ ⟨rfl, hf57⟩
      | false =>
        rw [hq1, Bool.not_false, cond_true] at hkk
        simp only [Pu_some, extV_0, extV_1, extV_2, extV_3, nilV_ptr, nilV_fn, faV_ptr, lenV_sl, lenS_s, capV_sl, pickV_t, pickV_f, unV_not, unV_neg, isB_t, isB_f, isB_u, binV_add, binV_sub, binV_mul, binV_eql, binV_neq, binV_lss, binV_leq, binV_gtr, binV_geq, binV_seql, binV_sneq, binV_slss, binV_beql, binV_bneq, binV_peql, binV_pneq, add_add, add_none, Go.Al.add_zero, Nat.zero_add, Nat.add_zero, IfB_t, IfB_f, Gd_t, Gd_f, Ld_ptr, LdN_ptr, Option.isNone_some, Option.isNone_none, Option.isSome_some, Option.isSome_none, Bool.not_true, Bool.not_false, drew_cell, drew_heap, hr7.c3]
        refine Jn_at (fun vs w8 => vs = [.bool (decide (r.kind = 7) || decide (r.kind = 8))] ∧ w8 = w7) ?_ ?_
        · rintro _ w8 ⟨rfl, rfl⟩ _
          refine ⟨_, rfl, ?_⟩
          cases h78 : decide (r.kind = 7) || decide (r.kind = 8) with
          | true =>
            rw [h78, cond_true] at hkk
            simp only [Pu_some, extV_0, extV_1, extV_2, extV_3, nilV_ptr, nilV_fn, faV_ptr, lenV_sl, lenS_s, capV_sl, pickV_t, pickV_f, unV_not, unV_neg, isB_t, isB_f, isB_u, binV_add, binV_sub, binV_mul, binV_eql, binV_neq, binV_lss, binV_leq, binV_gtr, binV_geq, binV_seql, binV_sneq, binV_slss, binV_beql, binV_bneq, binV_peql, binV_pneq, add_add, add_none, Go.Al.add_zero, Nat.zero_add, Nat.add_zero, IfB_t, IfB_f, Gd_t, Gd_f, Ld_ptr, LdN_ptr, Option.isNone_some, Option.isNone_none, Option.isSome_some, Option.isSome_none, Bool.not_true, Bool.not_false, drew_cell, drew_heap]
            exact hkk _ _ ⟨rfl, hf57⟩
          | false =>
            rw [h78, cond_false] at hkk
            simp only [Pu_some, extV_0, extV_1, extV_2, extV_3, nilV_ptr, nilV_fn, faV_ptr, lenV_sl, lenS_s, capV_sl, pickV_t, pickV_f, unV_not, unV_neg, isB_t, isB_f, isB_u, binV_add, binV_sub, binV_mul, binV_eql, binV_neq, binV_lss, binV_leq, binV_gtr, binV_geq, binV_seql, binV_sneq, binV_slss, binV_beql, binV_bneq, binV_peql, binV_pneq, add_add, add_none, Go.Al.add_zero, Nat.zero_add, Nat.add_zero, IfB_t, IfB_f, Gd_t, Gd_f, Ld_ptr, LdN_ptr, Option.isNone_some, Option.isNone_none, Option.isSome_some, Option.isSome_none, Bool.not_true, Bool.not_false, drew_cell, drew_heap]
            refine Jn_at (fun vs w9 => vs = [.bool (decide (r.kind = 1) || decide (r.kind = 2) || decide (r.kind = 6))] ∧ w9 = w8) ?_ ?_
            · rintro _ w8 ⟨rfl, rfl⟩ _
              refine ⟨_, rfl, ?_⟩
              cases h126 : decide (r.kind = 1) || decide (r.kind = 2) || decide (r.kind = 6) with
              | true => rw [h126, cond_true] at hkk; simp only [Pu_some, extV_0, extV_1, extV_2, extV_3, nilV_ptr, nilV_fn, faV_ptr, lenV_sl, lenS_s, capV_sl, pickV_t, pickV_f, unV_not, unV_neg, isB_t, isB_f, isB_u, binV_add, binV_sub, binV_mul, binV_eql, binV_neq, binV_lss, binV_leq, binV_gtr, binV_geq, binV_seql, binV_sneq, binV_slss, binV_beql, binV_bneq, binV_peql, binV_pneq, add_add, add_none, Go.Al.add_zero, Nat.zero_add, Nat.add_zero, IfB_t, IfB_f, Gd_t, Gd_f, Ld_ptr, LdN_ptr, Option.isNone_some, Option.isNone_none, Option.isSome_some, Option.isSome_none, Bool.not_true, Bool.not_false, drew_cell, drew_heap]; exact hkk _ _ ⟨rfl, hf57⟩
              | false => rw [h126, cond_false] at hkk; simp only [Pu_some, extV_0, extV_1, extV_2, extV_3, nilV_ptr, nilV_fn, faV_ptr, lenV_sl, lenS_s, capV_sl, pickV_t, pickV_f, unV_not, unV_neg, isB_t, isB_f, isB_u, binV_add, binV_sub, binV_mul, binV_eql, binV_neq, binV_lss, binV_leq, binV_gtr, binV_geq, binV_seql, binV_sneq, binV_slss, binV_beql, binV_bneq, binV_peql, binV_pneq, add_add, add_none, Go.Al.add_zero, Nat.zero_add, Nat.add_zero, IfB_t, IfB_f, Gd_t, Gd_f, Ld_ptr, LdN_ptr, Option.isNone_some, Option.isNone_none, Option.isSome_some, Option.isSome_none, Bool.not_true, Bool.not_false, drew_cell, drew_heap]; exact hkk _ _ ⟨rfl, hf57⟩
            · intro jj hjj
              simp only [Pu_some, extV_0, extV_1, extV_2, extV_3, nilV_ptr, nilV_fn, faV_ptr, lenV_sl, lenS_s, capV_sl, pickV_t, pickV_f, unV_not, unV_neg, isB_t, isB_f, isB_u, binV_add, binV_sub, binV_mul, binV_eql, binV_neq, binV_lss, binV_leq, binV_gtr, binV_geq, binV_seql, binV_sneq, binV_slss, binV_beql, binV_bneq, binV_peql, binV_pneq, add_add, add_none, Go.Al.add_zero, Nat.zero_add, Nat.add_zero, IfB_t, IfB_f, Gd_t, Gd_f, Ld_ptr, LdN_ptr, Option.isNone_some, Option.isNone_none, Option.isSome_some, Option.isSome_none, Bool.not_true, Bool.not_false, drew_cell, drew_heap, beq_dec]
              cases d1 : decide (r.kind = 1) with
              | true => simp only [Pu_some, extV_0, extV_1, extV_2, extV_3, nilV_ptr, nilV_fn, faV_ptr, lenV_sl, lenS_s, capV_sl, pickV_t, pickV_f, unV_not, unV_neg, isB_t, isB_f, isB_u, binV_add, binV_sub, binV_mul, binV_eql, binV_neq, binV_lss, binV_leq, binV_gtr, binV_geq, binV_seql, binV_sneq, binV_slss, binV_beql, binV_bneq, binV_peql, binV_pneq, add_add, add_none, Go.Al.add_zero, Nat.zero_add, Nat.add_zero, IfB_t, IfB_f, Gd_t, Gd_f, Ld_ptr, LdN_ptr, Option.isNone_some, Option.isNone_none, Option.isSome_some, Option.isSome_none, Bool.not_true, Bool.not_false, drew_cell, drew_heap]; exact hjj _ _ ⟨by rw [d1]; simp, rfl⟩
              | false =>
              cases d2 : decide (r.kind = 2) with
              | true => simp only [Pu_some, extV_0, extV_1, extV_2, extV_3, nilV_ptr, nilV_fn, faV_ptr, lenV_sl, lenS_s, capV_sl, pickV_t, pickV_f, unV_not, unV_neg, isB_t, isB_f, isB_u, binV_add, binV_sub, binV_mul, binV_eql, binV_neq, binV_lss, binV_leq, binV_gtr, binV_geq, binV_seql, binV_sneq, binV_slss, binV_beql, binV_bneq, binV_peql, binV_pneq, add_add, add_none, Go.Al.add_zero, Nat.zero_add, Nat.add_zero, IfB_t, IfB_f, Gd_t, Gd_f, Ld_ptr, LdN_ptr, Option.isNone_some, Option.isNone_none, Option.isSome_some, Option.isSome_none, Bool.not_true, Bool.not_false, drew_cell, drew_heap]; exact hjj _ _ ⟨by rw [d2]; simp, rfl⟩
              | false => simp only [Pu_some, extV_0, extV_1, extV_2, extV_3, nilV_ptr, nilV_fn, faV_ptr, lenV_sl, lenS_s, capV_sl, pickV_t, pickV_f, unV_not, unV_neg, isB_t, isB_f, isB_u, binV_add, binV_sub, binV_mul, binV_eql, binV_neq, binV_lss, binV_leq, binV_gtr, binV_geq, binV_seql, binV_sneq, binV_slss, binV_beql, binV_bneq, binV_peql, binV_pneq, add_add, add_none, Go.Al.add_zero, Nat.zero_add, Nat.add_zero, IfB_t, IfB_f, Gd_t, Gd_f, Ld_ptr, LdN_ptr, Option.isNone_some, Option.isNone_none, Option.isSome_some, Option.isSome_none, Bool.not_true, Bool.not_false, drew_cell, drew_heap]; exact hjj _ _ ⟨by rw [d1, d2]; simp, rfl⟩
        · intro jj hjj
          simp only [Pu_some, extV_0, extV_1, extV_2, extV_3, nilV_ptr, nilV_fn, faV_ptr, lenV_sl, lenS_s, capV_sl, pickV_t, pickV_f, unV_not, unV_neg, isB_t, isB_f, isB_u, binV_add, binV_sub, binV_mul, binV_eql, binV_neq, binV_lss, binV_leq, binV_gtr, binV_geq, binV_seql, binV_sneq, binV_slss, binV_beql, binV_bneq, binV_peql, binV_pneq, add_add, add_none, Go.Al.add_zero, Nat.zero_add, Nat.add_zero, IfB_t, IfB_f, Gd_t, Gd_f, Ld_ptr, LdN_ptr, Option.isNone_some, Option.isNone_none, Option.isSome_some, Option.isSome_none, Bool.not_true, Bool.not_false, drew_cell, drew_heap, beq_dec]
          cases d1 : decide (r.kind = 7) with
          | true => simp only [Pu_some, extV_0, extV_1, extV_2, extV_3, nilV_ptr, nilV_fn, faV_ptr, lenV_sl, lenS_s, capV_sl, pickV_t, pickV_f, unV_not, unV_neg, isB_t, isB_f, isB_u, binV_add, binV_sub, binV_mul, binV_eql, binV_neq, binV_lss, binV_leq, binV_gtr, binV_geq, binV_seql, binV_sneq, binV_slss, binV_beql, binV_bneq, binV_peql, binV_pneq, add_add, add_none, Go.Al.add_zero, Nat.zero_add, Nat.add_zero, IfB_t, IfB_f, Gd_t, Gd_f, Ld_ptr, LdN_ptr, Option.isNone_some, Option.isNone_none, Option.isSome_some, Option.isSome_none, Bool.not_true, Bool.not_false, drew_cell, drew_heap]; exact hjj _ _ ⟨by rw [d1]; simp, rfl⟩
          | false => simp only [Pu_some, extV_0, extV_1, extV_2, extV_3, nilV_ptr, nilV_fn, faV_ptr, lenV_sl, lenS_s, capV_sl, pickV_t, pickV_f, unV_not, unV_neg, isB_t, isB_f, isB_u, binV_add, binV_sub, binV_mul, binV_eql, binV_neq, binV_lss, binV_leq, binV_gtr, binV_geq, binV_seql, binV_sneq, binV_slss, binV_beql, binV_bneq, binV_peql, binV_pneq, add_add, add_none, Go.Al.add_zero, Nat.zero_add, Nat.add_zero, IfB_t, IfB_f, Gd_t, Gd_f, Ld_ptr, LdN_ptr, Option.isNone_some, Option.isNone_none, Option.isSome_some, Option.isSome_none, Bool.not_true, Bool.not_false, drew_cell, drew_heap]; exact hjj _ _ ⟨by rw [d1]; simp, rfl⟩
  · have hie : i = rs.length := by omega
    subst hie
    have e1 : decide (((rs.length : Nat) : Int) < (rs.length : Int)) = false := by simp
    rw [List.take_length]
    have hop : rs.foldl (openStep who) false = openW who rs := rfl
    rw [hop, open_iff]
    simp only [Pu_some, extV_0, extV_1, extV_2, extV_3, nilV_ptr, nilV_fn, faV_ptr, lenV_sl, lenS_s, capV_sl, pickV_t, pickV_f, unV_not, unV_neg, isB_t, isB_f, isB_u, binV_add, binV_sub, binV_mul, binV_eql, binV_neq, binV_lss, binV_leq, binV_gtr, binV_geq, binV_seql, binV_sneq, binV_slss, binV_beql, binV_bneq, binV_peql, binV_pneq, add_add, add_none, Go.Al.add_zero, Nat.zero_add, Nat.add_zero, IfB_t, IfB_f, Gd_t, Gd_f, Ld_ptr, LdN_ptr, Option.isNone_some, Option.isNone_none, Option.isSome_some, Option.isSome_none, Bool.not_true, Bool.not_false, drew_cell, drew_heap, hv.lenV, e1]
    have hks := sortK_lt (lastM_nodup rs)
    have hhit := hits_sortK (lastM_nodup rs) who
    have hL : L = (sortK (lastM rs)).map fun x => (x, lastOf rs x) := by rw [← hLe]; rfl
    generalize sortK (lastM rs) = ks at hks hhit hL
    have hLl : L.length = ks.length := by rw [hL, List.length_map]
    have hcl := hc4.lt
    unfold maxLen at hcl
    rw [hLl] at hcl
    refine ⟨fun vs w6 => ∃ (i : Nat), vs = [iv (hits who (ks.take i) : Nat), iv i] ∧ i ≤ ks.length ∧ Fm (fun _ => False) w5 w6, fun vs _ => (ks.length - nth vs 1).toNat, ⟨0, rfl, by omega, Fm.refl _ _⟩, ?_⟩
    rintro _ w6 nv ivv ⟨i, hvs, hi, hf6⟩
    cases hvs
    have hF6 := Fmf hf5 hf6
    have hg6 := hg4.keep hF6 (fun e => e)
    have hc6 := hc4.keep hF6 (fun _ _ e => e)
    have hlv : lenV lv = some (iv ks.length) := by rw [hc4.lenV, hLl]
    by_cases hlt2 : i < ks.length
    · have f1 : decide ((i : Int) < (ks.length : Int)) = true := by rw [decide_eq_true_eq]; omega
      have f2 : IntKind.i64.wrap ((i : Int) + 1) = ((i + 1 : Nat) : Int) := by rw [wrap_id] <;> omega
      have hx : ks[i]? = some ks[i] := List.getElem?_eq_getElem hlt2
      have hxL : L[i]? = some (ks[i], lastOf rs ks[i]) := by rw [hL, List.getElem?_map, hx]; rfl
      obtain ⟨ad, hix, _, hcc⟩ := hc6.at (by omega) (i := i) (by omega) .i64
      have hcx : w6.cell? ad = some (iv ks[i]) := by have := hcc 0 (by omega); rw [(bcs_get hxL).1] at this; exact this
      have hn : hits who (ks.take (i + 1)) = hits who (ks.take i) + bif decide (ks[i] = who) then 1 else 0 := by
        unfold hits
        rw [List.take_add_one, hx, List.countP_append]
        congr 1
      have hnl : hits who (ks.take i) ≤ i := Nat.le_trans List.countP_le_length (by rw [List.length_take]; omega)
      simp only [Pu_some, extV_0, extV_1, extV_2, extV_3, nilV_ptr, nilV_fn, faV_ptr, lenV_sl, lenS_s, capV_sl, pickV_t, pickV_f, unV_not, unV_neg, isB_t, isB_f, isB_u, binV_add, binV_sub, binV_mul, binV_eql, binV_neq, binV_lss, binV_leq, binV_gtr, binV_geq, binV_seql, binV_sneq, binV_slss, binV_beql, binV_bneq, binV_peql, binV_pneq, add_add, add_none, Go.Al.add_zero, Nat.zero_add, Nat.add_zero, IfB_t, IfB_f, Gd_t, Gd_f, Ld_ptr, LdN_ptr, Option.isNone_some, Option.isNone_none, Option.isSome_some, Option.isSome_none, Bool.not_true, Bool.not_false, drew_cell, drew_heap, hg6.c4, hlv, f1]
      refine Jn_at (fun vs w7 => vs = [iv (hits who (ks.take (i + 1)) : Nat)] ∧ w7 = w6) ?_ ?_
      · rintro _ w7 ⟨rfl, rfl⟩ _
        refine ⟨_, rfl, ?_⟩
        have hdr : Fm (fun _ => False) w7 w7.drew := Fm.drew _ _
        by_cases hi0 : 0 < i
        · have g1 : decide ((0 : Int) < (i : Int)) = true := by rw [decide_eq_true_eq]; omega
          have hx' : ks[i - 1]? = some ks[i - 1] := List.getElem?_eq_getElem (by omega)
          have hxL' : L[i - 1]? = some (ks[i - 1], lastOf rs ks[i - 1]) := by rw [hL, List.getElem?_map, hx']; rfl
          obtain ⟨ad', hix', _, hcc'⟩ := hc6.at (by omega) (i := i - 1) (by omega) .i64
          have hcx' : w7.cell? ad' = some (iv ks[i - 1]) := by have := hcc' 0 (by omega); rw [(bcs_get hxL').1] at this; exact this
          have hsub : IntKind.i64.wrap ((i : Int) - 1) = ((i - 1 : Nat) : Int) := by rw [wrap_id] <;> omega
          have hlt3 : ks[i - 1] < ks[i] := List.pairwise_iff_getElem.1 hks (i - 1) i (by omega) hlt2 (by omega)
          have g2 : decide (ks[i] ≤ ks[i - 1]) = false := by rw [decide_eq_false_iff_not]; omega
          simp only [Pu_some, extV_0, extV_1, extV_2, extV_3, nilV_ptr, nilV_fn, faV_ptr, lenV_sl, lenS_s, capV_sl, pickV_t, pickV_f, unV_not, unV_neg, isB_t, isB_f, isB_u, binV_add, binV_sub, binV_mul, binV_eql, binV_neq, binV_lss, binV_leq, binV_gtr, binV_geq, binV_seql, binV_sneq, binV_slss, binV_beql, binV_bneq, binV_peql, binV_pneq, add_add, add_none, Go.Al.add_zero, Nat.zero_add, Nat.add_zero, IfB_t, IfB_f, Gd_t, Gd_f, Ld_ptr, LdN_ptr, Option.isNone_some, Option.isNone_none, Option.isSome_some, Option.isSome_none, Bool.not_true, Bool.not_false, drew_cell, drew_heap, g1, hg6.c4, hix, hcx, hsub, hix', hcx', g2, f2, true_and]
          exact ⟨⟨i + 1, rfl, by omega, Fmf hf6 hdr⟩, by simp only [nth_1]; omega⟩
        · have g1 : decide ((0 : Int) < (i : Int)) = false := by rw [decide_eq_false_iff_not]; omega
          simp only [Pu_some, extV_0, extV_1, extV_2, extV_3, nilV_ptr, nilV_fn, faV_ptr, lenV_sl, lenS_s, capV_sl, pickV_t, pickV_f, unV_not, unV_neg, isB_t, isB_f, isB_u, binV_add, binV_sub, binV_mul, binV_eql, binV_neq, binV_lss, binV_leq, binV_gtr, binV_geq, binV_seql, binV_sneq, binV_slss, binV_beql, binV_bneq, binV_peql, binV_pneq, add_add, add_none, Go.Al.add_zero, Nat.zero_add, Nat.add_zero, IfB_t, IfB_f, Gd_t, Gd_f, Ld_ptr, LdN_ptr, Option.isNone_some, Option.isNone_none, Option.isSome_some, Option.isSome_none, Bool.not_true, Bool.not_false, drew_cell, drew_heap, g1, f2, true_and]
          exact ⟨⟨i + 1, rfl, by omega, Fmf hf6 hdr⟩, by simp only [nth_1]; omega⟩
      · intro kk hkk
        rw [hn] at hkk
        simp only [Pu_some, extV_0, extV_1, extV_2, extV_3, nilV_ptr, nilV_fn, faV_ptr, lenV_sl, lenS_s, capV_sl, pickV_t, pickV_f, unV_not, unV_neg, isB_t, isB_f, isB_u, binV_add, binV_sub, binV_mul, binV_eql, binV_neq, binV_lss, binV_leq, binV_gtr, binV_geq, binV_seql, binV_sneq, binV_slss, binV_beql, binV_bneq, binV_peql, binV_pneq, add_add, add_none, Go.Al.add_zero, Nat.zero_add, Nat.add_zero, IfB_t, IfB_f, Gd_t, Gd_f, Ld_ptr, LdN_ptr, Option.isNone_some, Option.isNone_none, Option.isSome_some, Option.isSome_none, Bool.not_true, Bool.not_false, drew_cell, drew_heap, hg6.c4, hix, hcx, beq_dec]
        cases hq : decide (ks[i] = who) with
        | true =>
          have f3 : IntKind.i64.wrap ((hits who (ks.take i) : Nat) + 1) = ((hits who (ks.take i) + 1 : Nat) : Int) := by rw [wrap_id] <;> omega
          rw [hq, cond_true] at hkk
          simp only [Pu_some, extV_0, extV_1, extV_2, extV_3, nilV_ptr, nilV_fn, faV_ptr, lenV_sl, lenS_s, capV_sl, pickV_t, pickV_f, unV_not, unV_neg, isB_t, isB_f, isB_u, binV_add, binV_sub, binV_mul, binV_eql, binV_neq, binV_lss, binV_leq, binV_gtr, binV_geq, binV_seql, binV_sneq, binV_slss, binV_beql, binV_bneq, binV_peql, binV_pneq, add_add, add_none, Go.Al.add_zero, Nat.zero_add, Nat.add_zero, IfB_t, IfB_f, Gd_t, Gd_f, Ld_ptr, LdN_ptr, Option.isNone_some, Option.isNone_none, Option.isSome_some, Option.isSome_none, Bool.not_true, Bool.not_false, drew_cell, drew_heap, f3]
          exact hkk _ _ ⟨rfl, rfl⟩
        | false =>
          rw [hq, cond_false] at hkk
          simp only [Pu_some, extV_0, extV_1, extV_2, extV_3, nilV_ptr, nilV_fn, faV_ptr, lenV_sl, lenS_s, capV_sl, pickV_t, pickV_f, unV_not, unV_neg, isB_t, isB_f, isB_u, binV_add, binV_sub, binV_mul, binV_eql, binV_neq, binV_lss, binV_leq, binV_gtr, binV_geq, binV_seql, binV_sneq, binV_slss, binV_beql, binV_bneq, binV_peql, binV_pneq, add_add, add_none, Go.Al.add_zero, Nat.zero_add, Nat.add_zero, IfB_t, IfB_f, Gd_t, Gd_f, Ld_ptr, LdN_ptr, Option.isNone_some, Option.isNone_none, Option.isSome_some, Option.isSome_none, Bool.not_true, Bool.not_false, drew_cell, drew_heap]
          exact hkk _ _ ⟨rfl, rfl⟩
    · have hie : i = ks.length := by omega
      subst hie
      have f1 : decide (((ks.length : Nat) : Int) < (ks.length : Int)) = false := by simp
      rw [List.take_length, hhit]
      simp only [Pu_some, extV_0, extV_1, extV_2, extV_3, nilV_ptr, nilV_fn, faV_ptr, lenV_sl, lenS_s, capV_sl, pickV_t, pickV_f, unV_not, unV_neg, isB_t, isB_f, isB_u, binV_add, binV_sub, binV_mul, binV_eql, binV_neq, binV_lss, binV_leq, binV_gtr, binV_geq, binV_seql, binV_sneq, binV_slss, binV_beql, binV_bneq, binV_peql, binV_pneq, add_add, add_none, Go.Al.add_zero, Nat.zero_add, Nat.add_zero, IfB_t, IfB_f, Gd_t, Gd_f, Ld_ptr, LdN_ptr, Option.isNone_some, Option.isNone_none, Option.isSome_some, Option.isSome_none, Bool.not_true, Bool.not_false, drew_cell, drew_heap, hg6.c4, hlv, f1]
      refine Jn_at (fun vs w7 => vs = [iv (bif (getD (lastM rs) who).isSome then 1 else 0)] ∧ w7 = w6) ?_ ?_
      · rintro _ w7 ⟨rfl, rfl⟩ _
        refine ⟨_, rfl, ?_⟩
        have e3 : ((((bif (getD (lastM rs) who).isSome then 1 else 0 : Nat) : Int)) == (bif (getD (lastM rs) who).isSome then (1 : Int) else 0)) = true := by cases (getD (lastM rs) who).isSome <;> rfl
        simp only [Pu_some, extV_0, extV_1, extV_2, extV_3, nilV_ptr, nilV_fn, faV_ptr, lenV_sl, lenS_s, capV_sl, pickV_t, pickV_f, unV_not, unV_neg, isB_t, isB_f, isB_u, binV_add, binV_sub, binV_mul, binV_eql, binV_neq, binV_lss, binV_leq, binV_gtr, binV_geq, binV_seql, binV_sneq, binV_slss, binV_beql, binV_bneq, binV_peql, binV_pneq, add_add, add_none, Go.Al.add_zero, Nat.zero_add, Nat.add_zero, IfB_t, IfB_f, Gd_t, Gd_f, Ld_ptr, LdN_ptr, Option.isNone_some, Option.isNone_none, Option.isSome_some, Option.isSome_none, Bool.not_true, Bool.not_false, drew_cell, drew_heap, e3]
        refine (awake_spec w7).mono ?_
        rintro _ w8 ⟨rfl, hf8⟩
        simp only [Pu_some, extV_0, extV_1, extV_2, extV_3, nilV_ptr, nilV_fn, faV_ptr, lenV_sl, lenS_s, capV_sl, pickV_t, pickV_f, unV_not, unV_neg, isB_t, isB_f, isB_u, binV_add, binV_sub, binV_mul, binV_eql, binV_neq, binV_lss, binV_leq, binV_gtr, binV_geq, binV_seql, binV_sneq, binV_slss, binV_beql, binV_bneq, binV_peql, binV_pneq, add_add, add_none, Go.Al.add_zero, Nat.zero_add, Nat.add_zero, IfB_t, IfB_f, Gd_t, Gd_f, Ld_ptr, LdN_ptr, Option.isNone_some, Option.isNone_none, Option.isSome_some, Option.isSome_none, Bool.not_true, Bool.not_false, drew_cell, drew_heap]
        exact ⟨(by trivial), Fmf hF4 (Fmf hF6 hf8)⟩
      · intro jj hjj
        cases hs : (getD (lastM rs) who).isSome with
        | true => rw [hs] at hjj; simp only [Pu_some, extV_0, extV_1, extV_2, extV_3, nilV_ptr, nilV_fn, faV_ptr, lenV_sl, lenS_s, capV_sl, pickV_t, pickV_f, unV_not, unV_neg, isB_t, isB_f, isB_u, binV_add, binV_sub, binV_mul, binV_eql, binV_neq, binV_lss, binV_leq, binV_gtr, binV_geq, binV_seql, binV_sneq, binV_slss, binV_beql, binV_bneq, binV_peql, binV_pneq, add_add, add_none, Go.Al.add_zero, Nat.zero_add, Nat.add_zero, IfB_t, IfB_f, Gd_t, Gd_f, Ld_ptr, LdN_ptr, Option.isNone_some, Option.isNone_none, Option.isSome_some, Option.isSome_none, Bool.not_true, Bool.not_false, drew_cell, drew_heap]; exact hjj _ _ ⟨rfl, rfl⟩
        | false => rw [hs] at hjj; simp only [Pu_some, extV_0, extV_1, extV_2, extV_3, nilV_ptr, nilV_fn, faV_ptr, lenV_sl, lenS_s, capV_sl, pickV_t, pickV_f, unV_not, unV_neg, isB_t, isB_f, isB_u, binV_add, binV_sub, binV_mul, binV_eql, binV_neq, binV_lss, binV_leq, binV_gtr, binV_geq, binV_seql, binV_sneq, binV_slss, binV_beql, binV_bneq, binV_peql, binV_pneq, add_add, add_none, Go.Al.add_zero, Nat.zero_add, Nat.add_zero, IfB_t, IfB_f, Gd_t, Gd_f, Ld_ptr, LdN_ptr, Option.isNone_some, Option.isNone_none, Option.isSome_some, Option.isSome_none, Bool.not_true, Bool.not_false, drew_cell, drew_heap]; exact hjj _ _ ⟨rfl, rfl⟩

end Go.Proofs.Ythgdinjgdjiknaa
