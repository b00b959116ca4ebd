/- What a restart finds, all of it. -/
import Derived.Test.YthgdinjgdjiknaaRest3
namespace Go.Proofs.Ythgdinjgdjiknaa
open Go.Al Go.Proofs
set_option linter.unusedVariables false
set_option linter.unusedSimpArgs false
set_option linter.unusedSectionVars false
set_option maxRecDepth 100000

theorem wf_of_in {n : Int} (h : In n) : (Lit.int .i64 n).wf = true := by
  unfold In at h
  simp only [Lit.wf, Bool.and_eq_true, decide_eq_true_eq]
  have e1 : IntKind.i64.min = -9223372036854775808 := rfl
  have e2 : IntKind.i64.max = 9223372036854775807 := rfl
  omega
theorem lastM_keys (rs : List Rc) {x : Int} (h : x ∈ (lastM rs).map (·.1)) : ∃ r ∈ rs, x = r.xid := by
  have key : ∀ (l : List Rc) (M : List (Int × Int)), (∀ x ∈ M.map (·.1), ∃ r ∈ rs, x = r.xid) → (∀ r ∈ l, r ∈ rs) → ∀ x ∈ (l.foldl lstep M).map (·.1), ∃ r ∈ rs, x = r.xid := by
    intro l
    induction l with
    | nil => intro M hM _ x hx; exact hM x hx
    | cons r l ih =>
      intro M hM hl
      refine ih (lstep M r) (fun y hy => ?_) (fun q hq => hl q (List.mem_cons_of_mem _ hq))
      rcases keysof_lstep M r hy with h | ⟨h, _⟩
      · exact hM y h
      · exact ⟨r, hl r (by simp), h⟩
  exact key rs [] (by simp) (fun _ h => h) x h
theorem rc_in {w : World} {v : Value} {rs : List Rc} (hv : SliceAs vRc w v rs) {r : Rc} (hr : r ∈ rs) : In r.lsn ∧ In r.prev ∧ In r.next ∧ In r.xid := by
  obtain ⟨i, hi⟩ := List.getElem?_of_mem hr
  obtain ⟨ad, cs, _, h, _⟩ := rec_ld hv hi
  exact h.ins
theorem bytes75 : Try.prog.bytesOf 75 = 216 := by kernel_rfl
theorem rcs_len {w : World} {v : Value} {rs : List Rc} (hv : SliceAs vRc w v rs) : rs.length ≤ 651600000000 := by
  have := hv.small
  rw [bytes75] at this
  unfold reachBytes at this
  omega

/-- The control block. -/
def ctl (a0 a1 a2 a3 a4 start chk : Int) : Array Value := #[iv a0, iv a1, iv a2, iv a3, iv a4, iv start, iv chk]
def selP (chk : Int) (r : Rc) : Bool := decide (0 < chk) && decide (r.lsn = chk) && decide (r.kind = 12)

set_option maxHeartbeats 4000000 in
theorem find_spec {w : World} {m : Int} (hm : In m) (a0 a1 a2 a3 a4 start chk : Int) {v : Value} {rs : List Rc} (hv : SliceAs vRc w v rs) :
    Cl Try.prog 32 [iv m, .agg (ctl a0 a1 a2 a3 a4 start chk), v] w fun r w' => ∃ redo h lv, r = .agg (fcs redo h lv (undoes rs)) ∧ w'.ownsRow w.heap.size 77 2 lv (losers rs).length (bcs (losers rs)) ∧
      (chk ≤ 0 → redo = start ∧ h = rs.foldl (hstep m) ⟨1, 2, 1⟩) ∧ Fm (fun _ => False) w w' := by
  have hrl := rcs_len hv
  refine c32 ?_; unfold T32
  refine New_any ?_
  intro x4 w1 hx4 hs1 hw1 hf1
  refine New_any ?_
  intro x6 w2 hx6 hs2 hw2 hf2
  have e5 : w2.cell? ⟨x4, 5, none⟩ = some (iv start) := by rw [cell_at (hf2.heap hw1 (fun e => e))]; rfl
  simp only [Pu_some, extV_0, extV_1, extV_2, extV_3, nilV_ptr, nilV_fn, faV_ptr, lenV_sl, lenS_s, capV_sl, pickV_t, pickV_f, unV_not, unV_neg, isB_t, isB_f, isB_u, binV_add, binV_sub, binV_mul, binV_eql, binV_neq, binV_lss, binV_leq, binV_gtr, binV_geq, binV_seql, binV_sneq, binV_slss, binV_beql, binV_bneq, binV_peql, binV_pneq, add_add, add_none, Go.Al.add_zero, Nat.zero_add, Nat.add_zero, IfB_t, IfB_f, Gd_t, Gd_f, Ld_ptr, LdN_ptr, Option.isNone_some, Option.isNone_none, Option.isSome_some, Option.isSome_none, Bool.not_true, Bool.not_false, drew_cell, drew_heap, e5]
  refine RunS_ok (bld69 _ _ _ _ _) ?_
  refine New_any ?_
  intro g w3 hg hs3 hw3 hf3
  refine St_all hw3 rfl rfl (by intro u hu; simp at hu; rcases hu with rfl | rfl | rfl | rfl | rfl | rfl <;> rfl) ?_
  intro w4 hw4 hs4 hf4
  have hz0 : x6 = w.heap.size + 1 := by omega
  have hF3 : Fm (fun _ => False) w w3 := Fmf (Fmf hf1 hf2) hf3
  have hF4 : Fm (fun _ => False) w w4 := Fm.own hF3 hf4 (by rintro y rfl; omega)
  have hc4 : w4.heap[x4]? = some (.cells (ctl a0 a1 a2 a3 a4 start chk) 65) := hf4.heap ((Fmf hf2 hf3).heap hw1 (fun e => e)) (by omega)
  have hx64 : w4.heap[x6]? = some (.cells #[iv 0, iv 0, iv 0, iv 0, .slice none 0 0, iv 0] 69) := hf4.heap (hf3.heap hw2 (fun e => e)) (by omega)
  have hg4 : FdAt w4 g start ⟨1, 2, 1⟩ (.slice none 0 0) 0 := hw4
  have hn46 : g ≠ x6 ∧ w.heap.size ≤ g ∧ w.heap.size ≤ x6 ∧ g = w.heap.size + 2 := by omega
  refine Jn_at (fun vs w5 => ∃ (rest : Value) (rs2 : List Rc) (redo : Int) (h : Hd), vs = [rest] ∧ SliceAs vRc w rest rs2 ∧ FdAt w5 g redo h (.slice none 0 0) 0 ∧ w5.heap[x6]? = some (.cells #[iv 0, iv 0, iv 0, iv 0, .slice none 0 0, iv 0] 69) ∧ Fm (fun _ => False) w w5 ∧ (chk ≤ 0 → redo = start ∧ h = ⟨1, 2, 1⟩ ∧ rs2 = rs)) ?_ ?_
  · rintro _ w5 ⟨rest, rs2, redo, h, rfl, hv2, hg5, hx65, hF5, hchk⟩ _
    refine ⟨rest, rfl, ?_⟩
    refine first_walk hm hv2 hF5 hn46.2.1 hg5 rfl ?_
    intro w6 hg6 hf6
    generalize hH : rs2.foldl (hstep m) h = H at hg6
    have hF6 : Fm (fun _ => False) w w6 := Fm.own hF5 hf6 (by rintro y rfl; omega)
    have hx66 := hf6.heap hx65 (fun e => hn46.1 e.symm)
    refine RunS_ok (makeMap_run _ _) ?_
    have hM1 := MapAt.empty w6 (Value.int .i64) rvv
    have hf7 := Fm.alloc (fun _ => False) w6 (.map #[] 0)
    have hs7 : (w6.alloc (.map #[] 0)).heap.size = w6.heap.size + 1 := alloc_size _ _
    have hb1 : w.heap.size ≤ w6.heap.size := hF6.size
    generalize hbb1 : w6.heap.size = b1 at hM1 hb1 hs7
    generalize w6.alloc (.map #[] 0) = w7 at hM1 hf7 hs7
    refine RunS_ok (makeMap_run _ _) ?_
    have hM2 := MapAt.empty w7 (Value.int .i64) (Value.int .i64)
    have hf8 := Fm.alloc (fun _ => False) w7 (.map #[] 0)
    rw [hs7] at hM2
    generalize hw8e : w7.alloc (.map #[] 0) = w8 at hM2 hf8
    rw [hs7]
    have hF8 : Fm (fun _ => False) w w8 := Fmf hF6 (Fmf hf7 hf8)
    have hg8 := hg6.keep (Fmf hf7 hf8) (fun e => e)
    have hx68 := (Fmf hf7 hf8).heap hx66 (fun e => e)
    have hlg := lt_of_heap hg6
    have hlx := lt_of_heap hx66
    refine second_walk hv hF8 (hM1.keep hf8 (fun e => e)) hM2 hb1 (by omega) (by omega) ?_
    intro w9 D hD hDr hN1 hN2 hf9
    have hF9 : Fm (fun _ => False) w w9 := Fm.own hF8 hf9 (by rintro y (rfl | rfl) <;> omega)
    have hg9 := hg8.keep hf9 (by omega)
    have hx69 := hf9.heap hx68 (by omega)
    have hLl := lastM_len rs
    refine (keysA_spec _ w9).mono ?_
    rintro _ _ ⟨rfl, rfl⟩
    refine (sortedA_spec hN2 (fun p hp => ?_) (by omega)).mono ?_
    · obtain ⟨r, hr, hxr⟩ := lastM_keys rs (x := p.1) (List.mem_map.2 ⟨p, hp, rfl⟩)
      rw [hxr]; exact wf_of_in (rc_in hv hr).2.2.2
    rintro kv w10 ⟨hkv, _, hf10⟩
    have hF10 := Fmf hF9 hf10
    have hs9 := hF9.size
    have hs10 := hf10.size
    have hgl9 := lt_of_heap hg9
    have hl := sortK_len (lastM rs)
    have hkc : CellsAt w10 kv (sortK (lastM rs)).length 1 ((sortK (lastM rs)).map iv) := by
      rw [hl]; exact CellsAt.of_own hkv
    have hkb : ∀ x, blockOf kv = some x → x ≠ g := by
      intro x hx
      obtain ⟨h1, h2⟩ := own_cases hkv
      rcases h2 with ⟨rfl, _⟩ | ⟨q, cap, rfl, hq, _⟩
      · cases hx
      · cases hx
        intro e
        have : q = g := e
        omega
    refine third_walk hv hF10 hD hDr (hN1.keep hf10 (fun e => e)) (hN2.keep hf10 (fun e => e)) hn46.2.1 (by omega) (by omega) (hg9.keep hf10 (fun e => e)) hkc hkb (by omega) (by omega) ?_
    intro w11 lv hg11 ho11 hf11
    have hx611 := hf11.heap (hf10.heap hx69 (fun e => e)) (fun e => hn46.1 e.symm)
    have hF11 : Fm (fun _ => False) w w11 := Fm.own hF10 hf11 (by rintro y rfl; omega)
    have hall : cellsV w11 ⟨g, 0, none⟩ 6 = some (.agg (fcs redo H lv (undoes rs))) := cellsV_blk hg11 rfl
    simp only [Pu_some, extV_0, extV_1, extV_2, extV_3, nilV_ptr, nilV_fn, faV_ptr, lenV_sl, lenS_s, capV_sl, pickV_t, pickV_f, unV_not, unV_neg, isB_t, isB_f, isB_u, binV_add, binV_sub, binV_mul, binV_eql, binV_neq, binV_lss, binV_leq, binV_gtr, binV_geq, binV_seql, binV_sneq, binV_slss, binV_beql, binV_bneq, binV_peql, binV_pneq, add_add, add_none, Go.Al.add_zero, Nat.zero_add, Nat.add_zero, IfB_t, IfB_f, Gd_t, Gd_f, Ld_ptr, LdN_ptr, Option.isNone_some, Option.isNone_none, Option.isSome_some, Option.isSome_none, Bool.not_true, Bool.not_false, drew_cell, drew_heap, hall]
    refine St_all hx611 rfl rfl (by intro u hu; simp [fcs] at hu; rcases hu with rfl | rfl | rfl | rfl | rfl | rfl <;> first | rfl | exact own_one ho11) ?_
    intro w12 hw12 hs12 hf12
    refine retFd (i := 6) hw12 rfl rfl _ ?_
    refine ⟨redo, H, lv, rfl, own_base (own_keep ho11 hf12 (fun y h1 h2 h3 e => by have := hF10.size; omega)) hF10.size, fun hc => ?_, Fm.own hF11 hf12 (by rintro y rfl; omega)⟩
    obtain ⟨r1, r2, r3⟩ := hchk hc
    exact ⟨r1, by rw [← hH, r2, r3]⟩
  · intro jj hjj
    refine (indexr_spec (hv.keep hF4) (selP chk) ?_).mono ?_
    · intro w' hf' r cs hrc k hk
      refine ClV_func (by kernel_rfl) ?_
      refine (sel_spec hrc (chk := chk) (g4 := x4) ⟨_, hf'.heap hc4 (fun e => e), rfl⟩).mono ?_
      rintro _ w'' ⟨rfl, hf''⟩
      exact hk w'' hf''
    rintro _ w5 ⟨i, rfl, hf5, hi⟩
    have hF5 := Fmf hF4 hf5
    have hg5 := hg4.keep hf5 (fun e => e)
    have hx65 := hf5.heap hx64 (fun e => e)
    rcases hi with ⟨h0, r, hr, hp⟩ | ⟨rfl, hno⟩
    · obtain ⟨j, rfl⟩ := Int.eq_ofNat_of_zero_le h0
      replace hr : rs[j]? = some r := hr
      have hjl := (List.getElem?_eq_some_iff.1 hr).1
      obtain ⟨ad, cs, hix, hrc0, hld0⟩ := rec_ld hv hr
      have hrc := hrc0.keep hF5
      have hld := cellsV_keep hld0 hF5 (fun e => e)
      have e1 : decide ((0 : Int) ≤ (j : Int)) = true := by simp
      simp only [Pu_some, extV_0, extV_1, extV_2, extV_3, nilV_ptr, nilV_fn, faV_ptr, lenV_sl, lenS_s, capV_sl, pickV_t, pickV_f, unV_not, unV_neg, isB_t, isB_f, isB_u, binV_add, binV_sub, binV_mul, binV_eql, binV_neq, binV_lss, binV_leq, binV_gtr, binV_geq, binV_seql, binV_sneq, binV_slss, binV_beql, binV_bneq, binV_peql, binV_pneq, add_add, add_none, Go.Al.add_zero, Nat.zero_add, Nat.add_zero, IfB_t, IfB_f, Gd_t, Gd_f, Ld_ptr, LdN_ptr, Option.isNone_some, Option.isNone_none, Option.isSome_some, Option.isSome_none, Bool.not_true, Bool.not_false, drew_cell, drew_heap, e1, hix, hld]
      refine New_any ?_
      intro x10 w6 hx10 hs6 hw6 hf6
      refine St_all hw6 rfl hrc.size hrc.one ?_
      intro w7 hw7 hs7 hf7
      have hf5_7 : Fm (fun _ => False) w5 w7 := Fm.own hf6 hf7 (by rintro y rfl; omega)
      have hr7 : RcAt w7 x10 r := ⟨cs, hw7, hrc.keep hf5_7⟩
      have hg7 := hg5.keep hf5_7 (fun e => e)
      simp only [Pu_some, extV_0, extV_1, extV_2, extV_3, nilV_ptr, nilV_fn, faV_ptr, lenV_sl, lenS_s, capV_sl, pickV_t, pickV_f, unV_not, unV_neg, isB_t, isB_f, isB_u, binV_add, binV_sub, binV_mul, binV_eql, binV_neq, binV_lss, binV_leq, binV_gtr, binV_geq, binV_seql, binV_sneq, binV_slss, binV_beql, binV_bneq, binV_peql, binV_pneq, add_add, add_none, Go.Al.add_zero, Nat.zero_add, Nat.add_zero, IfB_t, IfB_f, Gd_t, Gd_f, Ld_ptr, LdN_ptr, Option.isNone_some, Option.isNone_none, Option.isSome_some, Option.isSome_none, Bool.not_true, Bool.not_false, drew_cell, drew_heap, hr7.c9, hr7.c4, hr7.c8, hr7.c7]
      refine RunS_ok (bld69 _ _ _ _ _) ?_
      refine St_all hg7 rfl rfl (by intro u hu; simp at hu; rcases hu with rfl | rfl | rfl | rfl | rfl | rfl <;> rfl) ?_
      intro w8 hw8 hs8 hf8
      obtain ⟨v', hv', hvs⟩ := hv.lo (i := j) (by omega) cells75 (by omega) .i64
      simp only [Pu_some, extV_0, extV_1, extV_2, extV_3, nilV_ptr, nilV_fn, faV_ptr, lenV_sl, lenS_s, capV_sl, pickV_t, pickV_f, unV_not, unV_neg, isB_t, isB_f, isB_u, binV_add, binV_sub, binV_mul, binV_eql, binV_neq, binV_lss, binV_leq, binV_gtr, binV_geq, binV_seql, binV_sneq, binV_slss, binV_beql, binV_bneq, binV_peql, binV_pneq, add_add, add_none, Go.Al.add_zero, Nat.zero_add, Nat.add_zero, IfB_t, IfB_f, Gd_t, Gd_f, Ld_ptr, LdN_ptr, Option.isNone_some, Option.isNone_none, Option.isSome_some, Option.isSome_none, Bool.not_true, Bool.not_false, drew_cell, drew_heap, hv']
      refine hjj _ _ ⟨v', rs.drop j, r.redo, ⟨r.xid, r.new, r.old⟩, rfl, hvs, hw8, hf8.heap (hf5_7.heap hx65 (fun e => e)) (fun e => hn46.1 e.symm), Fm.own (Fmf hF5 hf5_7) hf8 (by rintro y rfl; omega), fun hc => ?_⟩
      unfold selP at hp
      simp at hp
      omega
    · have e1 : decide ((0 : Int) ≤ -1) = false := by decide
      simp only [Pu_some, extV_0, extV_1, extV_2, extV_3, nilV_ptr, nilV_fn, faV_ptr, lenV_sl, lenS_s, capV_sl, pickV_t, pickV_f, unV_not, unV_neg, isB_t, isB_f, isB_u, binV_add, binV_sub, binV_mul, binV_eql, binV_neq, binV_lss, binV_leq, binV_gtr, binV_geq, binV_seql, binV_sneq, binV_slss, binV_beql, binV_bneq, binV_peql, binV_pneq, add_add, add_none, Go.Al.add_zero, Nat.zero_add, Nat.add_zero, IfB_t, IfB_f, Gd_t, Gd_f, Ld_ptr, LdN_ptr, Option.isNone_some, Option.isNone_none, Option.isSome_some, Option.isSome_none, Bool.not_true, Bool.not_false, drew_cell, drew_heap, e1]
      exact hjj _ _ ⟨v, rs, start, ⟨1, 2, 1⟩, rfl, hv, hg5, hx65, hF5, fun _ => ⟨rfl, rfl, rfl⟩⟩

/-! ### Next -/
def nextN (L : List (Int × Int)) : Int := L.foldl (fun n p => max n p.2) 0
theorem bcs_get {L : List (Int × Int)} {i : Nat} {p : Int × Int} (h : L[i]? = some p) : (bcs L)[i * 2 + 0]? = some (iv p.1) ∧ (bcs L)[i * 2 + 1]? = some (iv p.2) := by
  induction L generalizing i with
  | nil => simp at h
  | cons q L ih =>
    cases i with
    | zero => simp at h; subst h; exact ⟨rfl, rfl⟩
    | succ i =>
      have := ih (i := i) (by simpa using h)
      have e : bcs (q :: L) = iv q.1 :: iv q.2 :: bcs L := rfl
      rw [e, show (i + 1) * 2 + 0 = (i * 2 + 0) + 1 + 1 by omega, show (i + 1) * 2 + 1 = (i * 2 + 1) + 1 + 1 by omega]
      simpa using this
theorem next_spec {w : World} {v : Value} {L : List (Int × Int)} (h : CellsAt w v L.length 2 (bcs L)) : Cl Try.prog 35 [v] w fun r w' => r = .tuple #[iv (nextN L), .bool (decide (0 < nextN L))] ∧ Fm (fun _ => False) w w' := by
  have hlt := h.lt
  unfold maxLen at hlt
  refine c35 ?_; unfold T35
  simp only [Pu_some, extV_0, extV_1, extV_2, extV_3, nilV_ptr, nilV_fn, faV_ptr, lenV_sl, lenS_s, capV_sl, pickV_t, pickV_f, unV_not, unV_neg, isB_t, isB_f, isB_u, binV_add, binV_sub, binV_mul, binV_eql, binV_neq, binV_lss, binV_leq, binV_gtr, binV_geq, binV_seql, binV_sneq, binV_slss, binV_beql, binV_bneq, binV_peql, binV_pneq, add_add, add_none, Go.Al.add_zero, Nat.zero_add, Nat.add_zero, IfB_t, IfB_f, Gd_t, Gd_f, Ld_ptr, LdN_ptr, Option.isNone_some, Option.isNone_none, Option.isSome_some, Option.isSome_none, Bool.not_true, Bool.not_false, drew_cell, drew_heap, h.lenV]
  refine ⟨fun vs w2 => ∃ i : Nat, vs = [iv (nextN (L.take i)), iv i] ∧ i ≤ L.length ∧ Fm (fun _ => False) w w2, fun vs _ => (L.length - nth vs 1).toNat, ⟨0, rfl, by omega, Fm.refl _ _⟩, ?_⟩
  rintro _ w2 nv ivv ⟨i, hvs, hi, hF⟩
  cases hvs
  by_cases hl : i < L.length
  · have e1 : decide ((i : Int) < (L.length : Int)) = true := by rw [decide_eq_true_eq]; omega
    have e2 : IntKind.i64.wrap ((i : Int) + 1) = ((i + 1 : Nat) : Int) := by rw [wrap_id] <;> omega
    have hx : L[i]? = some L[i] := List.getElem?_eq_getElem hl
    generalize L[i] = p at hx
    obtain ⟨ad, hix, _, hc⟩ := h.at (by omega) hl .i64
    have hc0 : w.cell? ad = some (iv p.1) := by have := hc 0 (by omega); rw [(bcs_get hx).1] at this; exact this
    have hc1 : w.cell? (ad.add 1) = some (iv p.2) := by rw [hc 1 (by omega), (bcs_get hx).2]
    have hld := cellsV_keep (cellsV_2 hc0 hc1) hF (fun e => e)
    have hst : nextN (L.take (i + 1)) = max (nextN (L.take i)) p.2 := foldl_take _ _ hx
    simp only [Pu_some, extV_0, extV_1, extV_2, extV_3, nilV_ptr, nilV_fn, faV_ptr, lenV_sl, lenS_s, capV_sl, pickV_t, pickV_f, unV_not, unV_neg, isB_t, isB_f, isB_u, binV_add, binV_sub, binV_mul, binV_eql, binV_neq, binV_lss, binV_leq, binV_gtr, binV_geq, binV_seql, binV_sneq, binV_slss, binV_beql, binV_bneq, binV_peql, binV_pneq, add_add, add_none, Go.Al.add_zero, Nat.zero_add, Nat.add_zero, IfB_t, IfB_f, Gd_t, Gd_f, Ld_ptr, LdN_ptr, Option.isNone_some, Option.isNone_none, Option.isSome_some, Option.isSome_none, Bool.not_true, Bool.not_false, drew_cell, drew_heap, e1, hix, hld]
    refine New_any ?_
    intro x w3 hx3 hs3 hw3 hf3
    refine St_all hw3 rfl rfl (by intro u hu; simp at hu; rcases hu with rfl | rfl <;> rfl) ?_
    intro w4 hw4 hs4 hf4
    have hf2_4 : Fm (fun _ => False) w2 w4 := Fm.own hf3 hf4 (by rintro y rfl; omega)
    have c1 : w4.cell? ⟨x, 1, none⟩ = some (iv p.2) := by rw [cell_at hw4]; rfl
    simp only [Pu_some, extV_0, extV_1, extV_2, extV_3, nilV_ptr, nilV_fn, faV_ptr, lenV_sl, lenS_s, capV_sl, pickV_t, pickV_f, unV_not, unV_neg, isB_t, isB_f, isB_u, binV_add, binV_sub, binV_mul, binV_eql, binV_neq, binV_lss, binV_leq, binV_gtr, binV_geq, binV_seql, binV_sneq, binV_slss, binV_beql, binV_bneq, binV_peql, binV_pneq, add_add, add_none, Go.Al.add_zero, Nat.zero_add, Nat.add_zero, IfB_t, IfB_f, Gd_t, Gd_f, Ld_ptr, LdN_ptr, Option.isNone_some, Option.isNone_none, Option.isSome_some, Option.isSome_none, Bool.not_true, Bool.not_false, drew_cell, drew_heap, c1, fold_max, e2]
    exact ⟨⟨i + 1, by rw [hst], by omega, Fmf hF hf2_4⟩, by simp only [nth_1]; omega⟩
  · have hie : i = L.length := by omega
    subst hie
    have e1 : decide (((L.length : Nat) : Int) < (L.length : Int)) = false := by simp
    rw [List.take_length]
    simp only [Pu_some, extV_0, extV_1, extV_2, extV_3, nilV_ptr, nilV_fn, faV_ptr, lenV_sl, lenS_s, capV_sl, pickV_t, pickV_f, unV_not, unV_neg, isB_t, isB_f, isB_u, binV_add, binV_sub, binV_mul, binV_eql, binV_neq, binV_lss, binV_leq, binV_gtr, binV_geq, binV_seql, binV_sneq, binV_slss, binV_beql, binV_bneq, binV_peql, binV_pneq, add_add, add_none, Go.Al.add_zero, Nat.zero_add, Nat.add_zero, IfB_t, IfB_f, Gd_t, Gd_f, Ld_ptr, LdN_ptr, Option.isNone_some, Option.isNone_none, Option.isSome_some, Option.isSome_none, Bool.not_true, Bool.not_false, drew_cell, drew_heap, e1]
    exact ⟨(by trivial), hF⟩

end Go.Proofs.Ythgdinjgdjiknaa
