/- What the document's answer for layer 10 does. -/
import Derived.Test.YtgknklnbcjjlkaaLocksFree
namespace Go.Proofs.Ytgknklnbcjjlkaa
open Go.Al Go.Proofs
set_option linter.unusedVariables false
set_option linter.unusedSimpArgs false
set_option linter.unusedSectionVars false

theorem less_lists : ∀ (x y : List UInt8), Op.bytesLess x y = decide (x < y)
  | [], [] => by simp [Op.bytesLess]
  | _ :: _, [] => by simp [Op.bytesLess]
  | [], _ :: _ => by simp [Op.bytesLess]
  | a :: x, b :: y => by
    rw [Op.bytesLess, less_lists x y]
    simp only [List.cons_lt_cons_iff]
    by_cases h1 : a < b <;> by_cases h2 : a = b <;> by_cases h3 : x < y <;> simp [h1, h2, h3]
theorem toList_txt (s : ByteArray) : s.toList = txt s := by
  exact Go.ByteArray.toList_eq (bs := s)
theorem binV_less (d : TypeDesc) (s t : ByteArray) : binV d .lss (.string s) (.string t) = some (.bool (decide (txt s < txt t))) := by
  rw [binV_slss, less_lists, toList_txt, toList_txt]

abbrev QL := List (ByteArray × Int)
def flq (R : QL) : List Value := R.flatMap fun p => [sv p.1, jv p.2]
theorem flq_append (R T : QL) : flq (R ++ T) = flq R ++ flq T := by simp [flq]
theorem flq_take (R : QL) (i : Nat) : (flq R).take (i * 2) = flq (R.take i) := by
  induction R generalizing i with
  | nil => simp [flq]
  | cons p R ih =>
    cases i with
    | zero => simp [flq]
    | succ i =>
      have : (i + 1) * 2 = i * 2 + 2 := by omega
      rw [this]
      show (sv p.1 :: jv p.2 :: flq R).take (i * 2 + 2) = sv p.1 :: jv p.2 :: flq (R.take i)
      rw [List.take_succ_cons, List.take_succ_cons, ih]
theorem flq_drop (R : QL) (i : Nat) : (flq R).drop (i * 2) = flq (R.drop i) := by
  induction R generalizing i with
  | nil => simp [flq]
  | cons p R ih =>
    cases i with
    | zero => simp [flq]
    | succ i =>
      have : (i + 1) * 2 = i * 2 + 2 := by omega
      rw [this]
      show (sv p.1 :: jv p.2 :: flq R).drop (i * 2 + 2) = flq (R.drop i)
      rw [List.drop_succ_cons, List.drop_succ_cons, ih]
theorem flq_at {R : QL} {i : Nat} {p : ByteArray × Int} (h : R[i]? = some p) : (flq R)[i * 2 + 0]? = some (sv p.1) ∧ (flq R)[i * 2 + 1]? = some (jv p.2) := by
  induction R generalizing i with
  | nil => simp at h
  | cons q R ih =>
    cases i with
    | zero => simp at h; subst h; exact ⟨rfl, rfl⟩
    | succ i =>
      have e0 : (i + 1) * 2 + 0 = (i * 2 + 0) + 2 := by omega
      have e1 : (i + 1) * 2 + 1 = (i * 2 + 1) + 2 := by omega
      rw [e0, e1]
      show (sv q.1 :: jv q.2 :: flq R)[i * 2 + 0 + 2]? = _ ∧ (sv q.1 :: jv q.2 :: flq R)[i * 2 + 1 + 2]? = _
      rw [List.getElem?_cons_succ, List.getElem?_cons_succ, List.getElem?_cons_succ, List.getElem?_cons_succ]
      exact ih (by simpa using h)
theorem flq_one {R : QL} : ∀ u ∈ flq R, u.oneCell' = true := by
  intro u hu
  obtain ⟨p, _, hp⟩ := List.mem_flatMap.1 hu
  simp at hp
  rcases hp with rfl | rfl <;> rfl

theorem E52 : ElemT Try.prog 52 84 2 24 := elemT_of Try.underlying52 (by kernel_rfl)
theorem bld84 (p : ByteArray) (r : Int) (w : World) : (Instr.build 84 #[(0, sv p), (1, jv r)]).run Try.prog w = .ok (.agg #[sv p, jv r]) w := by kernel_rfl
theorem bs52 (p : ByteArray) (r : Int) (w : World) : (Instr.buildSlice 52 1 #[(0, .agg #[sv p, jv r])]).run Try.prog w = .ok (.slice (some ⟨w.heap.size, 0, none⟩) 1 1) (w.alloc (.cells #[sv p, jv r] 84)) := by kernel_rfl

abbrev RowQ (w : World) (base : Nat) (v : Value) (R : QL) : Prop := w.ownsRow base 84 2 v R.length (flq R)
/-- The reference's table: the struct in block rb; its lists, in blocks from base on. -/
structure IsQ (w : World) (base rb : Nat) (hs ws : QL) : Prop where
  lt : rb < base
  le : base ≤ w.heap.size
  ex : ∃ hv wv, w.heap[rb]? = some (.cells #[hv, wv] 54) ∧ RowQ w base hv hs ∧ RowQ w base wv ws
theorem IsQ.keep {S : Nat → Prop} {w w' : World} {base rb : Nat} {hs ws : QL} (h : IsQ w base rb hs ws) (hf : Fm S w w') (h1 : ¬ S rb) (h2 : ∀ k, base ≤ k → k < w.heap.size → ¬ S k) : IsQ w' base rb hs ws := by
  obtain ⟨hv, wv, hb, ho, hw⟩ := h.ex
  exact ⟨h.lt, Nat.le_trans h.le hf.size, hv, wv, hf.heap hb h1, own_keep ho hf fun k hk hk' _ => h2 k hk hk', own_keep hw hf fun k hk hk' _ => h2 k hk hk'⟩
theorem IsQ.keep0 {w w' : World} {base rb : Nat} {hs ws : QL} (h : IsQ w base rb hs ws) (hf : Fm (fun _ => False) w w') : IsQ w' base rb hs ws := h.keep hf (fun e => e) (fun _ _ _ e => e)

theorem qat {w : World} {base : Nat} {R : QL} {v : Value} (ho : RowQ w base v R) {i : Nat} {p : ByteArray × Int} (hi : R[i]? = some p) : ∃ ad, ixV 2 v (.int .i64 i) = some (.pointer (some ad)) ∧ w.cell? ad = some (sv p.1) ∧ w.cell? (ad.add 1) = some (jv p.2) := by
  have hlt : i < R.length := (List.getElem?_eq_some_iff.1 hi).1
  obtain ⟨ad, h1, _, h3⟩ := (CellsAt.of_own ho).at (by omega) hlt .i64
  obtain ⟨f0, f1⟩ := flq_at hi
  exact ⟨ad, h1, by rw [← add_zero ad, h3 0 (by omega), f0], by rw [h3 1 (by omega), f1]⟩

/-- quit. -/
theorem quit_spec {w : World} {base rb : Nat} {hs ws : QL} (h : IsQ w base rb hs ws) (hsz : ws.length * 24 ≤ 140737488355328) (p : Int) :
    Cl Try.prog 47 [.pointer (some ⟨rb, 0, none⟩), jv p] w fun v w' => IsQ w' base rb hs (ws.filter fun q => q.2 != p) ∧ Fm (· = rb) w w' := by
  obtain ⟨hv, v, hb, hho, ho⟩ := h.ex
  have hlt := lt_of_heap hb
  have hbase := h.le
  have hrb := h.lt
  refine c47 ?_
  unfold T47
  refine ⟨fun vs w2 => ∃ u k, vs = [u, jv (k : Nat)] ∧ k ≤ ws.length ∧ RowQ w2 w.heap.size u ((ws.take k).filter fun q => q.2 != p) ∧ Fm (fun _ => False) w w2, fun vs _ => (ws.length - nth vs 1).toNat, ⟨.slice none 0 0, 0, rfl, by omega, by rw [List.take_zero]; exact World.ownsRow_nil w _ _ _, Fm.refl _ _⟩, ?_⟩
  rintro g w2 u iw ⟨_, k, ⟨⟩, hk, hu, hf⟩
  have hb2 := hf.heap hb (fun e => e)
  have ho2 := own_keep ho hf (fun k hk hk' _ => fun e => e)
  have hlv := (CellsAt.of_own ho2).lenV
  have c0 : w2.cell? ⟨rb, 1, none⟩ = some v := by rw [cell_at hb2]; rfl
  simp only [Pu_some, extV_0, extV_1, extV_2, extV_3, nilV_ptr, nilV_fn, faV_ptr, lenV_sl, lenS_s, capV_sl, pickV_t, pickV_f, unV_not, unV_neg, isB_t, isB_f, isB_u, binV_add, binV_sub, binV_mul, binV_eql, binV_neq, binV_lss, binV_leq, binV_gtr, binV_geq, binV_seql, binV_sneq, binV_slss, binV_beql, binV_bneq, binV_peql, binV_pneq, add_add, add_none, Go.Al.add_zero, Nat.zero_add, Nat.add_zero, IfB_t, IfB_f, Gd_t, Gd_f, Ld_ptr, LdN_ptr, Option.isNone_some, Option.isNone_none, Option.isSome_some, Option.isSome_none, Bool.not_true, Bool.not_false, drew_cell, drew_heap, c0, hlv]
  by_cases hlt : k < ws.length
  · have e1 : decide ((k : Int) < (ws.length : Int)) = true := by simpa using hlt
    simp only [Pu_some, extV_0, extV_1, extV_2, extV_3, nilV_ptr, nilV_fn, faV_ptr, lenV_sl, lenS_s, capV_sl, pickV_t, pickV_f, unV_not, unV_neg, isB_t, isB_f, isB_u, binV_add, binV_sub, binV_mul, binV_eql, binV_neq, binV_lss, binV_leq, binV_gtr, binV_geq, binV_seql, binV_sneq, binV_slss, binV_beql, binV_bneq, binV_peql, binV_pneq, add_add, add_none, Go.Al.add_zero, Nat.zero_add, Nat.add_zero, IfB_t, IfB_f, Gd_t, Gd_f, Ld_ptr, LdN_ptr, Option.isNone_some, Option.isNone_none, Option.isSome_some, Option.isSome_none, Bool.not_true, Bool.not_false, drew_cell, drew_heap, e1, c0]
    have hRk : ws[k]? = some ws[k] := List.getElem?_eq_getElem hlt
    obtain ⟨ad, hix, q0, q1⟩ := qat ho2 hRk
    have hsucc : ws.take (k + 1) = ws.take k ++ [ws[k]] := by rw [List.take_add_one, hRk]; rfl
    refine Jn_at (fun vs w3 => ∃ u', vs = [u'] ∧ RowQ w3 w.heap.size u' ((ws.take (k + 1)).filter fun q => q.2 != p) ∧ Fm (fun _ => False) w w3) ?_ ?_
    · rintro _ w3 ⟨u', rfl, hu', hf'⟩ _
      refine ⟨u', rfl, ?_⟩
      simp only [Pu_some, extV_0, extV_1, extV_2, extV_3, nilV_ptr, nilV_fn, faV_ptr, lenV_sl, lenS_s, capV_sl, pickV_t, pickV_f, unV_not, unV_neg, isB_t, isB_f, isB_u, binV_add, binV_sub, binV_mul, binV_eql, binV_neq, binV_lss, binV_leq, binV_gtr, binV_geq, binV_seql, binV_sneq, binV_slss, binV_beql, binV_bneq, binV_peql, binV_pneq, add_add, add_none, Go.Al.add_zero, Nat.zero_add, Nat.add_zero, IfB_t, IfB_f, Gd_t, Gd_f, Ld_ptr, LdN_ptr, Option.isNone_some, Option.isNone_none, Option.isSome_some, Option.isSome_none, Bool.not_true, Bool.not_false, drew_cell, drew_heap, wrap_succ (i := k) (by have := (CellsAt.of_own ho).lt; unfold maxLen at this; omega)]
      exact ⟨⟨u', k + 1, rfl, by omega, hu', hf'⟩, by simp only [nth_1]; omega⟩
    · intro kk hkk
      simp only [Pu_some, extV_0, extV_1, extV_2, extV_3, nilV_ptr, nilV_fn, faV_ptr, lenV_sl, lenS_s, capV_sl, pickV_t, pickV_f, unV_not, unV_neg, isB_t, isB_f, isB_u, binV_add, binV_sub, binV_mul, binV_eql, binV_neq, binV_lss, binV_leq, binV_gtr, binV_geq, binV_seql, binV_sneq, binV_slss, binV_beql, binV_bneq, binV_peql, binV_pneq, add_add, add_none, Go.Al.add_zero, Nat.zero_add, Nat.add_zero, IfB_t, IfB_f, Gd_t, Gd_f, Ld_ptr, LdN_ptr, Option.isNone_some, Option.isNone_none, Option.isSome_some, Option.isSome_none, Bool.not_true, Bool.not_false, drew_cell, drew_heap, hix, q1]
      by_cases hp : (ws[k]).2 = p
      · have e2 : ((ws[k]).2 != p) = false := by simp [hp]
        simp only [Pu_some, extV_0, extV_1, extV_2, extV_3, nilV_ptr, nilV_fn, faV_ptr, lenV_sl, lenS_s, capV_sl, pickV_t, pickV_f, unV_not, unV_neg, isB_t, isB_f, isB_u, binV_add, binV_sub, binV_mul, binV_eql, binV_neq, binV_lss, binV_leq, binV_gtr, binV_geq, binV_seql, binV_sneq, binV_slss, binV_beql, binV_bneq, binV_peql, binV_pneq, add_add, add_none, Go.Al.add_zero, Nat.zero_add, Nat.add_zero, IfB_t, IfB_f, Gd_t, Gd_f, Ld_ptr, LdN_ptr, Option.isNone_some, Option.isNone_none, Option.isSome_some, Option.isSome_none, Bool.not_true, Bool.not_false, drew_cell, drew_heap, e2]
        refine hkk _ _ ⟨u, rfl, ?_, hf⟩
        rw [hsucc, List.filter_append]
        have : [ws[k]].filter (fun q => q.2 != p) = [] := by rw [List.filter_cons, e2]; rfl
        rw [this, List.append_nil]; exact hu
      · have e2 : ((ws[k]).2 != p) = true := by simp [hp]
        simp only [Pu_some, extV_0, extV_1, extV_2, extV_3, nilV_ptr, nilV_fn, faV_ptr, lenV_sl, lenS_s, capV_sl, pickV_t, pickV_f, unV_not, unV_neg, isB_t, isB_f, isB_u, binV_add, binV_sub, binV_mul, binV_eql, binV_neq, binV_lss, binV_leq, binV_gtr, binV_geq, binV_seql, binV_sneq, binV_slss, binV_beql, binV_bneq, binV_peql, binV_pneq, add_add, add_none, Go.Al.add_zero, Nat.zero_add, Nat.add_zero, IfB_t, IfB_f, Gd_t, Gd_f, Ld_ptr, LdN_ptr, Option.isNone_some, Option.isNone_none, Option.isSome_some, Option.isSome_none, Bool.not_true, Bool.not_false, drew_cell, drew_heap, e2, c0, hix, cellsV_2 q0 q1]
        have hfl : ((ws.take k).filter fun q => q.2 != p).length ≤ k := Nat.le_trans (List.length_filter_le _ _) (by rw [List.length_take]; omega)
        refine append_el E52 (by omega) 52 (cs := [sv (ws[k]).1, jv (ws[k]).2]) rfl (bs52 _ _ _) (by intro u hu; simp at hu; rcases hu with rfl | rfl <;> rfl) hu (by unfold maxLen; omega) (by omega) hf.size ?_
        intro u' w3 hu' hne hf'
        have hF := hf.trans hf' (U := fun _ => False) (fun _ _ e => e) (fun x hx e => by omega)
        refine hkk _ _ ⟨u', rfl, ?_, hF⟩
        rw [hsucc, List.filter_append]
        have : [ws[k]].filter (fun q => q.2 != p) = [ws[k]] := by rw [List.filter_cons, e2]; rfl
        rw [this]
        show w3.ownsRow _ _ _ _ _ _
        rw [flq_append, List.length_append]; exact hu'
  · have hke : k = ws.length := by omega
    subst hke
    have e1 : decide ((ws.length : Int) < (ws.length : Int)) = false := by simp
    simp only [Pu_some, extV_0, extV_1, extV_2, extV_3, nilV_ptr, nilV_fn, faV_ptr, lenV_sl, lenS_s, capV_sl, pickV_t, pickV_f, unV_not, unV_neg, isB_t, isB_f, isB_u, binV_add, binV_sub, binV_mul, binV_eql, binV_neq, binV_lss, binV_leq, binV_gtr, binV_geq, binV_seql, binV_sneq, binV_slss, binV_beql, binV_bneq, binV_peql, binV_pneq, add_add, add_none, Go.Al.add_zero, Nat.zero_add, Nat.add_zero, IfB_t, IfB_f, Gd_t, Gd_f, Ld_ptr, LdN_ptr, Option.isNone_some, Option.isNone_none, Option.isSome_some, Option.isSome_none, Bool.not_true, Bool.not_false, drew_cell, drew_heap, e1]
    rw [List.take_length] at hu
    refine St_blk hb2 (by simp) (own_one hu) ?_
    intro w3 hw3 hs3 hf3
    have hF := hf.trans hf3 (U := (· = rb)) (fun _ _ e => e.elim) (fun _ _ e => e)
    refine ⟨⟨hrb, Nat.le_trans hbase hF.size, hv, u, hw3, own_keep hho hF (fun k hk _ _ e => by omega), own_base (own_keep hu hf3 (fun k hk _ _ e => by omega)) hbase⟩, hF⟩

/-- Holder. -/
def qholder (hs : QL) (key : ByteArray) : Value := .tuple #[jv ((getD hs key).getD 0), .bool (getD hs key).isSome]
theorem qholder_spec {w : World} {base rb : Nat} {hs ws : QL} (h : IsQ w base rb hs ws) (hsz : hs.length < 4611686018427387904) (p : ByteArray) :
    Cl Try.prog 33 [.pointer (some ⟨rb, 0, none⟩), sv p] w fun v w' => v = qholder hs p ∧ w' = w := by
  obtain ⟨v, wv, hb, ho, _⟩ := h.ex
  refine c33 ?_
  unfold T33
  have c0 : w.cell? ⟨rb, 0, none⟩ = some v := by rw [cell_at hb]; rfl
  have hlv := (CellsAt.of_own ho).lenV
  refine ⟨fun vs w2 => ∃ k : Nat, vs = [jv k] ∧ k ≤ hs.length ∧ w2 = w ∧ ∀ q ∈ hs.take k, decide (q.1 = p) = false, fun vs w2 => (hs.length - nth vs 0).toNat, ⟨0, rfl, by omega, rfl, by simp⟩, ?_⟩
  rintro g w2 iw ⟨k, ⟨⟩, hk, rfl, hno⟩
  simp only [Pu_some, extV_0, extV_1, extV_2, extV_3, nilV_ptr, nilV_fn, faV_ptr, lenV_sl, lenS_s, capV_sl, pickV_t, pickV_f, unV_not, unV_neg, isB_t, isB_f, isB_u, binV_add, binV_sub, binV_mul, binV_eql, binV_neq, binV_lss, binV_leq, binV_gtr, binV_geq, binV_seql, binV_sneq, binV_slss, binV_beql, binV_bneq, binV_peql, binV_pneq, add_add, add_none, Go.Al.add_zero, Nat.zero_add, Nat.add_zero, IfB_t, IfB_f, Gd_t, Gd_f, Ld_ptr, LdN_ptr, Option.isNone_some, Option.isNone_none, Option.isSome_some, Option.isSome_none, Bool.not_true, Bool.not_false, drew_cell, drew_heap, c0, hlv]
  by_cases hlt : k < hs.length
  · have e1 : decide ((k : Int) < (hs.length : Int)) = true := by simpa using hlt
    have hRk : hs[k]? = some hs[k] := List.getElem?_eq_getElem hlt
    obtain ⟨ad, hix, q0, q1⟩ := qat ho hRk
    by_cases hp : (hs[k]).1 = p
    · have e2 : decide ((hs[k]).1 = p) = true := by simpa using hp
      simp only [Pu_some, extV_0, extV_1, extV_2, extV_3, nilV_ptr, nilV_fn, faV_ptr, lenV_sl, lenS_s, capV_sl, pickV_t, pickV_f, unV_not, unV_neg, isB_t, isB_f, isB_u, binV_add, binV_sub, binV_mul, binV_eql, binV_neq, binV_lss, binV_leq, binV_gtr, binV_geq, binV_seql, binV_sneq, binV_slss, binV_beql, binV_bneq, binV_peql, binV_pneq, add_add, add_none, Go.Al.add_zero, Nat.zero_add, Nat.add_zero, IfB_t, IfB_f, Gd_t, Gd_f, Ld_ptr, LdN_ptr, Option.isNone_some, Option.isNone_none, Option.isSome_some, Option.isSome_none, Bool.not_true, Bool.not_false, drew_cell, drew_heap, e1, c0, hix, q0, q1, e2]
      rw [qholder, getD, find_here (f := fun q : ByteArray × Int => decide (q.1 = p)) hno hRk (by simpa using hp)]
      exact ⟨rfl, trivial⟩
    · have e2 : decide ((hs[k]).1 = p) = false := by simpa using hp
      simp only [Pu_some, extV_0, extV_1, extV_2, extV_3, nilV_ptr, nilV_fn, faV_ptr, lenV_sl, lenS_s, capV_sl, pickV_t, pickV_f, unV_not, unV_neg, isB_t, isB_f, isB_u, binV_add, binV_sub, binV_mul, binV_eql, binV_neq, binV_lss, binV_leq, binV_gtr, binV_geq, binV_seql, binV_sneq, binV_slss, binV_beql, binV_bneq, binV_peql, binV_pneq, add_add, add_none, Go.Al.add_zero, Nat.zero_add, Nat.add_zero, IfB_t, IfB_f, Gd_t, Gd_f, Ld_ptr, LdN_ptr, Option.isNone_some, Option.isNone_none, Option.isSome_some, Option.isSome_none, Bool.not_true, Bool.not_false, drew_cell, drew_heap, e1, c0, hix, q0, q1, e2, wrap_succ (i := k) (by omega)]
      exact ⟨⟨k + 1, rfl, by omega, trivial, take_more hno hRk (by simpa using hp)⟩, by simp only [nth_0]; omega⟩
  · have hke : k = hs.length := by omega
    subst hke
    have e1 : decide ((hs.length : Int) < (hs.length : Int)) = false := by simp
    simp only [Pu_some, extV_0, extV_1, extV_2, extV_3, nilV_ptr, nilV_fn, faV_ptr, lenV_sl, lenS_s, capV_sl, pickV_t, pickV_f, unV_not, unV_neg, isB_t, isB_f, isB_u, binV_add, binV_sub, binV_mul, binV_eql, binV_neq, binV_lss, binV_leq, binV_gtr, binV_geq, binV_seql, binV_sneq, binV_slss, binV_beql, binV_bneq, binV_peql, binV_pneq, add_add, add_none, Go.Al.add_zero, Nat.zero_add, Nat.add_zero, IfB_t, IfB_f, Gd_t, Gd_f, Ld_ptr, LdN_ptr, Option.isNone_some, Option.isNone_none, Option.isSome_some, Option.isSome_none, Bool.not_true, Bool.not_false, drew_cell, drew_heap, e1]
    refine ⟨?_, trivial⟩
    rw [qholder, getD, find_drop _ hs hs.length hno, List.drop_length]; rfl

/-- For. -/
def forD (ws : QL) (who : Int) : Option ByteArray := (ws.find? fun q => decide (q.2 = who)).map (·.1)
def qfor (ws : QL) (who : Int) : Value := .tuple #[sv ((forD ws who).getD ByteArray.empty), .bool (forD ws who).isSome]
theorem qfor_spec {w : World} {base rb : Nat} {hs ws : QL} (h : IsQ w base rb hs ws) (hsz : ws.length < 4611686018427387904) (p : Int) :
    Cl Try.prog 35 [.pointer (some ⟨rb, 0, none⟩), jv p] w fun v w' => v = qfor ws p ∧ w' = w := by
  obtain ⟨hv, v, hb, _, ho⟩ := h.ex
  refine c35 ?_
  unfold T35
  have c0 : w.cell? ⟨rb, 1, none⟩ = some v := by rw [cell_at hb]; rfl
  have hlv := (CellsAt.of_own ho).lenV
  refine ⟨fun vs w2 => ∃ k : Nat, vs = [jv k] ∧ k ≤ ws.length ∧ w2 = w ∧ ∀ q ∈ ws.take k, decide (q.2 = p) = false, fun vs w2 => (ws.length - nth vs 0).toNat, ⟨0, rfl, by omega, rfl, by simp⟩, ?_⟩
  rintro g w2 iw ⟨k, ⟨⟩, hk, rfl, hno⟩
  simp only [Pu_some, extV_0, extV_1, extV_2, extV_3, nilV_ptr, nilV_fn, faV_ptr, lenV_sl, lenS_s, capV_sl, pickV_t, pickV_f, unV_not, unV_neg, isB_t, isB_f, isB_u, binV_add, binV_sub, binV_mul, binV_eql, binV_neq, binV_lss, binV_leq, binV_gtr, binV_geq, binV_seql, binV_sneq, binV_slss, binV_beql, binV_bneq, binV_peql, binV_pneq, add_add, add_none, Go.Al.add_zero, Nat.zero_add, Nat.add_zero, IfB_t, IfB_f, Gd_t, Gd_f, Ld_ptr, LdN_ptr, Option.isNone_some, Option.isNone_none, Option.isSome_some, Option.isSome_none, Bool.not_true, Bool.not_false, drew_cell, drew_heap, c0, hlv]
  by_cases hlt : k < ws.length
  · have e1 : decide ((k : Int) < (ws.length : Int)) = true := by simpa using hlt
    have hRk : ws[k]? = some ws[k] := List.getElem?_eq_getElem hlt
    obtain ⟨ad, hix, q0, q1⟩ := qat ho hRk
    by_cases hp : (ws[k]).2 = p
    · have e2 : ((ws[k]).2 == p) = true := by simpa using hp
      simp only [Pu_some, extV_0, extV_1, extV_2, extV_3, nilV_ptr, nilV_fn, faV_ptr, lenV_sl, lenS_s, capV_sl, pickV_t, pickV_f, unV_not, unV_neg, isB_t, isB_f, isB_u, binV_add, binV_sub, binV_mul, binV_eql, binV_neq, binV_lss, binV_leq, binV_gtr, binV_geq, binV_seql, binV_sneq, binV_slss, binV_beql, binV_bneq, binV_peql, binV_pneq, add_add, add_none, Go.Al.add_zero, Nat.zero_add, Nat.add_zero, IfB_t, IfB_f, Gd_t, Gd_f, Ld_ptr, LdN_ptr, Option.isNone_some, Option.isNone_none, Option.isSome_some, Option.isSome_none, Bool.not_true, Bool.not_false, drew_cell, drew_heap, e1, c0, hix, q0, q1, e2]
      rw [qfor, forD, find_here (f := fun q : ByteArray × Int => decide (q.2 = p)) hno hRk (by simpa using hp)]
      exact ⟨rfl, trivial⟩
    · have e2 : ((ws[k]).2 == p) = false := by simpa using hp
      simp only [Pu_some, extV_0, extV_1, extV_2, extV_3, nilV_ptr, nilV_fn, faV_ptr, lenV_sl, lenS_s, capV_sl, pickV_t, pickV_f, unV_not, unV_neg, isB_t, isB_f, isB_u, binV_add, binV_sub, binV_mul, binV_eql, binV_neq, binV_lss, binV_leq, binV_gtr, binV_geq, binV_seql, binV_sneq, binV_slss, binV_beql, binV_bneq, binV_peql, binV_pneq, add_add, add_none, Go.Al.add_zero, Nat.zero_add, Nat.add_zero, IfB_t, IfB_f, Gd_t, Gd_f, Ld_ptr, LdN_ptr, Option.isNone_some, Option.isNone_none, Option.isSome_some, Option.isSome_none, Bool.not_true, Bool.not_false, drew_cell, drew_heap, e1, c0, hix, q0, q1, e2, wrap_succ (i := k) (by omega)]
      exact ⟨⟨k + 1, rfl, by omega, trivial, take_more hno hRk (by simpa using hp)⟩, by simp only [nth_0]; omega⟩
  · have hke : k = ws.length := by omega
    subst hke
    have e1 : decide ((ws.length : Int) < (ws.length : Int)) = false := by simp
    simp only [Pu_some, extV_0, extV_1, extV_2, extV_3, nilV_ptr, nilV_fn, faV_ptr, lenV_sl, lenS_s, capV_sl, pickV_t, pickV_f, unV_not, unV_neg, isB_t, isB_f, isB_u, binV_add, binV_sub, binV_mul, binV_eql, binV_neq, binV_lss, binV_leq, binV_gtr, binV_geq, binV_seql, binV_sneq, binV_slss, binV_beql, binV_bneq, binV_peql, binV_pneq, add_add, add_none, Go.Al.add_zero, Nat.zero_add, Nat.add_zero, IfB_t, IfB_f, Gd_t, Gd_f, Ld_ptr, LdN_ptr, Option.isNone_some, Option.isNone_none, Option.isSome_some, Option.isSome_none, Bool.not_true, Bool.not_false, drew_cell, drew_heap, e1]
    refine ⟨?_, trivial⟩
    rw [qfor, forD, find_drop _ ws ws.length hno, List.drop_length]; rfl

/-- Held. -/
theorem qheld_spec {w : World} {base rb : Nat} {hs ws : QL} (h : IsQ w base rb hs ws) (hsz : hs.length * 16 ≤ 140737488355328) (p : Int) :
    Cl Try.prog 38 [.pointer (some ⟨rb, 0, none⟩), jv p] w fun v w' => w'.ownsRow w.heap.size 9 1 v (hs.filter fun q => q.2 == p).length ((hs.filter fun q => q.2 == p).map fun q => sv q.1) ∧ Fm (fun _ => False) w w' := by
  obtain ⟨v, wv, hb, ho, _⟩ := h.ex
  refine c38 ?_
  unfold T38
  have hlv := (CellsAt.of_own ho).lenV
  refine ⟨fun vs w2 => ∃ u k, vs = [u, jv (k : Nat)] ∧ k ≤ hs.length ∧ w2.ownsRow w.heap.size 9 1 u ((hs.take k).filter fun q => q.2 == p).length (((hs.take k).filter fun q => q.2 == p).map fun q => sv q.1) ∧ Fm (fun _ => False) w w2, fun vs _ => (hs.length - nth vs 1).toNat, ⟨.slice none 0 0, 0, rfl, by omega, by simpa using World.ownsRow_nil w _ _ _, Fm.refl _ _⟩, ?_⟩
  rintro g w2 u iw ⟨_, k, ⟨⟩, hk, hu, hf⟩
  have hb2 := hf.heap hb (fun e => e)
  have ho2 := own_keep ho hf (fun k hk hk' _ => fun e => e)
  have c0 : w2.cell? ⟨rb, 0, none⟩ = some v := by rw [cell_at hb2]; rfl
  simp only [Pu_some, extV_0, extV_1, extV_2, extV_3, nilV_ptr, nilV_fn, faV_ptr, lenV_sl, lenS_s, capV_sl, pickV_t, pickV_f, unV_not, unV_neg, isB_t, isB_f, isB_u, binV_add, binV_sub, binV_mul, binV_eql, binV_neq, binV_lss, binV_leq, binV_gtr, binV_geq, binV_seql, binV_sneq, binV_slss, binV_beql, binV_bneq, binV_peql, binV_pneq, add_add, add_none, Go.Al.add_zero, Nat.zero_add, Nat.add_zero, IfB_t, IfB_f, Gd_t, Gd_f, Ld_ptr, LdN_ptr, Option.isNone_some, Option.isNone_none, Option.isSome_some, Option.isSome_none, Bool.not_true, Bool.not_false, drew_cell, drew_heap, c0, hlv]
  by_cases hlt : k < hs.length
  · have e1 : decide ((k : Int) < (hs.length : Int)) = true := by simpa using hlt
    have hRk : hs[k]? = some hs[k] := List.getElem?_eq_getElem hlt
    obtain ⟨ad, hix, q0, q1⟩ := qat ho2 hRk
    have hsucc : hs.take (k + 1) = hs.take k ++ [hs[k]] := by rw [List.take_add_one, hRk]; rfl
    simp only [Pu_some, extV_0, extV_1, extV_2, extV_3, nilV_ptr, nilV_fn, faV_ptr, lenV_sl, lenS_s, capV_sl, pickV_t, pickV_f, unV_not, unV_neg, isB_t, isB_f, isB_u, binV_add, binV_sub, binV_mul, binV_eql, binV_neq, binV_lss, binV_leq, binV_gtr, binV_geq, binV_seql, binV_sneq, binV_slss, binV_beql, binV_bneq, binV_peql, binV_pneq, add_add, add_none, Go.Al.add_zero, Nat.zero_add, Nat.add_zero, IfB_t, IfB_f, Gd_t, Gd_f, Ld_ptr, LdN_ptr, Option.isNone_some, Option.isNone_none, Option.isSome_some, Option.isSome_none, Bool.not_true, Bool.not_false, drew_cell, drew_heap, e1]
    refine Jn_at (fun vs w3 => ∃ u', vs = [u'] ∧ w3.ownsRow w.heap.size 9 1 u' ((hs.take (k + 1)).filter fun q => q.2 == p).length (((hs.take (k + 1)).filter fun q => q.2 == p).map fun q => sv q.1) ∧ Fm (fun _ => False) w w3) ?_ ?_
    · rintro _ w3 ⟨u', rfl, hu', hf'⟩ _
      refine ⟨u', rfl, ?_⟩
      simp only [Pu_some, extV_0, extV_1, extV_2, extV_3, nilV_ptr, nilV_fn, faV_ptr, lenV_sl, lenS_s, capV_sl, pickV_t, pickV_f, unV_not, unV_neg, isB_t, isB_f, isB_u, binV_add, binV_sub, binV_mul, binV_eql, binV_neq, binV_lss, binV_leq, binV_gtr, binV_geq, binV_seql, binV_sneq, binV_slss, binV_beql, binV_bneq, binV_peql, binV_pneq, add_add, add_none, Go.Al.add_zero, Nat.zero_add, Nat.add_zero, IfB_t, IfB_f, Gd_t, Gd_f, Ld_ptr, LdN_ptr, Option.isNone_some, Option.isNone_none, Option.isSome_some, Option.isSome_none, Bool.not_true, Bool.not_false, drew_cell, drew_heap, wrap_succ (i := k) (by omega)]
      exact ⟨⟨u', k + 1, rfl, by omega, hu', hf'⟩, by simp only [nth_1]; omega⟩
    · intro kk hkk
      simp only [Pu_some, extV_0, extV_1, extV_2, extV_3, nilV_ptr, nilV_fn, faV_ptr, lenV_sl, lenS_s, capV_sl, pickV_t, pickV_f, unV_not, unV_neg, isB_t, isB_f, isB_u, binV_add, binV_sub, binV_mul, binV_eql, binV_neq, binV_lss, binV_leq, binV_gtr, binV_geq, binV_seql, binV_sneq, binV_slss, binV_beql, binV_bneq, binV_peql, binV_pneq, add_add, add_none, Go.Al.add_zero, Nat.zero_add, Nat.add_zero, IfB_t, IfB_f, Gd_t, Gd_f, Ld_ptr, LdN_ptr, Option.isNone_some, Option.isNone_none, Option.isSome_some, Option.isSome_none, Bool.not_true, Bool.not_false, drew_cell, drew_heap, c0, hix, q1]
      rcases Bool.eq_false_or_eq_true ((hs[k]).2 == p) with e2 | e2
      · have hfl : ((hs.take k).filter fun q => q.2 == p).length ≤ k := Nat.le_trans (List.length_filter_le _ _) (by rw [List.length_take]; omega)
        simp only [Pu_some, extV_0, extV_1, extV_2, extV_3, nilV_ptr, nilV_fn, faV_ptr, lenV_sl, lenS_s, capV_sl, pickV_t, pickV_f, unV_not, unV_neg, isB_t, isB_f, isB_u, binV_add, binV_sub, binV_mul, binV_eql, binV_neq, binV_lss, binV_leq, binV_gtr, binV_geq, binV_seql, binV_sneq, binV_slss, binV_beql, binV_bneq, binV_peql, binV_pneq, add_add, add_none, Go.Al.add_zero, Nat.zero_add, Nat.add_zero, IfB_t, IfB_f, Gd_t, Gd_f, Ld_ptr, LdN_ptr, Option.isNone_some, Option.isNone_none, Option.isSome_some, Option.isSome_none, Bool.not_true, Bool.not_false, drew_cell, drew_heap, e2, c0, hix, q0]
        refine append_one F58 58 (is58 _ _) rfl hu (by unfold maxLen; omega) (by omega) hf.size ?_
        intro u' w3 hu' hne hf'
        have hF := hf.trans hf' (U := fun _ => False) (fun _ _ e => e) (fun x hx e => by omega)
        refine hkk _ _ ⟨u', rfl, ?_, hF⟩
        have : [hs[k]].filter (fun q => q.2 == p) = [hs[k]] := by rw [List.filter_cons, e2]; rfl
        rw [hsucc, List.filter_append, this, List.map_append, List.length_append]; exact hu'
      · simp only [Pu_some, extV_0, extV_1, extV_2, extV_3, nilV_ptr, nilV_fn, faV_ptr, lenV_sl, lenS_s, capV_sl, pickV_t, pickV_f, unV_not, unV_neg, isB_t, isB_f, isB_u, binV_add, binV_sub, binV_mul, binV_eql, binV_neq, binV_lss, binV_leq, binV_gtr, binV_geq, binV_seql, binV_sneq, binV_slss, binV_beql, binV_bneq, binV_peql, binV_pneq, add_add, add_none, Go.Al.add_zero, Nat.zero_add, Nat.add_zero, IfB_t, IfB_f, Gd_t, Gd_f, Ld_ptr, LdN_ptr, Option.isNone_some, Option.isNone_none, Option.isSome_some, Option.isSome_none, Bool.not_true, Bool.not_false, drew_cell, drew_heap, e2]
        refine hkk _ _ ⟨u, rfl, ?_, hf⟩
        have : [hs[k]].filter (fun q => q.2 == p) = [] := by rw [List.filter_cons, e2]; rfl
        rw [hsucc, List.filter_append, this, List.append_nil]; exact hu
  · have hke : k = hs.length := by omega
    subst hke
    have e1 : decide ((hs.length : Int) < (hs.length : Int)) = false := by simp
    simp only [Pu_some, extV_0, extV_1, extV_2, extV_3, nilV_ptr, nilV_fn, faV_ptr, lenV_sl, lenS_s, capV_sl, pickV_t, pickV_f, unV_not, unV_neg, isB_t, isB_f, isB_u, binV_add, binV_sub, binV_mul, binV_eql, binV_neq, binV_lss, binV_leq, binV_gtr, binV_geq, binV_seql, binV_sneq, binV_slss, binV_beql, binV_bneq, binV_peql, binV_pneq, add_add, add_none, Go.Al.add_zero, Nat.zero_add, Nat.add_zero, IfB_t, IfB_f, Gd_t, Gd_f, Ld_ptr, LdN_ptr, Option.isNone_some, Option.isNone_none, Option.isSome_some, Option.isSome_none, Bool.not_true, Bool.not_false, drew_cell, drew_heap, e1]
    rw [List.take_length] at hu
    exact ⟨hu, hf⟩

/-- Waiting. -/
theorem qwaiting_spec {w : World} {base rb : Nat} {hs ws : QL} (h : IsQ w base rb hs ws) (hsz : ws.length * 16 ≤ 140737488355328) :
    Cl Try.prog 40 [.pointer (some ⟨rb, 0, none⟩)] w fun v w' => w'.ownsRow w.heap.size 3 1 v ws.length ((ws.map (·.2)).map jv) ∧ Fm (fun _ => False) w w' := by
  obtain ⟨hv, v, hb, _, ho⟩ := h.ex
  refine c40 ?_
  unfold T40
  have hlv := (CellsAt.of_own ho).lenV
  refine ⟨fun vs w2 => ∃ u k, vs = [u, jv (k : Nat)] ∧ k ≤ ws.length ∧ w2.ownsRow w.heap.size 3 1 u k (((ws.take k).map (·.2)).map jv) ∧ Fm (fun _ => False) w w2, fun vs _ => (ws.length - nth vs 1).toNat, ⟨.slice none 0 0, 0, rfl, by omega, by simpa using World.ownsRow_nil w _ _ _, Fm.refl _ _⟩, ?_⟩
  rintro g w2 u iw ⟨_, k, ⟨⟩, hk, hu, hf⟩
  have hb2 := hf.heap hb (fun e => e)
  have ho2 := own_keep ho hf (fun k hk hk' _ => fun e => e)
  have c0 : w2.cell? ⟨rb, 1, none⟩ = some v := by rw [cell_at hb2]; rfl
  simp only [Pu_some, extV_0, extV_1, extV_2, extV_3, nilV_ptr, nilV_fn, faV_ptr, lenV_sl, lenS_s, capV_sl, pickV_t, pickV_f, unV_not, unV_neg, isB_t, isB_f, isB_u, binV_add, binV_sub, binV_mul, binV_eql, binV_neq, binV_lss, binV_leq, binV_gtr, binV_geq, binV_seql, binV_sneq, binV_slss, binV_beql, binV_bneq, binV_peql, binV_pneq, add_add, add_none, Go.Al.add_zero, Nat.zero_add, Nat.add_zero, IfB_t, IfB_f, Gd_t, Gd_f, Ld_ptr, LdN_ptr, Option.isNone_some, Option.isNone_none, Option.isSome_some, Option.isSome_none, Bool.not_true, Bool.not_false, drew_cell, drew_heap, c0, hlv]
  by_cases hlt : k < ws.length
  · have e1 : decide ((k : Int) < (ws.length : Int)) = true := by simpa using hlt
    have hRk : ws[k]? = some ws[k] := List.getElem?_eq_getElem hlt
    obtain ⟨ad, hix, q0, q1⟩ := qat ho2 hRk
    have hsucc : ws.take (k + 1) = ws.take k ++ [ws[k]] := by rw [List.take_add_one, hRk]; rfl
    simp only [Pu_some, extV_0, extV_1, extV_2, extV_3, nilV_ptr, nilV_fn, faV_ptr, lenV_sl, lenS_s, capV_sl, pickV_t, pickV_f, unV_not, unV_neg, isB_t, isB_f, isB_u, binV_add, binV_sub, binV_mul, binV_eql, binV_neq, binV_lss, binV_leq, binV_gtr, binV_geq, binV_seql, binV_sneq, binV_slss, binV_beql, binV_bneq, binV_peql, binV_pneq, add_add, add_none, Go.Al.add_zero, Nat.zero_add, Nat.add_zero, IfB_t, IfB_f, Gd_t, Gd_f, Ld_ptr, LdN_ptr, Option.isNone_some, Option.isNone_none, Option.isSome_some, Option.isSome_none, Bool.not_true, Bool.not_false, drew_cell, drew_heap, e1, c0, hix, q1]
    refine append_one F35 35 (is35 _ _) rfl hu (by unfold maxLen; omega) (by omega) hf.size ?_
    intro u' w3 hu' hne hf'
    have hF := hf.trans hf' (U := fun _ => False) (fun _ _ e => e) (fun x hx e => by omega)
    simp only [Pu_some, extV_0, extV_1, extV_2, extV_3, nilV_ptr, nilV_fn, faV_ptr, lenV_sl, lenS_s, capV_sl, pickV_t, pickV_f, unV_not, unV_neg, isB_t, isB_f, isB_u, binV_add, binV_sub, binV_mul, binV_eql, binV_neq, binV_lss, binV_leq, binV_gtr, binV_geq, binV_seql, binV_sneq, binV_slss, binV_beql, binV_bneq, binV_peql, binV_pneq, add_add, add_none, Go.Al.add_zero, Nat.zero_add, Nat.add_zero, IfB_t, IfB_f, Gd_t, Gd_f, Ld_ptr, LdN_ptr, Option.isNone_some, Option.isNone_none, Option.isSome_some, Option.isSome_none, Bool.not_true, Bool.not_false, drew_cell, drew_heap, wrap_succ (i := k) (by omega)]
    exact ⟨⟨u', k + 1, rfl, by omega, by rw [hsucc, List.map_append, List.map_append]; exact hu', hF⟩, by simp only [nth_1]; omega⟩
  · have hke : k = ws.length := by omega
    subst hke
    have e1 : decide ((ws.length : Int) < (ws.length : Int)) = false := by simp
    simp only [Pu_some, extV_0, extV_1, extV_2, extV_3, nilV_ptr, nilV_fn, faV_ptr, lenV_sl, lenS_s, capV_sl, pickV_t, pickV_f, unV_not, unV_neg, isB_t, isB_f, isB_u, binV_add, binV_sub, binV_mul, binV_eql, binV_neq, binV_lss, binV_leq, binV_gtr, binV_geq, binV_seql, binV_sneq, binV_slss, binV_beql, binV_bneq, binV_peql, binV_pneq, add_add, add_none, Go.Al.add_zero, Nat.zero_add, Nat.add_zero, IfB_t, IfB_f, Gd_t, Gd_f, Ld_ptr, LdN_ptr, Option.isNone_some, Option.isNone_none, Option.isSome_some, Option.isSome_none, Bool.not_true, Bool.not_false, drew_cell, drew_heap, e1]
    rw [List.take_length] at hu
    exact ⟨hu, hf⟩

/-- Two rows of texts. -/
theorem qsame_spec {w : World} {u v : Value} {m n : Nat} {xs ys : List ByteArray} (hu : CellsAt w u m 1 (xs.map sv)) (hv : CellsAt w v n 1 (ys.map sv)) (hm : m < 4611686018427387904) :
    Cl Try.prog 36 [u, v] w fun r w' => r = .bool (decide (xs = ys)) ∧ Fm (fun _ => False) w w' := by
  refine c36 ?_
  unfold T36
  have lm : xs.length = m := by have := hu.len; rw [List.length_map, Nat.mul_one] at this; exact this
  have ln : ys.length = n := by have := hv.len; rw [List.length_map, Nat.mul_one] at this; exact this
  simp only [Pu_some, extV_0, extV_1, extV_2, extV_3, nilV_ptr, nilV_fn, faV_ptr, lenV_sl, lenS_s, capV_sl, pickV_t, pickV_f, unV_not, unV_neg, isB_t, isB_f, isB_u, binV_add, binV_sub, binV_mul, binV_eql, binV_neq, binV_lss, binV_leq, binV_gtr, binV_geq, binV_seql, binV_sneq, binV_slss, binV_beql, binV_bneq, binV_peql, binV_pneq, add_add, add_none, Go.Al.add_zero, Nat.zero_add, Nat.add_zero, IfB_t, IfB_f, Gd_t, Gd_f, Ld_ptr, LdN_ptr, Option.isNone_some, Option.isNone_none, Option.isSome_some, Option.isSome_none, Bool.not_true, Bool.not_false, drew_cell, drew_heap, hu.lenV, hv.lenV]
  by_cases hmn : m = n
  · subst hmn
    have e1 : ((m : Int) != (m : Int)) = false := by simp
    simp only [Pu_some, extV_0, extV_1, extV_2, extV_3, nilV_ptr, nilV_fn, faV_ptr, lenV_sl, lenS_s, capV_sl, pickV_t, pickV_f, unV_not, unV_neg, isB_t, isB_f, isB_u, binV_add, binV_sub, binV_mul, binV_eql, binV_neq, binV_lss, binV_leq, binV_gtr, binV_geq, binV_seql, binV_sneq, binV_slss, binV_beql, binV_bneq, binV_peql, binV_pneq, add_add, add_none, Go.Al.add_zero, Nat.zero_add, Nat.add_zero, IfB_t, IfB_f, Gd_t, Gd_f, Ld_ptr, LdN_ptr, Option.isNone_some, Option.isNone_none, Option.isSome_some, Option.isSome_none, Bool.not_true, Bool.not_false, drew_cell, drew_heap, e1]
    refine ⟨fun vs w2 => ∃ k : Nat, vs = [jv k] ∧ k ≤ m ∧ Fm (fun _ => False) w w2 ∧ xs.take k = ys.take k, fun vs w2 => (m - nth vs 0).toNat, ⟨0, rfl, by omega, Fm.refl _ _, by simp⟩, ?_⟩
    rintro g w2 iw ⟨k, ⟨⟩, hk, hf, heq⟩
    by_cases hlt : k < m
    · have e2 : decide ((k : Int) < (m : Int)) = true := by simpa using hlt
      have hfd := Fmf hf (Fm.drew (fun _ => False) w2)
      have hx : xs[k]? = some xs[k] := List.getElem?_eq_getElem (by omega)
      have hy : ys[k]? = some ys[k] := List.getElem?_eq_getElem (by omega)
      obtain ⟨ad, i1, _, q1⟩ := (hu.keep hf (fun _ _ e => e)).at1 (i := k) (x := sv xs[k]) (by rw [List.getElem?_map, hx]; rfl) .i64
      obtain ⟨ae, i2, _, q2⟩ := (hv.keep hf (fun _ _ e => e)).at1 (i := k) (x := sv ys[k]) (by rw [List.getElem?_map, hy]; rfl) .i64
      by_cases hxy : xs[k] = ys[k]
      · have e3 : decide (xs[k] = ys[k]) = true := by simp [hxy]
        simp only [Pu_some, extV_0, extV_1, extV_2, extV_3, nilV_ptr, nilV_fn, faV_ptr, lenV_sl, lenS_s, capV_sl, pickV_t, pickV_f, unV_not, unV_neg, isB_t, isB_f, isB_u, binV_add, binV_sub, binV_mul, binV_eql, binV_neq, binV_lss, binV_leq, binV_gtr, binV_geq, binV_seql, binV_sneq, binV_slss, binV_beql, binV_bneq, binV_peql, binV_pneq, add_add, add_none, Go.Al.add_zero, Nat.zero_add, Nat.add_zero, IfB_t, IfB_f, Gd_t, Gd_f, Ld_ptr, LdN_ptr, Option.isNone_some, Option.isNone_none, Option.isSome_some, Option.isSome_none, Bool.not_true, Bool.not_false, drew_cell, drew_heap, e2, i1, i2, q1, q2, e3, wrap_succ (i := k) (by omega), true_and]
        exact ⟨⟨k + 1, rfl, by omega, hfd, by rw [List.take_add_one, List.take_add_one, hx, hy, heq, hxy]⟩, by simp only [nth_0]; omega⟩
      · have e3 : decide (xs[k] = ys[k]) = false := by simp [hxy]
        have e4 : decide (xs = ys) = false := by
          rw [decide_eq_false_iff_not]; rintro rfl; exact hxy rfl
        simp only [Pu_some, extV_0, extV_1, extV_2, extV_3, nilV_ptr, nilV_fn, faV_ptr, lenV_sl, lenS_s, capV_sl, pickV_t, pickV_f, unV_not, unV_neg, isB_t, isB_f, isB_u, binV_add, binV_sub, binV_mul, binV_eql, binV_neq, binV_lss, binV_leq, binV_gtr, binV_geq, binV_seql, binV_sneq, binV_slss, binV_beql, binV_bneq, binV_peql, binV_pneq, add_add, add_none, Go.Al.add_zero, Nat.zero_add, Nat.add_zero, IfB_t, IfB_f, Gd_t, Gd_f, Ld_ptr, LdN_ptr, Option.isNone_some, Option.isNone_none, Option.isSome_some, Option.isSome_none, Bool.not_true, Bool.not_false, drew_cell, drew_heap, e2, i1, i2, q1, q2, e3, e4, true_and]
        exact hfd
    · have hke : k = m := by omega
      subst hke
      have e2 : decide ((k : Int) < (k : Int)) = false := by simp
      have e4 : decide (xs = ys) = true := by
        rw [decide_eq_true_eq]; rw [← lm, List.take_length, lm, ← ln, List.take_length] at heq; exact heq
      simp only [Pu_some, extV_0, extV_1, extV_2, extV_3, nilV_ptr, nilV_fn, faV_ptr, lenV_sl, lenS_s, capV_sl, pickV_t, pickV_f, unV_not, unV_neg, isB_t, isB_f, isB_u, binV_add, binV_sub, binV_mul, binV_eql, binV_neq, binV_lss, binV_leq, binV_gtr, binV_geq, binV_seql, binV_sneq, binV_slss, binV_beql, binV_bneq, binV_peql, binV_pneq, add_add, add_none, Go.Al.add_zero, Nat.zero_add, Nat.add_zero, IfB_t, IfB_f, Gd_t, Gd_f, Ld_ptr, LdN_ptr, Option.isNone_some, Option.isNone_none, Option.isSome_some, Option.isSome_none, Bool.not_true, Bool.not_false, drew_cell, drew_heap, e2, e4, true_and]
      exact hf
  · have e1 : ((m : Int) != (n : Int)) = true := by simpa using fun e : (m : Int) = n => hmn (by omega)
    have e4 : decide (xs = ys) = false := by
      rw [decide_eq_false_iff_not]; rintro rfl; omega
    simp only [Pu_some, extV_0, extV_1, extV_2, extV_3, nilV_ptr, nilV_fn, faV_ptr, lenV_sl, lenS_s, capV_sl, pickV_t, pickV_f, unV_not, unV_neg, isB_t, isB_f, isB_u, binV_add, binV_sub, binV_mul, binV_eql, binV_neq, binV_lss, binV_leq, binV_gtr, binV_geq, binV_seql, binV_sneq, binV_slss, binV_beql, binV_bneq, binV_peql, binV_pneq, add_add, add_none, Go.Al.add_zero, Nat.zero_add, Nat.add_zero, IfB_t, IfB_f, Gd_t, Gd_f, Ld_ptr, LdN_ptr, Option.isNone_some, Option.isNone_none, Option.isSome_some, Option.isSome_none, Bool.not_true, Bool.not_false, drew_cell, drew_heap, e1, e4, true_and]
    exact Fm.refl _ _

/-! ### How the lists go with the maps -/
structure QRel (H : HL) (W : WL) (hs ws : QL) : Prop where
  hu : hs.Pairwise fun x y => txt x.1 < txt y.1
  wu : ws.Pairwise fun x y => x.2 < y.2
  hn : (H.map (·.1)).Nodup
  wn : (W.map (·.1)).Nodup
  hm : ∀ q, q ∈ H ↔ q ∈ hs
  wm : ∀ p k, (p, k) ∈ W ↔ (k, p) ∈ ws
section
variable {H : HL} {W : WL} {hs ws : QL}
theorem txt_lt_ne {a b : ByteArray} (h : txt a < txt b) : a ≠ b := by
  rintro rfl; exact absurd h (List.lt_irrefl _)
theorem QRel.hnd (h : QRel H W hs ws) : (hs.map (·.1)).Nodup := by
  rw [List.Nodup, List.pairwise_map]; exact h.hu.imp fun e => txt_lt_ne e
theorem QRel.get (h : QRel H W hs ws) (k : ByteArray) : getD hs k = getD H k := by
  cases hD : getD H k with
  | some b => exact (getD_some h.hnd).2 ((h.hm _).1 ((getD_some h.hn).1 hD))
  | none =>
    cases hR : getD hs k with
    | none => rfl
    | some b => have := (getD_some h.hn).2 ((h.hm _).2 ((getD_some h.hnd).1 hR)); rw [hD] at this; cases this
theorem QRel.wuniq (h : QRel H W hs ws) {x y : ByteArray × Int} (hx : x ∈ ws) (hy : y ∈ ws) (e : x.2 = y.2) : x = y := by
  obtain ⟨a, p⟩ := x
  obtain ⟨b, q⟩ := y
  simp only at e
  subst e
  have h1 := (getD_some h.wn).2 ((h.wm _ _).2 hx)
  have h2 := (getD_some h.wn).2 ((h.wm _ _).2 hy)
  rw [h1] at h2; cases h2; rfl
theorem QRel.for (h : QRel H W hs ws) (p : Int) : forD ws p = getD W p := by
  cases hD : getD W p with
  | some k =>
    have hk := (h.wm _ _).1 ((getD_some h.wn).1 hD)
    cases hf : ws.find? fun q => decide (q.2 = p) with
    | none => rw [List.find?_eq_none] at hf; have := hf _ hk; simp at this
    | some q =>
      have := List.find?_some hf
      have := h.wuniq (List.mem_of_find?_eq_some hf) hk (by simpa using this)
      rw [forD, hf, this]; rfl
  | none =>
    cases hf : ws.find? fun q => decide (q.2 = p) with
    | none => rw [forD, hf]; rfl
    | some q =>
      have h1 := List.find?_some hf
      have h2 := (getD_some h.wn).2 ((h.wm q.2 q.1).2 (List.mem_of_find?_eq_some hf))
      rw [show q.2 = p by simpa using h1, hD] at h2; cases h2
theorem QRel.waiting (h : QRel H W hs ws) : sortK W = ws.map (·.2) := by
  refine sorted_same (wk_rises h.wn) (List.pairwise_map.2 h.wu) fun x => ?_
  rw [sortK, List.mem_mergeSort, List.mem_map, List.mem_map]
  exact ⟨fun ⟨⟨p, k⟩, hq, e⟩ => ⟨(k, p), (h.wm p k).1 hq, e⟩, fun ⟨⟨k, p⟩, hq, e⟩ => ⟨(p, k), (h.wm p k).2 hq, e⟩⟩
theorem QRel.held (h : QRel H W hs ws) {who : Int} {ls : List ByteArray} (h1 : (ls.map txt).Pairwise (fun x y => x ≤ y ∧ x ≠ y)) (h2 : ∀ k, k ∈ ls ↔ (k, who) ∈ H) : ls = (hs.filter fun q => q.2 == who).map (·.1) := by
  have hl : (ls.map txt).Pairwise (fun x y => x < y) := h1.imp fun ⟨a, b⟩ => by
    rcases List.le_iff_lt_or_eq.1 a with c | c
    · exact c
    · exact absurd c b
  have hr : (((hs.filter fun q => q.2 == who).map (·.1)).map txt).Pairwise (fun x y => x < y) := by
    rw [List.map_map, List.pairwise_map]; exact h.hu.filter _
  have hm : ∀ x, x ∈ ls ↔ x ∈ (hs.filter fun q => q.2 == who).map (·.1) := fun x => by
    rw [h2, h.hm, List.mem_map]
    constructor
    · intro hx; exact ⟨_, List.mem_filter.2 ⟨hx, by simp⟩, rfl⟩
    · rintro ⟨q, hq, rfl⟩
      rw [List.mem_filter] at hq
      have : q.2 = who := by simpa using hq.2
      rw [← this]; exact hq.1
  have n1 : ls.Nodup := (List.pairwise_map.1 hl).imp fun e => txt_lt_ne e
  have n2 : ((hs.filter fun q => q.2 == who).map (·.1)).Nodup := (List.pairwise_map.1 hr).imp fun e => txt_lt_ne e
  exact List.Perm.eq_of_pairwise (le := fun a b => txt a < txt b) (fun a b _ _ x y => absurd (List.lt_trans x y) (List.lt_irrefl _)) (List.pairwise_map.1 hl) (List.pairwise_map.1 hr) ((List.perm_ext_iff_of_nodup n1 n2).2 hm)
theorem QRel.quit (h : QRel H W hs ws) (who : Int) : QRel H (delD W who) hs (ws.filter fun q => q.2 != who) := by
  refine ⟨h.hu, h.wu.filter _, h.hn, nodup_delD h.wn who, h.hm, fun p k => ?_⟩
  rw [mem_delD h.wn, h.wm, List.mem_filter]; simp
end

end Go.Proofs.Ytgknklnbcjjlkaa
