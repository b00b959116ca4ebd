/- What the document's answer for layer 13 does. -/
import Derived.Test.YtgknklnbcjjlkaaSpaceFinds
import Derived.Test.YtgknklnbcjjlkaaAlSl
namespace Go.Proofs.Ytgknklnbcjjlkaa
open Go.Al Go.Proofs
set_option linter.unusedVariables false
set_option linter.unusedSimpArgs false
set_option linter.unusedSectionVars false

abbrev PL := List (Int × Int)
def flat (R : PL) : List Value := R.flatMap fun p => [iv p.1, iv p.2]
theorem flat_len (R : PL) : (flat R).length = R.length * 2 := by
  induction R with
  | nil => rfl
  | cons p R ih => simp only [flat, List.flatMap_cons, List.length_append, List.length_cons, List.length_nil] at ih ⊢; omega
theorem flat_append (R T : PL) : flat (R ++ T) = flat R ++ flat T := by simp [flat]
theorem flat_take (R : PL) (i : Nat) : (flat R).take (i * 2) = flat (R.take i) := by
  induction R generalizing i with
  | nil => simp [flat]
  | cons p R ih =>
    cases i with
    | zero => simp [flat]
    | succ i =>
      have : (i + 1) * 2 = i * 2 + 2 := by omega
      rw [this]
      show (iv p.1 :: iv p.2 :: flat R).take (i * 2 + 2) = iv p.1 :: iv p.2 :: flat (R.take i)
      rw [List.take_succ_cons, List.take_succ_cons, ih]
theorem flat_drop (R : PL) (i : Nat) : (flat R).drop (i * 2) = flat (R.drop i) := by
  induction R generalizing i with
  | nil => simp [flat]
  | cons p R ih =>
    cases i with
    | zero => simp [flat]
    | succ i =>
      have : (i + 1) * 2 = i * 2 + 2 := by omega
      rw [this]
      show (iv p.1 :: iv p.2 :: flat R).drop (i * 2 + 2) = flat (R.drop i)
      rw [List.drop_succ_cons, List.drop_succ_cons, ih]
theorem flat_at {R : PL} {i : Nat} {p : Int × Int} (h : R[i]? = some p) : (flat R)[i * 2 + 0]? = some (iv p.1) ∧ (flat R)[i * 2 + 1]? = some (iv p.2) := by
  induction R generalizing i with
  | nil => simp at h
  | cons q R ih =>
    cases i with
    | zero => simp at h; subst h; exact ⟨rfl, rfl⟩
    | succ i =>
      have e0 : (i + 1) * 2 + 0 = (i * 2 + 0) + 2 := by omega
      have e1 : (i + 1) * 2 + 1 = (i * 2 + 1) + 2 := by omega
      rw [e0, e1]
      show (iv q.1 :: iv q.2 :: flat R)[i * 2 + 0 + 2]? = _ ∧ (iv q.1 :: iv q.2 :: flat R)[i * 2 + 1 + 2]? = _
      rw [List.getElem?_cons_succ, List.getElem?_cons_succ, List.getElem?_cons_succ, List.getElem?_cons_succ]
      exact ih (by simpa using h)
theorem flat_one {R : PL} : ∀ u ∈ flat R, u.oneCell' = true := by
  intro u hu
  obtain ⟨p, _, hp⟩ := List.mem_flatMap.1 hu
  simp at hp
  rcases hp with rfl | rfl <;> rfl

theorem E65 : ElemT Try.prog 65 69 2 16 := elemT_of Try.underlying65 (by kernel_rfl)
theorem E35 : ElemT Try.prog 35 3 1 8 := elemT_of Try.underlying35 (by kernel_rfl)
theorem bld67 (w : World) : (Instr.build 67 #[]).run Try.prog w = .ok (.agg #[.slice none 0 0]) w := by kernel_rfl
theorem bld69 (p r : Int) (w : World) : (Instr.build 69 #[(0, iv p), (1, iv r)]).run Try.prog w = .ok (.agg #[iv p, iv r]) w := by kernel_rfl
theorem bs65 (p r : Int) (w : World) : (Instr.buildSlice 65 1 #[(0, .agg #[iv p, iv r])]).run Try.prog w = .ok (.slice (some ⟨w.heap.size, 0, none⟩) 1 1) (w.alloc (.cells #[iv p, iv r] 69)) := by kernel_rfl
theorem bs35 (p : Int) (w : World) : (Instr.buildSlice 35 1 #[(0, iv p)]).run Try.prog w = .ok (.slice (some ⟨w.heap.size, 0, none⟩) 1 1) (w.alloc (.cells #[iv p] 3)) := by kernel_rfl

/-- A reference's map: the struct in block rb; its list, in a block from base on. -/
structure IsR (w : World) (base rb : Nat) (R : PL) : Prop where
  lt : rb < base
  le : base ≤ w.heap.size
  ex : ∃ v, w.heap[rb]? = some (.cells #[v] 67) ∧ w.ownsRow base 69 2 v R.length (flat R)
theorem IsR.keep {S : Nat → Prop} {w w' : World} {base rb : Nat} {R : PL} (h : IsR w base rb R) (hf : Fm S w w') (h1 : ¬ S rb) (h2 : ∀ k, base ≤ k → k < w.heap.size → ¬ S k) : IsR w' base rb R := by
  obtain ⟨v, hv, ho⟩ := h.ex
  exact ⟨h.lt, Nat.le_trans h.le hf.size, v, hf.heap hv h1, own_keep ho hf fun k hk hk' _ => h2 k hk hk'⟩
theorem IsR.keep0 {w w' : World} {base rb : Nat} {R : PL} (h : IsR w base rb R) (hf : Fm (fun _ => False) w w') : IsR w' base rb R := h.keep hf (fun e => e) (fun _ _ _ e => e)

theorem rnew_spec (w : World) : Cl Try.prog 17 [] w fun v w' => v = .pointer (some ⟨w.heap.size, 0, none⟩) ∧ IsR w' (w.heap.size + 1) w.heap.size [] ∧ Fm (fun _ => False) w w' := by
  refine c17 ?_
  unfold T17
  refine RunS_ok (bld67 _) (New_any ?_)
  intro b w' hb hs hw hf
  subst hb
  exact ⟨rfl, ⟨by omega, by omega, _, hw, World.ownsRow_nil _ _ _ _⟩, hf⟩

/-- Element i of the list. -/
theorem rat {w : World} {base : Nat} {R : PL} {v : Value} (ho : w.ownsRow base 69 2 v R.length (flat R)) {i : Nat} {p : Int × Int} (hi : R[i]? = some p) : ∃ ad, ixV 2 v (.int .i64 i) = some (.pointer (some ad)) ∧ w.cell? ad = some (iv p.1) ∧ w.cell? (ad.add 1) = some (iv p.2) := by
  have hlt : i < R.length := (List.getElem?_eq_some_iff.1 hi).1
  obtain ⟨ad, h1, _, h3⟩ := (CellsAt.of_own ho).at (by omega) hlt .i64
  obtain ⟨f0, f1⟩ := flat_at hi
  exact ⟨ad, h1, by rw [← add_zero ad, h3 0 (by omega), f0], by rw [h3 1 (by omega), f1]⟩

theorem rdrop_spec {w : World} {base rb : Nat} {R : PL} (h : IsR w base rb R) (hsz : R.length * 16 ≤ 140737488355328) (p : Int) :
    Cl Try.prog 18 [.pointer (some ⟨rb, 0, none⟩), iv p] w fun v w' => IsR w' base rb (R.filter fun q => q.1 != p) ∧ Fm (· = rb) w w' := by
  obtain ⟨v, hv, ho⟩ := h.ex
  have hlt := lt_of_heap hv
  have hbase := h.le
  have hrb := h.lt
  refine c18 ?_
  unfold T18
  refine ⟨fun vs w2 => ∃ u k, vs = [u, iv (k : Nat)] ∧ k ≤ R.length ∧ w2.ownsRow w.heap.size 69 2 u ((R.take k).filter fun q => q.1 != p).length (flat ((R.take k).filter fun q => q.1 != p)) ∧ Fm (fun _ => False) w w2, fun vs _ => (R.length - nth vs 1).toNat, ⟨.slice none 0 0, 0, rfl, by omega, by simpa [flat] using World.ownsRow_nil w _ _ _, Fm.refl _ _⟩, ?_⟩
  rintro g w2 u iw ⟨_, k, ⟨⟩, hk, hu, hf⟩
  have hv2 := hf.heap hv (fun e => e)
  have ho2 := own_keep ho hf (fun k hk hk' _ => fun e => e)
  have hlv := (CellsAt.of_own ho2).lenV
  have c0 : w2.cell? ⟨rb, 0, none⟩ = some v := by rw [cell_at hv2]; rfl
  simp only [Pu_some, extV_0, extV_1, extV_2, extV_3, nilV_ptr, nilV_fn, faV_ptr, lenV_sl, lenS_s, capV_sl, pickV_t, pickV_f, unV_not, unV_neg, isB_t, isB_f, isB_u, binV_add, binV_sub, binV_mul, binV_eql, binV_neq, binV_lss, binV_leq, binV_gtr, binV_geq, binV_seql, binV_sneq, binV_slss, binV_beql, binV_bneq, binV_peql, binV_pneq, add_add, add_none, Go.Al.add_zero, Nat.zero_add, Nat.add_zero, IfB_t, IfB_f, Gd_t, Gd_f, Ld_ptr, LdN_ptr, Option.isNone_some, Option.isNone_none, Option.isSome_some, Option.isSome_none, Bool.not_true, Bool.not_false, drew_cell, drew_heap, c0, hlv]
  by_cases hlt : k < R.length
  · have e1 : decide ((k : Int) < (R.length : Int)) = true := by simpa using hlt
    simp only [Pu_some, extV_0, extV_1, extV_2, extV_3, nilV_ptr, nilV_fn, faV_ptr, lenV_sl, lenS_s, capV_sl, pickV_t, pickV_f, unV_not, unV_neg, isB_t, isB_f, isB_u, binV_add, binV_sub, binV_mul, binV_eql, binV_neq, binV_lss, binV_leq, binV_gtr, binV_geq, binV_seql, binV_sneq, binV_slss, binV_beql, binV_bneq, binV_peql, binV_pneq, add_add, add_none, Go.Al.add_zero, Nat.zero_add, Nat.add_zero, IfB_t, IfB_f, Gd_t, Gd_f, Ld_ptr, LdN_ptr, Option.isNone_some, Option.isNone_none, Option.isSome_some, Option.isSome_none, Bool.not_true, Bool.not_false, drew_cell, drew_heap, e1, c0]
    have hRk : R[k]? = some R[k] := List.getElem?_eq_getElem hlt
    obtain ⟨ad, hix, q0, q1⟩ := rat ho2 hRk
    have hsucc : R.take (k + 1) = R.take k ++ [R[k]] := by rw [List.take_add_one, hRk]; rfl
    refine Jn_at (fun vs w3 => ∃ u', vs = [u'] ∧ w3.ownsRow w.heap.size 69 2 u' ((R.take (k + 1)).filter fun q => q.1 != p).length (flat ((R.take (k + 1)).filter fun q => q.1 != p)) ∧ Fm (fun _ => False) w w3) ?_ ?_
    · rintro _ w3 ⟨u', rfl, hu', hf'⟩ _
      refine ⟨u', rfl, ?_⟩
      simp only [Pu_some, extV_0, extV_1, extV_2, extV_3, nilV_ptr, nilV_fn, faV_ptr, lenV_sl, lenS_s, capV_sl, pickV_t, pickV_f, unV_not, unV_neg, isB_t, isB_f, isB_u, binV_add, binV_sub, binV_mul, binV_eql, binV_neq, binV_lss, binV_leq, binV_gtr, binV_geq, binV_seql, binV_sneq, binV_slss, binV_beql, binV_bneq, binV_peql, binV_pneq, add_add, add_none, Go.Al.add_zero, Nat.zero_add, Nat.add_zero, IfB_t, IfB_f, Gd_t, Gd_f, Ld_ptr, LdN_ptr, Option.isNone_some, Option.isNone_none, Option.isSome_some, Option.isSome_none, Bool.not_true, Bool.not_false, drew_cell, drew_heap, wrap_succ (i := k) (by have := (CellsAt.of_own ho).lt; unfold maxLen at this; omega)]
      exact ⟨⟨u', k + 1, rfl, by omega, hu', hf'⟩, by simp only [nth_1]; omega⟩
    · intro kk hkk
      simp only [Pu_some, extV_0, extV_1, extV_2, extV_3, nilV_ptr, nilV_fn, faV_ptr, lenV_sl, lenS_s, capV_sl, pickV_t, pickV_f, unV_not, unV_neg, isB_t, isB_f, isB_u, binV_add, binV_sub, binV_mul, binV_eql, binV_neq, binV_lss, binV_leq, binV_gtr, binV_geq, binV_seql, binV_sneq, binV_slss, binV_beql, binV_bneq, binV_peql, binV_pneq, add_add, add_none, Go.Al.add_zero, Nat.zero_add, Nat.add_zero, IfB_t, IfB_f, Gd_t, Gd_f, Ld_ptr, LdN_ptr, Option.isNone_some, Option.isNone_none, Option.isSome_some, Option.isSome_none, Bool.not_true, Bool.not_false, drew_cell, drew_heap, hix, q0]

      by_cases hp : (R[k]).1 = p
      · have e2 : ((R[k]).1 != p) = false := by simp [hp]
        simp only [Pu_some, extV_0, extV_1, extV_2, extV_3, nilV_ptr, nilV_fn, faV_ptr, lenV_sl, lenS_s, capV_sl, pickV_t, pickV_f, unV_not, unV_neg, isB_t, isB_f, isB_u, binV_add, binV_sub, binV_mul, binV_eql, binV_neq, binV_lss, binV_leq, binV_gtr, binV_geq, binV_seql, binV_sneq, binV_slss, binV_beql, binV_bneq, binV_peql, binV_pneq, add_add, add_none, Go.Al.add_zero, Nat.zero_add, Nat.add_zero, IfB_t, IfB_f, Gd_t, Gd_f, Ld_ptr, LdN_ptr, Option.isNone_some, Option.isNone_none, Option.isSome_some, Option.isSome_none, Bool.not_true, Bool.not_false, drew_cell, drew_heap, e2]
        refine hkk _ _ ⟨u, rfl, ?_, hf⟩
        rw [hsucc, List.filter_append]
        have : [R[k]].filter (fun q => q.1 != p) = [] := by rw [List.filter_cons, e2]; rfl
        rw [this, List.append_nil]; exact hu
      · have e2 : ((R[k]).1 != p) = true := by simp [hp]
        simp only [Pu_some, extV_0, extV_1, extV_2, extV_3, nilV_ptr, nilV_fn, faV_ptr, lenV_sl, lenS_s, capV_sl, pickV_t, pickV_f, unV_not, unV_neg, isB_t, isB_f, isB_u, binV_add, binV_sub, binV_mul, binV_eql, binV_neq, binV_lss, binV_leq, binV_gtr, binV_geq, binV_seql, binV_sneq, binV_slss, binV_beql, binV_bneq, binV_peql, binV_pneq, add_add, add_none, Go.Al.add_zero, Nat.zero_add, Nat.add_zero, IfB_t, IfB_f, Gd_t, Gd_f, Ld_ptr, LdN_ptr, Option.isNone_some, Option.isNone_none, Option.isSome_some, Option.isSome_none, Bool.not_true, Bool.not_false, drew_cell, drew_heap, e2, c0, hix, cellsV_2 q0 q1]
        have hfl : ((R.take k).filter fun q => q.1 != p).length ≤ k := Nat.le_trans (List.length_filter_le _ _) (by rw [List.length_take]; omega)
        have hml : k + 1 ≤ maxLen := by unfold maxLen; omega
        refine append_el E65 (by omega) 65 (cs := [iv (R[k]).1, iv (R[k]).2]) rfl (bs65 _ _ _) (by intro u hu; simp at hu; rcases hu with rfl | rfl <;> rfl) hu (by omega) (by omega) hf.size ?_
        intro u' w3 hu' hne hf'
        have hF := hf.trans hf' (U := fun _ => False) (fun _ _ e => e) (fun x hx e => by omega)
        refine hkk _ _ ⟨u', rfl, ?_, hF⟩
        rw [hsucc, List.filter_append]
        have : [R[k]].filter (fun q => q.1 != p) = [R[k]] := by rw [List.filter_cons, e2]; rfl
        rw [this, flat_append, List.length_append]; exact hu'
  · have hke : k = R.length := by omega
    subst hke
    have e1 : decide ((R.length : Int) < (R.length : Int)) = false := by simp
    simp only [Pu_some, extV_0, extV_1, extV_2, extV_3, nilV_ptr, nilV_fn, faV_ptr, lenV_sl, lenS_s, capV_sl, pickV_t, pickV_f, unV_not, unV_neg, isB_t, isB_f, isB_u, binV_add, binV_sub, binV_mul, binV_eql, binV_neq, binV_lss, binV_leq, binV_gtr, binV_geq, binV_seql, binV_sneq, binV_slss, binV_beql, binV_bneq, binV_peql, binV_pneq, add_add, add_none, Go.Al.add_zero, Nat.zero_add, Nat.add_zero, IfB_t, IfB_f, Gd_t, Gd_f, Ld_ptr, LdN_ptr, Option.isNone_some, Option.isNone_none, Option.isSome_some, Option.isSome_none, Bool.not_true, Bool.not_false, drew_cell, drew_heap, e1]
    rw [List.take_length] at hu
    refine St_blk hv2 (by simp) (own_one hu) ?_
    intro w3 hw3 hs3 hf3
    have hF := hf.trans hf3 (U := (· = rb)) (fun _ _ e => e.elim) (fun _ _ e => e)
    exact ⟨⟨hrb, Nat.le_trans hbase hF.size, u, hw3, own_base (own_keep hu hf3 (fun k hk _ _ => by have := lt_of_heap hv; omega)) hbase⟩, hF⟩

/-- Where a page stands or would stand. -/
def posOf : PL → Int → Nat
  | [], _ => 0
  | q :: R, p => if q.1 < p then posOf R p + 1 else 0
theorem posOf_le (R : PL) (p : Int) : posOf R p ≤ R.length := by
  induction R with
  | nil => simp [posOf]
  | cons q R ih => rw [posOf]; split <;> simp; exact ih
theorem posOf_before {R : PL} {p : Int} {i : Nat} (h : i < posOf R p) {q : Int × Int} (hq : R[i]? = some q) : q.1 < p := by
  induction R generalizing i with
  | nil => simp at hq
  | cons x R ih =>
    rw [posOf] at h
    split at h
    · rename_i hx
      cases i with
      | zero => simp at hq; subst hq; exact hx
      | succ i => exact ih (i := i) (by omega) (by simpa using hq)
    · omega
theorem posOf_stop {R : PL} {p : Int} {q : Int × Int} (h : R[posOf R p]? = some q) : ¬ q.1 < p := by
  induction R with
  | nil => simp at h
  | cons x R ih =>
    rw [posOf] at h
    split at h
    · exact ih (by simpa using h)
    · rename_i hx; simp at h; subst h; exact hx
def rset (R : PL) (p r : Int) : PL := let T := R.filter fun q => q.1 != p; T.take (posOf T p) ++ (p, r) :: T.drop (posOf T p)
theorem rset_len (R : PL) (p r : Int) : (rset R p r).length ≤ R.length + 1 := by
  unfold rset
  simp only [List.length_append, List.length_cons, List.length_take, List.length_drop]
  have := List.length_filter_le (fun q : Int × Int => q.1 != p) R
  omega

theorem rset_spec {w : World} {base rb : Nat} {R : PL} (h : IsR w base rb R) (hsz : (R.length + 1) * 16 ≤ 140737488355328) (p r : Int) :
    Cl Try.prog 19 [.pointer (some ⟨rb, 0, none⟩), iv p, iv r] w fun v w' => IsR w' base rb (rset R p r) ∧ Fm (· = rb) w w' := by
  refine c19 ?_
  unfold T19
  refine (rdrop_spec h (by omega) p).mono ?_
  rintro _ w1 ⟨h1, hf1⟩
  have hTl : (R.filter fun q => q.1 != p).length ≤ R.length := List.length_filter_le _ _
  unfold rset
  generalize (R.filter fun q => q.1 != p) = T at h1 hTl
  obtain ⟨v, hv, ho⟩ := h1.ex
  have hbase := h1.le
  have hrb := h1.lt
  have c0 : w1.cell? ⟨rb, 0, none⟩ = some v := by rw [cell_at hv]; rfl
  have hlv := (CellsAt.of_own ho).lenV
  have hpl := posOf_le T p
  refine ⟨fun vs w2 => ∃ k : Nat, vs = [iv k] ∧ k ≤ posOf T p ∧ w2 = w1, fun vs _ => (T.length - nth vs 0).toNat, ⟨0, rfl, by omega, rfl⟩, ?_⟩
  rintro g w2 iw ⟨k, ⟨⟩, hk, rfl⟩
  have stop : k = posOf T p → Pu (slV 2 v none (some (iv (k : Nat))) none) fun t38_62 =>
      RunS Try.prog (Builtin.append_ #[65, 65] 65 #[(Value.slice none 0 0), t38_62]) w2 fun t39_63 w_64 =>
      RunS Try.prog (Instr.build 69 #[(0, iv p), (1, iv r)]) w_64 fun t43_65 w_66 =>
      RunS Try.prog (Instr.buildSlice 65 1 #[(0, t43_65)]) w_66 fun t44_67 w_68 =>
      RunS Try.prog (Builtin.append_ #[65, 65] 65 #[t39_63, t44_67]) w_68 fun t45_69 w_70 =>
      Ld w_70 (.pointer (some ⟨rb, 0, none⟩)) fun t51_73 w_74 =>
      Pu (slV 2 t51_73 (some (iv (k : Nat))) none none) fun t53_75 =>
      RunS Try.prog (Builtin.append_ #[65, 65] 65 #[t45_69, t53_75]) w_74 fun t54_76 w_77 =>
      St 1 w_77 (.pointer (some ⟨rb, 0, none⟩)) t54_76 fun u_80 w_81 =>
      IsR w_81 base rb (T.take (posOf T p) ++ (p, r) :: T.drop (posOf T p)) ∧ Fm (· = rb) w w_81 := by
    rintro rfl
    obtain ⟨v1, hs1, hc1, hb1⟩ := (CellsAt.of_own ho).hi hpl .i64
    obtain ⟨u1, w3, hr1, ho1, hf3, _⟩ := append_src E65 (by omega) (World.ownsRow_nil w2 w2.heap.size 69 2) hc1 (by rw [flat_take]; exact flat_one) 65 (by have := (CellsAt.of_own ho).lt; omega) (by omega) (Nat.le_refl _)
    rw [List.nil_append, flat_take, Nat.zero_add] at ho1
    rw [hs1]
    simp only [Pu_some, extV_0, extV_1, extV_2, extV_3, nilV_ptr, nilV_fn, faV_ptr, lenV_sl, lenS_s, capV_sl, pickV_t, pickV_f, unV_not, unV_neg, isB_t, isB_f, isB_u, binV_add, binV_sub, binV_mul, binV_eql, binV_neq, binV_lss, binV_leq, binV_gtr, binV_geq, binV_seql, binV_sneq, binV_slss, binV_beql, binV_bneq, binV_peql, binV_pneq, add_add, add_none, Go.Al.add_zero, Nat.zero_add, Nat.add_zero, IfB_t, IfB_f, Gd_t, Gd_f, Ld_ptr, LdN_ptr, Option.isNone_some, Option.isNone_none, Option.isSome_some, Option.isSome_none, Bool.not_true, Bool.not_false, drew_cell, drew_heap]
    refine RunS_ok hr1 (RunS_ok (bld69 p r w3) ?_)
    have hz3 := hf3.size
    refine append_el E65 (by omega) 65 (cs := [iv p, iv r]) rfl (bs65 _ _ _) (by intro u hu; simp at hu; rcases hu with rfl | rfl <;> rfl) ho1 (by unfold maxLen; omega) (by omega) hf3.size ?_
    intro u2 w4 ho2 hne hf4
    have hf24 : Fm (fun _ => False) w2 w4 := hf3.trans hf4 (fun x hx e => by omega) (fun x hx e => by omega)
    have hv4 := hf24.heap hv (fun e => e)
    have ho4 := own_keep ho hf24 (fun k hk hk' _ => fun e => e)
    have c4 : w4.cell? ⟨rb, 0, none⟩ = some v := by rw [cell_at hv4]; rfl
    obtain ⟨v2, hs2, hc2, hb2⟩ := (CellsAt.of_own ho4).lo hpl .i64
    simp only [Pu_some, extV_0, extV_1, extV_2, extV_3, nilV_ptr, nilV_fn, faV_ptr, lenV_sl, lenS_s, capV_sl, pickV_t, pickV_f, unV_not, unV_neg, isB_t, isB_f, isB_u, binV_add, binV_sub, binV_mul, binV_eql, binV_neq, binV_lss, binV_leq, binV_gtr, binV_geq, binV_seql, binV_sneq, binV_slss, binV_beql, binV_bneq, binV_peql, binV_pneq, add_add, add_none, Go.Al.add_zero, Nat.zero_add, Nat.add_zero, IfB_t, IfB_f, Gd_t, Gd_f, Ld_ptr, LdN_ptr, Option.isNone_some, Option.isNone_none, Option.isSome_some, Option.isSome_none, Bool.not_true, Bool.not_false, drew_cell, drew_heap, c4, hs2]
    obtain ⟨u3, w5, hr3, ho3, hf5, _⟩ := append_src E65 (by omega) ho2 hc2 (by rw [flat_drop]; exact flat_one) 65 (by unfold maxLen; omega) (by omega) (Nat.le_trans hz3 hf4.size)
    have hz4 := hf4.size
    refine RunS_ok hr3 ?_
    have hf25 : Fm (fun _ => False) w2 w5 := hf24.trans hf5 (fun x hx e => e) (fun x hx e => by omega)
    have hv5 := hf25.heap hv (fun e => e)
    refine St_blk hv5 (by simp) (own_one ho3) ?_
    intro w6 hw6 hs6 hf6
    have hF := hf25.trans hf6 (U := (· = rb)) (fun _ _ e => e.elim) (fun _ _ e => e)
    refine ⟨⟨hrb, Nat.le_trans hbase hF.size, u3, hw6, ?_⟩, hf1.trans hF (fun _ _ e => e) (fun _ _ e => e)⟩
    have hrl := lt_of_heap hv
    have ho6 := own_base (own_keep ho3 hf6 (fun k hk _ _ => by omega)) hbase
    have e1 : posOf T p + 1 + (T.length - posOf T p) = (T.take (posOf T p) ++ (p, r) :: T.drop (posOf T p)).length := by
      simp only [List.length_append, List.length_cons, List.length_take, List.length_drop]; omega
    have e2 : flat (T.take (posOf T p)) ++ [iv p, iv r] ++ (flat T).drop (posOf T p * 2) = flat (T.take (posOf T p) ++ (p, r) :: T.drop (posOf T p)) := by
      rw [flat_append, flat_drop, List.append_assoc]; rfl
    rw [e1, e2] at ho6
    exact ho6
  simp only [Pu_some, extV_0, extV_1, extV_2, extV_3, nilV_ptr, nilV_fn, faV_ptr, lenV_sl, lenS_s, capV_sl, pickV_t, pickV_f, unV_not, unV_neg, isB_t, isB_f, isB_u, binV_add, binV_sub, binV_mul, binV_eql, binV_neq, binV_lss, binV_leq, binV_gtr, binV_geq, binV_seql, binV_sneq, binV_slss, binV_beql, binV_bneq, binV_peql, binV_pneq, add_add, add_none, Go.Al.add_zero, Nat.zero_add, Nat.add_zero, IfB_t, IfB_f, Gd_t, Gd_f, Ld_ptr, LdN_ptr, Option.isNone_some, Option.isNone_none, Option.isSome_some, Option.isSome_none, Bool.not_true, Bool.not_false, drew_cell, drew_heap, c0, hlv]
  by_cases hlt : k < T.length
  · have e1 : decide ((k : Int) < (T.length : Int)) = true := by simpa using hlt
    have hRk : T[k]? = some T[k] := List.getElem?_eq_getElem hlt
    obtain ⟨ad, hix, q0, q1⟩ := rat ho hRk
    by_cases hkp : k < posOf T p
    · have hlt2 := posOf_before hkp hRk
      have e2 : decide ((T[k]).1 < p) = true := by simpa using hlt2
      simp only [Pu_some, extV_0, extV_1, extV_2, extV_3, nilV_ptr, nilV_fn, faV_ptr, lenV_sl, lenS_s, capV_sl, pickV_t, pickV_f, unV_not, unV_neg, isB_t, isB_f, isB_u, binV_add, binV_sub, binV_mul, binV_eql, binV_neq, binV_lss, binV_leq, binV_gtr, binV_geq, binV_seql, binV_sneq, binV_slss, binV_beql, binV_bneq, binV_peql, binV_pneq, add_add, add_none, Go.Al.add_zero, Nat.zero_add, Nat.add_zero, IfB_t, IfB_f, Gd_t, Gd_f, Ld_ptr, LdN_ptr, Option.isNone_some, Option.isNone_none, Option.isSome_some, Option.isSome_none, Bool.not_true, Bool.not_false, drew_cell, drew_heap, e1, c0, hix, q0, e2, wrap_succ (i := k) (by omega)]
      exact ⟨⟨k + 1, rfl, by omega, trivial⟩, by simp only [nth_0]; omega⟩
    · have hke : k = posOf T p := by omega
      have e2 : decide ((T[k]).1 < p) = false := by subst hke; simpa using posOf_stop hRk
      simp only [Pu_some, extV_0, extV_1, extV_2, extV_3, nilV_ptr, nilV_fn, faV_ptr, lenV_sl, lenS_s, capV_sl, pickV_t, pickV_f, unV_not, unV_neg, isB_t, isB_f, isB_u, binV_add, binV_sub, binV_mul, binV_eql, binV_neq, binV_lss, binV_leq, binV_gtr, binV_geq, binV_seql, binV_sneq, binV_slss, binV_beql, binV_bneq, binV_peql, binV_pneq, add_add, add_none, Go.Al.add_zero, Nat.zero_add, Nat.add_zero, IfB_t, IfB_f, Gd_t, Gd_f, Ld_ptr, LdN_ptr, Option.isNone_some, Option.isNone_none, Option.isSome_some, Option.isSome_none, Bool.not_true, Bool.not_false, drew_cell, drew_heap, e1, c0, hix, q0, e2]
      have := stop hke
      simp only [Pu_some, extV_0, extV_1, extV_2, extV_3, nilV_ptr, nilV_fn, faV_ptr, lenV_sl, lenS_s, capV_sl, pickV_t, pickV_f, unV_not, unV_neg, isB_t, isB_f, isB_u, binV_add, binV_sub, binV_mul, binV_eql, binV_neq, binV_lss, binV_leq, binV_gtr, binV_geq, binV_seql, binV_sneq, binV_slss, binV_beql, binV_bneq, binV_peql, binV_pneq, add_add, add_none, Go.Al.add_zero, Nat.zero_add, Nat.add_zero, IfB_t, IfB_f, Gd_t, Gd_f, Ld_ptr, LdN_ptr, Option.isNone_some, Option.isNone_none, Option.isSome_some, Option.isSome_none, Bool.not_true, Bool.not_false, drew_cell, drew_heap] at this
      exact this
  · have e1 : decide ((k : Int) < (T.length : Int)) = false := by simpa using hlt
    simp only [Pu_some, extV_0, extV_1, extV_2, extV_3, nilV_ptr, nilV_fn, faV_ptr, lenV_sl, lenS_s, capV_sl, pickV_t, pickV_f, unV_not, unV_neg, isB_t, isB_f, isB_u, binV_add, binV_sub, binV_mul, binV_eql, binV_neq, binV_lss, binV_leq, binV_gtr, binV_geq, binV_seql, binV_sneq, binV_slss, binV_beql, binV_bneq, binV_peql, binV_pneq, add_add, add_none, Go.Al.add_zero, Nat.zero_add, Nat.add_zero, IfB_t, IfB_f, Gd_t, Gd_f, Ld_ptr, LdN_ptr, Option.isNone_some, Option.isNone_none, Option.isSome_some, Option.isSome_none, Bool.not_true, Bool.not_false, drew_cell, drew_heap, e1, c0]
    have := stop (by omega)
    simp only [Pu_some, extV_0, extV_1, extV_2, extV_3, nilV_ptr, nilV_fn, faV_ptr, lenV_sl, lenS_s, capV_sl, pickV_t, pickV_f, unV_not, unV_neg, isB_t, isB_f, isB_u, binV_add, binV_sub, binV_mul, binV_eql, binV_neq, binV_lss, binV_leq, binV_gtr, binV_geq, binV_seql, binV_sneq, binV_slss, binV_beql, binV_bneq, binV_peql, binV_pneq, add_add, add_none, Go.Al.add_zero, Nat.zero_add, Nat.add_zero, IfB_t, IfB_f, Gd_t, Gd_f, Ld_ptr, LdN_ptr, Option.isNone_some, Option.isNone_none, Option.isSome_some, Option.isSome_none, Bool.not_true, Bool.not_false, drew_cell, drew_heap] at this
    exact this

/-- The first with so much room. -/
def rfind (R : PL) (room : Int) : Option (Int × Int) := R.find? fun q => decide (room ≤ q.2)
theorem find_drop {α : Type} (f : α → Bool) : ∀ (R : List α) (k : Nat), (∀ q ∈ R.take k, f q = false) → R.find? f = (R.drop k).find? f
  | R, 0, _ => by simp
  | [], k + 1, _ => by simp
  | q :: R, k + 1, h => by
    rw [List.drop_succ_cons, List.find?_cons_of_neg (by simpa using h q (by simp)), find_drop f R k (fun x hx => h x (by simp [hx]))]
theorem find_here {α : Type} {f : α → Bool} {R : List α} {k : Nat} {q : α} (h : ∀ q ∈ R.take k, f q = false) (hk : R[k]? = some q) (hq : f q = true) : R.find? f = some q := by
  rw [find_drop f R k h]
  obtain ⟨hlt, rfl⟩ := List.getElem?_eq_some_iff.1 hk
  rw [List.drop_eq_getElem_cons hlt, List.find?_cons_of_pos hq]
theorem take_more {α : Type} {p : α → Prop} {R : List α} {k : Nat} {q : α} (h : ∀ q ∈ R.take k, p q) (hk : R[k]? = some q) (hq : p q) : ∀ q ∈ R.take (k + 1), p q := by
  intro x hx
  rw [List.take_add_one, hk] at hx
  simp only [Option.toList_some, List.mem_append, List.mem_singleton] at hx
  rcases hx with hx | rfl
  · exact h x hx
  · exact hq

def pairV (o : Option Int) : Value := .tuple #[iv (o.getD 0), .bool o.isSome]

theorem rfind_spec {w : World} {base rb : Nat} {R : PL} (h : IsR w base rb R) (hsz : R.length < 4611686018427387904) (room : Int) :
    Cl Try.prog 21 [.pointer (some ⟨rb, 0, none⟩), iv room] w fun v w' => v = pairV ((rfind R room).map (·.1)) ∧ w' = w := by
  obtain ⟨v, hv, ho⟩ := h.ex
  refine c21 ?_
  unfold T21
  have c0 : w.cell? ⟨rb, 0, none⟩ = some v := by rw [cell_at hv]; rfl
  have hlv := (CellsAt.of_own ho).lenV
  refine ⟨fun vs w2 => ∃ k : Nat, vs = [iv k] ∧ k ≤ R.length ∧ w2 = w ∧ ∀ q ∈ R.take k, decide (room ≤ q.2) = false, fun vs w2 => (R.length - nth vs 0).toNat, ⟨0, rfl, by omega, rfl, by simp⟩, ?_⟩
  rintro g w2 iw ⟨k, ⟨⟩, hk, rfl, hno⟩
  simp only [Pu_some, extV_0, extV_1, extV_2, extV_3, nilV_ptr, nilV_fn, faV_ptr, lenV_sl, lenS_s, capV_sl, pickV_t, pickV_f, unV_not, unV_neg, isB_t, isB_f, isB_u, binV_add, binV_sub, binV_mul, binV_eql, binV_neq, binV_lss, binV_leq, binV_gtr, binV_geq, binV_seql, binV_sneq, binV_slss, binV_beql, binV_bneq, binV_peql, binV_pneq, add_add, add_none, Go.Al.add_zero, Nat.zero_add, Nat.add_zero, IfB_t, IfB_f, Gd_t, Gd_f, Ld_ptr, LdN_ptr, Option.isNone_some, Option.isNone_none, Option.isSome_some, Option.isSome_none, Bool.not_true, Bool.not_false, drew_cell, drew_heap, c0, hlv]
  by_cases hlt : k < R.length
  · have e1 : decide ((k : Int) < (R.length : Int)) = true := by simpa using hlt
    have hRk : R[k]? = some R[k] := List.getElem?_eq_getElem hlt
    obtain ⟨ad, hix, q0, q1⟩ := rat ho hRk
    rcases Bool.eq_false_or_eq_true (decide (room ≤ (R[k]).2)) with e2 | e2
    · simp only [Pu_some, extV_0, extV_1, extV_2, extV_3, nilV_ptr, nilV_fn, faV_ptr, lenV_sl, lenS_s, capV_sl, pickV_t, pickV_f, unV_not, unV_neg, isB_t, isB_f, isB_u, binV_add, binV_sub, binV_mul, binV_eql, binV_neq, binV_lss, binV_leq, binV_gtr, binV_geq, binV_seql, binV_sneq, binV_slss, binV_beql, binV_bneq, binV_peql, binV_pneq, add_add, add_none, Go.Al.add_zero, Nat.zero_add, Nat.add_zero, IfB_t, IfB_f, Gd_t, Gd_f, Ld_ptr, LdN_ptr, Option.isNone_some, Option.isNone_none, Option.isSome_some, Option.isSome_none, Bool.not_true, Bool.not_false, drew_cell, drew_heap, e1, c0, hix, q0, q1, e2]
      rw [rfind, find_here hno hRk e2]
      exact ⟨rfl, trivial⟩
    · simp only [Pu_some, extV_0, extV_1, extV_2, extV_3, nilV_ptr, nilV_fn, faV_ptr, lenV_sl, lenS_s, capV_sl, pickV_t, pickV_f, unV_not, unV_neg, isB_t, isB_f, isB_u, binV_add, binV_sub, binV_mul, binV_eql, binV_neq, binV_lss, binV_leq, binV_gtr, binV_geq, binV_seql, binV_sneq, binV_slss, binV_beql, binV_bneq, binV_peql, binV_pneq, add_add, add_none, Go.Al.add_zero, Nat.zero_add, Nat.add_zero, IfB_t, IfB_f, Gd_t, Gd_f, Ld_ptr, LdN_ptr, Option.isNone_some, Option.isNone_none, Option.isSome_some, Option.isSome_none, Bool.not_true, Bool.not_false, drew_cell, drew_heap, e1, c0, hix, q0, q1, e2, wrap_succ (i := k) (by omega)]
      exact ⟨⟨k + 1, rfl, by omega, trivial, take_more hno hRk e2⟩, by simp only [nth_0]; omega⟩
  · have hke : k = R.length := by omega
    subst hke
    have e1 : decide ((R.length : Int) < (R.length : Int)) = false := by simp
    simp only [Pu_some, extV_0, extV_1, extV_2, extV_3, nilV_ptr, nilV_fn, faV_ptr, lenV_sl, lenS_s, capV_sl, pickV_t, pickV_f, unV_not, unV_neg, isB_t, isB_f, isB_u, binV_add, binV_sub, binV_mul, binV_eql, binV_neq, binV_lss, binV_leq, binV_gtr, binV_geq, binV_seql, binV_sneq, binV_slss, binV_beql, binV_bneq, binV_peql, binV_pneq, add_add, add_none, Go.Al.add_zero, Nat.zero_add, Nat.add_zero, IfB_t, IfB_f, Gd_t, Gd_f, Ld_ptr, LdN_ptr, Option.isNone_some, Option.isNone_none, Option.isSome_some, Option.isSome_none, Bool.not_true, Bool.not_false, drew_cell, drew_heap, e1]
    refine ⟨?_, trivial⟩
    rw [rfind, find_drop _ R R.length hno, List.drop_length]; rfl

theorem rroom_spec {w : World} {base rb : Nat} {R : PL} (h : IsR w base rb R) (hsz : R.length < 4611686018427387904) (p : Int) :
    Cl Try.prog 22 [.pointer (some ⟨rb, 0, none⟩), iv p] w fun v w' => v = pairV (getD R p) ∧ w' = w := by
  obtain ⟨v, hv, ho⟩ := h.ex
  refine c22 ?_
  unfold T22
  have c0 : w.cell? ⟨rb, 0, none⟩ = some v := by rw [cell_at hv]; rfl
  have hlv := (CellsAt.of_own ho).lenV
  refine ⟨fun vs w2 => ∃ k : Nat, vs = [iv k] ∧ k ≤ R.length ∧ w2 = w ∧ ∀ q ∈ R.take k, decide (q.1 = p) = false, fun vs w2 => (R.length - nth vs 0).toNat, ⟨0, rfl, by omega, rfl, by simp⟩, ?_⟩
  rintro g w2 iw ⟨k, ⟨⟩, hk, rfl, hno⟩
  simp only [Pu_some, extV_0, extV_1, extV_2, extV_3, nilV_ptr, nilV_fn, faV_ptr, lenV_sl, lenS_s, capV_sl, pickV_t, pickV_f, unV_not, unV_neg, isB_t, isB_f, isB_u, binV_add, binV_sub, binV_mul, binV_eql, binV_neq, binV_lss, binV_leq, binV_gtr, binV_geq, binV_seql, binV_sneq, binV_slss, binV_beql, binV_bneq, binV_peql, binV_pneq, add_add, add_none, Go.Al.add_zero, Nat.zero_add, Nat.add_zero, IfB_t, IfB_f, Gd_t, Gd_f, Ld_ptr, LdN_ptr, Option.isNone_some, Option.isNone_none, Option.isSome_some, Option.isSome_none, Bool.not_true, Bool.not_false, drew_cell, drew_heap, c0, hlv]
  by_cases hlt : k < R.length
  · have e1 : decide ((k : Int) < (R.length : Int)) = true := by simpa using hlt
    have hRk : R[k]? = some R[k] := List.getElem?_eq_getElem hlt
    obtain ⟨ad, hix, q0, q1⟩ := rat ho hRk
    by_cases hp : (R[k]).1 = p
    · have e2 : ((R[k]).1 == p) = true := by simpa using hp
      simp only [Pu_some, extV_0, extV_1, extV_2, extV_3, nilV_ptr, nilV_fn, faV_ptr, lenV_sl, lenS_s, capV_sl, pickV_t, pickV_f, unV_not, unV_neg, isB_t, isB_f, isB_u, binV_add, binV_sub, binV_mul, binV_eql, binV_neq, binV_lss, binV_leq, binV_gtr, binV_geq, binV_seql, binV_sneq, binV_slss, binV_beql, binV_bneq, binV_peql, binV_pneq, add_add, add_none, Go.Al.add_zero, Nat.zero_add, Nat.add_zero, IfB_t, IfB_f, Gd_t, Gd_f, Ld_ptr, LdN_ptr, Option.isNone_some, Option.isNone_none, Option.isSome_some, Option.isSome_none, Bool.not_true, Bool.not_false, drew_cell, drew_heap, e1, c0, hix, q0, q1, e2]
      rw [getD, find_here (f := fun q => decide (q.1 = p)) hno hRk (by simpa using hp)]
      exact ⟨rfl, trivial⟩
    · have e2 : ((R[k]).1 == p) = false := by simpa using hp
      simp only [Pu_some, extV_0, extV_1, extV_2, extV_3, nilV_ptr, nilV_fn, faV_ptr, lenV_sl, lenS_s, capV_sl, pickV_t, pickV_f, unV_not, unV_neg, isB_t, isB_f, isB_u, binV_add, binV_sub, binV_mul, binV_eql, binV_neq, binV_lss, binV_leq, binV_gtr, binV_geq, binV_seql, binV_sneq, binV_slss, binV_beql, binV_bneq, binV_peql, binV_pneq, add_add, add_none, Go.Al.add_zero, Nat.zero_add, Nat.add_zero, IfB_t, IfB_f, Gd_t, Gd_f, Ld_ptr, LdN_ptr, Option.isNone_some, Option.isNone_none, Option.isSome_some, Option.isSome_none, Bool.not_true, Bool.not_false, drew_cell, drew_heap, e1, c0, hix, q0, q1, e2, wrap_succ (i := k) (by omega)]
      exact ⟨⟨k + 1, rfl, by omega, trivial, take_more hno hRk (by simpa using hp)⟩, by simp only [nth_0]; omega⟩
  · have hke : k = R.length := by omega
    subst hke
    have e1 : decide ((R.length : Int) < (R.length : Int)) = false := by simp
    simp only [Pu_some, extV_0, extV_1, extV_2, extV_3, nilV_ptr, nilV_fn, faV_ptr, lenV_sl, lenS_s, capV_sl, pickV_t, pickV_f, unV_not, unV_neg, isB_t, isB_f, isB_u, binV_add, binV_sub, binV_mul, binV_eql, binV_neq, binV_lss, binV_leq, binV_gtr, binV_geq, binV_seql, binV_sneq, binV_slss, binV_beql, binV_bneq, binV_peql, binV_pneq, add_add, add_none, Go.Al.add_zero, Nat.zero_add, Nat.add_zero, IfB_t, IfB_f, Gd_t, Gd_f, Ld_ptr, LdN_ptr, Option.isNone_some, Option.isNone_none, Option.isSome_some, Option.isSome_none, Bool.not_true, Bool.not_false, drew_cell, drew_heap, e1]
    refine ⟨?_, trivial⟩
    rw [getD, find_drop _ R R.length hno, List.drop_length]; rfl

theorem rpages_spec {w : World} {base rb : Nat} {R : PL} (h : IsR w base rb R) (hsz : R.length * 16 ≤ 140737488355328) :
    Cl Try.prog 25 [.pointer (some ⟨rb, 0, none⟩)] w fun v w' => w'.ownsRow w.heap.size 3 1 v R.length ((R.map (·.1)).map iv) ∧ Fm (fun _ => False) w w' := by
  obtain ⟨v, hv, ho⟩ := h.ex
  refine c25 ?_
  unfold T25
  have hlv := (CellsAt.of_own ho).lenV
  refine ⟨fun vs w2 => ∃ u k, vs = [u, iv (k : Nat)] ∧ k ≤ R.length ∧ w2.ownsRow w.heap.size 3 1 u k (((R.take k).map (·.1)).map iv) ∧ Fm (fun _ => False) w w2, fun vs _ => (R.length - nth vs 1).toNat, ⟨.slice none 0 0, 0, rfl, by omega, by simpa using World.ownsRow_nil w _ _ _, Fm.refl _ _⟩, ?_⟩
  rintro g w2 u iw ⟨_, k, ⟨⟩, hk, hu, hf⟩
  have hv2 := hf.heap hv (fun e => e)
  have ho2 := own_keep ho hf (fun k hk hk' _ => fun e => e)
  have c0 : w2.cell? ⟨rb, 0, none⟩ = some v := by rw [cell_at hv2]; rfl
  simp only [Pu_some, extV_0, extV_1, extV_2, extV_3, nilV_ptr, nilV_fn, faV_ptr, lenV_sl, lenS_s, capV_sl, pickV_t, pickV_f, unV_not, unV_neg, isB_t, isB_f, isB_u, binV_add, binV_sub, binV_mul, binV_eql, binV_neq, binV_lss, binV_leq, binV_gtr, binV_geq, binV_seql, binV_sneq, binV_slss, binV_beql, binV_bneq, binV_peql, binV_pneq, add_add, add_none, Go.Al.add_zero, Nat.zero_add, Nat.add_zero, IfB_t, IfB_f, Gd_t, Gd_f, Ld_ptr, LdN_ptr, Option.isNone_some, Option.isNone_none, Option.isSome_some, Option.isSome_none, Bool.not_true, Bool.not_false, drew_cell, drew_heap, c0, hlv]
  by_cases hlt : k < R.length
  · have e1 : decide ((k : Int) < (R.length : Int)) = true := by simpa using hlt
    have hRk : R[k]? = some R[k] := List.getElem?_eq_getElem hlt
    obtain ⟨ad, hix, q0, q1⟩ := rat ho2 hRk
    have hsucc : R.take (k + 1) = R.take k ++ [R[k]] := by rw [List.take_add_one, hRk]; rfl
    simp only [Pu_some, extV_0, extV_1, extV_2, extV_3, nilV_ptr, nilV_fn, faV_ptr, lenV_sl, lenS_s, capV_sl, pickV_t, pickV_f, unV_not, unV_neg, isB_t, isB_f, isB_u, binV_add, binV_sub, binV_mul, binV_eql, binV_neq, binV_lss, binV_leq, binV_gtr, binV_geq, binV_seql, binV_sneq, binV_slss, binV_beql, binV_bneq, binV_peql, binV_pneq, add_add, add_none, Go.Al.add_zero, Nat.zero_add, Nat.add_zero, IfB_t, IfB_f, Gd_t, Gd_f, Ld_ptr, LdN_ptr, Option.isNone_some, Option.isNone_none, Option.isSome_some, Option.isSome_none, Bool.not_true, Bool.not_false, drew_cell, drew_heap, e1, c0, hix, q0]
    refine append_one E35 35 (bs35 _ _) rfl hu (by unfold maxLen; omega) (by omega) hf.size ?_
    intro u' w3 hu' hne hf'
    have hF := hf.trans hf' (U := fun _ => False) (fun _ _ e => e) (fun x hx e => by omega)
    simp only [Pu_some, extV_0, extV_1, extV_2, extV_3, nilV_ptr, nilV_fn, faV_ptr, lenV_sl, lenS_s, capV_sl, pickV_t, pickV_f, unV_not, unV_neg, isB_t, isB_f, isB_u, binV_add, binV_sub, binV_mul, binV_eql, binV_neq, binV_lss, binV_leq, binV_gtr, binV_geq, binV_seql, binV_sneq, binV_slss, binV_beql, binV_bneq, binV_peql, binV_pneq, add_add, add_none, Go.Al.add_zero, Nat.zero_add, Nat.add_zero, IfB_t, IfB_f, Gd_t, Gd_f, Ld_ptr, LdN_ptr, Option.isNone_some, Option.isNone_none, Option.isSome_some, Option.isSome_none, Bool.not_true, Bool.not_false, drew_cell, drew_heap, wrap_succ (i := k) (by omega)]
    exact ⟨⟨u', k + 1, rfl, by omega, by rw [hsucc, List.map_append, List.map_append]; exact hu', hF⟩, by simp only [nth_1]; omega⟩
  · have hke : k = R.length := by omega
    subst hke
    have e1 : decide ((R.length : Int) < (R.length : Int)) = false := by simp
    simp only [Pu_some, extV_0, extV_1, extV_2, extV_3, nilV_ptr, nilV_fn, faV_ptr, lenV_sl, lenS_s, capV_sl, pickV_t, pickV_f, unV_not, unV_neg, isB_t, isB_f, isB_u, binV_add, binV_sub, binV_mul, binV_eql, binV_neq, binV_lss, binV_leq, binV_gtr, binV_geq, binV_seql, binV_sneq, binV_slss, binV_beql, binV_bneq, binV_peql, binV_pneq, add_add, add_none, Go.Al.add_zero, Nat.zero_add, Nat.add_zero, IfB_t, IfB_f, Gd_t, Gd_f, Ld_ptr, LdN_ptr, Option.isNone_some, Option.isNone_none, Option.isSome_some, Option.isSome_none, Bool.not_true, Bool.not_false, drew_cell, drew_heap, e1]
    rw [List.take_length] at hu
    exact ⟨hu, hf⟩

/-- Two rows of numbers. -/
theorem same_spec {w : World} {u v : Value} {m n : Nat} {xs ys : List Int} (hu : CellsAt w u m 1 (xs.map iv)) (hv : CellsAt w v n 1 (ys.map iv)) (hm : m < 4611686018427387904) :
    Cl Try.prog 24 [u, v] w fun r w' => r = .bool (decide (xs = ys)) ∧ Fm (fun _ => False) w w' := by
  refine c24 ?_
  unfold T24
  have lm : xs.length = m := by have := hu.len; rw [List.length_map, Nat.mul_one] at this; exact this
  have ln : ys.length = n := by have := hv.len; rw [List.length_map, Nat.mul_one] at this; exact this
  simp only [Pu_some, extV_0, extV_1, extV_2, extV_3, nilV_ptr, nilV_fn, faV_ptr, lenV_sl, lenS_s, capV_sl, pickV_t, pickV_f, unV_not, unV_neg, isB_t, isB_f, isB_u, binV_add, binV_sub, binV_mul, binV_eql, binV_neq, binV_lss, binV_leq, binV_gtr, binV_geq, binV_seql, binV_sneq, binV_slss, binV_beql, binV_bneq, binV_peql, binV_pneq, add_add, add_none, Go.Al.add_zero, Nat.zero_add, Nat.add_zero, IfB_t, IfB_f, Gd_t, Gd_f, Ld_ptr, LdN_ptr, Option.isNone_some, Option.isNone_none, Option.isSome_some, Option.isSome_none, Bool.not_true, Bool.not_false, drew_cell, drew_heap, hu.lenV, hv.lenV]
  by_cases hmn : m = n
  · subst hmn
    have e1 : ((m : Int) != (m : Int)) = false := by simp
    simp only [Pu_some, extV_0, extV_1, extV_2, extV_3, nilV_ptr, nilV_fn, faV_ptr, lenV_sl, lenS_s, capV_sl, pickV_t, pickV_f, unV_not, unV_neg, isB_t, isB_f, isB_u, binV_add, binV_sub, binV_mul, binV_eql, binV_neq, binV_lss, binV_leq, binV_gtr, binV_geq, binV_seql, binV_sneq, binV_slss, binV_beql, binV_bneq, binV_peql, binV_pneq, add_add, add_none, Go.Al.add_zero, Nat.zero_add, Nat.add_zero, IfB_t, IfB_f, Gd_t, Gd_f, Ld_ptr, LdN_ptr, Option.isNone_some, Option.isNone_none, Option.isSome_some, Option.isSome_none, Bool.not_true, Bool.not_false, drew_cell, drew_heap, e1]
    refine ⟨fun vs w2 => ∃ k : Nat, vs = [iv k] ∧ k ≤ m ∧ Fm (fun _ => False) w w2 ∧ xs.take k = ys.take k, fun vs w2 => (m - nth vs 0).toNat, ⟨0, rfl, by omega, Fm.refl _ _, by simp⟩, ?_⟩
    rintro g w2 iw ⟨k, ⟨⟩, hk, hf, heq⟩
    by_cases hlt : k < m
    · have e2 : decide ((k : Int) < (m : Int)) = true := by simpa using hlt
      have hfd := Fm.f hf (Fm.drew (fun _ => False) w2)
      have hx : xs[k]? = some xs[k] := List.getElem?_eq_getElem (by omega)
      have hy : ys[k]? = some ys[k] := List.getElem?_eq_getElem (by omega)
      obtain ⟨ad, i1, _, q1⟩ := (hu.keep hf (fun _ _ e => e)).at1 (i := k) (x := iv xs[k]) (by rw [List.getElem?_map, hx]; rfl) .i64
      obtain ⟨ae, i2, _, q2⟩ := (hv.keep hf (fun _ _ e => e)).at1 (i := k) (x := iv ys[k]) (by rw [List.getElem?_map, hy]; rfl) .i64
      by_cases hxy : xs[k] = ys[k]
      · have e3 : (xs[k] != ys[k]) = false := by simp [hxy]
        simp only [Pu_some, extV_0, extV_1, extV_2, extV_3, nilV_ptr, nilV_fn, faV_ptr, lenV_sl, lenS_s, capV_sl, pickV_t, pickV_f, unV_not, unV_neg, isB_t, isB_f, isB_u, binV_add, binV_sub, binV_mul, binV_eql, binV_neq, binV_lss, binV_leq, binV_gtr, binV_geq, binV_seql, binV_sneq, binV_slss, binV_beql, binV_bneq, binV_peql, binV_pneq, add_add, add_none, Go.Al.add_zero, Nat.zero_add, Nat.add_zero, IfB_t, IfB_f, Gd_t, Gd_f, Ld_ptr, LdN_ptr, Option.isNone_some, Option.isNone_none, Option.isSome_some, Option.isSome_none, Bool.not_true, Bool.not_false, drew_cell, drew_heap, e2, i1, i2, q1, q2, e3, wrap_succ (i := k) (by omega), true_and]
        exact ⟨⟨k + 1, rfl, by omega, hfd, by rw [List.take_add_one, List.take_add_one, hx, hy, heq, hxy]⟩, by simp only [nth_0]; omega⟩
      · have e3 : (xs[k] != ys[k]) = true := by simp [hxy]
        have e4 : decide (xs = ys) = false := by
          rw [decide_eq_false_iff_not]; rintro rfl; exact hxy rfl
        simp only [Pu_some, extV_0, extV_1, extV_2, extV_3, nilV_ptr, nilV_fn, faV_ptr, lenV_sl, lenS_s, capV_sl, pickV_t, pickV_f, unV_not, unV_neg, isB_t, isB_f, isB_u, binV_add, binV_sub, binV_mul, binV_eql, binV_neq, binV_lss, binV_leq, binV_gtr, binV_geq, binV_seql, binV_sneq, binV_slss, binV_beql, binV_bneq, binV_peql, binV_pneq, add_add, add_none, Go.Al.add_zero, Nat.zero_add, Nat.add_zero, IfB_t, IfB_f, Gd_t, Gd_f, Ld_ptr, LdN_ptr, Option.isNone_some, Option.isNone_none, Option.isSome_some, Option.isSome_none, Bool.not_true, Bool.not_false, drew_cell, drew_heap, e2, i1, i2, q1, q2, e3, e4, true_and]
        exact hfd
    · have hke : k = m := by omega
      subst hke
      have e2 : decide ((k : Int) < (k : Int)) = false := by simp
      have e4 : decide (xs = ys) = true := by
        rw [decide_eq_true_eq]; rw [← lm, List.take_length, lm, ← ln, List.take_length] at heq; exact heq
      simp only [Pu_some, extV_0, extV_1, extV_2, extV_3, nilV_ptr, nilV_fn, faV_ptr, lenV_sl, lenS_s, capV_sl, pickV_t, pickV_f, unV_not, unV_neg, isB_t, isB_f, isB_u, binV_add, binV_sub, binV_mul, binV_eql, binV_neq, binV_lss, binV_leq, binV_gtr, binV_geq, binV_seql, binV_sneq, binV_slss, binV_beql, binV_bneq, binV_peql, binV_pneq, add_add, add_none, Go.Al.add_zero, Nat.zero_add, Nat.add_zero, IfB_t, IfB_f, Gd_t, Gd_f, Ld_ptr, LdN_ptr, Option.isNone_some, Option.isNone_none, Option.isSome_some, Option.isSome_none, Bool.not_true, Bool.not_false, drew_cell, drew_heap, e2, e4, true_and]
      exact hf
  · have e1 : ((m : Int) != (n : Int)) = true := by simpa using fun e : (m : Int) = n => hmn (by omega)
    have e4 : decide (xs = ys) = false := by
      rw [decide_eq_false_iff_not]; rintro rfl; omega
    simp only [Pu_some, extV_0, extV_1, extV_2, extV_3, nilV_ptr, nilV_fn, faV_ptr, lenV_sl, lenS_s, capV_sl, pickV_t, pickV_f, unV_not, unV_neg, isB_t, isB_f, isB_u, binV_add, binV_sub, binV_mul, binV_eql, binV_neq, binV_lss, binV_leq, binV_gtr, binV_geq, binV_seql, binV_sneq, binV_slss, binV_beql, binV_bneq, binV_peql, binV_pneq, add_add, add_none, Go.Al.add_zero, Nat.zero_add, Nat.add_zero, IfB_t, IfB_f, Gd_t, Gd_f, Ld_ptr, LdN_ptr, Option.isNone_some, Option.isNone_none, Option.isSome_some, Option.isSome_none, Bool.not_true, Bool.not_false, drew_cell, drew_heap, e1, e4, true_and]
    exact Fm.refl _ _

end Go.Proofs.Ytgknklnbcjjlkaa
