/- An act on a disk and on the reference's: does, alike. -/
import Derived.Test.YthgdinjgdjiknaaDiskRef2
import Derived.Test.YthgdinjgdjiknaaApart
import Derived.Test.YthgdinjgdjiknaaDiskViews
namespace Go.Proofs.Ythgdinjgdjiknaa
open Go.Al Go.Proofs
set_option linter.unusedVariables false
set_option linter.unusedSimpArgs false
set_option linter.unusedSectionVars false

abbrev ActT := Int × Int × Int × Int × Bool × List Int × Unit
def vU8 : Vw Try.prog 5 Int := vInt .u8 Try.underlying5 (by kernel_rfl)
def vAct : Vw Try.prog 36 ActT := vStruct Try.underlying36 (fvCons rfl 1 (by kernel_rfl) vU8 (fvCons rfl 1 (by kernel_rfl) vI (fvCons rfl 1 (by kernel_rfl) vI (fvCons rfl 1 (by kernel_rfl) vI (fvCons rfl 1 (by kernel_rfl) vB (fvCons rfl 1 (by kernel_rfl) vInts fvNil)))))) (by kernel_rfl)
def vActs : Vw Try.prog 24 (List ActT) := vSlice Try.underlying24 (by kernel_rfl) vAct
theorem act_rel {w : World} {cs : List Value} {x : ActT} (h : vAct.rel w cs x) : ∃ hv, cs = [.int .u8 x.1, iv x.2.1, iv x.2.2.1, iv x.2.2.2.1, .bool x.2.2.2.2.1, hv] ∧ (0 ≤ x.1 ∧ x.1 ≤ 255) ∧ (-9223372036854775808 ≤ x.2.1 ∧ x.2.1 ≤ 9223372036854775807) ∧
    SliceAs vI w hv x.2.2.2.2.2.1 := by
  obtain ⟨c1, c2, rfl, ⟨rfl, h1⟩, c3, c4, rfl, ⟨rfl, h2⟩, c5, c6, rfl, ⟨rfl, h3⟩, c7, c8, rfl, ⟨rfl, h4⟩, c9, c10, rfl, h5, c11, c12, rfl, ⟨hv, rfl, h6⟩, rfl⟩ := h
  have h5' : c9 = [.bool x.2.2.2.2.1] := h5
  subst h5'
  refine ⟨hv, rfl, ?_, i64_of_wf h2, h6⟩
  have h7 : (decide (0 ≤ x.1) && decide (x.1 ≤ 255)) = true := h1
  simpa using h7
theorem ints_in' {w : World} {v : Value} {L : List Int} (h : SliceAs vI w v L) : CellsAt w v L.length 1 (L.map iv) ∧ (∀ f ∈ L, -9223372036854775808 ≤ f ∧ f ≤ 9223372036854775807) ∧ L.length * 8 ≤ 140737488351232 := by
  refine ⟨h.cells (by kernel_rfl) (fun _ _ h => h.1), fun f hf => ?_, ?_⟩
  · obtain ⟨i, hi⟩ := List.getElem?_of_mem hf
    obtain ⟨ad, cs', _, hr, _⟩ := h.at hi (c := 1) (by kernel_rfl) .i64
    exact i64_of_wf hr.2
  · have := h.small
    rw [show Try.prog.bytesOf 3 = 8 by kernel_rfl] at this
    unfold reachBytes at this; omega

def bgm (b g m x : Nat) : Prop := x = b ∨ x = g ∨ x = m
/-- A disk and the reference's, which are the same. -/
structure Both (w : World) (b g m bx : Nat) (q : RB) (d : Dk) : Prop where
  p : DAt w b g m d
  r : RAt w bx q d
  ne : ∀ x, bgm b g m x → ¬ q.mine bx x
def bothM (b g m bx : Nat) (q : RB) (x : Nat) : Prop := bgm b g m x ∨ q.mine bx x
section
variable {w w1 w2 : World} {b g m bx : Nat} {q : RB} {d d' : Dk}
theorem Both.keep {S : Nat → Prop} (h : Both w b g m bx q d) (hf : Fm S w w1) (hs : ∀ x, bothM b g m bx q x → ¬ S x) : Both w1 b g m bx q d :=
  ⟨h.p.keep hf (hs _ (.inl (.inl rfl))) (hs _ (.inl (.inr (.inl rfl)))) (hs _ (.inl (.inr (.inr rfl)))), h.r.keep hf (fun x hx => hs x (.inr hx)), h.ne⟩
theorem Both.keep0 (h : Both w b g m bx q d) (hf : Fm (fun _ => False) w w1) : Both w1 b g m bx q d := h.keep hf fun _ _ e => e
theorem Both.r1 (h : Both w b g m bx q d) (hf : Fm (bgm b g m) w w1) : RAt w1 bx q d := h.r.keep hf fun x hx e => h.ne x e hx
theorem Both.step (h : Both w b g m bx q d) (h1 : DAt w1 b g m d') (hf1 : Fm (bgm b g m) w w1) (h2 : RAt w2 bx q d') (hf2 : Fm (q.mine bx) w1 w2) : Both w2 b g m bx q d' ∧ Fm (bothM b g m bx q) w w2 :=
  ⟨⟨h1.keep hf2 (h.ne _ (.inl rfl)) (h.ne _ (.inr (.inl rfl))) (h.ne _ (.inr (.inr rfl))), h2, h.ne⟩, hf1.trans hf2 (fun _ _ e => .inl e) (fun _ _ e => .inr e)⟩
theorem Both.lt (h : Both w b g m bx q d) : ∀ x, bothM b g m bx q x → x < w.heap.size := by
  rintro x ((rfl | rfl | rfl) | hx)
  · exact h.p.lt.1
  · exact h.p.lt.2.1
  · exact h.p.lt.2.2
  · exact h.r.lt x hx

theorem own_val {w : World} {base : Nat} {e : TypeId} {sz : Nat} {v : Value} {n : Nat} {xs : List Value} (ho : w.ownsRow base e sz v n xs) : ∃ a k c, v = .slice a k c := by
  rcases ho.2 with ⟨rfl, _⟩ | ⟨g, c, cur, rfl, _⟩ <;> exact ⟨_, _, _, rfl⟩

theorem data_spec (w : World) {cs : Array Value} {what at_ many fill : Int} {odd : Bool} {hv : Value} (hcs : cs = #[.int .u8 what, iv at_, iv many, iv fill, .bool odd, hv]) :
    Cl Try.prog 58 [.agg cs] w fun v w' => ∃ s : Bs, v = stv s ∧ s.length ≤ 1280 ∧ Fm (fun _ => False) w w' := by
  subst hcs
  refine c58 ?_; unfold T58
  refine New_any ?_
  intro a1 w1 ha1 hs1 hw1 hf1
  replace hw1 : w1.heap[a1]? = some (.cells #[.int .u8 what, iv at_, iv many, iv fill, .bool odd, hv] 36) := hw1
  refine ⟨fun vs w2 => ∃ (i : Nat) (s : Bs), vs = [stv s, iv i] ∧ i ≤ 20 ∧ s.length = 64 * i ∧ Fm (fun _ => False) w1 w2, fun vs _ => (20 - nth vs 1).toNat, ⟨0, [], rfl, by omega, rfl, Fm.refl _ _⟩, ?_⟩
  rintro _ w2 sv ii ⟨i, s, hvs, hi, hsl, hf2⟩
  cases hvs
  have hw2 := hf2.heap hw1 (fun e => e)
  have c2 : w2.cell? ⟨a1, 2, none⟩ = some (iv many) := by rw [cell_at hw2]; rfl
  have c3 : w2.cell? ⟨a1, 3, none⟩ = some (iv fill) := by rw [cell_at hw2]; rfl
  have c4 : w2.cell? ⟨a1, 4, none⟩ = some (.bool odd) := by rw [cell_at hw2]; rfl
  have stop : Jn (fun vs_55 w_54 => ∀ g_56 : Fr, ∃ s3_45 : Value, vs_55 = [s3_45] ∧ (∃ s : Bs, s3_45 = stv s ∧ s.length ≤ 1280 ∧ Fm (fun _ => False) w w_54))
    (fun jj_44 =>
    Pu (faV 4 (pv a1)) fun t22_57 =>
    Ld w2 t22_57 fun t23_58 w_59 =>
    Gd (isB true t23_58) (fun kk => kk (stv s) w_59) w_59 fun t25_60 w_61 =>
    Gd (isB true t23_58) (fun kk => Pu (binV TypeDesc.string .neq t25_60 (Value.string (ByteArray.mk #[]))) fun vv => kk vv w_61) w_61 fun t26_62 w_63 =>
    Pu (pickV t23_58 t26_62 (Value.bool false)) fun t27_64 =>
    IfB t27_64
      (Pu (slS (stv s) (some (Value.int IntKind.i64 1)) none) fun t29_65 =>
        jj_44 [t29_65] w_63)
      (jj_44 [stv s] w_63)) := by
    refine Jn_at (fun vs w3 => ∃ s : Bs, vs = [stv s] ∧ s.length ≤ 1280 ∧ Fm (fun _ => False) w w3) ?_ ?_
    · rintro _ w3 ⟨s, rfl, hl, hf⟩ _
      exact ⟨_, rfl, s, rfl, hl, hf⟩
    · intro kk hkk
      have hF := Fmf hf1 hf2
      cases odd with
      | false =>
        simp only [Pu_some, extV_0, extV_1, extV_2, extV_3, nilV_ptr, nilV_fn, faV_ptr, lenV_sl, lenS_s, capV_sl, pickV_t, pickV_f, unV_not, unV_neg, isB_t, isB_f, isB_u, binV_add, binV_sub, binV_mul, binV_eql, binV_neq, binV_lss, binV_leq, binV_gtr, binV_geq, binV_seql, binV_sneq, binV_slss, binV_beql, binV_bneq, binV_peql, binV_pneq, add_add, add_none, Go.Al.add_zero, Nat.zero_add, Nat.add_zero, IfB_t, IfB_f, Gd_t, Gd_f, Ld_ptr, LdN_ptr, Option.isNone_some, Option.isNone_none, Option.isSome_some, Option.isSome_none, Bool.not_true, Bool.not_false, drew_cell, drew_heap, str_size, str_nil, str_inj, c4]
        exact hkk _ _ ⟨s, rfl, by omega, hF⟩
      | true =>
        by_cases hs : s = []
        · have e : decide (s = []) = true := by simpa using hs
          simp only [Pu_some, extV_0, extV_1, extV_2, extV_3, nilV_ptr, nilV_fn, faV_ptr, lenV_sl, lenS_s, capV_sl, pickV_t, pickV_f, unV_not, unV_neg, isB_t, isB_f, isB_u, binV_add, binV_sub, binV_mul, binV_eql, binV_neq, binV_lss, binV_leq, binV_gtr, binV_geq, binV_seql, binV_sneq, binV_slss, binV_beql, binV_bneq, binV_peql, binV_pneq, add_add, add_none, Go.Al.add_zero, Nat.zero_add, Nat.add_zero, IfB_t, IfB_f, Gd_t, Gd_f, Ld_ptr, LdN_ptr, Option.isNone_some, Option.isNone_none, Option.isSome_some, Option.isSome_none, Bool.not_true, Bool.not_false, drew_cell, drew_heap, str_size, str_nil, str_inj, c4, e]
          exact hkk _ _ ⟨s, rfl, by omega, hF⟩
        · have e : decide (s = []) = false := by simpa using hs
          have hpos := List.length_pos_iff.2 hs
          have e2 : slS (stv s) (some (.int .i64 1)) none = some (stv (s.drop 1)) := slS_lo (i := 1) (by omega) .i64
          simp only [Pu_some, extV_0, extV_1, extV_2, extV_3, nilV_ptr, nilV_fn, faV_ptr, lenV_sl, lenS_s, capV_sl, pickV_t, pickV_f, unV_not, unV_neg, isB_t, isB_f, isB_u, binV_add, binV_sub, binV_mul, binV_eql, binV_neq, binV_lss, binV_leq, binV_gtr, binV_geq, binV_seql, binV_sneq, binV_slss, binV_beql, binV_bneq, binV_peql, binV_pneq, add_add, add_none, Go.Al.add_zero, Nat.zero_add, Nat.add_zero, IfB_t, IfB_f, Gd_t, Gd_f, Ld_ptr, LdN_ptr, Option.isNone_some, Option.isNone_none, Option.isSome_some, Option.isSome_none, Bool.not_true, Bool.not_false, drew_cell, drew_heap, str_size, str_nil, str_inj, c4, e, e2]
          exact hkk _ _ ⟨s.drop 1, rfl, by rw [List.length_drop]; omega, hF⟩
  by_cases h1 : (i : Int) < many
  · have e1 : decide ((i : Int) < many) = true := by simpa using h1
    by_cases h2 : i < 20
    · have e2 : decide ((i : Int) < 20) = true := by rw [decide_eq_true_eq]; omega
      have e3 : IntKind.i64.wrap ((i : Int) + 1) = ((i + 1 : Nat) : Int) := by rw [wrap_id] <;> omega
      simp only [Pu_some, extV_0, extV_1, extV_2, extV_3, nilV_ptr, nilV_fn, faV_ptr, lenV_sl, lenS_s, capV_sl, pickV_t, pickV_f, unV_not, unV_neg, isB_t, isB_f, isB_u, binV_add, binV_sub, binV_mul, binV_eql, binV_neq, binV_lss, binV_leq, binV_gtr, binV_geq, binV_seql, binV_sneq, binV_slss, binV_beql, binV_bneq, binV_peql, binV_pneq, add_add, add_none, Go.Al.add_zero, Nat.zero_add, Nat.add_zero, IfB_t, IfB_f, Gd_t, Gd_f, Ld_ptr, LdN_ptr, Option.isNone_some, Option.isNone_none, Option.isSome_some, Option.isSome_none, Bool.not_true, Bool.not_false, drew_cell, drew_heap, c2, e1, e2, c3]
      refine (fill_spec w2 _).mono ?_
      rintro _ w3 ⟨rfl, hf3⟩
      have h64 := fillB_len (IntKind.i64.wrap (fill + (i : Int)))
      generalize fillB (IntKind.i64.wrap (fill + (i : Int))) = x at h64
      have e4 := binV_sadd TypeDesc.string s x (by omega)
      simp only [Pu_some, extV_0, extV_1, extV_2, extV_3, nilV_ptr, nilV_fn, faV_ptr, lenV_sl, lenS_s, capV_sl, pickV_t, pickV_f, unV_not, unV_neg, isB_t, isB_f, isB_u, binV_add, binV_sub, binV_mul, binV_eql, binV_neq, binV_lss, binV_leq, binV_gtr, binV_geq, binV_seql, binV_sneq, binV_slss, binV_beql, binV_bneq, binV_peql, binV_pneq, add_add, add_none, Go.Al.add_zero, Nat.zero_add, Nat.add_zero, IfB_t, IfB_f, Gd_t, Gd_f, Ld_ptr, LdN_ptr, Option.isNone_some, Option.isNone_none, Option.isSome_some, Option.isSome_none, Bool.not_true, Bool.not_false, drew_cell, drew_heap, e4, e3]
      exact ⟨⟨i + 1, s ++ x, rfl, by omega, by rw [List.length_append]; omega, Fmf hf2 hf3⟩, by simp only [nth_1]; omega⟩
    · have e2 : decide ((i : Int) < 20) = false := by rw [decide_eq_false_iff_not]; omega
      simp only [Pu_some, extV_0, extV_1, extV_2, extV_3, nilV_ptr, nilV_fn, faV_ptr, lenV_sl, lenS_s, capV_sl, pickV_t, pickV_f, unV_not, unV_neg, isB_t, isB_f, isB_u, binV_add, binV_sub, binV_mul, binV_eql, binV_neq, binV_lss, binV_leq, binV_gtr, binV_geq, binV_seql, binV_sneq, binV_slss, binV_beql, binV_bneq, binV_peql, binV_pneq, add_add, add_none, Go.Al.add_zero, Nat.zero_add, Nat.add_zero, IfB_t, IfB_f, Gd_t, Gd_f, Ld_ptr, LdN_ptr, Option.isNone_some, Option.isNone_none, Option.isSome_some, Option.isSome_none, Bool.not_true, Bool.not_false, drew_cell, drew_heap] at stop
      simp only [Pu_some, extV_0, extV_1, extV_2, extV_3, nilV_ptr, nilV_fn, faV_ptr, lenV_sl, lenS_s, capV_sl, pickV_t, pickV_f, unV_not, unV_neg, isB_t, isB_f, isB_u, binV_add, binV_sub, binV_mul, binV_eql, binV_neq, binV_lss, binV_leq, binV_gtr, binV_geq, binV_seql, binV_sneq, binV_slss, binV_beql, binV_bneq, binV_peql, binV_pneq, add_add, add_none, Go.Al.add_zero, Nat.zero_add, Nat.add_zero, IfB_t, IfB_f, Gd_t, Gd_f, Ld_ptr, LdN_ptr, Option.isNone_some, Option.isNone_none, Option.isSome_some, Option.isSome_none, Bool.not_true, Bool.not_false, drew_cell, drew_heap, c2, e1, e2]
      exact stop
  · have e1 : decide ((i : Int) < many) = false := by simpa using h1
    simp only [Pu_some, extV_0, extV_1, extV_2, extV_3, nilV_ptr, nilV_fn, faV_ptr, lenV_sl, lenS_s, capV_sl, pickV_t, pickV_f, unV_not, unV_neg, isB_t, isB_f, isB_u, binV_add, binV_sub, binV_mul, binV_eql, binV_neq, binV_lss, binV_leq, binV_gtr, binV_geq, binV_seql, binV_sneq, binV_slss, binV_beql, binV_bneq, binV_peql, binV_pneq, add_add, add_none, Go.Al.add_zero, Nat.zero_add, Nat.add_zero, IfB_t, IfB_f, Gd_t, Gd_f, Ld_ptr, LdN_ptr, Option.isNone_some, Option.isNone_none, Option.isSome_some, Option.isSome_none, Bool.not_true, Bool.not_false, drew_cell, drew_heap] at stop
    simp only [Pu_some, extV_0, extV_1, extV_2, extV_3, nilV_ptr, nilV_fn, faV_ptr, lenV_sl, lenS_s, capV_sl, pickV_t, pickV_f, unV_not, unV_neg, isB_t, isB_f, isB_u, binV_add, binV_sub, binV_mul, binV_eql, binV_neq, binV_lss, binV_leq, binV_gtr, binV_geq, binV_seql, binV_sneq, binV_slss, binV_beql, binV_bneq, binV_peql, binV_pneq, add_add, add_none, Go.Al.add_zero, Nat.zero_add, Nat.add_zero, IfB_t, IfB_f, Gd_t, Gd_f, Ld_ptr, LdN_ptr, Option.isNone_some, Option.isNone_none, Option.isSome_some, Option.isSome_none, Bool.not_true, Bool.not_false, drew_cell, drew_heap, c2, e1]
    exact stop

theorem bs82 (a1 a2 : Option Addr) (n1 n2 c1 c2 : Nat) (w : World) : (Instr.buildSlice 82 2 #[(0, .slice a1 n1 c1), (1, .slice a2 n2 c2)]).run Try.prog w = .ok (.slice (some ⟨w.heap.size, 0, none⟩) 2 2) (w.alloc (.cells #[.slice a1 n1 c1, .slice a2 n2 c2] 34)) := by kernel_rfl
end

end Go.Proofs.Ythgdinjgdjiknaa
