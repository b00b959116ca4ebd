/- Lists that share no memory. -/
import Derived.Test.YthgdinjgdjiknaaKeep
namespace Go.Proofs.Ythgdinjgdjiknaa
open Go.Al Go.Proofs
set_option linter.unusedVariables false
set_option linter.unusedSimpArgs false
set_option linter.unusedSectionVars false

theorem own_shape {w : World} {base : Nat} {e : TypeId} {v : Value} {n : Nat} {xs : List Value} {i : Nat} (h : w.ownsRow base e 1 v n xs) (hi : i < n) : ∃ g cap, v = .slice (some ⟨g, 0, none⟩) n cap := by
  rcases h.2 with ⟨_, h2⟩ | ⟨g, cap, cur, rfl, _⟩
  · omega
  · exact ⟨g, cap, rfl⟩
theorem own_put {w : World} {base : Nat} {e : TypeId} {g cap : Nat} {n : Nat} {xs : List Value} {i : Nat} {u : Value} {k : KV} (h : w.ownsRow base e 1 (.slice (some ⟨g, 0, none⟩) n cap) n xs) (hi : i < n) (hu : u.oneCell' = true)
    (hk : ∀ w', w'.ownsRow base e 1 (.slice (some ⟨g, 0, none⟩) n cap) n (xs.set i u) → Fm (· = g) w w' → k undef w') : St 1 w (.pointer (some ⟨g, i, none⟩)) u k := by
  rcases h.2 with ⟨h1, _⟩ | ⟨g', cap', cur, he, hb, hg, h1, h2, h3, h4⟩
  · cases h1
  · cases he
    refine St_blk hg (by omega) hu fun w' k1 k2 k3 => hk w' ⟨by rw [List.length_set]; exact h.1, .inr ⟨g, cap, _, rfl, hb, k1, h1, h2, by rw [Array.size_setIfInBounds]; exact h3, ?_⟩⟩ k3
    rw [Array.toList_setIfInBounds, ← h4, List.take_set]
theorem own_ne_vrow {w : World} {base : Nat} {e e' : TypeId} {sz : Nat} {v : Value} {n : Nat} {xs : List Value} {h : Nat} {ys : List Value} (ho : w.ownsRow base e sz v n xs) (hv : VRow w h e' ys) (hne : e ≠ e') : v.ownBlock ≠ some h := by
  intro hk
  rcases ho.2 with ⟨rfl, _⟩ | ⟨g, c, cur, rfl, _, hg, _⟩
  · simp [Value.ownBlock] at hk
  · simp [Value.ownBlock] at hk
    subst hk
    unfold VRow at hv
    rw [hg] at hv; cases hv; exact hne rfl
theorem own_block {w : World} {base : Nat} {e : TypeId} {sz : Nat} {v : Value} {n : Nat} {xs : List Value} (ho : w.ownsRow base e sz v n xs) : blockOf v = v.ownBlock := by
  rcases ho.2 with ⟨rfl, _⟩ | ⟨g, c, cur, rfl, _, hg, _⟩ <;> rfl

def mkA (i k : Nat) : Value := iv (IntKind.i64.wrap (IntKind.i64.wrap ((i : Int) * 1000003) + k))
def apA (i k : Nat) : Value := iv (IntKind.i64.wrap (IntKind.i64.wrap (IntKind.i64.wrap (IntKind.i64.wrap (0 - (i : Int)) * 1000003) - k) - 1))
def mksA (j n : Nat) : List Value := (List.range n).map (mkA j)
def apsA (j t : Nat) : List Value := (List.range t).map (apA j)
theorem mksA_get {j n k : Nat} (h : k < n) : (mksA j n)[k]? = some (mkA j k) := by unfold mksA; rw [List.getElem?_map, List.getElem?_range h]; rfl
theorem apsA_get {j n k : Nat} (h : k < n) : (apsA j n)[k]? = some (apA j k) := by unfold apsA; rw [List.getElem?_map, List.getElem?_range h]; rfl
theorem row_get {m : Nat} {u : Nat → Value} {i : Nat} (h : i < m) : ((List.range m).map u)[i]? = some (u i) := by rw [List.getElem?_map, List.getElem?_range h]; rfl
theorem row_set {m : Nat} {u : Nat → Value} {i : Nat} (v : Value) : ((List.range m).map u).set i v = (List.range m).map fun j => if j = i then v else u j := by
  apply List.ext_getElem?
  intro j
  rw [List.getElem?_set]
  by_cases hj : j < m
  · rw [row_get hj, row_get hj]
    by_cases e : i = j
    · subst e; simp [hj]
    · have e' : ¬ j = i := fun x => e x.symm
      rw [if_neg e, if_neg e']
  · have l1 : ((List.range m).map u)[j]? = none := List.getElem?_eq_none (by simpa using hj)
    have l2 : ((List.range m).map fun j => if j = i then v else u j)[j]? = none := List.getElem?_eq_none (by simpa using hj)
    rw [l1, l2]
    split
    · rename_i e; subst e; rw [if_neg (by simpa using hj)]
    · rfl

section
variable {base h m : Nat} {u : Nat → Value} {n : Nat → Nat}

structure Ap1 (base h q m : Nat) (u : Nat → Value) (n : Nat → Nat) (w : World) (i : Nat) (C : Nat → List Value) : Prop where
  ls : VRow w h 34 ((List.range m).map u)
  lg : VRow w q 34 ((List.range m).map fun j => if j < i then u j else .slice none 0 0)
  own : ∀ j, j < m → w.ownsRow base 3 1 (u j) (n j) (C j)
structure Ap2 (base h q m : Nat) (u : Nat → Value) (n : Nat → Nat) (w : World) (L : Nat → Value) (t : Nat → Nat) : Prop where
  ls : VRow w h 34 ((List.range m).map u)
  lg : VRow w q 34 ((List.range m).map L)
  own : ∀ j, j < m → w.ownsRow base 3 1 (L j) (n j + t j) (mksA j (n j) ++ apsA j (t j))
  hd : ∀ j, j < m → (u j = .slice none 0 0 ∧ n j = 0) ∨ ∃ g cap, u j = .slice (some ⟨g, 0, none⟩) (n j) cap ∧ g < w.heap.size ∧ ∀ x, x < n j → w.cell? ⟨g, x, none⟩ = some (mkA j x)
  ap : ∀ j j', j < m → j' < m → j ≠ j' → ∀ g, (L j).ownBlock = some g → (L j').ownBlock ≠ some g ∧ blockOf (u j') ≠ some g

theorem Ap1.at {q : Nat} {w : World} {i : Nat} {C : Nat → List Value} (A : Ap1 base h q m u n w i C) {j : Nat} (hj : j < m) : w.cell? ⟨h, j, none⟩ = some (u j) := by rw [A.ls.cell, row_get hj]

set_option maxHeartbeats 2000000 in
theorem apart_spec {w : World} {xs : Nat → List Value} (hls : VRow w h 34 ((List.range m).map u)) (hm : m ≤ 1000) (hown : ∀ j, j < m → w.ownsRow base 3 1 (u j) (n j) (xs j))
    (hap : ∀ j j', j < m → j' < m → j ≠ j' → ∀ g, (u j).ownBlock = some g → (u j').ownBlock ≠ some g) (hn : ∀ j, j < m → n j ≤ 1000000) (hbase : base ≤ w.heap.size) :
    Cl Try.prog 67 [.slice (some ⟨h, 0, none⟩) m m] w fun r w' => r = .bool true ∧ Fm (fun b => base ≤ b) w w' := by
  refine c67 ?_; unfold T67
  simp only [Pu_some, extV_0, extV_1, extV_2, extV_3, nilV_ptr, nilV_fn, faV_ptr, lenV_sl, lenS_s, capV_sl, pickV_t, pickV_f, unV_not, unV_neg, isB_t, isB_f, isB_u, binV_add, binV_sub, binV_mul, binV_eql, binV_neq, binV_lss, binV_leq, binV_gtr, binV_geq, binV_seql, binV_sneq, binV_slss, binV_beql, binV_bneq, binV_peql, binV_pneq, add_add, add_none, Go.Al.add_zero, Nat.zero_add, Nat.add_zero, IfB_t, IfB_f, Gd_t, Gd_f, Ld_ptr, LdN_ptr, Option.isNone_some, Option.isNone_none, Option.isSome_some, Option.isSome_none, Bool.not_true, Bool.not_false, drew_cell, drew_heap]
  obtain ⟨ti, g1, g2, g3, g4⟩ := info_of (P := Try.prog) (e := 34) (z := .slice none 0 0) (n := 1) (b := 24) (by kernel_rfl)
  refine RunS_ok (VRow.make Try.underlying82 g1 g2 g3 rfl w m (by rw [g4]; omega) (by omega)) ?_
  have hf1 := Fm.alloc (fun _ => False) w (.cells (List.replicate m (Value.slice none 0 0)).toArray 34)
  have hr1 : VRow (w.alloc (.cells (List.replicate m (Value.slice none 0 0)).toArray 34)) w.heap.size 34 (List.replicate m (.slice none 0 0)) := alloc_new _ _
  have hsz := alloc_size w (.cells (List.replicate m (Value.slice none 0 0)).toArray 34)
  generalize w.alloc (.cells (List.replicate m (Value.slice none 0 0)).toArray 34) = w1 at hf1 hr1 hsz
  have hhl := hls.lt
  obtain ⟨q, hq⟩ : ∃ q, q = w.heap.size := ⟨_, rfl⟩
  rw [← hq] at hr1 ⊢
  have hhq : h ≠ q := by omega
  have hbq : base ≤ q := by omega
  have hls1 := hls.keep hf1 (fun e => e)
  have hF1 : Fm (fun b => base ≤ b) w w1 := hf1.mono fun _ _ e => e.elim
  have hbs1 : base ≤ w1.heap.size := by omega
  have own1 : ∀ j, j < m → w1.ownsRow base 3 1 (u j) (n j) (xs j) := fun j hj => own_keep (hown j hj) hf1 (fun _ _ _ _ e => e)
  have hlg1 : VRow w1 q 34 ((List.range m).map fun j => if j < 0 then u j else .slice none 0 0) := by
    have : ((List.range m).map fun j => if j < 0 then u j else Value.slice none 0 0) = List.replicate m (.slice none 0 0) := by
      rw [List.map_congr_left (g := fun _ => Value.slice none 0 0) (fun j _ => by rw [if_neg (Nat.not_lt_zero _)]), List.map_const', List.length_range]
    rw [this]; exact hr1
  refine ⟨fun vs w2 => ∃ (i : Nat) (C : Nat → List Value), vs = [iv i] ∧ i ≤ m ∧ Ap1 base h q m u n w2 i C ∧ (∀ j, j < i → C j = mksA j (n j)) ∧ Fm (fun b => base ≤ b) w w2 ∧ base ≤ w2.heap.size, fun vs _ => (m - nth vs 0).toNat, ⟨0, xs, rfl, by omega, ⟨hls1, hlg1, own1⟩, (fun j hj => by omega), hF1, hbs1⟩, ?_⟩
  clear hf1 hr1 hsz hls1 hF1 hbs1 own1 hlg1 hls hown hbase hhl hq g1 g2 g3 g4 w1 xs
  rintro _ w2 ii ⟨i, C, hvs, hi, A, hC, hF, hbs⟩
  cases hvs
  by_cases hlt : i < m
  · have e1 : decide ((i : Int) < (m : Int)) = true := by rw [decide_eq_true_eq]; omega
    have hni := hn i hlt
    simp only [Pu_some, extV_0, extV_1, extV_2, extV_3, nilV_ptr, nilV_fn, faV_ptr, lenV_sl, lenS_s, capV_sl, pickV_t, pickV_f, unV_not, unV_neg, isB_t, isB_f, isB_u, binV_add, binV_sub, binV_mul, binV_eql, binV_neq, binV_lss, binV_leq, binV_gtr, binV_geq, binV_seql, binV_sneq, binV_slss, binV_beql, binV_bneq, binV_peql, binV_pneq, add_add, add_none, Go.Al.add_zero, Nat.zero_add, Nat.add_zero, IfB_t, IfB_f, Gd_t, Gd_f, Ld_ptr, LdN_ptr, Option.isNone_some, Option.isNone_none, Option.isSome_some, Option.isSome_none, Bool.not_true, Bool.not_false, drew_cell, drew_heap, e1]
    refine ⟨fun vs w3 => ∃ (k : Nat) (C : Nat → List Value), vs = [iv k] ∧ k ≤ n i ∧ Ap1 base h q m u n w3 i C ∧ (∀ j, j < i → C j = mksA j (n j)) ∧ (∀ p, p < k → (C i)[p]? = some (mkA i p)) ∧ Fm (fun b => base ≤ b) w w3 ∧ base ≤ w3.heap.size, fun vs _ => (n i - nth vs 0).toNat, ⟨0, C, rfl, by omega, A, hC, (fun p hp => by omega), hF, hbs⟩, ?_⟩
    clear A hC hF hbs C w2
    rintro _ w3 ik ⟨k, C, hvs, hk, A, hC, hCi, hF, hbs⟩
    cases hvs
    have hu := A.own i hlt
    have hul := own_len hu
    simp only [Pu_some, extV_0, extV_1, extV_2, extV_3, nilV_ptr, nilV_fn, faV_ptr, lenV_sl, lenS_s, capV_sl, pickV_t, pickV_f, unV_not, unV_neg, isB_t, isB_f, isB_u, binV_add, binV_sub, binV_mul, binV_eql, binV_neq, binV_lss, binV_leq, binV_gtr, binV_geq, binV_seql, binV_sneq, binV_slss, binV_beql, binV_bneq, binV_peql, binV_pneq, add_add, add_none, Go.Al.add_zero, Nat.zero_add, Nat.add_zero, IfB_t, IfB_f, Gd_t, Gd_f, Ld_ptr, LdN_ptr, Option.isNone_some, Option.isNone_none, Option.isSome_some, Option.isSome_none, Bool.not_true, Bool.not_false, drew_cell, drew_heap, ixV_at hlt, Nat.mul_one, A.at hlt, hul]
    by_cases hlt2 : k < n i
    · have e2 : decide ((k : Int) < (n i : Int)) = true := by rw [decide_eq_true_eq]; omega
      have e3 : IntKind.i64.wrap ((k : Int) + 1) = ((k + 1 : Nat) : Int) := by rw [wrap_id] <;> omega
      obtain ⟨g, cap, hue⟩ := own_shape hu hlt2
      have hu2 := hu
      rw [hue] at hu2
      have hub : (u i).ownBlock = some g := by rw [hue]; rfl
      have hgb := (hu.lt g hub).1
      simp only [Pu_some, extV_0, extV_1, extV_2, extV_3, nilV_ptr, nilV_fn, faV_ptr, lenV_sl, lenS_s, capV_sl, pickV_t, pickV_f, unV_not, unV_neg, isB_t, isB_f, isB_u, binV_add, binV_sub, binV_mul, binV_eql, binV_neq, binV_lss, binV_leq, binV_gtr, binV_geq, binV_seql, binV_sneq, binV_slss, binV_beql, binV_bneq, binV_peql, binV_pneq, add_add, add_none, Go.Al.add_zero, Nat.zero_add, Nat.add_zero, IfB_t, IfB_f, Gd_t, Gd_f, Ld_ptr, LdN_ptr, Option.isNone_some, Option.isNone_none, Option.isSome_some, Option.isSome_none, Bool.not_true, Bool.not_false, drew_cell, drew_heap, e2, ixV_at hlt, Nat.mul_one, A.at hlt, hue, ixV_at hlt2]
      refine own_put (u := mkA i k) hu2 hlt2 rfl ?_
      intro w4 ho4 hf4
      rw [← hue] at ho4
      simp only [Pu_some, extV_0, extV_1, extV_2, extV_3, nilV_ptr, nilV_fn, faV_ptr, lenV_sl, lenS_s, capV_sl, pickV_t, pickV_f, unV_not, unV_neg, isB_t, isB_f, isB_u, binV_add, binV_sub, binV_mul, binV_eql, binV_neq, binV_lss, binV_leq, binV_gtr, binV_geq, binV_seql, binV_sneq, binV_slss, binV_beql, binV_bneq, binV_peql, binV_pneq, add_add, add_none, Go.Al.add_zero, Nat.zero_add, Nat.add_zero, IfB_t, IfB_f, Gd_t, Gd_f, Ld_ptr, LdN_ptr, Option.isNone_some, Option.isNone_none, Option.isSome_some, Option.isSome_none, Bool.not_true, Bool.not_false, drew_cell, drew_heap, e3]
      refine ⟨⟨k + 1, fun j => if j = i then (C i).set k (mkA i k) else C j, rfl, by omega, ⟨A.ls.keep hf4 (fun e => own_ne_vrow hu A.ls (by decide) (by rw [hub, e])), A.lg.keep hf4 (fun e => own_ne_vrow hu A.lg (by decide) (by rw [hub, e])), fun j hj => ?_⟩, fun j hj => ?_, fun p hp => ?_, hF.trans hf4 (fun _ _ e => e) (fun x _ e => by rw [e]; exact hgb), Nat.le_trans hbs hf4.size⟩, by simp only [nth_0]; omega⟩
      · by_cases e : j = i
        · subst e; simp only [if_true]; exact ho4
        · simp only [if_neg e]
          exact own_keep (A.own j hj) hf4 (fun g' _ _ hg e2 => by subst e2; exact hap j i hj hlt e _ hg hub)
      · have : ¬ j = i := by omega
        simp only [if_neg this]; exact hC j hj
      · simp only [if_true]
        rw [List.getElem?_set]
        have hl : (C i).length = n i := by have := hu.1; rw [Nat.mul_one] at this; exact this
        by_cases e : k = p
        · subst e; rw [if_pos rfl, if_pos (by omega)]
        · rw [if_neg e]; exact hCi p (by omega)
    · have hke : k = n i := by omega
      subst hke
      have e2 : decide ((n i : Int) < (n i : Int)) = false := by simp
      have e3 : IntKind.i64.wrap ((i : Int) + 1) = ((i + 1 : Nat) : Int) := by rw [wrap_id] <;> omega
      simp only [Pu_some, extV_0, extV_1, extV_2, extV_3, nilV_ptr, nilV_fn, faV_ptr, lenV_sl, lenS_s, capV_sl, pickV_t, pickV_f, unV_not, unV_neg, isB_t, isB_f, isB_u, binV_add, binV_sub, binV_mul, binV_eql, binV_neq, binV_lss, binV_leq, binV_gtr, binV_geq, binV_seql, binV_sneq, binV_slss, binV_beql, binV_bneq, binV_peql, binV_pneq, add_add, add_none, Go.Al.add_zero, Nat.zero_add, Nat.add_zero, IfB_t, IfB_f, Gd_t, Gd_f, Ld_ptr, LdN_ptr, Option.isNone_some, Option.isNone_none, Option.isSome_some, Option.isSome_none, Bool.not_true, Bool.not_false, drew_cell, drew_heap, e2, ixV_at hlt, Nat.mul_one, A.at hlt]
      refine A.lg.put (by simpa using hlt) (own_one hu) ?_
      intro w4 hlg4 hs4 hf4
      rw [row_set] at hlg4
      simp only [Pu_some, extV_0, extV_1, extV_2, extV_3, nilV_ptr, nilV_fn, faV_ptr, lenV_sl, lenS_s, capV_sl, pickV_t, pickV_f, unV_not, unV_neg, isB_t, isB_f, isB_u, binV_add, binV_sub, binV_mul, binV_eql, binV_neq, binV_lss, binV_leq, binV_gtr, binV_geq, binV_seql, binV_sneq, binV_slss, binV_beql, binV_bneq, binV_peql, binV_pneq, add_add, add_none, Go.Al.add_zero, Nat.zero_add, Nat.add_zero, IfB_t, IfB_f, Gd_t, Gd_f, Ld_ptr, LdN_ptr, Option.isNone_some, Option.isNone_none, Option.isSome_some, Option.isSome_none, Bool.not_true, Bool.not_false, drew_cell, drew_heap, e3]
      have hbq4 : ∀ g, g = q → base ≤ g := by rintro g rfl; exact hbq
      refine ⟨⟨i + 1, C, rfl, by omega, ⟨A.ls.keep hf4 hhq, ?_, fun j hj => own_keep (A.own j hj) hf4 (fun g _ _ hg e => by subst e; exact own_ne_vrow (A.own j hj) A.lg (by decide) hg)⟩, fun j hj => ?_, hF.trans hf4 (fun _ _ e => e) (fun x _ e => hbq4 x e), by omega⟩, by simp only [nth_0]; omega⟩
      · have : ((List.range m).map fun j => if j = i then u i else if j < i then u j else Value.slice none 0 0) = (List.range m).map fun j => if j < i + 1 then u j else .slice none 0 0 := by
          refine List.map_congr_left fun j _ => ?_
          by_cases e : j = i
          · subst e; simp
          · rw [if_neg e]
            by_cases e2 : j < i
            · rw [if_pos e2, if_pos (by omega)]
            · rw [if_neg e2, if_neg (by omega)]
        rw [← this]; exact hlg4
      · by_cases e : j = i
        · subst e
          apply List.ext_getElem?
          intro p
          have hl : (C j).length = n j := by have := hu.1; rw [Nat.mul_one] at this; exact this
          rcases Nat.lt_or_ge p (n j) with hp | hp
          · rw [hCi p hp, mksA_get hp]
          · rw [List.getElem?_eq_none (by omega), List.getElem?_eq_none (by simp [mksA]; omega)]
        · exact hC j (by omega)
  have hie : i = m := by omega
  subst hie
  have e1 : decide ((i : Int) < (i : Int)) = false := by simp
  simp only [Pu_some, extV_0, extV_1, extV_2, extV_3, nilV_ptr, nilV_fn, faV_ptr, lenV_sl, lenS_s, capV_sl, pickV_t, pickV_f, unV_not, unV_neg, isB_t, isB_f, isB_u, binV_add, binV_sub, binV_mul, binV_eql, binV_neq, binV_lss, binV_leq, binV_gtr, binV_geq, binV_seql, binV_sneq, binV_slss, binV_beql, binV_bneq, binV_peql, binV_pneq, add_add, add_none, Go.Al.add_zero, Nat.zero_add, Nat.add_zero, IfB_t, IfB_f, Gd_t, Gd_f, Ld_ptr, LdN_ptr, Option.isNone_some, Option.isNone_none, Option.isSome_some, Option.isSome_none, Bool.not_true, Bool.not_false, drew_cell, drew_heap, e1]
  clear e1 hlt hi
  have A2 : Ap2 base h q i u n w2 u (fun _ => 0) := by
    refine ⟨A.ls, ?_, fun j hj => ?_, fun j hj => ?_, fun j j' hj hj' hne g hg => ⟨hap j j' hj hj' hne g hg, ?_⟩⟩
    · have := A.lg
      rw [List.map_congr_left (g := u) (fun j hj => by rw [if_pos (by simpa using hj)])] at this
      exact this
    · have := A.own j hj
      rw [hC j hj] at this
      simpa [apsA] using this
    · have ho := A.own j hj
      rw [hC j hj] at ho
      rcases (own_cases ho).2 with h0 | ⟨g, cap, h1, _, h3, h2⟩
      · exact .inl h0
      · exact .inr ⟨g, cap, h1, h3, fun x hx => by rw [h2 x hx, mksA_get hx]⟩
    · rw [own_block (A.own j' hj')]; exact hap j j' hj hj' hne g hg
  clear A hC C hap
  refine ⟨fun vs w3 => ∃ (p : Nat) (L : Nat → Value), vs = [iv p] ∧ p ≤ i ∧ Ap2 base h q i u n w3 L (fun j => if j < p then 16 else 0) ∧ Fm (fun b => base ≤ b) w w3 ∧ base ≤ w3.heap.size, fun vs _ => (i - nth vs 0).toNat, ⟨0, u, rfl, by omega, by simpa using A2, hF, hbs⟩, ?_⟩
  clear A2 hF hbs w2
  rintro _ w3 ip ⟨p, L, hvs, hp, A, hF, hbs⟩
  cases hvs
  by_cases hlt : p < i
  · have e1 : decide ((p : Int) < (i : Int)) = true := by rw [decide_eq_true_eq]; omega
    have hnp := hn p hlt
    simp only [Pu_some, extV_0, extV_1, extV_2, extV_3, nilV_ptr, nilV_fn, faV_ptr, lenV_sl, lenS_s, capV_sl, pickV_t, pickV_f, unV_not, unV_neg, isB_t, isB_f, isB_u, binV_add, binV_sub, binV_mul, binV_eql, binV_neq, binV_lss, binV_leq, binV_gtr, binV_geq, binV_seql, binV_sneq, binV_slss, binV_beql, binV_bneq, binV_peql, binV_pneq, add_add, add_none, Go.Al.add_zero, Nat.zero_add, Nat.add_zero, IfB_t, IfB_f, Gd_t, Gd_f, Ld_ptr, LdN_ptr, Option.isNone_some, Option.isNone_none, Option.isSome_some, Option.isSome_none, Bool.not_true, Bool.not_false, drew_cell, drew_heap, e1]
    refine ⟨fun vs w4 => ∃ (k : Nat) (L : Nat → Value), vs = [iv k] ∧ k ≤ 16 ∧ Ap2 base h q i u n w4 L (fun j => if j < p then 16 else if j = p then k else 0) ∧ Fm (fun b => base ≤ b) w w4 ∧ base ≤ w4.heap.size, fun vs _ => (16 - nth vs 0).toNat, ⟨0, L, rfl, by omega, ?_, hF, hbs⟩, ?_⟩
    · have : (fun j => if j < p then 16 else if j = p then 0 else 0) = fun j => if j < p then 16 else 0 := by funext j; simp
      rw [this]; exact A
    clear A hF hbs L w3
    rintro _ w4 ik ⟨k, L, hvs, hk, A, hF, hbs⟩
    cases hvs
    by_cases hlt2 : k < 16
    · have e2 : decide ((k : Int) < 16) = true := by rw [decide_eq_true_eq]; omega
      have e3 : IntKind.i64.wrap ((k : Int) + 1) = ((k + 1 : Nat) : Int) := by rw [wrap_id] <;> omega
      have hLc : w4.cell? ⟨q, p, none⟩ = some (L p) := by rw [A.lg.cell, row_get hlt]
      have hL : w4.ownsRow base 3 1 (L p) (n p + k) (mksA p (n p) ++ apsA p k) := by have := A.own p hlt; simpa using this
      simp only [Pu_some, extV_0, extV_1, extV_2, extV_3, nilV_ptr, nilV_fn, faV_ptr, lenV_sl, lenS_s, capV_sl, pickV_t, pickV_f, unV_not, unV_neg, isB_t, isB_f, isB_u, binV_add, binV_sub, binV_mul, binV_eql, binV_neq, binV_lss, binV_leq, binV_gtr, binV_geq, binV_seql, binV_sneq, binV_slss, binV_beql, binV_bneq, binV_peql, binV_pneq, add_add, add_none, Go.Al.add_zero, Nat.zero_add, Nat.add_zero, IfB_t, IfB_f, Gd_t, Gd_f, Ld_ptr, LdN_ptr, Option.isNone_some, Option.isNone_none, Option.isSome_some, Option.isSome_none, Bool.not_true, Bool.not_false, drew_cell, drew_heap, e2, ixV_at hlt, Nat.mul_one, hLc, unV_neg]
      refine append_elF E34k (by omega) 34 (cs := [apA p k]) rfl (bs34 _ _) (by intro u hu; simp at hu; subst hu; rfl) hL (by unfold maxLen; omega) (by omega) hbs ?_
      intro v' w5 hv' hcase
      have hrow : mksA p (n p) ++ apsA p k ++ [apA p k] = mksA p (n p) ++ apsA p (k + 1) := by
        rw [List.append_assoc]; unfold apsA; rw [List.range_succ, List.map_append]; rfl
      rw [hrow] at hv'
      -- the frame
      obtain ⟨S, hfS, hS1, hS2⟩ : ∃ S : Nat → Prop, Fm S w4 w5 ∧ (∀ x, S x → (L p).ownBlock = some x) ∧ ((∀ x, S x → v'.ownBlock = some x) ∧ ∀ g, v'.ownBlock = some g → (S g ∨ w4.heap.size ≤ g)) := by
        rcases hcase with ⟨g, k1, k2, k3⟩ | ⟨g, k1, k2, k3⟩
        · exact ⟨_, k3, fun x hx => by rw [hx]; exact k1, fun x hx => by rw [hx]; exact k2, fun g' hg' => by rw [k2] at hg'; cases hg'; exact .inl rfl⟩
        · exact ⟨_, k3, fun _ e => e.elim, fun _ e => e.elim, fun g' hg' => by rw [k1] at hg'; cases hg'; exact .inr k2⟩
      have hls5 := A.ls.keep hfS (fun e => own_ne_vrow hL A.ls (by decide) (hS1 _ e))
      have hlg5 := A.lg.keep hfS (fun e => own_ne_vrow hL A.lg (by decide) (hS1 _ e))
      have hF5 : Fm (fun b => base ≤ b) w w5 := hF.trans hfS (fun _ _ e => e) (fun x _ e => (hL.lt x (hS1 x e)).1)
      have own5 : ∀ j, j < i → j ≠ p → w5.ownsRow base 3 1 (L j) (n j + if j < p then 16 else if j = p then k else 0) (mksA j (n j) ++ apsA j (if j < p then 16 else if j = p then k else 0)) := fun j hj hne =>
        own_keep (A.own j hj) hfS (fun g _ _ hg e => (A.ap j p hj hlt hne g hg).1 (hS1 g e))
      have hd5 : ∀ j, j < i → (u j = .slice none 0 0 ∧ n j = 0) ∨ ∃ g cap, u j = .slice (some ⟨g, 0, none⟩) (n j) cap ∧ g < w5.heap.size ∧ ∀ x, x < n j → w5.cell? ⟨g, x, none⟩ = some (mkA j x) := fun j hj => by
        rcases A.hd j hj with h0 | ⟨g, cap, hue, hgs, hcell⟩
        · exact .inl h0
        · refine .inr ⟨g, cap, hue, Nat.lt_of_lt_of_le hgs hfS.size, fun x hx => ?_⟩
          by_cases hSg : S g
          · by_cases e : j = p
            · subst e
              have hv2 := hS2.1 g hSg
              rcases hv'.2 with ⟨h0, _⟩ | ⟨g', cap', cur, h0, _⟩
              · rw [h0] at hv2; cases hv2
              · rw [h0] at hv2
                have : g' = g := by simpa [Value.ownBlock] using hv2
                subst this
                subst h0
                rw [hv'.cellAt x (by omega), List.getElem?_append_left (by simp [mksA]; omega), mksA_get hx]
            · exact absurd (by rw [hue]; rfl) ((A.ap p j hlt hj (fun x => e x.symm) g (hS1 g hSg)).2)
          · exact hfS.cell' (a := ⟨g, x, none⟩) (hcell x hx) hSg
      refine hlg5.put (by simpa using hlt) (own_one hv') ?_
      intro w6 hlg6 hs6 hf6
      rw [row_set] at hlg6
      have hbq6 : ∀ g, g = q → base ≤ g := by rintro g rfl; exact hbq
      have hap5 : ∀ j, j < i → j ≠ p → ∀ g, v'.ownBlock = some g → (L j).ownBlock ≠ some g ∧ blockOf (u j) ≠ some g := fun j hj hne g hg => by
        rcases hS2.2 g hg with h1 | h1
        · exact A.ap p j hlt hj (fun e => hne e.symm) g (hS1 g h1)
        · refine ⟨fun h2 => ?_, fun h2 => ?_⟩
          · have := ((A.own j hj).lt g h2).2; omega
          · rcases A.hd j hj with ⟨h3, _⟩ | ⟨g', cap', h3, hgs3, hc3⟩
            · rw [h3] at h2; cases h2
            · rw [h3] at h2
              have : g' = g := by simpa [blockOf] using h2
              omega
      simp only [Pu_some, extV_0, extV_1, extV_2, extV_3, nilV_ptr, nilV_fn, faV_ptr, lenV_sl, lenS_s, capV_sl, pickV_t, pickV_f, unV_not, unV_neg, isB_t, isB_f, isB_u, binV_add, binV_sub, binV_mul, binV_eql, binV_neq, binV_lss, binV_leq, binV_gtr, binV_geq, binV_seql, binV_sneq, binV_slss, binV_beql, binV_bneq, binV_peql, binV_pneq, add_add, add_none, Go.Al.add_zero, Nat.zero_add, Nat.add_zero, IfB_t, IfB_f, Gd_t, Gd_f, Ld_ptr, LdN_ptr, Option.isNone_some, Option.isNone_none, Option.isSome_some, Option.isSome_none, Bool.not_true, Bool.not_false, drew_cell, drew_heap, e3]
      have htt : ∀ j, (if j < p then 16 else if j = p then k + 1 else 0) = if j = p then k + 1 else (if j < p then 16 else if j = p then k else 0) := fun j => by
        by_cases e : j = p
        · subst e; simp
        · simp [e]
      refine ⟨⟨k + 1, fun j => if j = p then v' else L j, rfl, by omega, ⟨hls5.keep hf6 hhq, hlg6, fun j hj => ?_, fun j hj => ?_, fun j j' hj hj' hne g hg => ?_⟩, hF5.trans hf6 (fun _ _ e => e) (fun x _ e => hbq6 x e), Nat.le_trans (Nat.le_trans hbs hfS.size) hf6.size⟩, by simp only [nth_0]; omega⟩
      · rw [htt]
        by_cases e : j = p
        · subst e
          simp only [if_true]
          have : n j + (k + 1) = n j + k + 1 := by omega
          rw [this]
          exact own_keep hv' hf6 (fun g _ _ hg e => by subst e; exact own_ne_vrow hv' hlg5 (by decide) hg)
        · have o5 := own5 j hj e
          simp only [if_neg e] at o5 ⊢
          exact own_keep o5 hf6 (fun g _ _ hg e2 => by subst e2; exact own_ne_vrow o5 hlg5 (by decide) hg)
      · rcases hd5 j hj with h0 | ⟨g, cap, hue, hgs, hcell⟩
        · exact .inl h0
        · refine .inr ⟨g, cap, hue, Nat.lt_of_lt_of_le hgs hf6.size, fun x hx => hf6.cell' (a := ⟨g, x, none⟩) (hcell x hx) (fun e => ?_)⟩
          have e' : g = q := e
          subst e'
          have h1 := hcell x hx
          rw [hlg5.cell] at h1
          rcases Nat.lt_or_ge x i with hxi | hxi
          · rw [row_get hxi] at h1
            have h2 := Option.some.inj h1
            rcases (A.own x hxi).2 with ⟨h3, _⟩ | ⟨g', c', cur', h3, _⟩ <;> (rw [h3] at h2; cases h2)
          · rw [List.getElem?_eq_none (by simpa using hxi)] at h1; cases h1
      · by_cases e : j = p
        · subst e
          simp only [if_true] at hg
          have hne' : j' ≠ j := fun x => hne x.symm
          simp only [if_neg hne']
          exact hap5 j' hj' hne' g hg
        · simp only [if_neg e] at hg
          by_cases e' : j' = p
          · subst e'
            simp only [if_true]
            refine ⟨fun h2 => (hap5 j hj e g h2).1 hg, (A.ap j j' hj hj' hne g hg).2⟩
          · simp only [if_neg e']
            exact A.ap j j' hj hj' hne g hg
    · have hke : k = 16 := by omega
      subst hke
      have e2 : decide (((16 : Nat) : Int) < 16) = false := rfl
      have e3 : IntKind.i64.wrap ((p : Int) + 1) = ((p + 1 : Nat) : Int) := by rw [wrap_id] <;> omega
      simp only [Pu_some, extV_0, extV_1, extV_2, extV_3, nilV_ptr, nilV_fn, faV_ptr, lenV_sl, lenS_s, capV_sl, pickV_t, pickV_f, unV_not, unV_neg, isB_t, isB_f, isB_u, binV_add, binV_sub, binV_mul, binV_eql, binV_neq, binV_lss, binV_leq, binV_gtr, binV_geq, binV_seql, binV_sneq, binV_slss, binV_beql, binV_bneq, binV_peql, binV_pneq, add_add, add_none, Go.Al.add_zero, Nat.zero_add, Nat.add_zero, IfB_t, IfB_f, Gd_t, Gd_f, Ld_ptr, LdN_ptr, Option.isNone_some, Option.isNone_none, Option.isSome_some, Option.isSome_none, Bool.not_true, Bool.not_false, drew_cell, drew_heap, e2, e3]
      refine ⟨⟨p + 1, L, rfl, by omega, ?_, hF, hbs⟩, by simp only [nth_0]; omega⟩
      have : (fun j => if j < p + 1 then 16 else 0) = fun j => if j < p then 16 else if j = p then 16 else 0 := by
        funext j
        by_cases e : j = p
        · subst e; simp
        · have : (j < p + 1) ↔ j < p := by omega
          simp [e, this]
      rw [this]; exact A
  have hpe : p = i := by omega
  subst hpe
  have e1 : decide ((p : Int) < (p : Int)) = false := by simp
  simp only [Pu_some, extV_0, extV_1, extV_2, extV_3, nilV_ptr, nilV_fn, faV_ptr, lenV_sl, lenS_s, capV_sl, pickV_t, pickV_f, unV_not, unV_neg, isB_t, isB_f, isB_u, binV_add, binV_sub, binV_mul, binV_eql, binV_neq, binV_lss, binV_leq, binV_gtr, binV_geq, binV_seql, binV_sneq, binV_slss, binV_beql, binV_bneq, binV_peql, binV_pneq, add_add, add_none, Go.Al.add_zero, Nat.zero_add, Nat.add_zero, IfB_t, IfB_f, Gd_t, Gd_f, Ld_ptr, LdN_ptr, Option.isNone_some, Option.isNone_none, Option.isSome_some, Option.isSome_none, Bool.not_true, Bool.not_false, drew_cell, drew_heap, e1]
  clear e1 hlt hp
  have A3 : Ap2 base h q p u n w3 L (fun _ => 16) := ⟨A.ls, A.lg, fun j hj => by have := A.own j hj; simpa [hj] using this, A.hd, A.ap⟩
  clear A
  refine ⟨fun vs w4 => ∃ (i : Nat), vs = [iv i] ∧ i ≤ p ∧ Ap2 base h q p u n w4 L (fun _ => 16) ∧ Fm (fun b => base ≤ b) w w4, fun vs _ => (p - nth vs 0).toNat, ⟨0, rfl, by omega, A3, hF⟩, ?_⟩
  clear A3 hF hbs w3
  rintro _ w4 ii ⟨i, hvs, hi, A, hF⟩
  cases hvs
  by_cases hlt : i < p
  · have e1 : decide ((i : Int) < (p : Int)) = true := by rw [decide_eq_true_eq]; omega
    have hni := hn i hlt
    have keepA : ∀ {w w' : World}, Ap2 base h q p u n w L (fun _ => 16) → Fm (fun _ => False) w w' → Ap2 base h q p u n w' L (fun _ => 16) := fun A hf =>
      ⟨A.ls.keep hf (fun e => e), A.lg.keep hf (fun e => e), fun j hj => own_keep (A.own j hj) hf (fun _ _ _ _ e => e), fun j hj => by
        rcases A.hd j hj with h0 | ⟨g, cap, hue, hgs, hcell⟩
        · exact .inl h0
        · exact .inr ⟨g, cap, hue, Nat.lt_of_lt_of_le hgs hf.size, fun x hx => hf.cell' (hcell x hx) (fun e => e)⟩, A.ap⟩
    simp only [Pu_some, extV_0, extV_1, extV_2, extV_3, nilV_ptr, nilV_fn, faV_ptr, lenV_sl, lenS_s, capV_sl, pickV_t, pickV_f, unV_not, unV_neg, isB_t, isB_f, isB_u, binV_add, binV_sub, binV_mul, binV_eql, binV_neq, binV_lss, binV_leq, binV_gtr, binV_geq, binV_seql, binV_sneq, binV_slss, binV_beql, binV_bneq, binV_peql, binV_pneq, add_add, add_none, Go.Al.add_zero, Nat.zero_add, Nat.add_zero, IfB_t, IfB_f, Gd_t, Gd_f, Ld_ptr, LdN_ptr, Option.isNone_some, Option.isNone_none, Option.isSome_some, Option.isSome_none, Bool.not_true, Bool.not_false, drew_cell, drew_heap, e1]
    refine ⟨fun vs w5 => ∃ (k : Nat), vs = [iv k] ∧ k ≤ n i ∧ Ap2 base h q p u n w5 L (fun _ => 16) ∧ Fm (fun b => base ≤ b) w w5, fun vs _ => (n i - nth vs 0).toNat, ⟨0, rfl, by omega, A, hF⟩, ?_⟩
    clear A hF w4
    rintro _ w5 ik ⟨k, hvs, hk, A, hF⟩
    cases hvs
    have huc : w5.cell? ⟨h, i, none⟩ = some (u i) := by rw [A.ls.cell, row_get hlt]
    have hLc : w5.cell? ⟨q, i, none⟩ = some (L i) := by rw [A.lg.cell, row_get hlt]
    have hul : lenV (u i) = some (iv (n i)) := by
      rcases A.hd i hlt with ⟨h0, h1⟩ | ⟨g, cap, hue, _, _⟩
      · rw [h0, h1]; rfl
      · rw [hue]; rfl
    obtain ⟨gL, cL, hLe⟩ := own_shape (i := n i) (A.own i hlt) (by omega)
    have hLcell : ∀ x, x < n i + 16 → w5.cell? ⟨gL, x, none⟩ = (mksA i (n i) ++ apsA i 16)[x]? := fun x hx => by
      have ho := A.own i hlt
      rw [hLe] at ho
      exact ho.cellAt x (by omega)
    simp only [Pu_some, extV_0, extV_1, extV_2, extV_3, nilV_ptr, nilV_fn, faV_ptr, lenV_sl, lenS_s, capV_sl, pickV_t, pickV_f, unV_not, unV_neg, isB_t, isB_f, isB_u, binV_add, binV_sub, binV_mul, binV_eql, binV_neq, binV_lss, binV_leq, binV_gtr, binV_geq, binV_seql, binV_sneq, binV_slss, binV_beql, binV_bneq, binV_peql, binV_pneq, add_add, add_none, Go.Al.add_zero, Nat.zero_add, Nat.add_zero, IfB_t, IfB_f, Gd_t, Gd_f, Ld_ptr, LdN_ptr, Option.isNone_some, Option.isNone_none, Option.isSome_some, Option.isSome_none, Bool.not_true, Bool.not_false, drew_cell, drew_heap, ixV_at hlt, Nat.mul_one, huc, hul]
    by_cases hlt2 : k < n i
    · have e2 : decide ((k : Int) < (n i : Int)) = true := by rw [decide_eq_true_eq]; omega
      have e3 : IntKind.i64.wrap ((k : Int) + 1) = ((k + 1 : Nat) : Int) := by rw [wrap_id] <;> omega
      rcases A.hd i hlt with ⟨h0, h1⟩ | ⟨g, cap, hue, _, hcell⟩
      · omega
      have hc1 : w5.cell? ⟨g, k, none⟩ = some (iv (IntKind.i64.wrap (IntKind.i64.wrap ((i : Int) * 1000003) + k))) := hcell k hlt2
      have hlt3 : k < n i + 16 := by omega
      have hc2 : w5.cell? ⟨gL, k, none⟩ = some (iv (IntKind.i64.wrap (IntKind.i64.wrap ((i : Int) * 1000003) + k))) := by
        rw [hLcell k hlt3, List.getElem?_append_left (by simp [mksA]; omega), mksA_get hlt2]; rfl
      simp only [Pu_some, extV_0, extV_1, extV_2, extV_3, nilV_ptr, nilV_fn, faV_ptr, lenV_sl, lenS_s, capV_sl, pickV_t, pickV_f, unV_not, unV_neg, isB_t, isB_f, isB_u, binV_add, binV_sub, binV_mul, binV_eql, binV_neq, binV_lss, binV_leq, binV_gtr, binV_geq, binV_seql, binV_sneq, binV_slss, binV_beql, binV_bneq, binV_peql, binV_pneq, add_add, add_none, Go.Al.add_zero, Nat.zero_add, Nat.add_zero, IfB_t, IfB_f, Gd_t, Gd_f, Ld_ptr, LdN_ptr, Option.isNone_some, Option.isNone_none, Option.isSome_some, Option.isSome_none, Bool.not_true, Bool.not_false, drew_cell, drew_heap, e2, ixV_at hlt, Nat.mul_one, huc, hue, ixV_at hlt2, hc1, bne_self_eq_false, hLc, hLe, ixV_at hlt3, hc2, e3]
      exact ⟨⟨k + 1, rfl, by omega, A, hF⟩, by simp only [nth_0]; omega⟩
    · have hke : k = n i := by omega
      subst hke
      have e2 : decide ((n i : Int) < (n i : Int)) = false := by simp
      simp only [Pu_some, extV_0, extV_1, extV_2, extV_3, nilV_ptr, nilV_fn, faV_ptr, lenV_sl, lenS_s, capV_sl, pickV_t, pickV_f, unV_not, unV_neg, isB_t, isB_f, isB_u, binV_add, binV_sub, binV_mul, binV_eql, binV_neq, binV_lss, binV_leq, binV_gtr, binV_geq, binV_seql, binV_sneq, binV_slss, binV_beql, binV_bneq, binV_peql, binV_pneq, add_add, add_none, Go.Al.add_zero, Nat.zero_add, Nat.add_zero, IfB_t, IfB_f, Gd_t, Gd_f, Ld_ptr, LdN_ptr, Option.isNone_some, Option.isNone_none, Option.isSome_some, Option.isSome_none, Bool.not_true, Bool.not_false, drew_cell, drew_heap, e2]
      refine ⟨fun vs w6 => ∃ (k : Nat), vs = [iv k] ∧ k ≤ 16 ∧ Ap2 base h q p u n w6 L (fun _ => 16) ∧ Fm (fun b => base ≤ b) w w6, fun vs _ => (16 - nth vs 0).toNat, ⟨0, rfl, by omega, A, hF⟩, ?_⟩
      clear A hF huc hLc hLcell w5
      rintro _ w6 ik ⟨k, hvs, hk, A, hF⟩
      cases hvs
      have huc : w6.cell? ⟨h, i, none⟩ = some (u i) := by rw [A.ls.cell, row_get hlt]
      have hLc : w6.cell? ⟨q, i, none⟩ = some (L i) := by rw [A.lg.cell, row_get hlt]
      have hLcell : ∀ x, x < n i + 16 → w6.cell? ⟨gL, x, none⟩ = (mksA i (n i) ++ apsA i 16)[x]? := fun x hx => by
        have ho := A.own i hlt
        rw [hLe] at ho
        exact ho.cellAt x (by omega)
      have hfd := Fm.drew (fun _ => False) w6
      by_cases hlt3 : k < 16
      · have e2 : decide ((k : Int) < 16) = true := by rw [decide_eq_true_eq]; omega
        have e3 : IntKind.i64.wrap ((k : Int) + 1) = ((k + 1 : Nat) : Int) := by rw [wrap_id] <;> omega
        have e4 : IntKind.i64.wrap ((n i : Int) + k) = ((n i + k : Nat) : Int) := by rw [wrap_id] <;> omega
        have hlt4 : n i + k < n i + 16 := by omega
        have hc2 : w6.cell? ⟨gL, n i + k, none⟩ = some (iv (IntKind.i64.wrap (IntKind.i64.wrap (IntKind.i64.wrap (IntKind.i64.wrap (0 - (i : Int)) * 1000003) - k) - 1))) := by
          rw [hLcell _ hlt4, List.getElem?_append_right (by simp [mksA]), show (mksA i (n i)).length = n i by simp [mksA], Nat.add_sub_cancel_left, apsA_get hlt3]; rfl
        simp only [Pu_some, extV_0, extV_1, extV_2, extV_3, nilV_ptr, nilV_fn, faV_ptr, lenV_sl, lenS_s, capV_sl, pickV_t, pickV_f, unV_not, unV_neg, isB_t, isB_f, isB_u, binV_add, binV_sub, binV_mul, binV_eql, binV_neq, binV_lss, binV_leq, binV_gtr, binV_geq, binV_seql, binV_sneq, binV_slss, binV_beql, binV_bneq, binV_peql, binV_pneq, add_add, add_none, Go.Al.add_zero, Nat.zero_add, Nat.add_zero, IfB_t, IfB_f, Gd_t, Gd_f, Ld_ptr, LdN_ptr, Option.isNone_some, Option.isNone_none, Option.isSome_some, Option.isSome_none, Bool.not_true, Bool.not_false, drew_cell, drew_heap, e2, ixV_at hlt, Nat.mul_one, huc, hul, hLc, e4, hLe, ixV_at hlt4, hc2, unV_neg, bne_self_eq_false, e3, true_and]
        exact ⟨⟨k + 1, rfl, by omega, keepA A hfd, hF.trans hfd (fun _ _ e => e) (fun _ _ e => e.elim)⟩, by simp only [nth_0]; omega⟩
      · have hke : k = 16 := by omega
        subst hke
        have e2 : decide (((16 : Nat) : Int) < 16) = false := rfl
        have e3 : IntKind.i64.wrap ((i : Int) + 1) = ((i + 1 : Nat) : Int) := by rw [wrap_id] <;> omega
        simp only [Pu_some, extV_0, extV_1, extV_2, extV_3, nilV_ptr, nilV_fn, faV_ptr, lenV_sl, lenS_s, capV_sl, pickV_t, pickV_f, unV_not, unV_neg, isB_t, isB_f, isB_u, binV_add, binV_sub, binV_mul, binV_eql, binV_neq, binV_lss, binV_leq, binV_gtr, binV_geq, binV_seql, binV_sneq, binV_slss, binV_beql, binV_bneq, binV_peql, binV_pneq, add_add, add_none, Go.Al.add_zero, Nat.zero_add, Nat.add_zero, IfB_t, IfB_f, Gd_t, Gd_f, Ld_ptr, LdN_ptr, Option.isNone_some, Option.isNone_none, Option.isSome_some, Option.isSome_none, Bool.not_true, Bool.not_false, drew_cell, drew_heap, e2, e3]
        exact ⟨⟨i + 1, rfl, by omega, A, hF⟩, by simp only [nth_0]; omega⟩
  · have hie : i = p := by omega
    subst hie
    have e1 : decide ((i : Int) < (i : Int)) = false := by simp
    simp only [Pu_some, extV_0, extV_1, extV_2, extV_3, nilV_ptr, nilV_fn, faV_ptr, lenV_sl, lenS_s, capV_sl, pickV_t, pickV_f, unV_not, unV_neg, isB_t, isB_f, isB_u, binV_add, binV_sub, binV_mul, binV_eql, binV_neq, binV_lss, binV_leq, binV_gtr, binV_geq, binV_seql, binV_sneq, binV_slss, binV_beql, binV_bneq, binV_peql, binV_pneq, add_add, add_none, Go.Al.add_zero, Nat.zero_add, Nat.add_zero, IfB_t, IfB_f, Gd_t, Gd_f, Ld_ptr, LdN_ptr, Option.isNone_some, Option.isNone_none, Option.isSome_some, Option.isSome_none, Bool.not_true, Bool.not_false, drew_cell, drew_heap, e1]
    exact ⟨(by trivial), hF⟩
end

end Go.Proofs.Ythgdinjgdjiknaa
